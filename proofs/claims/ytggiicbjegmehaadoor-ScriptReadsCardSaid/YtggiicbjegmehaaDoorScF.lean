/- The walks of script.hexed and bytes. -/
import Derived.Test.YtggiicbjegmehaaDoorScE
namespace Go.Proofs.YtggiicbjegmehaaDoor
set_option linter.unusedVariables false
set_option linter.unusedSimpArgs false
open Go.RowKit

theorem elByte : ElemOk Tryd.prog 73 5 (.int .u8 0) 1 1 := ⟨Tryd.underlying73, by kernel_rfl, rfl, by omega⟩
theorem hexed_take {b : Bytes} {i : Nat} {x : UInt8} (h : b[i]? = some x) : (hexedP (b.take (i + 1))).map cellB = (hexedP (b.take i)).map cellB ++ [.int .u8 ((hexP (x.toNat / 16)).toNat : Int), .int .u8 ((hexP (x.toNat % 16)).toNat : Int)] := by
  rw [take_snoc h]
  simp [hexedP, cellB]
theorem and15 (x : UInt8) : bits BinOp.and IntKind.u8 (x.toNat : Int) 15 = (x.toNat : Int) % 16 := by
  have h : ∀ n : Fin 256, bits BinOp.and IntKind.u8 (n.val : Int) 15 = (n.val : Int) % 16 := by decide +kernel
  exact h ⟨x.toNat, x.toNat_lt⟩
theorem hexP_at (n : Nat) (h : n < 16) : ∀ h, (⟨#[48, 49, 50, 51, 52, 53, 54, 55, 56, 57, 97, 98, 99, 100, 101, 102]⟩ : ByteArray)[n]'h = hexP n := fun h => by
  have h0 : ∀ n : Fin 16, (⟨#[48, 49, 50, 51, 52, 53, 54, 55, 56, 57, 97, 98, 99, 100, 101, 102]⟩ : ByteArray)[n.val]'n.isLt = hexP n.val := by decide
  exact h0 ⟨n, h⟩
theorem hexed_len (b : Bytes) : (hexedP b).length = 2 * b.length := by
  induction b with
  | nil => rfl
  | cons x b ih => show (_ ++ hexedP b).length = _; rw [List.length_append, ih]; simp; omega

set_option maxRecDepth 100000 in
set_option maxHeartbeats 4000000 in
theorem hexed_any (b : Bytes) (hb : b.length ≤ 100000) (w : World) :
    Calls Tryd.prog 64 #[.string (bs b)] w fun e w' => e = .returned (.string (bs (hexedP b))) ∧ Below w.heap.size w w' := by
  have hbI : (b.length : Int) ≤ 100000 := by omega
  go_enter Tryd.func64, Tryd.ntmps64
  go_wp2_with fail
  go_loopw [3, 7] (fun out a wr => ∃ i : Nat, a = .int .i64 i ∧ i ≤ b.length ∧ wr.ownsRow w.heap.size 5 1 out (2 * i) ((hexedP (b.take i)).map cellB) ∧ Below w.heap.size w wr) (fun _ a _ => b.length - (intOf a).toNat)
  case atStart => exact ⟨0, rfl, Nat.zero_le _, World.ownsRow_nil _ _ _ _, Below.refl _ _⟩
  case round =>
    obtain ⟨i, rfl, hi, hown, hB⟩ := hrel
    obtain ⟨A1, c1, rfl⟩ := own_form hown
    by_cases hlt : i < b.length
    · obtain ⟨x, hx⟩ := getElem_ex hlt
      have hltI : (i : Int) < b.length := by omega
      have HS := Lib.hid (hexed_take hx)
      have hget : ∀ h, b[i]'h = x := fun _ => (List.getElem?_eq_some_iff.1 hx).2
      have hxl := x.toNat_lt
      have han := and15 x
      obtain ⟨p, hp⟩ : ∃ p, x.toNat / 16 = p := ⟨_, rfl⟩
      obtain ⟨q, hq⟩ : ∃ q, x.toNat % 16 = q := ⟨_, rfl⟩
      have hpI : (x.toNat : Int) / 16 = (p : Int) := by omega
      have hqI : (x.toNat : Int) % 16 = (q : Int) := by omega
      have hp16 : (p : Int) < 16 := by omega
      have hq16 : (q : Int) < 16 := by omega
      have hh1 := hexP_at p (by omega)
      have hh2 := hexP_at q (by omega)
      rw [hp, hq] at HS
      clear hp hq
      clear hx
      go_wp2_with fail
      have hB := hB.drew
      have hown : wr.drew.ownsRow w.heap.size 5 1 (.slice A1 (2 * i) c1) (2 * i) ((hexedP (b.take i)).map cellB) := hown
      refine wp_region_R [] (by kernel_rfl) ?_
      generalize wr.drew = W at hB hown ⊢
      refine R_p (i := 0) (v := .slice A1 (2 * i) c1) Meets.nil ?_
      refine R_p (i := 1) (v := .string (bs b)) Meets.nil ?_
      refine R_p (i := 2) (v := .int .i64 (i : Int)) Meets.nil ?_
      refine R_p (i := 3) (v := .int .u8 (x.toNat : Int)) Meets.nil ?_
      refine R_p (i := 4) (v := .int .u8 (p : Int)) Meets.nil ?_
      refine R_p (i := 5) (v := .int .u8 ((hexP p).toNat : Int)) Meets.nil ?_
      refine R_p (i := 6) (v := .string (bs b)) Meets.nil ?_
      refine R_p (i := 7) (v := .int .i64 (i : Int)) Meets.nil ?_
      refine R_p (i := 8) (v := .int .u8 (x.toNat : Int)) Meets.nil ?_
      refine R_p (i := 9) (v := .int .u8 (q : Int)) Meets.nil ?_
      refine R_p (i := 10) (v := .int .u8 ((hexP q).toNat : Int)) Meets.nil ?_
      have hbb : Below W.heap.size W (W.alloc (.cells #[.int .u8 ((hexP p).toNat : Int), .int .u8 ((hexP q).toNat : Int)] 5)) := (Below.refl _ _).alloc (Nat.le_refl _) _
      obtain ⟨g11, hg11⟩ : ∃ g11, W.heap.size = g11 := ⟨_, rfl⟩
      have hR := heap_alloc_new W (.cells #[.int .u8 ((hexP p).toNat : Int), .int .u8 ((hexP q).toNat : Int)] 5)
      rw [hg11] at hR
      replace hB := below_call hB hB.size hbb
      replace hown := own_keep hown hbb
      refine R_now 11 fun K hK => ?_
      go_simp
      generalize W.alloc (.cells #[.int .u8 ((hexP p).toNat : Int), .int .u8 ((hexP q).toNat : Int)] 5) = Wa at *
      try rw [hg11]
      clear hbb
      refine hK.out _ _ Meets.nil (fun hMeets => ?_)
      clear hK K hMeets
      refine lay_R ?_
      have hL := lies_one (news := [.int .u8 ((hexP p).toNat : Int), .int .u8 ((hexP q).toNat : Int)]) hR (fun j u hj => by simpa using hj)
      refine R_now 12 fun K hK => ?_
      refine stl_append elByte rfl rfl w.heap.size hown rfl (m := 2) [.int .u8 ((hexP p).toNat : Int), .int .u8 ((hexP q).toNat : Int)] rfl rfl hL (by intro u hu; simp at hu; rcases hu with rfl | rfl <;> rfl) (by simp only [maxLen]; omega) (by omega) hB.size ?_
      intro v1 w8 hown1 hg1 hat1
      obtain ⟨A2, c2, rfl⟩ := own_form hown1
      have hB8 := below_app hB hown hg1 hB.size (Nat.le_refl _)
      clear hB hown hR hL hg1 hat1
      refine hK.out _ _ Meets.nil (fun hMeets => ?_)
      clear hK K hMeets
      refine lay_R ?_
      refine R_p (i := 13) (v := .slice A2 (2 * i + 2) c2) Meets.nil ?_
      refine R_done (by kernel_rfl) ?_ _
      go_wp2_with fail
      go_roundw
      case rel => exact ⟨i + 1, by go_num, by omega, by rw [HS.out]; exact hown1, hB8⟩
      case measure => simp [intOf]; omega
    · obtain rfl : i = b.length := by omega
      rw [List.take_length] at hown
      have hL := lies_own (S := Any) hown (fun _ _ _ => trivial)
      have hcv := run_bytes_str (P := Tryd.prog) (c := c1) (src := 73) (dst := 9) Tryd.underlying73 Tryd.underlying5 Tryd.underlying9 hL
      rw [hexed_len] at hcv
      have HB := Lib.hid hB
      clear hown hL hB
      go_wp2_with fail
      go_ret
      exact ⟨rfl, HB.out⟩

set_option maxHeartbeats 1000000 in
theorem bytes_any (b : Bytes) (hb : b.length ≤ 100000) (w : World) :
    Calls Tryd.prog 49 #[.string (bs b)] w fun e w' => e = .returned (.string (bs (bytesP b))) ∧ Below w.heap.size w w' := by
  by_cases h : b = []
  · subst h
    go_enter Tryd.func49, Tryd.ntmps49
    go_wp2_with fail
    go_ret
    exact ⟨rfl, Below.refl _ _⟩
  · have hE : (b == []) = false := beq_eq_false_iff_ne.2 h
    have hP : bytesP b = hexedP b := if_neg h
    rw [hP]
    have H := Lib.hid (hexed_any b hb w)
    clear hP h
    go_enter Tryd.func49, Tryd.ntmps49
    go_wp2_with fail
    refine H.out.mono ?_
    rintro e w1 ⟨rfl, hb1⟩
    go_wp2_with fail
    go_ret
    exact ⟨rfl, hb1⟩
end Go.Proofs.YtggiicbjegmehaaDoor
