/- The walks of the document's First, kinds, word at layer 27. -/
import Derived.Test.YtggiicbjegmehaaDoorScV
namespace Go.Proofs.YtggiicbjegmehaaDoor
set_option linter.unusedVariables false
set_option linter.unusedSimpArgs false
open Go.RowKit

def kindsC : List Value := strC kinds10
theorem rkinds_any (w : World) : Calls Tryd.prog 51 #[] w fun e w' => e = .returned (.slice (some ⟨w.heap.size, 0, none⟩) 10 10) ∧ w' = w.alloc (.cells kindsC.toArray 9) := by
  go_enter Tryd.func51, Tryd.ntmps51
  go_wp2_with fail
  go_ret
  exact ⟨rfl, rfl⟩

set_option maxRecDepth 100000 in
set_option maxHeartbeats 4000000 in
theorem rword_any (b : Bytes) (hb : b.length ≤ 1000000) (w : World) :
    Calls Tryd.prog 53 #[.string (bs b)] w fun e w' => e = .returned (.string (bs (bytesP b))) ∧ Below w.heap.size w w' := by
  by_cases hb0 : b = []
  · subst hb0
    go_enter Tryd.func53, Tryd.ntmps53
    go_wp2_with fail
    go_ret
    exact ⟨rfl, Below.refl _ _⟩
  have hE : (b == []) = false := beq_eq_false_iff_ne.2 hb0
  have hP : bytesP b = hexedP b := if_neg hb0
  rw [hP]
  clear hP hb0
  have hbI : (b.length : Int) ≤ 1000000 := by omega
  have HO := Lib.hid (World.ownsRow_lit (base := w.heap.size) (e := 5) (size := 1) w #[] 0 (Nat.le_refl _) (by simp [maxLen]) rfl)
  go_enter Tryd.func53, Tryd.ntmps53
  go_wp2_with fail
  go_loopw [3, 4] (fun out a wr => ∃ i : Nat, a = .int .i64 i ∧ i ≤ b.length ∧ wr.ownsRow w.heap.size 5 1 out (2 * i) ((hexedP (b.take i)).map cellB) ∧ Below w.heap.size w wr) (fun _ a _ => b.length - (intOf a).toNat)
  case atStart => exact ⟨0, rfl, Nat.zero_le _, HO.out, (Below.refl _ _).alloc (Nat.le_refl _) _⟩
  case round =>
    clear HO
    obtain ⟨i, rfl, hi, hown, hB⟩ := hrel
    obtain ⟨A1, c1, rfl⟩ := own_form hown
    by_cases hlt : i < b.length
    · obtain ⟨x, hx⟩ := getElem_ex hlt
      have hltI : (i : Int) < b.length := by omega
      have HS := Lib.hid (hexed_take hx)
      have hget : ∀ h, b[i]'h = x := fun _ => (List.getElem?_eq_some_iff.1 hx).2
      have hxl := x.toNat_lt
      obtain ⟨p, hp⟩ : ∃ p, x.toNat / 16 = p := ⟨_, rfl⟩
      obtain ⟨q, hq⟩ : ∃ q, x.toNat % 16 = q := ⟨_, rfl⟩
      have hpI : (x.toNat : Int) / 16 = (p : Int) := by omega
      have hqI : (x.toNat : Int) % 16 = (q : Int) := by omega
      have hpT : (x.toNat : Int).tdiv 16 = (p : Int) := by rw [Int.tdiv_eq_ediv_of_nonneg (Int.natCast_nonneg _)]; exact hpI
      have hqT : (x.toNat : Int).tmod 16 = (q : Int) := by rw [Int.tmod_eq_emod_of_nonneg (Int.natCast_nonneg _)]; exact hqI
      have hpW : IntKind.u8.wrap (p : Int) = (p : Int) := by simp [IntKind.wrap, IntKind.signed, IntKind.bits]; omega
      have hp16 : (p : Int) < 16 := by omega
      have hq16 : (q : Int) < 16 := by omega
      have hh1 := hexP_at p (by omega)
      have hh2 := hexP_at q (by omega)
      rw [hp, hq] at HS
      clear hp hq
      clear hx
      go_wp2_with fail
      have hB := hB.drew
      have hown : wr.drew.ownsRow w.heap.size 5 1 (.slice A1 (2 * i) c1) (2 * i) ((hexedP (b.take i)).map cellB) := hown
      refine wp_region_R [] (by kernel_rfl) ?_
      generalize wr.drew = W at hB hown ⊢
      refine R_p (i := 0) (v := .slice A1 (2 * i) c1) Meets.nil ?_
      refine R_p (i := 1) (v := .string (bs b)) Meets.nil ?_
      refine R_p (i := 2) (v := .int .i64 (i : Int)) Meets.nil ?_
      refine R_p (i := 3) (v := .int .u8 (x.toNat : Int)) Meets.nil ?_
      refine R_p (i := 4) (v := .int .u8 (p : Int)) Meets.nil ?_
      refine R_p (i := 5) (v := .int .u8 ((hexP p).toNat : Int)) Meets.nil ?_
      refine R_p (i := 6) (v := .string (bs b)) Meets.nil ?_
      refine R_p (i := 7) (v := .int .i64 (i : Int)) Meets.nil ?_
      refine R_p (i := 8) (v := .int .u8 (x.toNat : Int)) Meets.nil ?_
      refine R_p (i := 9) (v := .int .u8 (q : Int)) Meets.nil ?_
      refine R_p (i := 10) (v := .int .u8 ((hexP q).toNat : Int)) Meets.nil ?_
      have hbb : Below W.heap.size W (W.alloc (.cells #[.int .u8 ((hexP p).toNat : Int), .int .u8 ((hexP q).toNat : Int)] 5)) := (Below.refl _ _).alloc (Nat.le_refl _) _
      obtain ⟨g11, hg11⟩ : ∃ g11, W.heap.size = g11 := ⟨_, rfl⟩
      have hR := heap_alloc_new W (.cells #[.int .u8 ((hexP p).toNat : Int), .int .u8 ((hexP q).toNat : Int)] 5)
      rw [hg11] at hR
      replace hB := below_call hB hB.size hbb
      replace hown := own_keep hown hbb
      refine R_now 11 fun K hK => ?_
      go_simp
      generalize W.alloc (.cells #[.int .u8 ((hexP p).toNat : Int), .int .u8 ((hexP q).toNat : Int)] 5) = Wa at *
      try rw [hg11]
      clear hbb
      refine hK.out _ _ Meets.nil (fun hMeets => ?_)
      clear hK K hMeets
      refine lay_R ?_
      have hL := lies_one (news := [.int .u8 ((hexP p).toNat : Int), .int .u8 ((hexP q).toNat : Int)]) hR (fun j u hj => by simpa using hj)
      refine R_now 12 fun K hK => ?_
      refine stl_append elByte rfl rfl w.heap.size hown rfl (m := 2) [.int .u8 ((hexP p).toNat : Int), .int .u8 ((hexP q).toNat : Int)] rfl rfl hL (by intro u hu; simp at hu; rcases hu with rfl | rfl <;> rfl) (by simp only [maxLen]; omega) (by omega) hB.size ?_
      intro v1 w8 hown1 hg1 hat1
      obtain ⟨A2, c2, rfl⟩ := own_form hown1
      have hB8 := below_app hB hown hg1 hB.size (Nat.le_refl _)
      clear hB hown hR hL hg1 hat1
      refine hK.out _ _ Meets.nil (fun hMeets => ?_)
      clear hK K hMeets
      refine lay_R ?_
      refine R_p (i := 13) (v := .slice A2 (2 * i + 2) c2) Meets.nil ?_
      refine R_done (by kernel_rfl) ?_ _
      go_wp2_with fail
      go_roundw
      case rel => exact ⟨i + 1, by go_num, by omega, by rw [HS.out]; exact hown1, hB8⟩
      case measure => simp [intOf]; omega
    · obtain rfl : i = b.length := by omega
      rw [List.take_length] at hown
      have hL := lies_own (S := Any) hown (fun _ _ _ => trivial)
      have hcv := run_bytes_str (P := Tryd.prog) (c := c1) (src := 73) (dst := 9) Tryd.underlying73 Tryd.underlying5 Tryd.underlying9 hL
      rw [hexed_len] at hcv
      have HB := Lib.hid hB
      clear hown hL hB
      go_wp2_with fail
      go_ret
      exact ⟨rfl, HB.out⟩

set_option maxRecDepth 100000 in
set_option maxHeartbeats 8000000 in
theorem rfirst_any (many set ep has : Int) (A : Option Addr) (L c : Nat) (hm : 0 ≤ many ∧ many ≤ 9223372036854775807) (hs : 0 ≤ set ∧ set ≤ 9223372036854775807) (hep : 0 ≤ ep ∧ ep ≤ 18446744073709551615) (hhas : 0 ≤ has ∧ has ≤ 18446744073709551615) (w : World) (he : Env w) :
    Calls Tryd.prog 29 #[.agg #[.int .i64 many, .int .i64 set, .int .u64 ep, .int .u64 has, .slice A L c]] w fun e w' => e = .returned (.string (bs (Lib.join [[110, 111, 100, 101, 115], decI many, decI set, decI ep, decI has] [32]))) ∧ Below w.heap.size w w' := by
  have hN1 := fun (W : World) (hb : Below w.heap.size w W) => rnumber_any many (by omega) W (he.keep hb)
  have hN2 := fun (W : World) (hb : Below w.heap.size w W) => rnumber_any set (by omega) W (he.keep hb)
  have hN3 := fun (W : World) (hb : Below w.heap.size w W) => rnumber_any ep (by omega) W (he.keep hb)
  have hN4 := fun (W : World) (hb : Below w.heap.size w W) => rnumber_any has (by omega) W (he.keep hb)
  have l1 := decI_len (n := many) (by omega)
  have l2 := decI_len (n := set) (by omega)
  have l3 := decI_len (n := ep) (by omega)
  have l4 := decI_len (n := has) (by omega)
  have hwm : IntKind.u64.wrap many = many := IntWalk.u64_in _ (by omega)
  have hws : IntKind.u64.wrap set = set := IntWalk.u64_in _ (by omega)
  have hj : Lib.join [[110, 111, 100, 101, 115], decI many, decI set, decI ep, decI has] [32] = [110, 111, 100, 101, 115] ++ 32 :: decI many ++ 32 :: decI set ++ 32 :: decI ep ++ 32 :: decI has := by
    simp only [join_two, Lib.join_one]; simp
  rw [hj]
  obtain ⟨m1, e1⟩ : ∃ m, decI many = m := ⟨_, rfl⟩
  obtain ⟨m2, e2⟩ : ∃ m, decI set = m := ⟨_, rfl⟩
  obtain ⟨m3, e3⟩ : ∃ m, decI ep = m := ⟨_, rfl⟩
  obtain ⟨m4, e4⟩ : ∃ m, decI has = m := ⟨_, rfl⟩
  rw [e1] at hN1 l1
  rw [e2] at hN2 l2
  rw [e3] at hN3 l3
  rw [e4] at hN4 l4
  rw [e1, e2, e3, e4]
  have c1 : (⟨#[110, 111, 100, 101, 115]⟩ : ByteArray) ++ bs (32 :: m1) = bs ([110, 111, 100, 101, 115] ++ 32 :: m1) := bs_append [110, 111, 100, 101, 115] (32 :: m1)
  have l1I : (m1.length : Int) ≤ 20 := by omega
  have l2I : (m2.length : Int) ≤ 20 := by omega
  have l3I : (m3.length : Int) ≤ 20 := by omega
  have l4I : (m4.length : Int) ≤ 20 := by omega
  have HN1 := Lib.hid hN1
  have HN2 := Lib.hid hN2
  have HN3 := Lib.hid hN3
  have HN4 := Lib.hid hN4
  have hX0 := heap_alloc_new w (.cells #[.int .i64 many, .int .i64 set, .int .u64 ep, .int .u64 has, .slice A L c] 25)
  have hB0 := ((Below.refl w.heap.size w).alloc (Nat.le_refl _) (.cells #[.int .i64 many, .int .i64 set, .int .u64 ep, .int .u64 has, .slice A L c] 25)).drew
  have HX0 := Lib.hid hX0
  have HB0 := Lib.hid hB0
  clear hN1 hN2 hN3 hN4 hX0 hB0 he hj e1 e2 e3 e4 hm hs hep hhas
  go_enter Tryd.func29, Tryd.ntmps29
  go_wp2_with fail
  have hX : (w.alloc (.cells #[.int .i64 many, .int .i64 set, .int .u64 ep, .int .u64 has, .slice A L c] 25)).drew.heap[w.heap.size]? = _ := HX0.out
  have hB := HB0.out
  clear HX0 HB0
  refine wp_region_R [(99, fun w' => w'.heap[w.heap.size]? = some (.cells #[.int .i64 many, .int .i64 set, .int .u64 ep, .int .u64 has, .slice A L c] 25 (0, 0)))] (by kernel_rfl) ?_
  generalize (w.alloc (.cells #[.int .i64 many, .int .i64 set, .int .u64 ep, .int .u64 has, .slice A L c] 25)).drew = W at hX hB ⊢
  refine R_p (i := 0) (v := .pointer (some ⟨w.heap.size, 0, none⟩)) (Meets.here hX Meets.nil) ?_
  refine R_p (i := 5) (v := .pointer (some ⟨w.heap.size, 1, none⟩)) (Meets.here hX Meets.nil) ?_
  refine R_p (i := 10) (v := .pointer (some ⟨w.heap.size, 2, none⟩)) (Meets.here hX Meets.nil) ?_
  refine R_p (i := 14) (v := .pointer (some ⟨w.heap.size, 3, none⟩)) (Meets.here hX Meets.nil) ?_
  refine R_l (i := 1) (v := .int .i64 many) 99 _ List.mem_cons_self rfl (yieldsIf_load_cell rfl rfl rfl (fun w' hS => rc hS 0 rfl) Tryd.underlying3 rfl) (Meets.here hX Meets.nil) ?_
  refine R_l (i := 6) (v := .int .i64 set) 99 _ List.mem_cons_self rfl (yieldsIf_load_cell rfl rfl rfl (fun w' hS => rc hS 1 rfl) Tryd.underlying3 rfl) (Meets.here hX Meets.nil) ?_
  refine R_l (i := 11) (v := .int .u64 ep) 99 _ List.mem_cons_self rfl (yieldsIf_load_cell rfl rfl rfl (fun w' hS => rc hS 2 rfl) Tryd.underlying22 rfl) (Meets.here hX Meets.nil) ?_
  refine R_l (i := 15) (v := .int .u64 has) 99 _ List.mem_cons_self rfl (yieldsIf_load_cell rfl rfl rfl (fun w' hS => rc hS 3 rfl) Tryd.underlying22 rfl) (Meets.here hX Meets.nil) ?_
  refine R_p (i := 2) (v := .int .u64 many) (Meets.here hX Meets.nil) ?_
  refine R_p (i := 7) (v := .int .u64 set) (Meets.here hX Meets.nil) ?_
  refine R_now 3 fun K hK => ?_
  go_simp
  refine (HN1.out _ hB).mono ?_
  rintro e w3 ⟨rfl, hb3⟩
  replace hX := (hb3.block _ (Array.getElem?_eq_some_iff.1 hX).1).trans hX
  replace hB := below_call hB hB.size hb3
  clear hb3
  refine hK.out _ _ (Meets.here hX Meets.nil) (fun hMeets => ?_)
  clear hK K hMeets
  refine lay_R ?_
  refine R_p (i := 4) (v := .string (bs ([110, 111, 100, 101, 115] ++ 32 :: m1))) (Meets.here hX Meets.nil) ?_ (hy := by intro w'; go_simp; omega)
  refine R_now 8 fun K hK => ?_
  go_simp
  refine (HN2.out _ hB).mono ?_
  rintro e w8 ⟨rfl, hb8⟩
  replace hX := (hb8.block _ (Array.getElem?_eq_some_iff.1 hX).1).trans hX
  replace hB := below_call hB hB.size hb8
  clear hb8
  refine hK.out _ _ (Meets.here hX Meets.nil) (fun hMeets => ?_)
  clear hK K hMeets
  refine lay_R ?_
  refine R_p (i := 9) (v := .string (bs ([110, 111, 100, 101, 115] ++ 32 :: m1 ++ 32 :: m2))) (Meets.here hX Meets.nil) ?_ (hy := by intro w'; go_simp; omega)
  refine R_now 12 fun K hK => ?_
  go_simp
  refine (HN3.out _ hB).mono ?_
  rintro e w12 ⟨rfl, hb12⟩
  replace hX := (hb12.block _ (Array.getElem?_eq_some_iff.1 hX).1).trans hX
  replace hB := below_call hB hB.size hb12
  clear hb12
  refine hK.out _ _ (Meets.here hX Meets.nil) (fun hMeets => ?_)
  clear hK K hMeets
  refine lay_R ?_
  refine R_p (i := 13) (v := .string (bs ([110, 111, 100, 101, 115] ++ 32 :: m1 ++ 32 :: m2 ++ 32 :: m3))) (Meets.here hX Meets.nil) ?_ (hy := by intro w'; go_simp; omega)
  refine R_now 16 fun K hK => ?_
  go_simp
  refine (HN4.out _ hB).mono ?_
  rintro e w16 ⟨rfl, hb16⟩
  replace hX := (hb16.block _ (Array.getElem?_eq_some_iff.1 hX).1).trans hX
  replace hB := below_call hB hB.size hb16
  clear hb16
  refine hK.out _ _ (Meets.here hX Meets.nil) (fun hMeets => ?_)
  clear hK K hMeets
  refine lay_R ?_
  refine R_p (i := 17) (v := .string (bs ([110, 111, 100, 101, 115] ++ 32 :: m1 ++ 32 :: m2 ++ 32 :: m3 ++ 32 :: m4))) (Meets.here hX Meets.nil) ?_ (hy := by intro w'; go_simp; omega)
  refine R_p (i := 18) (v := .string (bs ([110, 111, 100, 101, 115] ++ 32 :: m1 ++ 32 :: m2 ++ 32 :: m3 ++ 32 :: m4))) (Meets.here hX Meets.nil) ?_
  refine R_done (by kernel_rfl) ?_ _
  have HB := Lib.hid hB
  clear hX hB
  go_wp2_with fail
  go_ret
  exact ⟨rfl, HB.out⟩
end Go.Proofs.YtggiicbjegmehaaDoor
