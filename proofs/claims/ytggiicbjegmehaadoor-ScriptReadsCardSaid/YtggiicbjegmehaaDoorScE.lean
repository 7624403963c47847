/- The walks of script.show, hexed, bytes. -/
import Derived.Test.YtggiicbjegmehaaDoorScP
namespace Go.Proofs.YtggiicbjegmehaaDoor
set_option linter.unusedVariables false
set_option linter.unusedSimpArgs false
open Go.RowKit

theorem decI_snoc {l : List Int} {i : Nat} {n : Int} (h : l[i]? = some n) : strC ((l.take (i + 1)).map decI) = strC ((l.take i).map decI) ++ [.string (bs (decI n))] := by
  rw [take_snoc h]; simp [strC]
theorem below_str {B : Nat} {w wr w4 : World} {o1 : Obj} {A : Option Addr} {n c m : Nat} {xs : List Value} {e : TypeId} (hB : Below B w wr) (h : B ≤ wr.heap.size) (hown : wr.ownsRow B e m (.slice A n c) n xs) (hg : (wr.alloc o1).grownBy w4 (Value.slice A n c).ownBlock) : Below B w w4 :=
  below_app (hB.alloc h o1) (hown.alloc o1) hg (by simp; omega) (Nat.le_refl _)

set_option maxRecDepth 100000 in
set_option maxHeartbeats 4000000 in
theorem showI_any (l : List Int) (hn : ∀ n ∈ l, 0 ≤ n ∧ n ≤ 9223372036854775807) (hl : l.length ≤ 1000) (A : Option Addr) (c : Nat) (w : World) (he : Env w) (hv : Lies Any w A (l.map fun n => .int .i64 n)) :
    Calls Tryd.prog 42 #[.slice A l.length c] w fun e w' => (∃ A1 c1, e = .returned (.slice A1 l.length c1) ∧ StrV (Fresh w.heap.size) w' (l.map decI) A1 c1) ∧ Below w.heap.size w w' := by
  have HE := Lib.hid he
  have HN := Lib.hid hn
  have HV := Lib.hid hv
  have hlI : (l.length : Int) ≤ 1000 := by omega
  clear he hn hv
  go_enter Tryd.func42, Tryd.ntmps42
  go_wp2_with fail
  go_loopw [3, 8] (fun out a wr => ∃ i : Nat, a = .int .i64 i ∧ i ≤ l.length ∧ wr.ownsRow w.heap.size 9 1 out i (strC ((l.take i).map decI)) ∧ Below w.heap.size w wr) (fun _ a _ => l.length - (intOf a).toNat)
  case atStart => exact ⟨0, rfl, Nat.zero_le _, World.ownsRow_nil _ _ _ _, Below.refl _ _⟩
  case round =>
    obtain ⟨i, rfl, hi, hown, hB⟩ := hrel
    obtain ⟨A1, c1, rfl⟩ := own_form hown
    have hBs := hB.size
    by_cases hlt : i < l.length
    · obtain ⟨n, hnn⟩ := getElem_ex hlt
      have hltI : (i : Int) < l.length := by omega
      have hnb := HN.out n (List.mem_of_getElem? hnn)
      obtain ⟨g, o, rfl, _, hc⟩ := HV.out (by intro e; have := congrArg List.length e; simp at this; subst this; simp at hlt)
      have q0 := hc i (.int .i64 n) (by rw [List.getElem?_map, hnn]; rfl)
      have q1 := (hB.cell (p := ⟨g, o + i, none⟩) (lt_of_cell q0)).trans q0
      have hw : IntKind.u64.wrap n = n := IntWalk.u64_in _ (by omega)
      have hF := FormatUint_any n.toNat (by omega) wr (HE.out.keep hB)
      rw [show ((n.toNat : Nat) : Int) = n by omega] at hF
      have hF : Calls Tryd.prog 62 #[.int .u64 n, .int .i64 10] wr fun e w' => e = .returned (.string (bs (decI n))) ∧ Below wr.heap.size wr w' := hF
      have HS := Lib.hid (decI_snoc hnn)
      have HF := Lib.hid hF
      have HW := Lib.hid hown
      have HB := Lib.hid hB
      clear hF hown hB hnn hc q0
      go_wp2_with fail
      refine HF.out.mono ?_
      clear HF
      rintro e w2 ⟨rfl, hb2⟩
      have HB2 := Lib.hid (below_call HB.out hBs hb2)
      have HW2 := Lib.hid (own_keep HW.out hb2)
      clear hb2 q1 HB HW
      have hB2s := HB2.out.size
      go_wp2_with (at_builtin; refine wpl_append elStr rfl rfl w.heap.size (HW2.out.alloc _) rfl (m := 1) [.string (bs (decI n))] rfl rfl ?_ ?_ ?_ ?_ ?_ ?_; exact (lies_new' _ _ (by simp) #[.string (bs (decI n))] _); (intro u hu; rw [List.mem_singleton] at hu; subst hu; rfl); (simp only [maxLen]; omega); omega; (simp; omega); intro v1 w4 hown1 hg1 hat1; obtain ⟨A2, c2, rfl⟩ := own_form hown1)
      go_roundw
      case rel => exact ⟨i + 1, by go_num, by omega, by rw [HS.out]; exact hown1, below_str HB2.out hB2s HW2.out hg1⟩
      case measure => simp [intOf]; omega
    · obtain rfl : i = l.length := by omega
      rw [List.take_length] at hown
      obtain ⟨A3, c3, hA3, hn3, hv3⟩ := own_strV hown
      injection hA3 with h1 h2 h3
      subst h1; subst h3
      have HV3 := Lib.hid hv3
      have HB := Lib.hid hB
      clear hown hB hn3 hv3 h2
      go_wp2_with fail
      go_ret
      exact ⟨⟨A1, c1, rfl, HV3.out⟩, HB.out⟩

set_option maxRecDepth 100000 in
set_option maxHeartbeats 4000000 in
theorem showU_any (l : List Int) (hn : ∀ n ∈ l, 0 ≤ n ∧ n ≤ 18446744073709551615) (hl : l.length ≤ 1000) (A : Option Addr) (c : Nat) (w : World) (he : Env w) (hv : Lies Any w A (l.map fun n => .int .u64 n)) :
    Calls Tryd.prog 43 #[.slice A l.length c] w fun e w' => (∃ A1 c1, e = .returned (.slice A1 l.length c1) ∧ StrV (Fresh w.heap.size) w' (l.map decI) A1 c1) ∧ Below w.heap.size w w' := by
  have HE := Lib.hid he
  have HN := Lib.hid hn
  have HV := Lib.hid hv
  have hlI : (l.length : Int) ≤ 1000 := by omega
  clear he hn hv
  go_enter Tryd.func43, Tryd.ntmps43
  go_wp2_with fail
  go_loopw [3, 8] (fun out a wr => ∃ i : Nat, a = .int .i64 i ∧ i ≤ l.length ∧ wr.ownsRow w.heap.size 9 1 out i (strC ((l.take i).map decI)) ∧ Below w.heap.size w wr) (fun _ a _ => l.length - (intOf a).toNat)
  case atStart => exact ⟨0, rfl, Nat.zero_le _, World.ownsRow_nil _ _ _ _, Below.refl _ _⟩
  case round =>
    obtain ⟨i, rfl, hi, hown, hB⟩ := hrel
    obtain ⟨A1, c1, rfl⟩ := own_form hown
    have hBs := hB.size
    by_cases hlt : i < l.length
    · obtain ⟨n, hnn⟩ := getElem_ex hlt
      have hltI : (i : Int) < l.length := by omega
      have hnb := HN.out n (List.mem_of_getElem? hnn)
      obtain ⟨g, o, rfl, _, hc⟩ := HV.out (by intro e; have := congrArg List.length e; simp at this; subst this; simp at hlt)
      have q0 := hc i (.int .u64 n) (by rw [List.getElem?_map, hnn]; rfl)
      have q1 := (hB.cell (p := ⟨g, o + i, none⟩) (lt_of_cell q0)).trans q0
      have hw : IntKind.u64.wrap n = n := IntWalk.u64_in _ (by omega)
      have hF := FormatUint_any n.toNat (by omega) wr (HE.out.keep hB)
      rw [show ((n.toNat : Nat) : Int) = n by omega] at hF
      have hF : Calls Tryd.prog 62 #[.int .u64 n, .int .i64 10] wr fun e w' => e = .returned (.string (bs (decI n))) ∧ Below wr.heap.size wr w' := hF
      have HS := Lib.hid (decI_snoc hnn)
      have HF := Lib.hid hF
      have HW := Lib.hid hown
      have HB := Lib.hid hB
      clear hF hown hB hnn hc q0
      go_wp2_with fail
      refine HF.out.mono ?_
      clear HF
      rintro e w2 ⟨rfl, hb2⟩
      have HB2 := Lib.hid (below_call HB.out hBs hb2)
      have HW2 := Lib.hid (own_keep HW.out hb2)
      clear hb2 q1 HB HW
      have hB2s := HB2.out.size
      go_wp2_with (at_builtin; refine wpl_append elStr rfl rfl w.heap.size (HW2.out.alloc _) rfl (m := 1) [.string (bs (decI n))] rfl rfl ?_ ?_ ?_ ?_ ?_ ?_; exact (lies_new' _ _ (by simp) #[.string (bs (decI n))] _); (intro u hu; rw [List.mem_singleton] at hu; subst hu; rfl); (simp only [maxLen]; omega); omega; (simp; omega); intro v1 w4 hown1 hg1 hat1; obtain ⟨A2, c2, rfl⟩ := own_form hown1)
      go_roundw
      case rel => exact ⟨i + 1, by go_num, by omega, by rw [HS.out]; exact hown1, below_str HB2.out hB2s HW2.out hg1⟩
      case measure => simp [intOf]; omega
    · obtain rfl : i = l.length := by omega
      rw [List.take_length] at hown
      obtain ⟨A3, c3, hA3, hn3, hv3⟩ := own_strV hown
      injection hA3 with h1 h2 h3
      subst h1; subst h3
      have HV3 := Lib.hid hv3
      have HB := Lib.hid hB
      clear hown hB hn3 hv3 h2
      go_wp2_with fail
      go_ret
      exact ⟨⟨A1, c1, rfl, HV3.out⟩, HB.out⟩
end Go.Proofs.YtggiicbjegmehaaDoor
