/- ecclesialaw15.StateRows: for every row of accounts and every text the law returns true, and its arguments read behind the call as they read before. No condition. -/
import Derived.Test.YtggiicbjegmehaaGreatZ52
import Derived.Test.YtggiicbjegmehaaGreatZ54
import Derived.Test.YtggiicbjegmehaaGreatRows
namespace Go.Proofs.YtggiicbjegmehaaGreat
set_option linter.unusedVariables false
set_option linter.unusedSimpArgs false
open Go.ChangeShapes Go.WideShapes Go.ChangeAt Go.RowKit
open Go.ChangeMaps (open_string shut_string)
theorem All3.cons_inv {H : Type} {Q : D → DataW H → Prop} {qs : List (D → DataW H → Prop)} {us : List D} {vs : List (DataW H)} (h : All3 (Q :: qs) us vs) : ∃ a us1 b vs1, us = a :: us1 ∧ vs = b :: vs1 ∧ Q a b ∧ All3 qs us1 vs1 := by
  cases h with | cons h1 h2 => exact ⟨_, _, _, _, rfl, rfl, h1, h2⟩
theorem All3.nil_inv {H : Type} {us : List D} {vs : List (DataW H)} (h : All3 [] us vs) : us = [] ∧ vs = [] := by
  cases h; exact ⟨rfl, rfl⟩
theorem accs_of {H : Type} : ∀ (es : List D) (xs : List (DataW H)), All2 (IsSt [IsStr, IsInt .u64, IsInt .u64]) es xs → ∃ l : List Ac, es = l.map acD ∧ smallA l ∧ ∀ a ∈ l, a.addr.length ≤ maxLen
  | _, _, .nil => ⟨[], rfl, fun a h => (by cases h), fun a h => (by cases h)⟩
  | _, _, .cons ⟨ds, xs, h1, h2, h3⟩ h => by
    obtain ⟨l, rfl, hl, hl2⟩ := accs_of _ _ h
    subst h1
    obtain ⟨x1, ds1, y1, xs1, rfl, rfl, ⟨s, rfl, _, hs⟩, k1⟩ := h3.cons_inv
    obtain ⟨x2, ds2, y2, xs2, rfl, rfl, ⟨b, rfl, _, hb⟩, k2⟩ := k1.cons_inv
    obtain ⟨x3, ds3, y3, xs3, rfl, rfl, ⟨n, rfl, _, hn⟩, k3⟩ := k2.cons_inv
    obtain ⟨rfl, rfl⟩ := k3.nil_inv
    have hb0 : 0 ≤ b ∧ b ≤ 18446744073709551615 := by simpa [Lit.wf, IntKind.min, IntKind.max, IntKind.signed, IntKind.bits] using hb
    have hn0 : 0 ≤ n ∧ n ≤ 18446744073709551615 := by simpa [Lit.wf, IntKind.min, IntKind.max, IntKind.signed, IntKind.bits] using hn
    have hbb : ((b.toNat : Nat) : Int) = b := by omega
    have hnn : ((n.toNat : Nat) : Int) = n := by omega
    refine ⟨⟨s, b.toNat, n.toNat⟩ :: l, ?_, ?_, ?_⟩
    · simp only [List.map_cons, acD, hbb, hnn]
    · intro a ha
      rcases List.mem_cons.1 ha with rfl | ha
      · exact ⟨by simp only []; omega, by simp only []; omega⟩
      · exact hl a ha
    · intro a ha
      rcases List.mem_cons.1 ha with rfl | ha
      · exact hs
      · exact hl2 a ha
theorem reads_acs {H : Type} {enc : TypeId × Value → H} {W : World} : Reads enc Tryz.prog W 22 1 (IsSl 3 (IsSt [IsStr, IsInt .u64, IsInt .u64])) :=
  reads_slice Tryz.underlying22 (by kernel_rfl) (reads_struct Tryz.underlying31 (by kernel_rfl)
    (.cons rfl (by kernel_rfl) (reads_str Tryz.underlying9) (.cons rfl (by kernel_rfl) (reads_int Tryz.underlying28) (.cons rfl (by kernel_rfl) (reads_int Tryz.underlying28) .nil))))
set_option maxRecDepth 100000 in
theorem stateRows_walk {H : Type} {enc : TypeId × Value → H} {W : World} {base : Nat} {args : Array Value} {ds : List (DataW H)} {p : List MemPlace}
    (hval : ∀ (j : Nat) t v, #[22, 9][j]? = some t → args[j]? = some v → Value.okWide Tryz.prog W .any base t v)
    (hA : DataW.TrodAll enc Tryz.prog W 0 (fun _ => true) true [22, 9] args.toList ds p) :
    Calls Tryz.prog 3 args W fun e W' => e = .returned (.bool true) ∧ Below W.heap.size W W' := by
  obtain ⟨v0, v1, d0, d1, p0, p1, rfl, rfl, rfl, h0, h1⟩ := trodAll_two hA
  obtain ⟨A, m, c, rfl⟩ := okWide_slice Tryz.underlying22 (hval 0 22 v0 rfl rfl)
  obtain ⟨s, rfl, _, _, hsl⟩ := open_string Tryz.underlying9 (hval 1 9 v1 rfl rfl) h1
  obtain ⟨_, h0⟩ := h0
  obtain ⟨_, d, hr, es, rfl, hq⟩ := reads_acs _ _ _ h0
  obtain ⟨l, rfl, hsm, hal⟩ : ∃ l : List Ac, es = l.map acD ∧ smallA l ∧ ∀ a ∈ l, a.addr.length ≤ maxLen := by
    rcases hq with ⟨rfl, _⟩ | ⟨xs, sp, _, h⟩
    · exact ⟨[], rfl, fun a h => (by cases h), fun a h => (by cases h)⟩
    · exact accs_of _ _ h
  have hm := (Rep.slice_len hr).1
  rw [List.length_map] at hm
  subst hm
  rw [← bs_data s]
  refine stateRows_any l hsm (fun a h => by have := hal a h; simp only [maxLen] at this; omega) A c s.data.toList ?_ W hr
  simp only [maxLen] at hsl
  simpa using hsl
set_option maxRecDepth 100000 in
theorem stateRows_lifted (os : Os) (started : os.Started) (H : Type) (enc : TypeId × Value → H) :
    ReturnsInHanded {} Tryz.checked os 3 .any (Rows.stateRowsSpec.pre6 enc Tryz.prog Tryz.f3 Rows.stateRowsRow.domain false) (Rows.stateRowsSpec.post enc Tryz.prog Tryz.f3 false true false false) := by
  refine returnsInHanded_of_change (C := Tryz.checked) lawOwn started (by kernel_rfl) Tryz.func3
    (ChangeSpec.witness6 (enc := enc) (C := Tryz.checked) false ⟨#[], #[.slice none 0 0, .string ⟨#[]⟩], []⟩ 8 (by kernel_rfl) (by kernel_rfl) (by kernel_rfl) (by kernel_rfl)) ?_
  intro W base args ds gs before hval hW _ _
  refine law_contract (tb := 4) lawLaid (by kernel_rfl) (by kernel_rfl) Tryz.underlying4 rfl ?_ hW ?_
  · intro ds h
    match ds, h with
    | [d1, d2], _ => rfl
  · intro p hA
    exact stateRows_walk hval hA
theorem stateRows_holds : Rows.StateRowsSaid :=
  OpenClaim.holds_of_wide 3 Tryz.f3 rfl rfl rfl rfl rfl rfl rfl ⟨rfl, rfl, rfl, rfl, rfl⟩ rfl rfl rfl rfl rfl (by kernel_rfl) Tryz.func3 (by kernel_rfl)
    (of_decide_eq_true (by kernel_rfl)) (by unfold Func.isWrapper; rw [if_neg (of_decide_eq_false (by kernel_rfl))]; exact ⟨rfl, rfl⟩)
    (fun os started H enc _ => stateRows_lifted os started H enc)
#print axioms stateRows_holds
end Go.Proofs.YtggiicbjegmehaaGreat
