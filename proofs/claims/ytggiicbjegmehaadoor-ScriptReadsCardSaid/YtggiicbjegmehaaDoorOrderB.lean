/- An operation behind a guard that says no, in a region that draws its order; of no program. -/
import Derived.Test.YtggiicbjegmehaaDoorOrder
namespace Go.Proofs.YtggiicbjegmehaaDoor
set_option linter.unusedVariables false
set_option linter.unusedSimpArgs false
open Go.RowKit
section
variable {P : Program} {ops : Array Oper} {Q : Exit → Act → World → Prop} {md : Region.Mode} {R : List Till}
theorem R_skip {i : Nat} {oi : Oper} {fuel : Nat} {listed : Array Bool} {a : Act} {w : World} (hi : ops[i]? = some oi) (hy : Region.wanted oi (yielded ops a.tmps) = false)
    (hQ : ∀ c a w, Q (.panic c) (a.put oi.dst undef) w → Q (.panic c) a w) (hni : offB R i = true) (hs : Region.noSelect ops = true) (hln : listed.getD ops.size false = false) (hf : Region.free md ops listed i = true) (hr : (Region.ready md ops listed).contains i = true) (hS : Meets listed w R)
    (h : wpAnyR P md ops Q R fuel (listed.setIfInBounds i true) (a.put oi.dst undef) w) : wpAnyR P md ops Q R (fuel + 1) listed a w := by
  have key : wpAnyR P md ops Q ((ops.size, fun _ => True) :: R) (fuel + 1) listed a w := by
    refine wpAnyR_first (m := ops.size) (S := fun _ => True) (List.mem_cons_self ..) ?_ ?_ hi (Region.noSelect_spec hs) hQ fuel listed a w hln (Region.free_spec hi hf) (by simpa using hr) (.inr ⟨hy, rfl⟩) ⟨fun _ => trivial, hS⟩ (wpAnyR_add _ (fun l w' h => ⟨fun _ => trivial, h⟩) h)
    · unfold waitsB; simp
    · intro c hc
      rcases List.mem_cons.1 hc with rfl | hc
      · have := (Array.getElem?_eq_some_iff.1 hi).1
        simp only [ne_eq]; omega
      · exact offB_spec hni c hc
  have drop : ∀ (fuel : Nat) (listed : Array Bool) (a : Act) (w : World), wpAnyR P md ops Q ((ops.size, fun _ => True) :: R) fuel listed a w → wpAnyR P md ops Q R fuel listed a w := by
    intro fuel
    induction fuel with
    | zero => exact fun _ _ _ h => h
    | succ fuel ih => exact fun _ _ _ h => ⟨h.1, fun i hi => wpOp_mono (fun a' w' h' => ⟨h'.1.2, ih _ _ _ h'.2⟩) (h.2 i hi)⟩
  exact drop _ _ _ _ key
end
end Go.Proofs.YtggiicbjegmehaaDoor
