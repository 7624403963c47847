/- The steps of regions that draw their order, in short: what they ask is shown where it stands; of no program. -/
import Derived.Test.YtggiicbjegmehaaDoorOrderB
namespace Go.Proofs.YtggiicbjegmehaaDoor
set_option linter.unusedVariables false
set_option linter.unusedSimpArgs false
open Go.RowKit
section
variable {P : Program} {ops : Array Oper} {Q : Exit → Act → World → Prop} {md : Region.Mode} {R : List Till} {S : World → Prop}
def okR (md : Region.Mode) (ops : Array Oper) (R : List Till) (listed : Array Bool) (i : Nat) : Bool := offB R i && Region.noSelect ops && !(listed.getD ops.size false) && Region.free md ops listed i && (Region.ready md ops listed).contains i
theorem okR_spec {listed : Array Bool} {i : Nat} (h : okR md ops R listed i = true) : offB R i = true ∧ Region.noSelect ops = true ∧ listed.getD ops.size false = false ∧ Region.free md ops listed i = true ∧ (Region.ready md ops listed).contains i = true := by
  unfold okR at h
  simp only [Bool.and_eq_true, Bool.not_eq_true'] at h
  exact ⟨h.1.1.1.1, h.1.1.1.2, h.1.1.2, h.1.2, h.2⟩
theorem R_p {i : Nat} {oi : Oper} {v : Value} {fuel : Nat} {listed : Array Bool} {a a' : Act} {w : World} (hS : Meets listed w R) (h : wpAnyR P md ops Q R fuel (listed.setIfInBounds i true) a' w)
    (hi : ops[i]? = some oi := by rfl) (hw : Region.wanted oi (yielded ops a.tmps) = true := by rfl) (hy : ∀ w, (execOp a.eval oi).run P w = .ok (.value v) w := by intro w'; go_simp)
    (hQ : ∀ c a w, Q (.panic c) (a.put oi.dst v) w → Q (.panic c) a w := by exact fun _ _ _ h => h) (hk : okR md ops R listed i = true := by kernel_rfl)
    (ha : a.put oi.dst v = a' := by simp only [Act.put, List.setIfInBounds_toArray, List.set_cons_zero, List.set_cons_succ, List.getElem_toArray, List.getElem_cons_zero, List.getElem_cons_succ]; rfl) : wpAnyR P md ops Q R (fuel + 1) listed a w := by
  subst ha
  obtain ⟨k1, k2, k3, k4, k5⟩ := okR_spec hk
  exact R_pure hi ⟨hw, hy⟩ hQ k1 k2 k3 k4 k5 hS h
theorem R_s {i : Nat} {oi : Oper} {fuel : Nat} {listed : Array Bool} {a a' : Act} {w : World} (hS : Meets listed w R) (h : wpAnyR P md ops Q R fuel (listed.setIfInBounds i true) a' w)
    (hi : ops[i]? = some oi := by rfl) (hw : Region.wanted oi (yielded ops a.tmps) = false := by kernel_rfl)
    (hQ : ∀ c a w, Q (.panic c) (a.put oi.dst undef) w → Q (.panic c) a w := by exact fun _ _ _ h => h) (hk : okR md ops R listed i = true := by kernel_rfl)
    (ha : a.put oi.dst undef = a' := by simp only [Act.put, List.setIfInBounds_toArray, List.set_cons_zero, List.set_cons_succ, List.getElem_toArray, List.getElem_cons_zero, List.getElem_cons_succ]; rfl) : wpAnyR P md ops Q R (fuel + 1) listed a w := by
  subst ha
  obtain ⟨k1, k2, k3, k4, k5⟩ := okR_spec hk
  exact R_skip hi hw hQ k1 k2 k3 k4 k5 hS h
theorem R_l {i : Nat} {oi : Oper} {v : Value} {fuel : Nat} {listed : Array Bool} {a a' : Act} {w : World} (m : Nat) (S : World → Prop) (hc : (m, S) ∈ R) (hi : ops[i]? = some oi) (hy : YieldsIf P ops S oi v a) (hS : Meets listed w R) (h : wpAnyR P md ops Q R fuel (listed.setIfInBounds i true) a' w)
    (hQ : ∀ c a w, Q (.panic c) (a.put oi.dst v) w → Q (.panic c) a w := by exact fun _ _ _ h => h)
    (hk : (waitsB md ops m i && offB R i && Region.noSelect ops && !(listed.getD m false) && Region.free md ops listed i && (Region.ready md ops listed).contains i) = true := by kernel_rfl)
    (ha : a.put oi.dst v = a' := by simp only [Act.put, List.setIfInBounds_toArray, List.set_cons_zero, List.set_cons_succ, List.getElem_toArray, List.getElem_cons_zero, List.getElem_cons_succ]; rfl) : wpAnyR P md ops Q R (fuel + 1) listed a w := by
  subst ha
  simp only [Bool.and_eq_true, Bool.not_eq_true'] at hk
  exact R_load m S hc hi hy hS hQ hk.1.1.1.1.1 hk.1.1.1.1.2 hk.1.1.1.2 hk.1.1.2 hk.1.2 hk.2 h
theorem R_now (i : Nat) {o : Oper} {fuel : Nat} {listed : Array Bool} {a : Act} {w : World}
    (h : ∀ K' : Act → World → Prop, Shut (∀ a w, Meets (listed.setIfInBounds i true) w R → (Meets (listed.setIfInBounds i true) w R → wpAnyR P md ops Q R fuel (listed.setIfInBounds i true) a w) → K' a w) → if Region.wanted o (yielded ops a.tmps) = true then Oper.wp P o a w K' Q else K' (a.put o.dst undef) w)
    (ho : ops[i]? = some o := by rfl) (hr : Region.ready md ops listed = [i] := by kernel_rfl) : wpAnyR P md ops Q R (fuel + 1) listed a w :=
  R_ready hr (by simp) (AllReadyR.cons ho h AllReadyR.nil)
theorem lay_R {fuel : Nat} {listed : Array Bool} {a a' : Act} {w : World} (h : wpAnyR P md ops Q R fuel listed a' w)
    (ha : a = a' := by first | (simp only [Act.put, List.setIfInBounds_toArray, List.set_cons_zero, List.set_cons_succ, List.getElem_toArray, List.getElem_cons_zero, List.getElem_cons_succ]; rfl) | rfl) : wpAnyR P md ops Q R fuel listed a w := ha ▸ h
theorem H_t {i : Nat} {oi : Oper} {v : Value} {fuel : Nat} {listed : Array Bool} {a a' : Act} {w : World} (hi : ops[i]? = some oi) (hy : YieldsIf P ops S oi v a) (hS : S w) (h : wpAnyH P md ops Q S fuel (listed.setIfInBounds i true) a' w)
    (hk : (Region.noSelect ops && Region.free md ops listed i && (Region.ready md ops listed).contains i) = true := by kernel_rfl) (hQ : ∀ c a w, Q (.panic c) (a.put oi.dst v) w → Q (.panic c) a w := by exact fun _ _ _ h => h)
    (ha : a.put oi.dst v = a' := by simp only [Act.put, List.setIfInBounds_toArray, List.set_cons_zero, List.set_cons_succ, List.getElem_toArray, List.getElem_cons_zero, List.getElem_cons_succ]; rfl) : wpAnyH P md ops Q S (fuel + 1) listed a w := by
  subst ha
  simp only [Bool.and_eq_true] at hk
  exact wpAnyH_take hi hk.1.1 hk.1.2 hk.2 hQ hy hS h
theorem lay_H {fuel : Nat} {listed : Array Bool} {a a' : Act} {w : World} (h : wpAnyH P md ops Q S fuel listed a' w)
    (ha : a = a' := by first | (simp only [Act.put, List.setIfInBounds_toArray, List.set_cons_zero, List.set_cons_succ, List.getElem_toArray, List.getElem_cons_zero, List.getElem_cons_succ]; rfl) | rfl) : wpAnyH P md ops Q S fuel listed a w := ha ▸ h
theorem H_now (i : Nat) {o : Oper} {fuel : Nat} {listed : Array Bool} {a : Act} {w : World}
    (h : ∀ K' : Act → World → Prop, Shut (∀ a w, S w → (S w → wpAnyH P md ops Q S fuel (listed.setIfInBounds i true) a w) → K' a w) → if Region.wanted o (yielded ops a.tmps) = true then Oper.wp P o a w K' Q else K' (a.put o.dst undef) w)
    (ho : ops[i]? = some o := by rfl) (hr : Region.ready md ops listed = [i] := by kernel_rfl) : wpAnyH P md ops Q S (fuel + 1) listed a w :=
  wpAnyH_ready hr (by simp) (AllReadyH.cons ho h AllReadyH.nil)
end
end Go.Proofs.YtggiicbjegmehaaDoor
