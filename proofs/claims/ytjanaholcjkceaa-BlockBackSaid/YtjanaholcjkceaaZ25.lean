/- A row of the call's own that bears a mark behind its cells, as a text's bytes do: append and store; of no program. -/
import Derived.Test.YtjanaholcjkceaaZ01
import Derived.Lib.ConvBytes
namespace Go.Proofs.Ytjanaholcjkceaa
set_option linter.unusedVariables false
set_option linter.unusedSimpArgs false
open Go.RowKit
/-- a row of the call's own, with a mark behind its cells or none -/
def OwnM (w : World) (base : Nat) (e : TypeId) (g n cap : Nat) (xs : List Value) : Prop :=
  xs.length = n ∧ ∃ cur fr, base ≤ g ∧ w.heap[g]? = some (.cells cur e fr) ∧ (cur.size ≤ fr.1 ∨ fr = (0, 0)) ∧ n ≤ cap ∧ cap ≤ maxLen ∧ cur.size = cap ∧ cur.toList.take n = xs
section
variable {P : Program} {w : World}
theorem OwnM.at_ {base : Nat} {e : TypeId} {g n cap : Nat} {xs : List Value} (h : OwnM w base e g n cap xs) {j : Nat} {u : Value} (hj : xs[j]? = some u) : w.cell? ⟨g, j, none⟩ = some u := by
  obtain ⟨h1, cur, fr, _, h2, _, _, _, h3, h4⟩ := h
  rw [cell_of_row _ _ _ _ _ _ h2]
  rw [← h4, List.getElem?_take] at hj
  split at hj
  · simpa using hj
  · cases hj
theorem OwnM.free {base : Nat} {e : TypeId} {g n cap : Nat} {xs : List Value} (h : OwnM w base e g n cap xs) {j : Nat} (hj : j < n) : w.frozen? ⟨g, j, none⟩ = false := by
  obtain ⟨h1, cur, fr, _, h2, hf, h5, _, h3, h4⟩ := h
  rcases hf with hf | rfl
  · simp [World.frozen?, h2]; omega
  · simp [World.frozen?, h2]
theorem OwnM.base {base : Nat} {e : TypeId} {g n cap : Nat} {xs : List Value} (h : OwnM w base e g n cap xs) : base ≤ g ∧ g < w.heap.size ∧ n ≤ cap ∧ cap ≤ maxLen := by
  obtain ⟨h1, cur, fr, hb, h2, _, h5, h6, h3, h4⟩ := h
  exact ⟨hb, (Array.getElem?_eq_some_iff.1 h2).1, h5, h6⟩
theorem OwnM.lies {base : Nat} {e : TypeId} {g n cap : Nat} {xs : List Value} (h : OwnM w base e g n cap xs) : Lies Any w (some ⟨g, 0, none⟩) xs :=
  fun _ => ⟨g, 0, rfl, trivial, fun j u hj => by rw [Nat.zero_add]; exact h.at_ hj⟩
theorem OwnM.keep {w' : World} {base : Nat} {e : TypeId} {g n cap : Nat} {xs : List Value} (h : OwnM w base e g n cap xs) (hb : Below w.heap.size w w') : OwnM w' base e g n cap xs := by
  obtain ⟨h1, cur, fr, h0, h2, h3⟩ := h
  exact ⟨h1, cur, fr, h0, (hb.block g (Array.getElem?_eq_some_iff.1 h2).1).trans h2, h3⟩
theorem OwnM.set {base : Nat} {e : TypeId} {g n cap : Nat} {xs : List Value} (h : OwnM w base e g n cap xs) (j : Nat) (u : Value) : OwnM (w.setCell ⟨g, j, none⟩ u) base e g n cap (xs.set j u) := by
  obtain ⟨h1, cur, fr, hb, h2, hf, h5, h6, h3, h4⟩ := h
  refine ⟨by simpa using h1, cur.setIfInBounds j u, fr, hb, heap_setCell_here h2 u, by simpa using hf, h5, h6, by simpa using h3, ?_⟩
  rw [Array.toList_setIfInBounds, List.take_set, h4]
end
end Go.Proofs.Ytjanaholcjkceaa
