/- rlp.Decode: the deferred closure, and the walk. -/
import Derived.Test.YtggiicbjegmehaaGreatZ26
import Derived.Defers
import Derived.Recover
namespace Go.Proofs.YtggiicbjegmehaaGreat
set_option linter.unusedVariables false
set_option linter.unusedSimpArgs false
open Go.RowKit
theorem ca {w : World} {b o : Nat} {v : Value} (h : w.cell? ⟨b, o, none⟩ = some v) (x : Obj) : (w.alloc x).cell? ⟨b, o, none⟩ = some v := by
  rw [World.cell?_alloc_lt _ _ _ (lt_of_cell h)]; exact h
theorem fa {w : World} {b o : Nat} {u : Bool} (hl : b < w.heap.size) (h : w.frozen? ⟨b, o, none⟩ = u) (x : Obj) : (w.alloc x).frozen? ⟨b, o, none⟩ = u := by
  rw [← h]; exact ((bcell ((Below.refl w.heap.size w).alloc (Nat.le_refl _) x)).2 b o hl)
end Go.Proofs.YtggiicbjegmehaaGreat
