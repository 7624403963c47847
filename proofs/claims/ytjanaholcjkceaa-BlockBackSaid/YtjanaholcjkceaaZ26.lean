/- The walks of ecclesiaref03.Mix and ecclesiaref03.Sum: the same sum. -/
import Derived.Test.YtjanaholcjkceaaZ24
import Derived.Test.YtjanaholcjkceaaZ25
namespace Go.Proofs.Ytjanaholcjkceaa
set_option linter.unusedVariables false
set_option linter.unusedSimpArgs false
open Go.RowKit
structure RefMix (B : Nat) (w wr : World) (a : List W64) : Prop where
  bel : Below B w wr
  ra : WRow wr B a 131
  rres : WRow wr (B + 1) (List.replicate 25 0) 131
theorem RefMix.keep {B : Nat} {w wr w' : World} {a : List W64} (h : RefMix B w wr a) (hb : Below wr.heap.size wr w') : RefMix B w w' a :=
  ⟨h.bel.trans (hb.mono (by have := h.ra.lt; omega)), h.ra.keep hb h.ra.lt, h.rres.keep hb h.rres.lt⟩
theorem RefMix.row {B : Nat} {w wr : World} {a : List W64} (h : RefMix B w wr a) (l : List W64) : RefMix B w (wr.setRow B (wsC l)) l :=
  ⟨below_setRow h.bel (Nat.le_refl _) _, h.ra.row l, h.rres.rowOther (by omega) _⟩
end Go.Proofs.Ytjanaholcjkceaa
