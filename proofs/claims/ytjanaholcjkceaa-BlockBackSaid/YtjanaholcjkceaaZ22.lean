/- The walk of sums.add. -/
import Derived.Test.YtjanaholcjkceaaZ16
import Derived.Test.YtjanaholcjkceaaZ20
import Derived.Test.YtjanaholcjkceaaZ21
namespace Go.Proofs.Ytjanaholcjkceaa
set_option linter.unusedVariables false
set_option linter.unusedSimpArgs false
open Go.RowKit
theorem ItemV.any {S : Nat → Prop} {w : World} {x : Item} {A : Option Addr} {c : Nat} (h : ItemV S w x A c) : ItemV Any w x A c := h.mono fun _ _ _ => ⟨trivial, rfl⟩
end Go.Proofs.Ytjanaholcjkceaa
