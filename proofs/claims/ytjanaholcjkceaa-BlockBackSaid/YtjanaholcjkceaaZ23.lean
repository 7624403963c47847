/- The walks of the reference's trie: Put, Get, common. -/
import Derived.Test.YtjanaholcjkceaaZ22
import Derived.Test.YtjanaholcjkceaaZ03
import Derived.Test.YtjanaholcjkceaaZ06
import Derived.Laws.Cover1
namespace Go.Proofs.Ytjanaholcjkceaa
set_option linter.unusedVariables false
set_option linter.unusedSimpArgs false
open Go.RowKit
theorem lessB_eq : ∀ a b : Bytes, Op.bytesLess a b = lessB a b
  | [], [] => rfl
  | _ :: _, [] => rfl
  | [], _ :: _ => rfl
  | a :: x, b :: y => by rw [Op.bytesLess, lessB, lessB_eq x y]
end Go.Proofs.Ytjanaholcjkceaa
