/- The walks of the reference's trie: Put, Get, common. -/
import Derived.Test.YtjanaholcjkceaaGreatZ15
import Derived.Test.YtjanaholcjkceaaGreatZ19
import Derived.Test.YtjanaholcjkceaaGreatZ22
import Derived.Test.YtjanaholcjkceaaGreatZ03
import Derived.Test.YtjanaholcjkceaaGreatZ05
import Derived.Lib.Bytealg
import Derived.Laws.Cover1
namespace Go.Proofs.YtjanaholcjkceaaGreat
set_option linter.unusedVariables false
set_option linter.unusedSimpArgs false
open Go.RowKit
theorem lessB_eq:∀ a b:Bytes,Op.bytesLess a b=lessB a b
 | [],[]=>rfl
 | _ :: _,[]=>rfl
 | [],_ :: _=>rfl
 | a :: x,b :: y=>by rw [Op.bytesLess,lessB,lessB_eq x y]
end Go.Proofs.YtjanaholcjkceaaGreat
