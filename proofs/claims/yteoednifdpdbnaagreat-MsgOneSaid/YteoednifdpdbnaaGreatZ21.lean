/- The walk of sums.add. -/
import Derived.Test.YteoednifdpdbnaaGreatZ20
import Derived.Test.YteoednifdpdbnaaGreatZ17
import Derived.Test.YteoednifdpdbnaaGreatZ18
import Derived.Test.YteoednifdpdbnaaGreatZ08
import Derived.Test.YteoednifdpdbnaaGreatZ03
import Derived.Laws.Cover1
namespace Go.Proofs.YteoednifdpdbnaaGreat
set_option linter.unusedVariables false
set_option linter.unusedSimpArgs false
open Go.RowKit
theorem ItemV.any {S:Nat→Prop} {w:World} {x:Item} {A:Option Addr} {c:Nat} (h:ItemV S w x A c):ItemV Any w x A c:=h.mono fun _ _ _=>⟨trivial,rfl⟩
/- The walks of the reference's trie: Put, Get, common. -/
theorem qjy:∀ a b:Bytes,Op.bytesLess a b=lessB a b
 | [],[]=>rfl
 | _ :: _,[]=>rfl
 | [],_ :: _=>rfl
 | a :: x,b :: y=>by rw [Op.bytesLess,lessB,qjy x y]
/- The walks of the reference's trie: Get, common, cut, parts. -/
def noneYet (l:List KV) (k:Bytes) (i:Nat):Prop:=∀ p∈l.take i,p.1≠k
theorem noneYet.step {l:List KV} {k:Bytes} {i:Nat} {p:KV} (h:noneYet l k i) (hp:l[i]? = some p) (hk:p.1≠k):noneYet l k (i+1):=fun q hq=>by
 rw [qbk hp] at hq
 rcases List.mem_append.1 hq with hq | hq
 ·exact h q hq
 ·rw [List.mem_singleton] at hq;subst hq;exact hk
end Go.Proofs.YteoednifdpdbnaaGreat
