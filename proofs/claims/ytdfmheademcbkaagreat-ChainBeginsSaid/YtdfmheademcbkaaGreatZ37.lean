/- The walk of header.addrs. -/
import Derived.Test.YtdfmheademcbkaaGreatZ07
import Derived.Test.YtdfmheademcbkaaGreatZ36
import Derived.Test.YtdfmheademcbkaaGreatZ31
import Derived.WalkLawsBesides
namespace Go.Proofs.YtdfmheademcbkaaGreat
set_option linter.unusedVariables false
set_option linter.unusedSimpArgs false
open Go.RowKit
/-- what stands ahead of a place -/
def prevV (l:List Bytes):Nat→Option Bytes
 | 0=>none
 | i+1=>l[i]?
theorem riseV_step {l:List Bytes} {i:Nat} {a:Bytes} (h:l[i]? = some a):riseV (prevV l i) (l.drop i)=(a.length == 20 && (match prevV l i with | none=>true | some p=>lessB p a) && riseV (prevV l (i+1)) (l.drop (i+1))):=by
 rw [drop_cons h]
 show (a.length == 20 && _ && riseV (some a) _)=_
 rw [prevV,h]
 rfl
theorem riseV_none {l:List Bytes}:riseV (prevV l l.length) (l.drop l.length)=true:=by rw [List.drop_length];cases prevV l l.length <;> rfl
end Go.Proofs.YtdfmheademcbkaaGreat
