/- ecclesialaw14.TxBytes: for every transfer and every text the law returns true, and its arguments read behind the call as they read before. No condition. -/
import Derived.Test.YteoednifdpdbnaaGreatZ06
import Derived.Test.YteoednifdpdbnaaGreatZ54
import Derived.Test.YteoednifdpdbnaaGreatRows
namespace Go.Proofs.YteoednifdpdbnaaGreat
set_option linter.unusedVariables false
set_option linter.unusedSimpArgs false
set_option maxRecDepth 100000
open Go.ChangeShapes Go.WideShapes Go.ChangeAt Go.RowKit
open Go.ChangeMaps (open_string shut_string)
theorem txBytes_walk {H:Type} {enc:TypeId×Value→H} {W:World} {base:Nat} {args:Array Value} {ds:List (DataW H)} {p:List MemPlace}
  (hval:∀ (j:Nat) t v,#[28,9][j]? = some t→args[j]? = some v→Value.okWide Tryz.prog W .any base t v)
  (hA:DataW.TrodAll enc Tryz.prog W 0 (fun _=>true) true [28,9] args.toList ds p) :
  Calls Tryz.prog 3 args W fun e W'=>e=.returned (.bool true)∧Below W.heap.size W W':=by
 obtain ⟨v0,v1,d0,d1,p0,p1,rfl,rfl,rfl,h0,h1⟩:=trodAll_two hA
 obtain ⟨t,rfl,hw,hl⟩:=tr_argE (hval 0 28 v0 rfl rfl) h0
 obtain ⟨s,rfl,_,_,hsl⟩:=open_string Tryz.underlying9 (hval 1 9 v1 rfl rfl) h1
 have h:=qni t hw hl s.data.toList (le63E (by simpa using hsl)) W
 rw [qum] at h
 exact h
theorem txBytes_lifted (os:Os) (started:os.Started) (H:Type) (enc:TypeId×Value→H) :
  ReturnsInHanded {} Tryz.checked os 3 .any (Rows.txBytesSpec.pre6 enc Tryz.prog Tryz.f3 Rows.txBytesRow.domain false) (Rows.txBytesSpec.post enc Tryz.prog Tryz.f3 false true false false):=by
 refine returnsInHanded_of_change (C:=Tryz.checked) lawOwn started (by kernel_rfl) Tryz.func3
  (ChangeSpec.witness6 (enc:=enc) (C:=Tryz.checked) false ⟨#[],#[.agg zqT,.string ⟨#[]⟩],[]⟩ 8 (by kernel_rfl) (by kernel_rfl) (by kernel_rfl) (by kernel_rfl)) ?_
 intro W base args ds gs before hval hW _ _
 refine qlo (tb:=4) lawLaid (by kernel_rfl) (by kernel_rfl) Tryz.underlying4 rfl ?_ hW ?_
 ·intro ds h
  match ds,h with
  | [d1,d2],_=>rfl
 ·intro p hA
  exact txBytes_walk hval hA
theorem txBytes_holds:Rows.TxBytesSaid :=
 OpenClaim.holds_of_wide 3 Tryz.f3 rfl rfl rfl rfl rfl rfl rfl ⟨rfl,rfl,rfl,rfl,rfl⟩ rfl rfl rfl rfl rfl (by kernel_rfl) Tryz.func3 (by kernel_rfl)
  (of_decide_eq_true (by kernel_rfl)) (by unfold Func.isWrapper;rw [if_neg (of_decide_eq_false (by kernel_rfl))];exact ⟨rfl,rfl⟩)
  (fun os started H enc _=>txBytes_lifted os started H enc)
#print axioms txBytes_holds
end Go.Proofs.YteoednifdpdbnaaGreat
