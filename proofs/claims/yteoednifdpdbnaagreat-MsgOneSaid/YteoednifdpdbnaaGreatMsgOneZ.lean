/- ecclesialaw21.MsgOne: for every two messages the law returns true, and its arguments read behind the call as they read before. No condition. -/
import Derived.Test.YteoednifdpdbnaaGreatZ53
import Derived.Test.YteoednifdpdbnaaGreatZ54
import Derived.Test.YteoednifdpdbnaaGreatRows
namespace Go.Proofs.YteoednifdpdbnaaGreat
set_option linter.unusedVariables false
set_option linter.unusedSimpArgs false
set_option maxRecDepth 100000
open Go.ChangeShapes Go.WideShapes Go.ChangeAt Go.RowKit
theorem qmd {H:Type} {enc:TypeId×Value→H} {W:World} {base:Nat} {args:Array Value} {ds:List (DataW H)} {p:List MemPlace}
  (hval:∀ (j:Nat) t v,#[43,43][j]? = some t→args[j]? = some v→Value.okWide Tryz.prog W .any base t v)
  (hA:DataW.TrodAll enc Tryz.prog W 0 (fun _=>true) true [43,43] args.toList ds p) :
  Calls Tryz.prog 4 args W fun e W'=>e=.returned (.bool true)∧Below W.heap.size W W':=by
 obtain ⟨v0,v1,d0,d1,p0,p1,rfl,rfl,rfl,h0,h1⟩:=trodAll_two hA
 obtain ⟨m,Ac,Ap,cc,cp,rfl,hc,hp,hm⟩:=ms_arg (hval 0 43 v0 rfl rfl) h0
 obtain ⟨u,Bc,Bp,dc,dp,rfl,hc',hp',hu⟩:=ms_arg (hval 1 43 v1 rfl rfl) h1
 exact qoy m u hm hu Ac Ap Bc Bp cc cp dc dp W hc hp hc' hp'
theorem qjt (os:Os) (started:os.Started) (H:Type) (enc:TypeId×Value→H) :
  ReturnsInHanded {} Tryz.checked os 4 .any (Rows.msgOneSpec.pre6 enc Tryz.prog Tryz.f4 Rows.msgOneRow.domain false) (Rows.msgOneSpec.post enc Tryz.prog Tryz.f4 false true false false):=by
 refine returnsInHanded_of_change (C:=Tryz.checked) lawOwn started (by kernel_rfl) Tryz.func4
  (ChangeSpec.witness6 (enc:=enc) (C:=Tryz.checked) false ⟨#[],#[.agg #[.int .u64 0,.int .u64 0,.int .u64 0,.string ⟨#[]⟩,.int .u64 0,.int .u64 0,.int .u64 0,.int .u64 0,.int .u64 0,.int .u64 0,.int .u64 0,.int .u64 0,.int .u64 0,.int .i64 0,.int .u64 0,.int .u64 0,.int .u64 0,.int .u64 0,.int .u64 0,.int .u64 0,.int .u64 0,.int .u64 0,.int .i64 0,.string ⟨#[]⟩,.slice none 0 0,.slice none 0 0],.agg #[.int .u64 0,.int .u64 0,.int .u64 0,.string ⟨#[]⟩,.int .u64 0,.int .u64 0,.int .u64 0,.int .u64 0,.int .u64 0,.int .u64 0,.int .u64 0,.int .u64 0,.int .u64 0,.int .i64 0,.int .u64 0,.int .u64 0,.int .u64 0,.int .u64 0,.int .u64 0,.int .u64 0,.int .u64 0,.int .u64 0,.int .i64 0,.string ⟨#[]⟩,.slice none 0 0,.slice none 0 0]],[]⟩ 8 (by kernel_rfl) (by kernel_rfl) (by kernel_rfl) (by kernel_rfl)) ?_
 intro W base args ds gs before hval hW _ _
 refine ql7 (tb:=4) lawLaid (by kernel_rfl) (by kernel_rfl) Tryz.underlying4 rfl ?_ hW ?_
 ·intro ds h
  match ds,h with
  | [d1,d2],_=>rfl
 ·intro p hA
  exact qmd hval hA
theorem msgOne_holds:Rows.MsgOneSaid :=
 OpenClaim.holds_of_wide 4 Tryz.f4 rfl rfl rfl rfl rfl rfl rfl ⟨rfl,rfl,rfl,rfl,rfl⟩ rfl rfl rfl rfl rfl (by kernel_rfl) Tryz.func4 (by kernel_rfl)
  (of_decide_eq_true (by kernel_rfl)) (by unfold Func.isWrapper;rw [if_neg (of_decide_eq_false (by kernel_rfl))];exact ⟨rfl,rfl⟩)
  (fun os started H enc _=>qjt os started H enc)
#print axioms msgOne_holds
end Go.Proofs.YteoednifdpdbnaaGreat
