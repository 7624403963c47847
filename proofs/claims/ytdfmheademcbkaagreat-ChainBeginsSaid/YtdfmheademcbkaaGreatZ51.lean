/- A law's row out of its walk: of no law. -/
import Derived.Test.YtdfmheademcbkaaGreatZ50
import Derived.Test.YtdfmheademcbkaaGreatProg
namespace Go.Proofs.YtdfmheademcbkaaGreat
set_option linter.unusedVariables false
set_option linter.unusedSimpArgs false
open Go.ChangeShapes Go.WideShapes Go.ChangeAt Go.RowKit
theorem lawOwn:ownKnob Tryz.prog.godebug=none:=by kernel_rfl
theorem lawLaid:laidOutB Tryz.prog=true:=by kernel_rfl
section
variable {H:Type} {enc:TypeId×Value→H} {P:Program}
theorem law_contract {fn:Func} {s:ChangeSpec} {tb:TypeId} {f:FuncId} {W:World} {args:Array Value} {ds gs:List (DataW H)} {before:List MemPlace} (hl:laidOutB P=true)
  (hr:fn.params.toList.all (fun t=>P.readableRec t && decide (t < P.types.size))=true) (hrt:fn.resultTypes=#[tb]) (htb:P.underlying tb=some .bool) (hvars:s.vars = [])
  (hs:∀ ds:List (DataW H),ds.length=fn.params.size→s.fn H ds = { results:=[.lit (.bool true)],args:=ds })
  (hW:DataW.Whole enc P fn.params.toList s.vars false W args.toList ds gs before)
  (walk:∀ p,DataW.TrodAll enc P W 0 (fun _=>true) true fn.params.toList args.toList ds p→Calls P f args W fun e W'=>e=.returned (.bool true)∧Below W.heap.size W W') :
  Calls P f args W fun e W'=>∃ v,e=.returned v∧s.post enc P fn false true false false W args v W':=by
 have hW':=hW
 obtain ⟨p,q,hA,hV,rfl,_,_⟩:=hW
 rw [hvars] at hV
 obtain ⟨rfl,rfl⟩:=trodVars_none hV
 have hlt:∀ x∈p,x.block < W.heap.size:=fun x hx=>by simpa using hW'.lt x (by simp [hx])
 refine (walk p hA).mono fun e W' ⟨he,hb⟩=>⟨_,he,?_⟩
 have hlen:ds.length=fn.params.size:=by
  have:∀ (ts:List TypeId) (vs:List Value) (ds:List (DataW H)) (ps:List MemPlace),DataW.TrodAll enc P W 0 (fun _=>true) true ts vs ds ps→ds.length=ts.length:=fun ts=>by
   induction ts with
   | nil=>intro vs ds ps h;obtain ⟨_,rfl,_⟩:=trodAll_nil h;rfl
   | cons t ts ih=>intro vs ds ps h;obtain ⟨_,_,_,_,_,_,_,rfl,_,_,h1⟩:=trodAll_cons h;simp [ih _ _ _ h1]
  rw [this _ _ _ _ hA,Array.length_toList]
 have e1:=hs ds hlen
 refine ⟨ds,[],p ++ [],[] ++ [],p,[],hW',?_,?_,?_,hb.frame _,fun h=>by cases h⟩
 ·rw [List.append_nil,e1,hrt]
  exact trodAll_mk1 (shut_bool htb true)
 ·rw [List.append_nil,e1]
  refine trodAll_below hl hb (fun t ht=>?_) hA hlt
  have:=List.all_eq_true.1 hr t ht
  simpa using this
 ·rw [List.append_nil,e1,hvars]
  exact rfl
end
end Go.Proofs.YtdfmheademcbkaaGreat
