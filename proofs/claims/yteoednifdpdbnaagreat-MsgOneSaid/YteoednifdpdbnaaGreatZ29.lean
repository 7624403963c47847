/- More steps over a call's own blocks: new slices; what lay there before a step is kept; of no program. -/
import Derived.Test.YteoednifdpdbnaaGreatZ28
import Derived.Test.YteoednifdpdbnaaGreatZ27
import Derived.TacticsInMore
import Derived.BigFrameIn
import Derived.RangeFuncCalls
namespace Go.Proofs.YteoednifdpdbnaaGreat
set_option linter.unusedVariables false
set_option linter.unusedSimpArgs false
open Go.RowKit
open Go.RowKit Go.Shelf
section
variable {P:Program} {ops:Array Oper} {Q:Exit→Act→World→Prop} {w0 w:World} {L L':List Blk} {g k:Nat} {cs:Array Value} {t:TypeId} {a:Act}
theorem qpe (late:Nat) {id:Nat} {l:List Oper} (n:Nat) (hM:Mem w0 w L) (hm:P.follows .mixedOrders=true) (VS:List Value) (AL:List Lays) {b:Act} (hb:putAll l VS a=b) (hVS:VS.length=n) (hB:freeL late l.toArray n (freeAl AL)=true) (hlate:late < n→lateB late l.toArray n=true∧(∀ p∈AL,p.i≠late)∧(∀ o,l.toArray[late]? = some o→Yields P l.toArray o (b.tmps.getD (o.dst.getD 0) undef) b)∧(∀ c a d v w,Q (.panic c) (Act.put a (some d) v) w→Q (.panic c) a w))
  (hgo:GoAll P l.toArray (fun w'=>Mem w0 w' L) b AL 0 (l.take n)) (hfin:∀ w' G,Below w.heap.size w w'→Mem w0 w' (AL.map (fun p=>(G p.i,p.cs,p.t)) ++ L)→wpList P l.toArray Q (l.drop n) (putLays G AL b) w'):(Code.region id l.toArray true).wp P Q a w:=by
 rw [qdn,hVS] at hb
 refine wp_region_any hm ?_
 have hn:n < l.toArray.size:=by
  have h:=hB
  simp only [freeL,Bool.and_eq_true,decide_eq_true_eq] at h
  exact h.1.1.1.1.1.1
 have hnod:(AL.map (·.i)).Nodup:=by
  have h:=hB
  simp only [freeL,Bool.and_eq_true,decide_eq_true_eq] at h
  simpa [freeAl,List.map_map,Function.comp_def] using h.1.2
 obtain ⟨s1,s2,s3⟩:=qdy (l.take n) VS a
 rw [hb] at s1 s2 s3
 have inv0:InvR l.toArray n (fun w'=>Mem w0 w' L) b AL w (Array.replicate l.toArray.size false) a { w with drawn:=w.drawn+1 } :=
  ⟨by simp,fun k _=>getD_replicate_false _ _,fun j o _ h=>absurd ((getD_replicate_false _ _).symm.trans h) (by decide),s1.symm,s2.symm,fun s _ hj=>(s3 s fun o ho e=>by
   obtain ⟨j,hjj⟩:=List.mem_iff_getElem?.1 ho
   have hjn:j < n:=by
    have:=(List.getElem?_eq_some_iff.1 hjj).1
    rw [List.length_take] at this;omega
   have h1:=hj j hjn (getD_replicate_false _ _)
   rw [List.getElem?_take,if_pos hjn] at hjj
   unfold dstB at h1
   simp [hjj,e] at h1).symm,hM.drew,(Below.refl _ w).drew,fun _=>0,fun p _ h=>absurd ((getD_replicate_false _ _).symm.trans h) (by decide),fun p _ q _ h=>absurd ((getD_replicate_false _ _).symm.trans h) (by decide)⟩
 have h:=qhf (Q:=Q) (b:=b) (w1:=w) late hB hlate (fun _ _ h hb=>Mem.call h hb) (by simpa using hgo) (fun w' G hS hbw hl hd=>by
  have:=hfin w' G hbw (hM.news hS G hnod hl hd)
  simpa using this) n _ a _ inv0 (qgy _ n)
 rwa [show n+(l.toArray.size - n)=l.toArray.size by omega] at h
variable {rest:List Oper} {op:Oper}
theorem wpl_newM {a':Nat→Act} (hM:Mem w0 w L) (hgd:Region.wanted op (yielded ops a.tmps)=true) {v:Nat→Value} (hrun:∀ w,(execOp a.eval op).run P w=.ok (.value (v w.heap.size)) (w.alloc (.cells cs t)))
  (h:∀ w' g,Mem w0 w' ((g,cs,t) :: L)→wpList P ops Q rest (a' g) w') (ha:∀ g,a.put op.dst (v g)=a' g:=by intro g;simp only [Act.put,List.setIfInBounds_toArray,List.set_cons_zero,List.set_cons_succ];rfl):wpList P ops Q (op :: rest) a w :=
 qa2 hgd fun K hK=>by
  unfold Oper.wp
  rw [hrun]
  exact hK _ _ (ha _ ▸ h _ _ (hM.alloc cs t))
theorem qeu (s:Nat) {a':Nat→Act} (hd:op.dst=some s) (hM:Mem w0 w L) (hgd:Region.wanted op (yielded ops a.tmps)=true) {v:Nat→Value} (hrun:∀ w,(execOp a.eval op).run P w=.ok (.value (v w.heap.size)) (w.alloc (.cells cs t)))
  (h:∀ w' g,Mem w0 w' ((g,cs,t) :: L)→wpList P ops Q rest (a' g) w') (ha:∀ g,a.put op.dst (v g)=a' g:=by intro g;simp only [Act.put,List.setIfInBounds_toArray,List.set_cons_zero,List.set_cons_succ];rfl):wpList P ops Q (op :: rest) a w :=
 wpl_newM hM hgd hrun h ha
theorem qqh {a':Act} (hM:Mem w0 w L) (hgd:Region.wanted op (yielded ops a.tmps)=true) {f:Nat} {xs:Array Operand} {ts:Array TypeId} (ho:op.op=.call { callee:=.value (.func f),args:=xs,argTypes:=ts }) (hf:Ent P f) {al:List Value} {v:Value}
  (hc:Calls P f al.toArray w fun e w'=>e=.returned v∧Below w.heap.size w w') (hx:xs.toList.map a.eval=al)
  (h:∀ w',Below w.heap.size w w'→Mem w0 w' L→wpList P ops Q rest a' w') (ha:a.put op.dst v=a':=by simp only [Act.put,List.setIfInBounds_toArray,List.set_cons_zero,List.set_cons_succ];rfl):wpList P ops Q (op :: rest) a w :=
 qa2 hgd fun K hK=>by
  unfold Oper.wp
  rw [qf6 (cap:=[]) ho rfl hf hx,List.append_nil]
  exact Calls.mono hc fun e w' ⟨h1,hb⟩=>by subst h1;exact hK _ _ (ha ▸ h w' hb (hM.call hb))
theorem qis {a':Nat→Act} (hM:Mem w0 w L) (hgd:Region.wanted op (yielded ops a.tmps)=true) (hrun:∀ ρ w,(execOp ρ op).run P w=.ok (.value (.pointer (some ⟨w.heap.size,0,none⟩))) (w.alloc (.cells cs t)))
  (h:∀ w' g,Below w.heap.size w w'→w.heap.size≤g→Mem w0 w' ((g,cs,t) :: L)→wpList P ops Q rest (a' g) w') (ha:∀ g,a.put op.dst (.pointer (some ⟨g,0,none⟩))=a' g:=by intro g;simp only [Act.put,List.setIfInBounds_toArray,List.set_cons_zero,List.set_cons_succ];rfl):wpList P ops Q (op :: rest) a w :=
 qa2 hgd fun K hK=>by
  unfold Oper.wp
  rw [hrun]
  exact hK _ _ (ha _ ▸ h _ _ ((Below.refl _ _).alloc qn _) qn (hM.alloc cs t))
theorem qgm {a':Act} (hM:Mem w0 w L) (hgd:Region.wanted op (yielded ops a.tmps)=true) {ty:TypeId} {x y:Operand} (ho:op.op=.store ty x y) {n:Nat} (T:AggT P ty n) (hx:a.eval x=.pointer (some ⟨g,0,none⟩)) {new:Array Value} (hy:a.eval y=.agg new)
  (hku:L[k]? = some (g,cs,t)∧L.set k (g,new,t)=L') (hn:new.size=n) (hc:cs.size=n) (h1:new.all (·.oneCell')=true)
  (h:∀ w',w'=w.setRow g new→Mem w0 w' L'→wpList P ops Q rest a' w') (ha:a.put op.dst undef=a':=by simp only [Act.put,List.setIfInBounds_toArray,List.set_cons_zero,List.set_cons_succ];rfl):wpList P ops Q (op :: rest) a w :=
 qa2 hgd fun _ hK=>wp_store_row ty x y ho g new hx hy t cs (hM.at_ hku.1) (by rw [T.size,hn]) (by rw [hc,hn]) h1 (hK _ _ (ha ▸ h _ rfl (hM.set hku.1 new hku.2)))
end
/-- a region of a round, its operations walked as everywhere -/
def noDefer (o:Oper):Bool:=match o.op with | .defer _=>false | _=>true
theorem qo6 {P:Program} {n l:Nat} {o:Oper} {a:Act} {K K':Act→World→Prop} {Q:Exit→Act→World→Prop} (hK:∀ a w,K a w→K' a w):∀ {r:Result Next},o.upon P a K Q r→o.uponIn (Fence.wide.inRound l) n P a K' Q r
 | .ok (.value v) w,h=>hK _ _ h
 | .ok .skip w,h=>hK _ _ h
 | .ok (.defer d) w,h=>hK _ _ h
 | .ok (.enter f args) w,h=>⟨fun h=>(by cases h),CallsIn.inRound l (callsIn_wide.2 (Calls.mono h fun e w' h'=>(by
   cases e with
   | returned v=>exact hK _ _ h'
   | panicked c=>exact h'
   | outgrown=>exact h')))⟩
 | .ok (.row row args) w,h=>⟨fun h=>(by cases h),fun c cs _=>let ⟨v,w',r,s⟩:=h c cs;⟨v,w',hK _ _ r,stepsIn_wide.2 s⟩⟩
 | .halt (.panic v) w,h=>h
theorem qgg {P:Program} {n l:Nat} {ops:Array Oper} {Q:Exit→Act→World→Prop} (hL:LetsOut Q→False):∀ (xs:List Oper) (a:Act) (w:World),xs.all noDefer=true→wpList P ops Q xs a w→wpListIn (Fence.wide.inRound l) n P ops Q xs a w
 | [],_,_,_,h=>h
 | o :: xs,a,w,hn,h=>by
  rw [List.all_cons,Bool.and_eq_true] at hn
  unfold wpList at h
  unfold wpListIn
  split
  ·rename_i hw
   rw [if_pos hw] at h
   refine ⟨fun _ _=>trivial,?_⟩
   rw [Oper.semAt_eq _ _ _ (fun c e=>by have:=hn.1;unfold noDefer at this;rw [e] at this;cases this)]
   exact qo6 (fun a w h=>qgg hL xs a w hn.2 h) (h.resolve_right fun h=>hL h.2)
  ·rename_i hw
   rw [if_neg hw] at h
   exact ⟨fun _ _=>trivial,qgg hL xs _ _ hn.2 h⟩
theorem qc7 {P:Program} {n l id:Nat} {xs:List Oper} {Q:Exit→Act→World→Prop} {a:Act} {w:World} (hL:LetsOut Q→False) (hn:xs.all noDefer=true) (h:wpList P xs.toArray Q xs a w):(Code.region id xs.toArray false).wpIn (Fence.wide.inRound l) n P Q a w:=by
 refine wpIn_region ?_
 have e:=wpOpsIn_eq_wpListIn (F:=Fence.wide.inRound l) (n:=n) (P:=P) (ops:=xs.toArray) (Q:=Q) xs 0 (fun j=>by simp)
 rw [List.range_eq_range',show xs.toArray.size=xs.length from rfl,e]
 exact qgg hL xs a w hn h
end Go.Proofs.YteoednifdpdbnaaGreat
