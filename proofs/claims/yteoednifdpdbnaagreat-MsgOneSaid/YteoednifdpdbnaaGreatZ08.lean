/- append onto a row of the call's own, as one step of a region that draws its order; of no program. -/
import Derived.Test.YteoednifdpdbnaaGreatZ04
import Derived.Deep.RegionLaw
import Derived.Deep.RegionHeld3
namespace Go.Proofs.YteoednifdpdbnaaGreat
set_option linter.unusedVariables false
set_option linter.unusedSimpArgs false
open Go.RowKit
section
variable {P:Program} {w:World}
theorem qpq {t e:TypeId} {z:Value} {size bytes:Nat} (E:ElemOk P t e z size bytes) {ops:Array Oper} {o:Oper} {a:Act} {K:Act→World→Prop} {Q:Exit→Act→World→Prop} {F:Prop} (hgd:o.guard=none) {s x:Operand}
  (ho:o.op=.call { callee:=.builtin .append,args:=#[s,x],argTypes:=#[t,t] }) (base:Nat)
  {v:Value} {n:Nat} {xs:List Value} (hown:w.ownsRow base e size v n xs) (hs:a.eval s=v)
  {A:Option Addr} {m c:Nat} (news:List Value) (hx:a.eval x=.slice A m c) (hl:news.length=m * size) (hA:Lies Any w A news) (h1:∀ u∈news,u.oneCell'=true)
  (h63:n+m≤maxLen) (hbytes:(n+m) * bytes≤140737488355328) (hbase:base≤w.heap.size)
  (h:∀ v' w',w'.ownsRow base e size v' (n+m) (xs ++ news)→w.grownBy w' v.ownBlock→(v'.ownBlock=v.ownBlock∨v'.ownBlock=some w.heap.size)→K (a.put o.dst v') w') :
  if Region.wanted o (yielded ops a.tmps)=true then Oper.wp P o a w K Q else F:=by
 have hw:Region.wanted o (yielded ops a.tmps)=true:=by simp [Region.wanted,hgd]
 rw [if_pos hw]
 obtain ⟨v',w',hr,h2,h3,h4⟩:=qei E o.type base v n xs hown A m c news hl hA h1 h63 hbytes hbase
 unfold Oper.wp execOp
 simp only [ho,resolve,invoke,builtin,Sem.run_bind,Sem.run_pure,Result.andThen_ok,List.map_toArray,List.map_cons,List.map_nil,hs,hx,hr]
 exact h v' w' h2 h3 h4
end
/- Regions that draw their order: a load may be taken first if every operation that writes its cell waits, by way of one, for the load; of no program. -/
theorem rf {w:World} {g:Nat} {cs:Array Value} {e:TypeId} (h:w.heap[g]? = some (.cells cs e (0,0))) (o:Nat):w.frozen? ⟨g,o,none⟩=false:=by simp [World.frozen?,h]
theorem rc {w:World} {g:Nat} {cs:Array Value} {e:TypeId} (h:w.heap[g]? = some (.cells cs e (0,0))) (j:Nat) {u:Value} (hj:cs[j]? = some u):w.cell? ⟨g,j,none⟩=some u:=by rw [cell_of_row _ _ _ _ _ _ h];exact hj
theorem rc0 {w:World} {g:Nat} {a b c:Value} {e:TypeId} (h:w.heap[g]? = some (.cells #[a,b,c] e (0,0))):w.cell? ⟨g,0,none⟩=some a:=rc h 0 rfl
theorem rc1 {w:World} {g:Nat} {a b c:Value} {e:TypeId} (h:w.heap[g]? = some (.cells #[a,b,c] e (0,0))):w.cell? ⟨g,1,none⟩=some b:=rc h 1 rfl
theorem rc2 {w:World} {g:Nat} {a b c:Value} {e:TypeId} (h:w.heap[g]? = some (.cells #[a,b,c] e (0,0))):w.cell? ⟨g,2,none⟩=some c:=rc h 2 rfl
/-- a number of an operation, and what holds of the world as long as it has not come up -/
abbrev Till:=Nat×(World→Prop)
def Meets (l:Array Bool) (w:World):List Till→Prop
 | []=>True
 | c :: cs=>(l.getD c.1 false=false→c.2 w)∧Meets l w cs
theorem Meets.here {l:Array Bool} {w:World} {c:Till} {cs:List Till} (h:c.2 w) (h1:Meets l w cs):Meets l w (c :: cs):=⟨fun _=>h,h1⟩
theorem Meets.past {l:Array Bool} {w:World} {c:Till} {cs:List Till} (h:l.getD c.1 false=true) (h1:Meets l w cs):Meets l w (c :: cs):=⟨fun h0=>absurd (h.symm.trans h0) (by decide),h1⟩
theorem Meets.nil {l:Array Bool} {w:World}:Meets l w []:=trivial
theorem qdc {l:Array Bool} {w:World} {R:List Till}:Meets l w R↔∀ c∈R,l.getD c.1 false=false→c.2 w:=by
 induction R with
 | nil=>simp [Meets]
 | cons c R ih=>simp [Meets,ih]
/-- operation m waits for i; or there is no m -/
def waitsB (md:Region.Mode) (ops:Array Oper) (m i:Nat):Bool :=
 match ops[m]? with
 | none=>true
 | some o=>o.after.any fun e=>Region.binds md e && e.on == i
section
variable {P:Program} {ops:Array Oper} {Q:Exit→Act→World→Prop} {md:Region.Mode} {R:List Till}
def wpAnyR (P:Program) (md:Region.Mode) (ops:Array Oper) (Q:Exit→Act→World→Prop) (R:List Till):Nat→Array Bool→Act→World→Prop
 | 0,listed,a,w=>Region.ready md ops listed = []∧Q .normal a w
 | fuel+1,listed,a,w =>
  (Region.ready md ops listed = []→Q .normal a w) ∧
  ∀ i∈Region.ready md ops listed,wpOp P ops Q i (fun a' w'=>Meets (listed.setIfInBounds i true) w' R∧wpAnyR P md ops Q R fuel (listed.setIfInBounds i true) a' w') a w
theorem qjb:∀ (fuel:Nat) (listed:Array Bool) (a:Act) (w:World),wpAnyR P md ops Q R fuel listed a w→wpAny P md ops Q fuel listed a w
 | 0,_,_,_,h=>h
 | fuel+1,_,_,_,h=>⟨h.1,fun i hi=>wpOp_mono (fun a' w' h'=>qjb fuel _ a' w' h'.2) (h.2 i hi)⟩
theorem qra {listed:Array Bool} {i j:Nat} (h:(listed.setIfInBounds i true).getD j false=false):listed.getD j false=false:=by
 cases hb:listed.getD j false with
 | false=>rfl
 | true=>rw [getD_set_true hb] at h;cases h
theorem Meets.less {listed:Array Bool} {i:Nat} {w:World} (h:Meets listed w R):Meets (listed.setIfInBounds i true) w R :=
 qdc.2 fun c hc hl=>qdc.1 h c hc (qra hl)
theorem qd5 {i:Nat} {oi:Oper} {v:Value} {S:World→Prop} {m:Nat} (hc:(m,S)∈R) (hm:waitsB md ops m i=true) (hni:∀ c∈R,c.1≠i) (hi:ops[i]? = some oi)
  (hsel:∀ (j:Nat) (o:Oper) cs b,ops[j]? = some o→o.op ≠ .select cs b) (hQ:∀ c a w,Q (.panic c) (a.put oi.dst v) w→Q (.panic c) a w) :
  ∀ (fuel:Nat) (listed:Array Bool) (a:Act) (w:World),listed.getD m false=false →
   (∀ j oj,ops[j]? = some oj→j≠i→listed.getD j true=false→(∀ e∈oj.after,Region.binds md e=true→e.on≠i)→oi.apart ops oj=true) →
   i∈Region.ready md ops listed→YieldsIf P ops S oi v a→Meets listed w R →
   wpAnyR P md ops Q R fuel (listed.setIfInBounds i true) (a.put oi.dst v) w→wpAnyR P md ops Q R (fuel+1) listed a w:=by
 intro fuel
 induction fuel with
 | zero =>
  intro listed a w hl hfree hr hy hS H
  refine ⟨fun h=>(by rw [h] at hr;cases hr),fun j hj=>?_⟩
  by_cases hji:j=i
  ·rw [hji];exact hy.wpOp hi (qdc.1 hS _ hc hl) ⟨hS.less,H⟩
  ·have h0:=ready_mono hj hji
   rw [H.1] at h0;cases h0
 | succ fuel ih =>
  intro listed a w hl hfree hr hy hS H
  refine ⟨fun h=>(by rw [h] at hr;cases hr),fun j hj=>?_⟩
  by_cases hji:j=i
  ·rw [hji];exact hy.wpOp hi (qdc.1 hS _ hc hl) ⟨hS.less,H⟩
  ·obtain ⟨u0,oj,hoj,hall⟩:=mem_ready.1 hj
   have hun:listed.getD i false=false:=by
    have h0:=(mem_ready.1 hr).1
    rcases Nat.lt_or_ge i listed.size with h' | h'
    ·simpa [h'] using h0
    ·simp [Array.getElem?_eq_none h']
   have hno:∀ e∈oj.after,Region.binds md e=true→e.on≠i:=fun e he hb heq=>by
    have h1:=hall e he hb
    rw [heq,hun] at h1;cases h1
   have hjm:j≠m:=fun e=>by
    subst e
    unfold waitsB at hm
    rw [hoj] at hm
    obtain ⟨x,hx,hb⟩:=Array.any_eq_true'.1 hm
    simp only [Bool.and_eq_true,beq_iff_eq] at hb
    exact hno x hx hb.1 hb.2
   have h2:=wpOp_putIf hoj (hfree j oj hoj hji u0 hno) (fun cs b=>hsel i oi cs b hi) (fun cs b=>hsel j oj cs b hoj) hQ hy (H.2 j (ready_mono hj hji))
   refine wpOp_mono (fun a' w' ⟨hy',hS',hW⟩=>?_) h2
   have hSj:Meets (listed.setIfInBounds j true) w' R:=qdc.2 fun c hcR hlc=>qdc.1 hS' c hcR (by
    rw [Array.setIfInBounds_comm _ _ (Ne.symm hji),getD_set_ne false (fun e=>hni c hcR e.symm)];exact hlc)
   refine ⟨hSj,ih _ a' w' (by rw [getD_set_ne false hjm];exact hl) (fun k ok hk hki hu hn=>hfree k ok hk hki ?_ hn) (ready_mono hr (Ne.symm hji)) hy' hSj ?_⟩
   ·by_cases hjk:j=k
    ·subst hjk;exact u0
    ·rwa [getD_set_ne true hjk] at hu
   ·rw [Array.setIfInBounds_comm _ _ hji];exact hW
def offB (R:List Till) (i:Nat):Bool:=R.all fun c=>c.1 != i
theorem qhn {i:Nat} (h:offB R i=true):∀ c∈R,c.1≠i:=fun c hc=>by
 have:=List.all_eq_true.1 h c hc
 simpa using this
/-- the begin -/
theorem qat {id:Nat} {a:Act} {w:World} (R:List Till) (hm:P.follows .mixedOrders=true)
  (h:wpAnyR P .any ops Q R ops.size (Array.replicate ops.size false) a w.drew):(Code.region id ops true).wp P Q a w :=
 wp_region_any hm (qjb _ _ _ _ h)
/-- a load under its condition -/
theorem qt8 {i:Nat} {oi:Oper} {v:Value} {fuel:Nat} {listed:Array Bool} {a:Act} {w:World} (m:Nat) (S:World→Prop) (hc:(m,S)∈R) (hi:ops[i]? = some oi) (hy:YieldsIf P ops S oi v a) (hS:Meets listed w R)
  (hQ:∀ c a w,Q (.panic c) (a.put oi.dst v) w→Q (.panic c) a w) (hm:waitsB md ops m i=true) (hni:offB R i=true) (hs:Region.noSelect ops=true) (hl:listed.getD m false=false) (hf:Region.free md ops listed i=true) (hr:(Region.ready md ops listed).contains i=true)
  (h:wpAnyR P md ops Q R fuel (listed.setIfInBounds i true) (a.put oi.dst v) w):wpAnyR P md ops Q R (fuel+1) listed a w :=
 qd5 hc hm (qhn hni) hi (Region.noSelect_spec hs) hQ fuel listed a w hl (Region.free_spec hi hf) (by simpa using hr) hy hS h
/-- without conditions -/
theorem qiw {fuel:Nat} {listed:Array Bool} {a:Act} {w:World} (c:Till) (hcm:∀ l w',Meets l w' R→Meets l w' (c :: R)) :
  wpAnyR P md ops Q R fuel listed a w→wpAnyR P md ops Q (c :: R) fuel listed a w:=by
 induction fuel generalizing listed a w with
 | zero=>exact id
 | succ fuel ih=>exact fun h=>⟨h.1,fun i hi=>wpOp_mono (fun a' w' h'=>⟨hcm _ _ h'.1,ih h'.2⟩) (h.2 i hi)⟩
/-- what yields in whatever world -/
theorem R_pure {i:Nat} {oi:Oper} {v:Value} {fuel:Nat} {listed:Array Bool} {a:Act} {w:World} (hi:ops[i]? = some oi) (hy:Region.wanted oi (yielded ops a.tmps)=true∧∀ w,(execOp a.eval oi).run P w=.ok (.value v) w)
  (hQ:∀ c a w,Q (.panic c) (a.put oi.dst v) w→Q (.panic c) a w) (hni:offB R i=true) (hs:Region.noSelect ops=true) (hln:listed.getD ops.size false=false) (hf:Region.free md ops listed i=true) (hr:(Region.ready md ops listed).contains i=true) (hS:Meets listed w R)
  (h:wpAnyR P md ops Q R fuel (listed.setIfInBounds i true) (a.put oi.dst v) w):wpAnyR P md ops Q R (fuel+1) listed a w:=by
 have key:wpAnyR P md ops Q ((ops.size,fun _=>True) :: R) (fuel+1) listed a w:=by
  refine qd5 (m:=ops.size) (S:=fun _=>True) (List.mem_cons_self ..) ?_ ?_ hi (Region.noSelect_spec hs) hQ fuel listed a w hln (Region.free_spec hi hf) (by simpa using hr) (.inl ⟨hy.1,fun w _=>hy.2 w⟩) ⟨fun _=>trivial,hS⟩ (qiw _ (fun l w' h=>⟨fun _=>trivial,h⟩) h)
  ·unfold waitsB;simp
  ·intro c hc
   rcases List.mem_cons.1 hc with rfl | hc
   ·have:=(qg hi)
    simp only [ne_eq];omega
   ·exact qhn hni c hc
 have drop:∀ (fuel:Nat) (listed:Array Bool) (a:Act) (w:World),wpAnyR P md ops Q ((ops.size,fun _=>True) :: R) fuel listed a w→wpAnyR P md ops Q R fuel listed a w:=by
  intro fuel
  induction fuel with
  | zero=>exact fun _ _ _ h=>h
  | succ fuel ih=>exact fun _ _ _ h=>⟨h.1,fun i hi=>wpOp_mono (fun a' w' h'=>⟨h'.1.2,ih _ _ _ h'.2⟩) (h.2 i hi)⟩
 exact drop _ _ _ _ key
def AllReadyR (P:Program) (md:Region.Mode) (ops:Array Oper) (Q:Exit→Act→World→Prop) (R:List Till) (fuel:Nat) (listed:Array Bool) (a:Act) (w:World) (rs:List Nat):Prop :=
 ∀ i∈rs,wpOp P ops Q i (fun a' w'=>Meets (listed.setIfInBounds i true) w' R∧wpAnyR P md ops Q R fuel (listed.setIfInBounds i true) a' w') a w
theorem AllReadyR.nil {fuel:Nat} {listed:Array Bool} {a:Act} {w:World}:AllReadyR P md ops Q R fuel listed a w []:=fun _ h=>by cases h
theorem AllReadyR.cons {fuel:Nat} {listed:Array Bool} {a:Act} {w:World} {i:Nat} {o:Oper} {rs:List Nat} (ho:ops[i]? = some o)
  (h:∀ K':Act→World→Prop,Shut (∀ a w,Meets (listed.setIfInBounds i true) w R→(Meets (listed.setIfInBounds i true) w R→wpAnyR P md ops Q R fuel (listed.setIfInBounds i true) a w)→K' a w)→if Region.wanted o (yielded ops a.tmps)=true then Oper.wp P o a w K' Q else K' (a.put o.dst undef) w)
  (hs:AllReadyR P md ops Q R fuel listed a w rs):AllReadyR P md ops Q R fuel listed a w (i :: rs):=fun j hj=>by
 rcases List.mem_cons.1 hj with rfl | hj
 ·exact wpOp_step ho fun K' hK=>h K' fun a w hS hW=>hK a w ⟨hS,hW hS⟩
 ·exact hs j hj
theorem qeh {rs:List Nat} {fuel:Nat} {listed:Array Bool} {a:Act} {w:World} (hr:Region.ready md ops listed=rs) (hne:rs ≠ [])
  (h:AllReadyR P md ops Q R fuel listed a w rs):wpAnyR P md ops Q R (fuel+1) listed a w:=⟨fun h0=>absurd (hr ▸ h0) hne,hr ▸ h⟩
theorem qbi {listed:Array Bool} {a:Act} {w:World} (hr:Region.ready md ops listed = []) (h:Q .normal a w):∀ fuel,wpAnyR P md ops Q R fuel listed a w
 | 0=>⟨hr,h⟩
 | _+1=>⟨fun _=>h,by rw [hr];simp⟩
end
/- An operation behind a guard that says no, in a region that draws its order; of no program. -/
section
variable {P:Program} {ops:Array Oper} {Q:Exit→Act→World→Prop} {md:Region.Mode} {R:List Till}
theorem R_skip {i:Nat} {oi:Oper} {fuel:Nat} {listed:Array Bool} {a:Act} {w:World} (hi:ops[i]? = some oi) (hy:Region.wanted oi (yielded ops a.tmps)=false)
  (hQ:∀ c a w,Q (.panic c) (a.put oi.dst undef) w→Q (.panic c) a w) (hni:offB R i=true) (hs:Region.noSelect ops=true) (hln:listed.getD ops.size false=false) (hf:Region.free md ops listed i=true) (hr:(Region.ready md ops listed).contains i=true) (hS:Meets listed w R)
  (h:wpAnyR P md ops Q R fuel (listed.setIfInBounds i true) (a.put oi.dst undef) w):wpAnyR P md ops Q R (fuel+1) listed a w:=by
 have key:wpAnyR P md ops Q ((ops.size,fun _=>True) :: R) (fuel+1) listed a w:=by
  refine qd5 (m:=ops.size) (S:=fun _=>True) (List.mem_cons_self ..) ?_ ?_ hi (Region.noSelect_spec hs) hQ fuel listed a w hln (Region.free_spec hi hf) (by simpa using hr) (.inr ⟨hy,rfl⟩) ⟨fun _=>trivial,hS⟩ (qiw _ (fun l w' h=>⟨fun _=>trivial,h⟩) h)
  ·unfold waitsB;simp
  ·intro c hc
   rcases List.mem_cons.1 hc with rfl | hc
   ·have:=(qg hi)
    simp only [ne_eq];omega
   ·exact qhn hni c hc
 have drop:∀ (fuel:Nat) (listed:Array Bool) (a:Act) (w:World),wpAnyR P md ops Q ((ops.size,fun _=>True) :: R) fuel listed a w→wpAnyR P md ops Q R fuel listed a w:=by
  intro fuel
  induction fuel with
  | zero=>exact fun _ _ _ h=>h
  | succ fuel ih=>exact fun _ _ _ h=>⟨h.1,fun i hi=>wpOp_mono (fun a' w' h'=>⟨h'.1.2,ih _ _ _ h'.2⟩) (h.2 i hi)⟩
 exact drop _ _ _ _ key
end
/- The steps of regions that draw their order, in short: what they ask is shown where it stands; of no program. -/
section
variable {P:Program} {ops:Array Oper} {Q:Exit→Act→World→Prop} {md:Region.Mode} {R:List Till} {S:World→Prop}
def okR (md:Region.Mode) (ops:Array Oper) (R:List Till) (listed:Array Bool) (i:Nat):Bool:=offB R i && Region.noSelect ops && !(listed.getD ops.size false) && Region.free md ops listed i && (Region.ready md ops listed).contains i
theorem qnj {listed:Array Bool} {i:Nat} (h:okR md ops R listed i=true):offB R i=true∧Region.noSelect ops=true∧listed.getD ops.size false=false∧Region.free md ops listed i=true∧(Region.ready md ops listed).contains i=true:=by
 unfold okR at h
 simp only [Bool.and_eq_true,Bool.not_eq_true'] at h
 exact ⟨h.1.1.1.1,h.1.1.1.2,h.1.1.2,h.1.2,h.2⟩
theorem R_p {i:Nat} {oi:Oper} {v:Value} {fuel:Nat} {listed:Array Bool} {a a':Act} {w:World} (hS:Meets listed w R) (h:wpAnyR P md ops Q R fuel (listed.setIfInBounds i true) a' w)
  (hi:ops[i]? = some oi:=by rfl) (hw:Region.wanted oi (yielded ops a.tmps)=true:=by rfl) (hy:∀ w,(execOp a.eval oi).run P w=.ok (.value v) w:=by intro w';go_simp)
  (hQ:∀ c a w,Q (.panic c) (a.put oi.dst v) w→Q (.panic c) a w:=by exact fun _ _ _ h=>h) (hk:okR md ops R listed i=true:=by kernel_rfl)
  (ha:a.put oi.dst v=a':=by simp only [Act.put,List.setIfInBounds_toArray,List.set_cons_zero,List.set_cons_succ,List.getElem_toArray,List.getElem_cons_zero,List.getElem_cons_succ];rfl):wpAnyR P md ops Q R (fuel+1) listed a w:=by
 subst ha
 obtain ⟨k1,k2,k3,k4,k5⟩:=qnj hk
 exact R_pure hi ⟨hw,hy⟩ hQ k1 k2 k3 k4 k5 hS h
theorem R_s {i:Nat} {oi:Oper} {fuel:Nat} {listed:Array Bool} {a a':Act} {w:World} (hS:Meets listed w R) (h:wpAnyR P md ops Q R fuel (listed.setIfInBounds i true) a' w)
  (hi:ops[i]? = some oi:=by rfl) (hw:Region.wanted oi (yielded ops a.tmps)=false:=by kernel_rfl)
  (hQ:∀ c a w,Q (.panic c) (a.put oi.dst undef) w→Q (.panic c) a w:=by exact fun _ _ _ h=>h) (hk:okR md ops R listed i=true:=by kernel_rfl)
  (ha:a.put oi.dst undef=a':=by simp only [Act.put,List.setIfInBounds_toArray,List.set_cons_zero,List.set_cons_succ,List.getElem_toArray,List.getElem_cons_zero,List.getElem_cons_succ];rfl):wpAnyR P md ops Q R (fuel+1) listed a w:=by
 subst ha
 obtain ⟨k1,k2,k3,k4,k5⟩:=qnj hk
 exact R_skip hi hw hQ k1 k2 k3 k4 k5 hS h
theorem R_l {i:Nat} {oi:Oper} {v:Value} {fuel:Nat} {listed:Array Bool} {a a':Act} {w:World} (m:Nat) (S:World→Prop) (hc:(m,S)∈R) (hi:ops[i]? = some oi) (hy:YieldsIf P ops S oi v a) (hS:Meets listed w R) (h:wpAnyR P md ops Q R fuel (listed.setIfInBounds i true) a' w)
  (hQ:∀ c a w,Q (.panic c) (a.put oi.dst v) w→Q (.panic c) a w:=by exact fun _ _ _ h=>h)
  (hk:(waitsB md ops m i && offB R i && Region.noSelect ops && !(listed.getD m false) && Region.free md ops listed i && (Region.ready md ops listed).contains i)=true:=by kernel_rfl)
  (ha:a.put oi.dst v=a':=by simp only [Act.put,List.setIfInBounds_toArray,List.set_cons_zero,List.set_cons_succ,List.getElem_toArray,List.getElem_cons_zero,List.getElem_cons_succ];rfl):wpAnyR P md ops Q R (fuel+1) listed a w:=by
 subst ha
 simp only [Bool.and_eq_true,Bool.not_eq_true'] at hk
 exact qt8 m S hc hi hy hS hQ hk.1.1.1.1.1 hk.1.1.1.1.2 hk.1.1.1.2 hk.1.1.2 hk.1.2 hk.2 h
theorem R_now (i:Nat) {o:Oper} {fuel:Nat} {listed:Array Bool} {a:Act} {w:World}
  (h:∀ K':Act→World→Prop,Shut (∀ a w,Meets (listed.setIfInBounds i true) w R→(Meets (listed.setIfInBounds i true) w R→wpAnyR P md ops Q R fuel (listed.setIfInBounds i true) a w)→K' a w)→if Region.wanted o (yielded ops a.tmps)=true then Oper.wp P o a w K' Q else K' (a.put o.dst undef) w)
  (ho:ops[i]? = some o:=by rfl) (hr:Region.ready md ops listed = [i]:=by kernel_rfl):wpAnyR P md ops Q R (fuel+1) listed a w :=
 qeh hr (by simp) (AllReadyR.cons ho h AllReadyR.nil)
theorem lay_R {fuel:Nat} {listed:Array Bool} {a a':Act} {w:World} (h:wpAnyR P md ops Q R fuel listed a' w)
  (ha:a=a':=by first | (simp only [Act.put,List.setIfInBounds_toArray,List.set_cons_zero,List.set_cons_succ,List.getElem_toArray,List.getElem_cons_zero,List.getElem_cons_succ];rfl) | rfl):wpAnyR P md ops Q R fuel listed a w:=ha ▸ h
theorem H_t {i:Nat} {oi:Oper} {v:Value} {fuel:Nat} {listed:Array Bool} {a a':Act} {w:World} (hi:ops[i]? = some oi) (hy:YieldsIf P ops S oi v a) (hS:S w) (h:wpAnyH P md ops Q S fuel (listed.setIfInBounds i true) a' w)
  (hk:(Region.noSelect ops && Region.free md ops listed i && (Region.ready md ops listed).contains i)=true:=by kernel_rfl) (hQ:∀ c a w,Q (.panic c) (a.put oi.dst v) w→Q (.panic c) a w:=by exact fun _ _ _ h=>h)
  (ha:a.put oi.dst v=a':=by simp only [Act.put,List.setIfInBounds_toArray,List.set_cons_zero,List.set_cons_succ,List.getElem_toArray,List.getElem_cons_zero,List.getElem_cons_succ];rfl):wpAnyH P md ops Q S (fuel+1) listed a w:=by
 subst ha
 simp only [Bool.and_eq_true] at hk
 exact wpAnyH_take hi hk.1.1 hk.1.2 hk.2 hQ hy hS h
theorem lay_H {fuel:Nat} {listed:Array Bool} {a a':Act} {w:World} (h:wpAnyH P md ops Q S fuel listed a' w)
  (ha:a=a':=by first | (simp only [Act.put,List.setIfInBounds_toArray,List.set_cons_zero,List.set_cons_succ,List.getElem_toArray,List.getElem_cons_zero,List.getElem_cons_succ];rfl) | rfl):wpAnyH P md ops Q S fuel listed a w:=ha ▸ h
theorem H_now (i:Nat) {o:Oper} {fuel:Nat} {listed:Array Bool} {a:Act} {w:World}
  (h:∀ K':Act→World→Prop,Shut (∀ a w,S w→(S w→wpAnyH P md ops Q S fuel (listed.setIfInBounds i true) a w)→K' a w)→if Region.wanted o (yielded ops a.tmps)=true then Oper.wp P o a w K' Q else K' (a.put o.dst undef) w)
  (ho:ops[i]? = some o:=by rfl) (hr:Region.ready md ops listed = [i]:=by kernel_rfl):wpAnyH P md ops Q S (fuel+1) listed a w :=
 wpAnyH_ready hr (by simp) (AllReadyH.cons ho h AllReadyH.nil)
end
theorem Mh {l:Array Bool} {w:World} {c:Till} {cs:List Till} (h:c.2 w) (h1:Meets l w cs):Meets l w (c :: cs):=Meets.here h h1
theorem Mn {l:Array Bool} {w:World}:Meets l w []:=trivial
end Go.Proofs.YteoednifdpdbnaaGreat
