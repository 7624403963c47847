/- Memory of a call's own as a list of blocks; the walk's steps over it, and regions that draw their order; of no program. -/
import Derived.Test.YteoednifdpdbnaaGreatZ08
import Derived.Test.YteoednifdpdbnaaGreatZ22
import Derived.Laws.Rows
import Derived.Laws.Tables
import Derived.Shelf.Abstract
import Derived.StillTail
namespace Go.Proofs.YteoednifdpdbnaaGreat
set_option linter.unusedVariables false
set_option linter.unusedSimpArgs false
open Go.RowKit
open Go.RowKit Go.Shelf
/-- a block: where it lies, its cells, its type -/
abbrev Blk:=Nat×Array Value×TypeId
/-- what a call has laid since it began in w0 -/
structure Mem (w0 w:World) (L:List Blk):Prop where
 below:Below w0.heap.size w0 w
 rows:∀ p∈L,w.heap[p.1]? = some (.cells p.2.1 p.2.2 (0,0))∧w0.heap.size≤p.1
 apart:(L.map (·.1)).Nodup
section
variable {w0 w w':World} {L L':List Blk} {g:Nat} {cs new:Array Value} {t:TypeId} {k:Nat}
theorem Mem.nil (w:World):Mem w w []:=⟨Below.refl _ _,fun p h=>absurd h List.not_mem_nil,List.nodup_nil⟩
theorem at0 {α:Type} {p:α} {l:List α}:(p :: l)[0]? = some p:=rfl
theorem at1 {α:Type} {p a:α} {l:List α}:(a :: p :: l)[1]? = some p:=rfl
theorem at2 {α:Type} {p a b:α} {l:List α}:(a :: b :: p :: l)[2]? = some p:=rfl
theorem at3 {α:Type} {p a b c:α} {l:List α}:(a :: b :: c :: p :: l)[3]? = some p:=rfl
theorem at4 {α:Type} {p a b c d:α} {l:List α}:(a :: b :: c :: d :: p :: l)[4]? = some p:=rfl
theorem Mem.at_ (h:Mem w0 w L) (hk:L[k]? = some (g,cs,t)):w.heap[g]? = some (.cells cs t (0,0)):=(h.rows _ (List.mem_of_getElem? hk)).1
theorem Mem.ge (h:Mem w0 w L) (hk:L[k]? = some (g,cs,t)):w0.heap.size≤g:=(h.rows _ (List.mem_of_getElem? hk)).2
theorem Mem.lt (h:Mem w0 w L) {p:Blk} (hp:p∈L):p.1 < w.heap.size:=(qg (h.rows p hp).1)
theorem Mem.ne (h:Mem w0 w L) {j g':Nat} {cs':Array Value} {t':TypeId} (hk:L[k]? = some (g,cs,t)) (hj:L[j]? = some (g',cs',t')) (hne:k≠j):g≠g':=fun e=>by
 have h1:(L.map (·.1))[k]? = some g:=by simp [hk]
 have h2:(L.map (·.1))[j]? = some g:=by simp [hj,e]
 obtain ⟨l1,e1⟩:=List.getElem?_eq_some_iff.1 h1
 obtain ⟨l2,e2⟩:=List.getElem?_eq_some_iff.1 h2
 exact hne ((List.getElem_inj h.apart).1 (e1.trans e2.symm))
theorem Mem.drew (h:Mem w0 w L):Mem w0 w.drew L:=⟨h.below.drew,h.rows,h.apart⟩
theorem Mem.call (h:Mem w0 w L) (hb:Below w.heap.size w w'):Mem w0 w' L :=
 ⟨qac h.below h.below.size hb,fun p hp=>⟨(hb.block _ (h.lt hp)).trans (h.rows p hp).1,(h.rows p hp).2⟩,h.apart⟩
theorem Mem.alloc (h:Mem w0 w L) (cs:Array Value) (t:TypeId):Mem w0 (w.alloc (.cells cs t)) ((w.heap.size,cs,t) :: L) :=
 ⟨h.below.alloc h.below.size _,fun p hp=>by
  rcases List.mem_cons.1 hp with rfl | hp
  ·exact ⟨heap_alloc_new _ _,h.below.size⟩
  ·exact ⟨(heap_alloc_old _ _ (h.lt hp)).trans (h.rows p hp).1,(h.rows p hp).2⟩,by
  rw [List.map_cons,List.nodup_cons]
  refine ⟨fun hm=>?_,h.apart⟩
  obtain ⟨p,hp,he⟩:=List.mem_map.1 hm
  have:=h.lt hp
  omega⟩
/-- one block is written anew -/
theorem Mem.write (h:Mem w0 w L) (hk:L[k]? = some (g,cs,t)) (hg:w'.heap[g]? = some (.cells new t (0,0))) (ho:∀ b,b≠g→w'.heap[b]? = w.heap[b]?) (hb:Below w0.heap.size w0 w'):Mem w0 w' (L.set k (g,new,t)):=by
 have hkl:=(List.getElem?_eq_some_iff.1 hk).1
 have hm:(L.set k (g,new,t)).map (·.1)=L.map (·.1):=by
  rw [List.map_set]
  have:(L.map (·.1))[k]? = some g:=by simp [hk]
  obtain ⟨hl,he⟩:=List.getElem?_eq_some_iff.1 this
  have h2:=@List.set_getElem_self _ (L.map (·.1)) k hl
  rw [he] at h2
  exact h2
 refine ⟨hb,fun p hp=>?_,by rw [hm];exact h.apart⟩
 obtain ⟨j,hj⟩:=List.mem_iff_getElem?.1 hp
 by_cases e:k=j
 ·subst e
  rw [List.getElem?_set_self hkl] at hj
  cases hj
  exact ⟨hg,h.ge hk⟩
 ·rw [List.getElem?_set_ne e] at hj
  have hpL:=List.mem_of_getElem? hj
  refine ⟨(ho _ fun he=>?_).trans (h.rows p hpL).1,(h.rows p hpL).2⟩
  have h1:(L.map (·.1))[k]? = some g:=by simp [hk]
  have h2:(L.map (·.1))[j]? = some g:=by simp [hj,he]
  obtain ⟨l1,e1⟩:=List.getElem?_eq_some_iff.1 h1
  obtain ⟨l2,e2⟩:=List.getElem?_eq_some_iff.1 h2
  exact e ((List.getElem_inj h.apart).1 (e1.trans e2.symm))
theorem qie (w:World) (hg:w.heap[g]? = some (.cells cs t (0,0))):(w.setRow g new).heap[g]? = some (.cells new t (0,0)):=by
 show (w.heap.modify g _)[g]? = _
 rw [Array.getElem?_modify,if_pos rfl,hg];rfl
theorem qbe {w:World} {b:Nat} (h:b≠g):(w.setRow g new).heap[b]? = w.heap[b]?:=by
 show (w.heap.modify g _)[b]? = _
 rw [Array.getElem?_modify,if_neg (Ne.symm h)]
theorem Below.setRow {B:Nat} (h:Below B w0 w) (hg:B≤g) (new:Array Value):Below B w0 (w.setRow g new) :=
 ⟨h.os,h.tape,h.output,by show _≤(w.heap.modify g _).size;rw [Array.size_modify];exact h.size,fun b hb=>(qbe (by omega)).trans (h.block b hb)⟩
theorem Mem.set (h:Mem w0 w L) (hk:L[k]? = some (g,cs,t)) (new:Array Value) (hL:L.set k (g,new,t)=L'):Mem w0 (w.setRow g new) L' :=
 hL ▸ h.write hk (qie w (h.at_ hk)) (fun _ hb=>qbe hb) (Below.setRow h.below (h.ge hk) new)
theorem Mem.setCell (h:Mem w0 w L) (hk:L[k]? = some (g,cs,t)) (j:Nat) (v:Value) (hL:L.set k (g,cs.setIfInBounds j v,t)=L'):Mem w0 (w.setCell ⟨g,j,none⟩ v) L' :=
 hL ▸ h.write hk (qaa (h.at_ hk) (i:=j) v) (fun b hb=>heap_setCell_other w ⟨g,j,none⟩ b v hb) (h.below.setCell (p:=⟨g,j,none⟩) (h.ge hk) v)
end
/-- a function of the program's that has a body -/
structure Ent (P:Program) (f:FuncId):Prop where
 en:Enters P f
/-- an aggregate type of so many cells -/
structure AggT (P:Program) (ty:TypeId) (n:Nat):Prop where
 desc:∃ d,P.underlying ty=some d∧(match d with | .struct _ | .array _ _=>true | _=>false)=true
 size:(P.info? ty).map (·.size)=some n
theorem qb5 {P:Program} (w:World) (g o:Nat) (ty:TypeId) (cs:List Value) (d:TypeDesc) (hc:∀ j u,cs[j]? = some u→w.cell? ⟨g,o+j,none⟩=some u)
  (hu:P.underlying ty=some d) (hd:(match d with | .struct _ | .array _ _=>true | _=>false)=true) (hi:(P.info? ty).map (·.size)=some cs.length) :
  (loadVar ty ⟨g,o,none⟩).run P w=.ok (.agg cs.toArray) w:=by
 have hl:(loadCells ⟨g,o,none⟩ cs.length).run P w=.ok cs.toArray w :=
  run_loadCells_list (P:=P) w ⟨g,o,none⟩ cs (fun j v hv=>by rw [qga];exact hc j v hv)
 cases hq:P.info? ty with
 | none=>simp [hq] at hi
 | some i =>
  have hs:i.size=cs.length:=by simpa [hq] using hi
  have hagg:(isAgg ty).run P w=.ok true w:=by
   unfold isAgg
   rw [Sem.run_bind,run_underlying hu w]
   cases d <;> simp_all
  simp [loadVar,Sem.run_bind,hagg,sizeOf,typeInfo,hq,hs,hl]
section
variable {P:Program} {ops:Array Oper} {rest:List Oper} {op:Oper} {a:Act} {w0 w:World} {Q:Exit→Act→World→Prop} {L L':List Blk} {g:Nat} {cs:Array Value} {t:TypeId} {k:Nat}
theorem qa2 (hw:Region.wanted op (yielded ops a.tmps)=true) (h:∀ K:Act→World→Prop,(∀ a w,wpList P ops Q rest a w→K a w)→op.wp P a w K Q):wpList P ops Q (op :: rest) a w :=
 wpList_step fun K hK=>by rw [if_pos hw];exact h K hK
theorem qai {a':Act} (hM:Mem w0 w L) (hgd:Region.wanted op (yielded ops a.tmps)=true) {ty:TypeId} {x:Operand} (ho:op.op=.load ty x) {n:Nat} (T:AggT P ty n) (hx:a.eval x=.pointer (some ⟨g,0,none⟩)) (hk:L[k]? = some (g,cs,t)) (hn:cs.size=n)
  (h:wpList P ops Q rest a' w) (ha:a.put op.dst (.agg cs)=a':=by simp only [Act.put,List.setIfInBounds_toArray,List.set_cons_zero,List.set_cons_succ];rfl):wpList P ops Q (op :: rest) a w :=
 match T.desc with
 | ⟨d,hd,hd2⟩=>qa2 hgd fun _ hK=>wp_load_row ty x ho g hx t cs (0,0) d (hM.at_ hk) hd (by cases d <;> first | rfl | cases hd2) (by rw [T.size,hn]) (hK _ _ (ha ▸ h))
theorem qe5 {cs:Array Value} {o n j:Nat} {u:Value} (h:(cs.toList.extract o (o+n))[j]? = some u):cs[o+j]? = some u:=by
 rw [List.extract_eq_take_drop,List.getElem?_take] at h
 split at h
 ·rw [List.getElem?_drop] at h;simpa using h
 ·cases h
theorem qmu {a':Act} (hM:Mem w0 w L) (hgd:Region.wanted op (yielded ops a.tmps)=true) {ty:TypeId} {x:Operand} (ho:op.op=.load ty x) {n o:Nat} (T:AggT P ty n) (hx:a.eval x=.pointer (some ⟨g,o,none⟩)) (hk:L[k]? = some (g,cs,t)) (new:Array Value) (hn:new.size=n) (hnew:cs.toList.extract o (o+n)=new.toList)
  (h:wpList P ops Q rest a' w) (ha:a.put op.dst (.agg new)=a':=by simp only [Act.put,List.setIfInBounds_toArray,List.set_cons_zero,List.set_cons_succ];rfl):wpList P ops Q (op :: rest) a w :=
 match T.desc with
 | ⟨d,hd,hd2⟩=>qa2 hgd fun _ hK=>by
  unfold Oper.wp execOp
  simp only [ho,hx,Instr.loadAt,Instr.sureAddr,Sem.run_bind,Sem.run_pure,Result.andThen_ok,qb5 w g o ty new.toList d (fun j u hj=>rc (hM.at_ hk) (o+j) (qe5 (n:=n) (hnew ▸ hj))) hd (by cases d <;> first | rfl | cases hd2) (by rw [T.size,← hn];simp),Array.toArray_toList]
  exact hK _ _ (ha ▸ h)
theorem qae {a':Act} (hM:Mem w0 w L) (hgd:Region.wanted op (yielded ops a.tmps)=true) {ty:TypeId} {x y:Operand} (ho:op.op=.store ty x y) {n:Nat} (T:AggT P ty n) (hx:a.eval x=.pointer (some ⟨g,0,none⟩)) {new:Array Value} (hy:a.eval y=.agg new)
  (hku:L[k]? = some (g,cs,t)∧L.set k (g,new,t)=L') (hn:new.size=n) (hc:cs.size=n) (h1:new.all (·.oneCell')=true)
  (h:∀ w',Mem w0 w' L'→wpList P ops Q rest a' w') (ha:a.put op.dst undef=a':=by simp only [Act.put,List.setIfInBounds_toArray,List.set_cons_zero,List.set_cons_succ];rfl):wpList P ops Q (op :: rest) a w :=
 qa2 hgd fun _ hK=>wp_store_row ty x y ho g new hx hy t cs (hM.at_ hku.1) (by rw [T.size,hn]) (by rw [hc,hn]) h1 (hK _ _ (ha ▸ h _ (hM.set hku.1 new hku.2)))
theorem qf6 {ρ:Operand→Value} {f:Nat} {fx:Operand} {xs:Array Operand} {ts:Array TypeId} {cap al:List Value} (ho:op.op=.call { callee:=.value fx,args:=xs,argTypes:=ts }) (hρ:ρ fx=.func (.func f) #[] cap.toArray) (hf:Ent P f) (hx:xs.toList.map ρ=al) (w:World):(execOp ρ op).run P w=.ok (.enter f (al ++ cap).toArray) w:=by
 have hx':xs.map ρ=al.toArray:=by rw [← hx,← Array.toList_map,Array.toArray_toList]
 unfold execOp
 simp only [ho,resolve,hx',hρ,Deferred.ofValue,Sem.run_bind,Sem.run_pure,Result.andThen_ok,invoke,Array.append_empty,Array.empty_append]
 rw [List.append_toArray]
 exact hf.en (al ++ cap).toArray w
theorem qad {a':Act} (hM:Mem w0 w L) (hgd:Region.wanted op (yielded ops a.tmps)=true) {f:Nat} {xs:Array Operand} {ts:Array TypeId} (ho:op.op=.call { callee:=.value (.func f),args:=xs,argTypes:=ts }) (hf:Ent P f) {al:List Value} {v:Value}
  (hc:Calls P f al.toArray w fun e w'=>e=.returned v∧Below w.heap.size w w') (hx:xs.toList.map a.eval=al)
  (h:∀ w',Mem w0 w' L→wpList P ops Q rest a' w') (ha:a.put op.dst v=a':=by simp only [Act.put,List.setIfInBounds_toArray,List.set_cons_zero,List.set_cons_succ];rfl):wpList P ops Q (op :: rest) a w :=
 qa2 hgd fun K hK=>by
  unfold Oper.wp
  rw [qf6 (cap:=[]) ho rfl hf hx,List.append_nil]
  exact Calls.mono hc fun e w' ⟨h1,hb⟩=>by subst h1;exact hK _ _ (ha ▸ h w' (hM.call hb))
/-- a call that turns blocks of the list; a closure's, what it captured behind its arguments -/
theorem qdb {a':Act} (hgd:Region.wanted op (yielded ops a.tmps)=true) {f:Nat} {fx:Operand} {xs:Array Operand} {ts:Array TypeId} {cap:List Value} (ho:op.op=.call { callee:=.value fx,args:=xs,argTypes:=ts }) (hfx:a.eval fx=.func (.func f) #[] cap.toArray) (hf:Ent P f) {al:List Value} {v:Value}
  (hc:Calls P f (al ++ cap).toArray w fun e w'=>e=.returned v∧Mem w0 w' L') (hx:xs.toList.map a.eval=al)
  (h:∀ w',Mem w0 w' L'→wpList P ops Q rest a' w') (ha:a.put op.dst v=a':=by simp only [Act.put,List.setIfInBounds_toArray,List.set_cons_zero,List.set_cons_succ];rfl):wpList P ops Q (op :: rest) a w :=
 qa2 hgd fun K hK=>by
  unfold Oper.wp
  rw [qf6 ho hfx hf hx]
  exact Calls.mono hc fun e w' ⟨h1,hm⟩=>by subst h1;exact hK _ _ (ha ▸ h w' hm)
theorem qfk {a':Act} {j:Nat} {v:Value} (hM:Mem w0 w L) (hgd:Region.wanted op (yielded ops a.tmps)=true) {ty:TypeId} {x y:Operand} (ho:op.op=.store ty x y) (hx:a.eval x=.pointer (some ⟨g,j,none⟩)) (hy:a.eval y=v)
  (hku:L[k]? = some (g,cs,t)∧L.set k (g,cs.setIfInBounds j v,t)=L') (hst:(storeVar ty ⟨g,j,none⟩ v).run P w=.ok () (w.setCell ⟨g,j,none⟩ v))
  (h:∀ w',Mem w0 w' L'→wpList P ops Q rest a' w') (ha:a.put op.dst undef=a':=by simp only [Act.put,List.setIfInBounds_toArray,List.set_cons_zero,List.set_cons_succ];rfl):wpList P ops Q (op :: rest) a w :=
 qa2 hgd fun K hK=>by
  unfold Oper.wp execOp
  simp only [ho,hx,hy,Instr.storeAt,Instr.sureAddr,Sem.run_bind,Sem.run_pure,Result.andThen_ok,hst]
  exact hK _ _ (ha ▸ h _ (hM.setCell hku.1 j v hku.2))
theorem qas {a':Nat→Act} (hM:Mem w0 w L) (hgd:Region.wanted op (yielded ops a.tmps)=true) (hrun:∀ ρ w,(execOp ρ op).run P w=.ok (.value (.pointer (some ⟨w.heap.size,0,none⟩))) (w.alloc (.cells cs t)))
  (h:∀ w' g,Mem w0 w' ((g,cs,t) :: L)→wpList P ops Q rest (a' g) w') (ha:∀ g,a.put op.dst (.pointer (some ⟨g,0,none⟩))=a' g:=by intro g;simp only [Act.put,List.setIfInBounds_toArray,List.set_cons_zero,List.set_cons_succ];rfl):wpList P ops Q (op :: rest) a w :=
 qa2 hgd fun K hK=>by
  unfold Oper.wp
  rw [hrun]
  exact hK _ _ (ha _ ▸ h _ _ (hM.alloc cs t))
theorem qaj (s:Nat) {a':Nat→Act} (hd:op.dst=some s) (hM:Mem w0 w L) (hgd:Region.wanted op (yielded ops a.tmps)=true) (hrun:∀ ρ w,(execOp ρ op).run P w=.ok (.value (.pointer (some ⟨w.heap.size,0,none⟩))) (w.alloc (.cells cs t)))
  (h:∀ w' g,Mem w0 w' ((g,cs,t) :: L)→wpList P ops Q rest (a' g) w') (ha:∀ g,a.put op.dst (.pointer (some ⟨g,0,none⟩))=a' g:=by intro g;simp only [Act.put,List.setIfInBounds_toArray,List.set_cons_zero,List.set_cons_succ];rfl):wpList P ops Q (op :: rest) a w :=
 qas hM hgd hrun h ha
theorem qay {a':Nat→Act} (hM:Mem w0 w L) (hgd:Region.wanted op (yielded ops a.tmps)=true) {ty:TypeId} {x:Operand} (ho:op.op=.box ty x) (hx:a.eval x=.agg cs) (hrun:(Instr.box ty (.agg cs)).run P w=.ok (.pointer (some ⟨w.heap.size,0,none⟩)) (w.alloc (.cells cs t)))
  (h:∀ w' g,Mem w0 w' ((g,cs,t) :: L)→wpList P ops Q rest (a' g) w') (ha:∀ g,a.put op.dst (.pointer (some ⟨g,0,none⟩))=a' g:=by intro g;simp only [Act.put,List.setIfInBounds_toArray,List.set_cons_zero,List.set_cons_succ];rfl):wpList P ops Q (op :: rest) a w :=
 qa2 hgd fun K hK=>by
  unfold Oper.wp execOp
  simp only [ho,hx,Sem.run_bind,hrun,Result.andThen_ok,Sem.run_pure]
  exact hK _ _ (ha _ ▸ h _ _ (hM.alloc cs t))
theorem qam (s:Nat) {a':Nat→Act} (hd:op.dst=some s) (hM:Mem w0 w L) (hgd:Region.wanted op (yielded ops a.tmps)=true) {ty:TypeId} {x:Operand} (ho:op.op=.box ty x) (hx:a.eval x=.agg cs) (hrun:(Instr.box ty (.agg cs)).run P w=.ok (.pointer (some ⟨w.heap.size,0,none⟩)) (w.alloc (.cells cs t)))
  (h:∀ w' g,Mem w0 w' ((g,cs,t) :: L)→wpList P ops Q rest (a' g) w') (ha:∀ g,a.put op.dst (.pointer (some ⟨g,0,none⟩))=a' g:=by intro g;simp only [Act.put,List.setIfInBounds_toArray,List.set_cons_zero,List.set_cons_succ];rfl):wpList P ops Q (op :: rest) a w :=
 qay hM hgd ho hx hrun h ha
/-- a part of a row -/
structure PartAt (cs:Array Value) (m n:Nat) (new:Array Value):Prop where
 part:cs.toList.extract m (m+n)=new.toList
 size:new.size=n
theorem qav {a':Act} (hM:Mem w0 w L) (hgd:Region.wanted op (yielded ops a.tmps)=true) {ty:TypeId} {x:Operand} (ho:op.op=.load ty x) {n o:Nat} (T:AggT P ty n) (hx:a.eval x=.pointer (some ⟨g,o,none⟩)) (hk:L[k]? = some (g,cs,t)) {new:Array Value} (hp:PartAt cs o n new)
  (h:wpList P ops Q rest a' w) (ha:a.put op.dst (.agg new)=a':=by simp only [Act.put,List.setIfInBounds_toArray,List.set_cons_zero,List.set_cons_succ];rfl):wpList P ops Q (op :: rest) a w :=
 qmu hM hgd ho T hx hk new hp.size hp.part h ha
theorem qkq {ty:TypeId} {v:Value} {j:Nat} (hM:Mem w0 w L) (hna:∀ w,(isAgg ty).run P w=.ok false w) (hk:L[k]? = some (g,cs,t)) (hj:cs[j]? = some v):(loadVar ty ⟨g,j,none⟩).run P w=.ok v w:=by
 have hc:=rc (hM.at_ hk) j hj
 simp [loadVar,Sem.run_bind,hna,hc]
theorem qaf {a':Act} {v:Value} {j:Nat} (hM:Mem w0 w L) (hgd:Region.wanted op (yielded ops a.tmps)=true) {ty:TypeId} {x:Operand} (ho:op.op=.load ty x) (hna:∀ w,(isAgg ty).run P w=.ok false w) (hx:a.eval x=.pointer (some ⟨g,j,none⟩)) (hk:L[k]? = some (g,cs,t)) (hj:cs[j]? = some v)
  (h:wpList P ops Q rest a' w) (ha:a.put op.dst v=a':=by simp only [Act.put,List.setIfInBounds_toArray,List.set_cons_zero,List.set_cons_succ];rfl):wpList P ops Q (op :: rest) a w :=
 qa2 hgd fun _ hK=>by
  unfold Oper.wp execOp
  simp only [ho,hx,Instr.loadAt,Instr.sureAddr,Sem.run_bind,Sem.run_pure,Result.andThen_ok,qkq hM hna hk hj]
  exact hK _ _ (ha ▸ h)
theorem qjc {ρ:Operand→Value} {ty:TypeId} {i0 i1:Nat} {x0 x1:Operand} {v0 v1 v:Value} (ho:op.op=.build ty #[(i0,x0),(i1,x1)]) (h0:ρ x0=v0) (h1:ρ x1=v1) (hb:∀ w,(Instr.build ty #[(i0,v0),(i1,v1)]).run P w=.ok v w) (w:World):(execOp ρ op).run P w=.ok (.value v) w:=by
 have e:(#[(i0,x0),(i1,x1)]:Array (Nat×Operand)).map (fun (i,x)=>(i,ρ x))=#[(i0,v0),(i1,v1)]:=by simp [h0,h1]
 unfold execOp
 simp only [ho,e,Sem.run_bind,hb,Result.andThen_ok,Sem.run_pure]
theorem qar {a':Act} {ty:TypeId} {i0 i1:Nat} {x0 x1:Operand} {v0 v1 v:Value} (hgd:Region.wanted op (yielded ops a.tmps)=true) (ho:op.op=.build ty #[(i0,x0),(i1,x1)]) (hb:∀ w,(Instr.build ty #[(i0,v0),(i1,v1)]).run P w=.ok v w) (h0:a.eval x0=v0) (h1:a.eval x1=v1)
  (h:wpList P ops Q rest a' w) (ha:a.put op.dst v=a':=by simp only [Act.put,List.setIfInBounds_toArray,List.set_cons_zero,List.set_cons_succ];rfl):wpList P ops Q (op :: rest) a w :=
 qa2 hgd fun _ hK=>by
  unfold Oper.wp
  rw [qjc ho h0 h1 hb w]
  exact hK _ _ (ha ▸ h)
end
/- what a body hands back, of its own blocks -/
section
variable {P:Program} {w0 w:World} {L:List Blk} {k k2 g g2:Nat} {cs ds:Array Value} {t t2:TypeId}
theorem AggT.load {ty:TypeId} {n:Nat} (T:AggT P ty n) (hM:Mem w0 w L) (hk:L[k]? = some (g,cs,t)) (hn:cs.size=n):(loadVar ty ⟨g,0,none⟩).run P w=.ok (.agg cs) w :=
 match T.desc with
 | ⟨d,hd,hd2⟩=>run_loadVar_row w g t ty cs (0,0) d (hM.at_ hk) hd (by cases d <;> first | rfl | cases hd2) (by rw [T.size,hn])
theorem res_c {fn:Func} {R:Ending→World→Prop} {a:Act} {p:Tmp} {ty:TypeId} {n:Nat} (hM:Mem w0 w L) (h:fn.results=#[.cell p ty]) (T:AggT P ty n) (hp:a.tmps.getD p undef=.pointer (some ⟨g,0,none⟩)) (hk:L[k]? = some (g,cs,t)) (hn:cs.size=n) (hd:a.defers = []) (hR:R (.returned (.agg cs)) w):bodyPost P fn R .ret a w:=by
 refine bodyPost_ret (v:=.agg cs) ?_ hd hR
 simp only [results,h]
 simp [hp,asAddr,T.load hM hk hn,Sem.run_bind]
 have hp':a.tmps[p]?.getD undef=.pointer (some ⟨g,0,none⟩):=by simpa using hp
 simp [hp',T.load hM hk hn]
theorem qb9 {fn:Func} {R:Ending→World→Prop} {a:Act} {p q:Tmp} {ty:TypeId} {n:Nat} {v:Value} (hM:Mem w0 w L) (h:fn.results=#[.cell p ty,.tmp q]) (T:AggT P ty n) (hp:a.tmps.getD p undef=.pointer (some ⟨g,0,none⟩)) (hq:a.tmps.getD q undef=v) (hk:L[k]? = some (g,cs,t)) (hn:cs.size=n) (hd:a.defers = []) (hR:R (.returned (.tuple #[.agg cs,v])) w):bodyPost P fn R .ret a w:=by
 refine bodyPost_ret (v:=.tuple #[.agg cs,v]) ?_ hd hR
 have hp':a.tmps[p]?.getD undef=.pointer (some ⟨g,0,none⟩):=by simpa using hp
 have hq':a.tmps[q]?.getD undef=v:=by simpa using hq
 simp only [results,h]
 simp [hp',hq',asAddr,T.load hM hk hn,Sem.run_bind]
theorem res_cc {fn:Func} {R:Ending→World→Prop} {a:Act} {p q:Tmp} {ty ty2:TypeId} {n m:Nat} (hM:Mem w0 w L) (h:fn.results=#[.cell p ty,.cell q ty2]) (T:AggT P ty n) (T2:AggT P ty2 m) (hp:a.tmps.getD p undef=.pointer (some ⟨g,0,none⟩)) (hq:a.tmps.getD q undef=.pointer (some ⟨g2,0,none⟩))
  (hk:L[k]? = some (g,cs,t)) (hk2:L[k2]? = some (g2,ds,t2)) (hn:cs.size=n) (hn2:ds.size=m) (hd:a.defers = []) (hR:R (.returned (.tuple #[.agg cs,.agg ds])) w):bodyPost P fn R .ret a w:=by
 refine bodyPost_ret (v:=.tuple #[.agg cs,.agg ds]) ?_ hd hR
 have hp':a.tmps[p]?.getD undef=.pointer (some ⟨g,0,none⟩):=by simpa using hp
 have hq':a.tmps[q]?.getD undef=.pointer (some ⟨g2,0,none⟩):=by simpa using hq
 simp only [results,h]
 simp [hp',hq',asAddr,T.load hM hk hn,T2.load hM hk2 hn2,Sem.run_bind]
end
theorem up0 {α:Type} {p q:α} {l:List α}:(q :: l).set 0 p=p :: l:=rfl
theorem up1 {α:Type} {p q a:α} {l:List α}:(a :: q :: l).set 1 p=a :: p :: l:=rfl
theorem up2 {α:Type} {p q a b:α} {l:List α}:(a :: b :: q :: l).set 2 p=a :: b :: p :: l:=rfl
theorem at5 {α:Type} {p a b c d e:α} {l:List α}:(a :: b :: c :: d :: e :: p :: l)[5]? = some p:=rfl
theorem at6 {α:Type} {p a b c d e f:α} {l:List α}:(a :: b :: c :: d :: e :: f :: p :: l)[6]? = some p:=rfl
theorem at7 {α:Type} {p a b c d e f g:α} {l:List α}:(a :: b :: c :: d :: e :: f :: g :: p :: l)[7]? = some p:=rfl
theorem au0 {α:Type} {p q:α} {l:List α}:(q :: l)[0]? = some q∧(q :: l).set 0 p=p :: l:=⟨rfl,rfl⟩
theorem au1 {α:Type} {p q a:α} {l:List α}:(a :: q :: l)[1]? = some q∧(a :: q :: l).set 1 p=a :: p :: l:=⟨rfl,rfl⟩
theorem au2 {α:Type} {p q a b:α} {l:List α}:(a :: b :: q :: l)[2]? = some q∧(a :: b :: q :: l).set 2 p=a :: b :: p :: l:=⟨rfl,rfl⟩
theorem au5 {α:Type} {p q a b c d e:α} {l:List α}:(a :: b :: c :: d :: e :: q :: l)[5]? = some q∧(a :: b :: c :: d :: e :: q :: l).set 5 p=a :: b :: c :: d :: e :: p :: l:=⟨rfl,rfl⟩
theorem au6 {α:Type} {p q a b c d e f:α} {l:List α}:(a :: b :: c :: d :: e :: f :: q :: l)[6]? = some q∧(a :: b :: c :: d :: e :: f :: q :: l).set 6 p=a :: b :: c :: d :: e :: f :: p :: l:=⟨rfl,rfl⟩
theorem at13 {α:Type} {p a b c d e f g h i j k m n:α} {l:List α}:(a :: b :: c :: d :: e :: f :: g :: h :: i :: j :: k :: m :: n :: p :: l)[13]? = some p:=rfl
theorem at14 {α:Type} {p a b c d e f g h i j k m n r:α} {l:List α}:(a :: b :: c :: d :: e :: f :: g :: h :: i :: j :: k :: m :: n :: r :: p :: l)[14]? = some p:=rfl
/-- a block of a list by where it lies -/
class Has (L:List Blk) (g:Nat) (cs:outParam (Array Value)) (t:outParam TypeId) (k:outParam Nat):Prop where
 here:L[k]? = some (g,cs,t)
instance hasHead {L:List Blk} {g:Nat} {cs:Array Value} {t:TypeId}:Has ((g,cs,t) :: L) g cs t 0:=⟨rfl⟩
instance (priority:=low) hasTail {p:Blk} {L:List Blk} {g:Nat} {cs:Array Value} {t:TypeId} {k:Nat} [h:Has L g cs t k]:Has (p :: L) g cs t (k+1):=⟨by simpa using h.here⟩
class HasU (L:List Blk) (g:Nat) (new:Array Value) (cs:outParam (Array Value)) (t:outParam TypeId) (k:outParam Nat) (L':outParam (List Blk)):Prop where
 here:L[k]? = some (g,cs,t)∧L.set k (g,new,t)=L'
instance hasUHead {L:List Blk} {g:Nat} {new cs:Array Value} {t:TypeId}:HasU ((g,cs,t) :: L) g new cs t 0 ((g,new,t) :: L):=⟨rfl,rfl⟩
instance (priority:=low) hasUTail {p:Blk} {L L':List Blk} {g:Nat} {new cs:Array Value} {t:TypeId} {k:Nat} [h:HasU L g new cs t k L']:HasU (p :: L) g new cs t (k+1) (p :: L'):=⟨by simpa using h.here.1,by simp [h.here.2]⟩
theorem hat {L:List Blk} {g:Nat} {cs:Array Value} {t:TypeId} {k:Nat} [h:Has L g cs t k]:L[k]? = some (g,cs,t):=h.here
theorem hau {L L':List Blk} {g:Nat} {new cs:Array Value} {t:TypeId} {k:Nat} [h:HasU L g new cs t k L']:L[k]? = some (g,cs,t)∧L.set k (g,new,t)=L':=h.here
theorem Mem.tail {w0 w:World} {p:Blk} {L:List Blk} (h:Mem w0 w (p :: L)):Mem w0 w L :=
 ⟨h.below,fun q hq=>h.rows q (List.mem_cons_of_mem _ hq),(List.nodup_cons.1 h.apart).2⟩
/- Regions that draw their order and hold calls and new blocks: one look at each operation serves every order; of no program. -/
/-- the frame, written out -/
theorem lay_W {P:Program} {c:Code} {Q:Exit→Act→World→Prop} {a a':Act} {w:World} (h:c.wp P Q a' w)
  (ha:a=a':=by first | (simp only [Act.put,List.setIfInBounds_toArray,List.set_cons_zero,List.set_cons_succ,List.getElem_toArray,List.getElem_cons_zero,List.getElem_cons_succ];rfl) | rfl):c.wp P Q a w:=ha ▸ h
/-- operations whose value is a function of what their operands are -/
def kindB:Op→Bool
 | .move _ | .assign _ | .load _ _ | .fieldAddr _ _ _ | .indexAddr _ _ _ | .index _ _ _ | .extract _ _ | .binOp _ _ _ _ _ | .unOp _ _ _ | .convert _ _ _ | .build _ _ | .pick _ _ _ | .field _ _ _ | .sliceToArrayPointer _ _ | .slice _ _ _ _ _=>true
 | .call { callee:=.value _,args:=_,argTypes:=_ }=>true
 | .call { callee:=.builtin _,args:=_,argTypes:=_ }=>true
 | _=>false
theorem qol {ρ ρ':Operand→Value} {l:Array Operand} (h:∀ x∈l.toList,ρ x=ρ' x):l.map ρ=l.map ρ' :=
 Array.map_congr_left fun x hx=>h x (by simpa using hx)
theorem qmw (o:Oper) (ρ ρ':Operand→Value) (hk:kindB o.op=true) (h:∀ x∈o.op.operands.toList,ρ x=ρ' x):execOp ρ o=execOp ρ' o:=by
 unfold execOp
 cases ho:o.op <;> rw [ho] at h hk <;> first | (simp [kindB] at hk;done) | skip
 case call c =>
  obtain ⟨ce,xs,ts⟩:=c
  cases ce <;> first | (simp [kindB] at hk;done) | skip
  case value f =>
   have h1:ρ f=ρ' f:=h f (by simp [Op.operands,Call.operands])
   have h2:xs.map ρ=xs.map ρ':=qol fun x hx=>h x (by simp [Op.operands,Call.operands];exact .inr (by simpa using hx))
   simp only [resolve,h1,h2]
  case builtin n =>
   have h2:xs.map ρ=xs.map ρ':=qol fun x hx=>h x (by simp [Op.operands,Call.operands];simpa using hx)
   simp only [resolve,h2]
 case build t ps =>
  have:ps.map (fun (i,x)=>(i,ρ x))=ps.map (fun (i,x)=>(i,ρ' x)):=Array.map_congr_left fun p hp=>by
   obtain ⟨i,x⟩:=p
   have:=h x (by simp only [Op.operands,List.mem_map];exact ⟨(i,x),by simpa using hp,rfl⟩)
   simp only [this]
  simp only [this]
 case slice T x lo hi mx =>
  have h1:ρ x=ρ' x:=h x (by simp [Op.operands])
  have h2:∀ y,lo=some y→ρ y=ρ' y:=fun y e=>h y (by simp [Op.operands,e])
  have h3:∀ y,hi=some y→ρ y=ρ' y:=fun y e=>h y (by simp [Op.operands,e])
  have h4:∀ y,mx=some y→ρ y=ρ' y:=fun y e=>h y (by simp [Op.operands,e])
  have m2:lo.map ρ=lo.map ρ':=by cases lo with | none=>rfl | some y=>simp [h2 y rfl]
  have m3:hi.map ρ=hi.map ρ':=by cases hi with | none=>rfl | some y=>simp [h3 y rfl]
  have m4:mx.map ρ=mx.map ρ':=by cases mx with | none=>rfl | some y=>simp [h4 y rfl]
  simp only [h1,m2,m3,m4]
 all_goals (simp only [Op.operands] at h;simp only [List.mem_cons,List.not_mem_nil,or_false,forall_eq_or_imp,forall_eq] at h;simp [h])
/-- operation i waits for j -/
def waitB (o:Oper) (j:Nat):Bool:=o.after.any fun e=>Region.binds .any e && e.on == j
/-- at once, or by way of some more -/
def waitN (ops:Array Oper):Nat→Oper→Nat→Bool
 | 0,o,j=>waitB o j
 | k+1,o,j=>waitB o j || o.after.any fun e=>Region.binds .any e && match ops[e.on]? with | some o'=>waitN ops k o' j | none=>false
def waitT (ops:Array Oper) (o:Oper) (j:Nat):Bool:=waitN ops 4 o j
def dstB (ops:Array Oper) (s j:Nat):Bool:=match ops[j]? with | some o=>o.dst == some s | none=>false
/-- an operation that lays a block: its number, its slot, the block's cells and type -/
structure Lays where
 i:Nat
 s:Nat
 cs:Array Value
 t:TypeId
/-- what is asked of operation i among the first n, those of al laying blocks -/
def freeAt (ops:Array Oper) (n:Nat) (al:List (Nat×Nat)) (i:Nat):Bool :=
 match ops[i]? with
 | none=>false
 | some o=>o.dst.isSome && (al.any (·.1 == i) || kindB o.op) &&
  (o.op.operands.toList.all fun x=>match x with | .tmp s=>al.all (·.2 != s) && (List.range n).all fun j=>!dstB ops s j || waitB o j | _=>true) &&
  (match o.guard with | none=>true | some (j,_)=>waitB o j && al.all (·.1 != j) && (match ops[j]? with | some oj=>(match oj.dst with | some s=>al.all (·.2 != s) && (List.range n).all fun k=>!dstB ops s k || waitB o k | none=>true) | none=>true)) &&
  (o.after.all fun e=>!Region.binds .any e || decide (e.on < i)) &&
  (List.range n).all fun j=>j == i || !(match o.dst with | some s=>dstB ops s j | none=>true)
/-- one of them, `late`, need not have come up when the others end (none: late = n) -/
def freeL (late:Nat) (ops:Array Oper) (n:Nat) (al:List (Nat×Nat)):Bool :=
 decide (n < ops.size) && (List.range n).all (freeAt ops n al) &&
 ((List.range ops.size).all fun k=>decide (k < n) || (List.range n).all fun j=>j == late || match ops[k]? with | some o=>waitT ops o j | none=>true) &&
 (al.all fun p=>decide (p.1 < n) && dstB ops p.2 p.1) && (al.all fun p=>al.all fun q=>p.1 == q.1 || p.2 != q.2) && decide (al.map (·.1)).Nodup &&
 Region.seqB .any ops (ops.size - n) n ((Array.replicate n true) ++ Array.replicate (ops.size - n) false)
def freeB (ops:Array Oper) (n:Nat) (al:List (Nat×Nat)):Bool:=freeL n ops n al
def lateB (late:Nat) (ops:Array Oper) (n:Nat):Bool :=
 Region.noSelect ops && Region.free .any ops (((Array.replicate n true) ++ Array.replicate (ops.size - n) false).setIfInBounds late false) late
section
variable {P:Program} {ops:Array Oper} {Q:Exit→Act→World→Prop} {n:Nat} {S:World→Prop} {b:Act} {AL:List Lays} {w1:World}
/-- how an operation ends, whatever the world that S says something of -/
def GoesAt (P:Program) (v:Value) (w:World):Result Next→Prop
 | .ok (.value u) w'=>w'=w∧u=v
 | .ok (.enter f args) w'=>w'=w∧Calls P f args w (fun e w''=>e=.returned v∧Below w.heap.size w w'')
 | _=>False
def Goes (P:Program) (ops:Array Oper) (S:World→Prop) (b:Act) (o:Oper) (v:Value):Prop :=
 (Region.wanted o (yielded ops b.tmps)=false∧v=undef)∨(Region.wanted o (yielded ops b.tmps)=true∧∀ w,S w→GoesAt P v w ((execOp b.eval o).run P w))
def lays (P:Program) (o:Oper) (cs:Array Value) (t:TypeId):Prop:=o.guard=none∧∀ ρ w,(execOp ρ o).run P w=.ok (.value (.pointer (some ⟨w.heap.size,0,none⟩))) (w.alloc (.cells cs t))
/-- the same for all of them -/
def GoAll (P:Program) (ops:Array Oper) (S:World→Prop) (b:Act) (AL:List Lays):Nat→List Oper→Prop
 | _,[]=>True
 | i,o :: os=>((∃ p∈AL,p.i=i∧lays P o p.cs p.t)∨((∀ p∈AL,p.i≠i)∧Goes P ops S b o (b.tmps.getD (o.dst.getD 0) undef)))∧GoAll P ops S b AL (i+1) os
theorem GoAll.get:∀ {l:List Oper} {k:Nat},GoAll P ops S b AL k l→∀ {i:Nat} {o:Oper},l[i]? = some o→(∃ p∈AL,p.i=k+i∧lays P o p.cs p.t)∨((∀ p∈AL,p.i≠k+i)∧Goes P ops S b o (b.tmps.getD (o.dst.getD 0) undef))
 | [],_,_,_,_,hi=>by simp at hi
 | o :: os,k,h,0,o',hi=>by
  obtain rfl:o=o':=by simpa using hi
  exact h.1
 | o :: os,k,h,i+1,o',hi=>by
  have:=h.2.get (i:=i) (o:=o') (by simpa using hi)
  rwa [show k+1+i=k+(i+1) by omega] at this
structure InvR (ops:Array Oper) (n:Nat) (S:World→Prop) (b:Act) (AL:List Lays) (w1:World) (listed:Array Bool) (a:Act) (w:World):Prop where
 size:listed.size=ops.size
 tail:∀ k,n≤k→listed.getD k false=false
 shut:∀ j o,ops[j]? = some o→listed.getD j false=true→∀ e∈o.after,Region.binds .any e=true→listed.getD e.on false=true
 defers:a.defers=b.defers
 tsize:a.tmps.size=b.tmps.size
 same:∀ s,(∀ p∈AL,p.s≠s)→(∀ j,j < n→listed.getD j false=false→dstB ops s j=false)→a.tmps[s]? = b.tmps[s]?
 world:S w
 below:Below w1.heap.size w1 w
 laid:∃ G:Nat→Nat,(∀ p∈AL,listed.getD p.i false=true→(p.s < b.tmps.size→a.tmps[p.s]? = some (.pointer (some ⟨G p.i,0,none⟩)))∧w.heap[G p.i]? = some (.cells p.cs p.t (0,0))∧w1.heap.size≤G p.i) ∧
  (∀ p∈AL,∀ q∈AL,listed.getD p.i false=true→listed.getD q.i false=true→p.i≠q.i→G p.i≠G q.i)
def cntF (l:Array Bool):Nat→Nat
 | 0=>0
 | k+1=>cntF l k+(if l.getD k false=true then 0 else 1)
theorem qrg {l:Array Bool} {i:Nat}:∀ k,cntF (l.setIfInBounds i true) k≤cntF l k
 | 0=>Nat.le_refl _
 | k+1=>by
  have:=qrg (l:=l) (i:=i) k
  simp only [cntF]
  by_cases h:l.getD k false=true
  ·rw [if_pos h,if_pos (getD_set_true h)];omega
  ·rw [if_neg h];split <;> omega
theorem qjv {l:Array Bool} {i:Nat} (h:i < l.size):(l.setIfInBounds i true).getD i false=true:=by simp [h]
theorem qjn {l:Array Bool} {i:Nat} (hi:i < l.size) (hl:l.getD i false=false):∀ k,i < k→cntF (l.setIfInBounds i true) k < cntF l k
 | k+1,h=>by
  simp only [cntF]
  by_cases e:i=k
  ·subst e
   rw [if_pos (qjv hi),if_neg (by rw [hl];decide)]
   have:=qrg (l:=l) (i:=i) i
   omega
  ·have:=qjn hi hl k (by omega)
   rw [getD_set_ne false e]
   omega
theorem qf5 {l:Array Bool}:∀ k,cntF l k=0→∀ j,j < k→l.getD j false=true
 | k+1,h,j,hj=>by
  simp only [cntF] at h
  by_cases e:j=k
  ·subst e
   by_cases h1:l.getD j false=true
   ·exact h1
   ·rw [if_neg h1] at h;omega
  ·exact qf5 k (by omega) j (by omega)
theorem qh4 {l:Array Bool}:∀ k,cntF l k≠0→∃ j,j < k∧l.getD j false=false∧∀ i,i < j→l.getD i false=true
 | 0,h=>absurd rfl h
 | k+1,h=>by
  by_cases h0:cntF l k=0
  ·refine ⟨k,by omega,?_,qf5 k h0⟩
   simp only [cntF,h0] at h
   by_cases h1:l.getD k false=true
   ·rw [if_pos h1] at h;omega
   ·simpa using h1
  ·obtain ⟨j,hj,h1⟩:=qh4 k h0
   exact ⟨j,by omega,h1⟩
theorem qgy (l:Array Bool):∀ k,cntF l k≤k
 | 0=>Nat.le_refl _
 | k+1=>by
  have:=qgy l k
  simp only [cntF]
  split <;> omega
theorem qeo {md:Region.Mode}:∀ {f:Nat} {listed:Array Bool} {a:Act} {w:World},wpAny P md ops Q f listed a w→wpAny P md ops Q (f+1) listed a w
 | 0,_,_,_,h=>⟨fun _=>h.2,fun i hi=>by rw [h.1] at hi;cases hi⟩
 | f+1,_,_,_,h=>⟨h.1,fun i hi=>wpOp_mono (fun _ _ h'=>qeo h') (h.2 i hi)⟩
theorem qja {md:Region.Mode} {f:Nat} {listed:Array Bool} {a:Act} {w:World} (h:wpAny P md ops Q f listed a w):∀ m,wpAny P md ops Q (m+f) listed a w
 | 0=>by rw [Nat.zero_add];exact h
 | m+1=>by rw [show m+1+f=(m+f)+1 by omega];exact qeo (qja h m)
theorem qbp {n:Nat} {p:Nat→Bool} (h:(List.range n).all p=true) {i:Nat} (hi:i < n):p i=true:=List.all_eq_true.1 h i (List.mem_range.2 hi)
theorem qfh {listed:Array Bool} {o:Oper} (hr:∀ e∈o.after,Region.binds .any e=true→listed.getD e.on false=true) {j:Nat} (h:waitB o j=true):listed.getD j false=true:=by
 obtain ⟨e,he,hb⟩:=Array.any_eq_true'.1 h
 simp only [Bool.and_eq_true,beq_iff_eq] at hb
 exact hb.2 ▸ hr e he hb.1
theorem qh8 {listed:Array Bool} (hs:∀ j o,ops[j]? = some o→listed.getD j false=true→∀ e∈o.after,Region.binds .any e=true→listed.getD e.on false=true):∀ (k:Nat) {o:Oper},(∀ e∈o.after,Region.binds .any e=true→listed.getD e.on false=true)→∀ {j:Nat},waitN ops k o j=true→listed.getD j false=true
 | 0,_,hr,_,h=>qfh hr h
 | k+1,o,hr,j,h=>by
  unfold waitN at h
  rcases Bool.or_eq_true_iff.1 h with h | h
  ·exact qfh hr h
  ·obtain ⟨e,he,hb⟩:=Array.any_eq_true'.1 h
   simp only [Bool.and_eq_true] at hb
   cases ho:ops[e.on]? with
   | none=>rw [ho] at hb;exact absurd hb.2 Bool.false_ne_true
   | some o' =>
    rw [ho] at hb
    exact qh8 hs k (hs _ _ ho (hr e he hb.1)) hb.2
theorem qih {listed:Array Bool} {o:Oper} (hs:∀ j o,ops[j]? = some o→listed.getD j false=true→∀ e∈o.after,Region.binds .any e=true→listed.getD e.on false=true) (hr:∀ e∈o.after,Region.binds .any e=true→listed.getD e.on false=true) {j:Nat} (h:waitT ops o j=true):listed.getD j false=true :=
 qh8 hs 4 hr h
def freeAl (AL:List Lays):List (Nat×Nat):=AL.map fun p=>(p.i,p.s)
/-- the slots of blocks that were laid -/
def putLays (G:Nat→Nat):List Lays→Act→Act
 | [],b=>b
 | p :: ps,b=>putLays G ps (b.put (some p.s) (.pointer (some ⟨G p.i,0,none⟩)))
theorem qcp (G:Nat→Nat):∀ (l:List Lays) (b:Act),(putLays G l b).defers=b.defers∧(putLays G l b).tmps.size=b.tmps.size∧(∀ s,(∀ p∈l,p.s≠s)→(putLays G l b).tmps[s]? = b.tmps[s]?)
 | [],b=>⟨rfl,rfl,fun _ _=>rfl⟩
 | p :: ps,b=>by
  obtain ⟨h1,h2,h3⟩:=qcp G ps (b.put (some p.s) (.pointer (some ⟨G p.i,0,none⟩)))
  refine ⟨h1,by rw [putLays,h2];simp [Act.put],fun s hs=>?_⟩
  rw [putLays,h3 s fun q hq=>hs q (List.mem_cons_of_mem _ hq)]
  simp only [Act.put]
  rw [Array.getElem?_setIfInBounds_ne (hs p (List.mem_cons_self ..))]
theorem qex (G:Nat→Nat):∀ (l:List Lays) (b:Act),(∀ p∈l,∀ q∈l,p.i=q.i∨p.s≠q.s)→∀ p∈l,p.s < b.tmps.size→(putLays G l b).tmps[p.s]? = some (.pointer (some ⟨G p.i,0,none⟩))
 | q :: ps,b,hd,p,hp,hs=>by
  rw [putLays]
  have hsz:p.s < (b.put (some q.s) (.pointer (some ⟨G q.i,0,none⟩))).tmps.size:=by simpa [Act.put] using hs
  by_cases hm:∃ r∈ps,r.s=p.s
  ·obtain ⟨r,hr,he⟩:=hm
   have h1:=qex G ps (b.put (some q.s) (.pointer (some ⟨G q.i,0,none⟩))) (fun x hx y hy=>hd x (List.mem_cons_of_mem _ hx) y (List.mem_cons_of_mem _ hy)) r hr (by rw [he];exact hsz)
   rw [he] at h1
   rcases hd p hp r (List.mem_cons_of_mem _ hr) with e | e
   ·rw [e];exact h1
   ·exact absurd he.symm e
  ·rw [(qcp G ps _).2.2 p.s fun r hr he=>hm ⟨r,hr,he⟩]
   rcases List.mem_cons.1 hp with rfl | hp'
   ·simp only [Act.put]
    rw [Array.getElem?_setIfInBounds_self_of_lt hs]
   ·exact absurd ⟨p,hp',rfl⟩ hm
theorem qlj {α β:Type} {f:α→β} {l:List α} (h:(l.map f).Nodup) {x y:α} (hx:x∈l) (hy:y∈l) (e:f x=f y):x=y:=by
 obtain ⟨i,hi⟩:=List.mem_iff_getElem?.1 hx
 obtain ⟨j,hj⟩:=List.mem_iff_getElem?.1 hy
 have h1:(l.map f)[i]? = some (f x):=by simp [hi]
 have h2:(l.map f)[j]? = some (f x):=by simp [hj,e]
 obtain ⟨l1,e1⟩:=List.getElem?_eq_some_iff.1 h1
 obtain ⟨l2,e2⟩:=List.getElem?_eq_some_iff.1 h2
 have:=(List.getElem_inj h).1 (e1.trans e2.symm)
 subst this
 rw [hi] at hj
 exact Option.some.inj hj
/-- what is asked of operation i, taken apart, and how it is seen from b -/
structure Seen (ops:Array Oper) (n:Nat) (b:Act) (AL:List Lays) (listed:Array Bool) (a:Act) (i:Nat) (o:Oper) (d:Nat):Prop where
 dst:o.dst=some d
 kind:((freeAl AL).any (·.1 == i) || kindB o.op)=true
 others:∀ j,j < n→j≠i→dstB ops d j=false
 here:dstB ops d i=true
 want:Region.wanted o (yielded ops a.tmps)=Region.wanted o (yielded ops b.tmps)
 same:kindB o.op=true→execOp a.eval o=execOp b.eval o
theorem alS {q:Nat→Bool} (h:(freeAl AL).all (fun p=>q p.2)=true):∀ p∈AL,q p.s=true:=fun p hp=>List.all_eq_true.1 h (p.i,p.s) (List.mem_map.2 ⟨p,hp,rfl⟩)
theorem InvR.seen {listed:Array Bool} {a:Act} {w:World} (inv:InvR ops n S b AL w1 listed a w) {i:Nat} {o:Oper} (ho:ops[i]? = some o) (hf:freeAt ops n (freeAl AL) i=true)
  (hrd:∀ e∈o.after,Region.binds .any e=true→listed.getD e.on false=true):∃ d,Seen ops n b AL listed a i o d:=by
 unfold freeAt at hf
 simp only [ho,Bool.and_eq_true] at hf
 obtain ⟨⟨⟨⟨⟨hd,hkind⟩,hopnd⟩,hguard⟩,_⟩,hdst⟩:=hf
 obtain ⟨d,hd⟩:=Option.isSome_iff_exists.1 hd
 have hslot:∀ s,(∀ p∈AL,p.s≠s)→((List.range n).all fun j=>!dstB ops s j || waitB o j)=true→a.tmps[s]? = b.tmps[s]?:=fun s hs hall=>inv.same s hs fun j hj hlj=>by
  have:=qbp hall hj
  simp only [Bool.or_eq_true,Bool.not_eq_true'] at this
  rcases this with h | h
  ·exact h
  ·have:=qfh hrd h
   rw [hlj] at this;cases this
 refine ⟨d,hd,hkind,fun j hj hji=>?_,by unfold dstB;simp [ho,hd],?_,fun hko=>?_⟩
 ·have:=qbp hdst hj
  simp only [hd,Bool.or_eq_true,beq_iff_eq,Bool.not_eq_true'] at this
  exact this.resolve_left hji
 ·unfold Region.wanted
  cases hg:o.guard with
  | none=>rfl
  | some q =>
   obtain ⟨j,want⟩:=q
   simp only [hg,Bool.and_eq_true] at hguard
   have:yielded ops a.tmps j=yielded ops b.tmps j:=by
    unfold yielded
    cases hj:ops[j]? with
    | none=>rfl
    | some oj =>
     cases hdj:oj.dst with
     | none=>simp [hdj]
     | some s =>
      simp only [hj,hdj,Bool.and_eq_true] at hguard
      have:=hslot s (fun p hp=>by have:=alS (q:=fun x=>x != s) hguard.2.1 p hp;simpa using this) hguard.2.2
      simp [hdj,this]
   simp only [this]
 ·exact qmw o _ _ hko fun x hx=>by
   have h1:=List.all_eq_true.1 hopnd x hx
   cases x with
   | tmp s =>
    simp only [Bool.and_eq_true] at h1
    have:=hslot s (fun p hp=>by have:=alS (q:=fun x=>x != s) h1.1 p hp;simpa using this) h1.2
    simp [Act.eval,this]
   | const v=>rfl
   | global g=>rfl
   | func f=>rfl
theorem InvR.shut' {listed:Array Bool} {a:Act} {w:World} (inv:InvR ops n S b AL w1 listed a w) {i:Nat} {o:Oper} (ho:ops[i]? = some o) (hrd:∀ e∈o.after,Region.binds .any e=true→listed.getD e.on false=true) :
  ∀ j o',ops[j]? = some o'→(listed.setIfInBounds i true).getD j false=true→∀ e∈o'.after,Region.binds .any e=true→(listed.setIfInBounds i true).getD e.on false=true:=fun j o' hj hl e he hb=>by
 by_cases e1:i=j
 ·subst e1
  rw [ho] at hj
  cases hj
  exact getD_set_true (hrd e he hb)
 ·rw [getD_set_ne false e1] at hl
  exact getD_set_true (inv.shut j o' hj hl e he hb)
theorem InvR.next {listed:Array Bool} {a:Act} {w:World} (inv:InvR ops n S b AL w1 listed a w) {i d:Nat} {o:Oper} (ho:ops[i]? = some o) (hin:i < n) (hs:Seen ops n b AL listed a i o d) (hSt:∀ w w',S w→Below w.heap.size w w'→S w') (hal:∀ p∈AL,p.i < n∧dstB ops p.s p.i=true)
  (hrd:∀ e∈o.after,Region.binds .any e=true→listed.getD e.on false=true) (hnal:∀ p∈AL,p.i≠i) {w':World} (hbw:Below w.heap.size w w') :
  InvR ops n S b AL w1 (listed.setIfInBounds i true) (a.put o.dst (b.tmps.getD (o.dst.getD 0) undef)) w':=by
 have hd:=hs.dst
 have hlisted:∀ {k},k≠i→(listed.setIfInBounds i true).getD k false=listed.getD k false:=fun h=>getD_set_ne false (Ne.symm h)
 have hput:∀ v s,s≠d→(a.put (some d) v).tmps[s]? = a.tmps[s]?:=fun v s hs=>by simp only [Act.put];rw [Array.getElem?_setIfInBounds_ne (Ne.symm hs)]
 have hdal:∀ p∈AL,p.s≠d:=fun p hp e=>by
  have h1:=(hal p hp).2
  rw [e] at h1
  have h2:=hs.others p.i (hal p hp).1 (fun e=>hnal p hp e)
  rw [h1] at h2;cases h2
 refine ⟨by simp [inv.size],fun k hk=>by rw [getD_set_ne false (by omega)];exact inv.tail k hk,inv.shut' ho hrd,?_,by simp [Act.put,hd,inv.tsize],fun s hs' hj=>?_,hSt _ _ inv.world hbw,qac inv.below inv.below.size hbw,?_⟩
 ·rw [hd];exact inv.defers
 ·by_cases hsd:s=d
  ·subst hsd
   rw [hd]
   simp only [Act.put,Option.getD_some]
   rcases Nat.lt_or_ge s b.tmps.size with h | h
   ·rw [Array.getElem?_setIfInBounds_self_of_lt (by rw [inv.tsize];exact h)]
    simp [h]
   ·rw [Array.getElem?_eq_none (by simpa [inv.tsize] using h),Array.getElem?_eq_none h]
  ·rw [hd,hput _ s hsd]
   refine inv.same s hs' fun j hj' hlj=>?_
   by_cases e:j=i
   ·subst e;unfold dstB;simp only [ho,hd];simp;exact fun e=>hsd e.symm
   ·exact hj j hj' (by rw [hlisted e];exact hlj)
 ·obtain ⟨G,hG1,hG2⟩:=inv.laid
  refine ⟨G,fun p hp hl=>?_,fun p hp q hq hlp hlq=>hG2 p hp q hq (by rw [← hlisted (hnal p hp)];exact hlp) (by rw [← hlisted (hnal q hq)];exact hlq)⟩
  rw [hlisted (hnal p hp)] at hl
  obtain ⟨g1,g2,g3⟩:=hG1 p hp hl
  exact ⟨fun hsz=>by rw [hd,hput _ _ (hdal p hp)];exact g1 hsz,(hbw.block _ (qg g2)).trans g2,g3⟩
theorem qhf (late:Nat) (hB:freeL late ops n (freeAl AL)=true) (hlate:late < n→lateB late ops n=true∧(∀ p∈AL,p.i≠late)∧(∀ o,ops[late]? = some o→Yields P ops o (b.tmps.getD (o.dst.getD 0) undef) b)∧(∀ c a d v w,Q (.panic c) (Act.put a (some d) v) w→Q (.panic c) a w)) (hSt:∀ w w',S w→Below w.heap.size w w'→S w') (hgo:GoAll P ops S b AL 0 (ops.toList.take n))
  (hfin:∀ w' G,S w'→Below w1.heap.size w1 w'→(∀ p∈AL,w'.heap[G p.i]? = some (.cells p.cs p.t (0,0))∧w1.heap.size≤G p.i)→(∀ p∈AL,∀ q∈AL,p.i≠q.i→G p.i≠G q.i)→wpList P ops Q (ops.toList.drop n) (putLays G AL b) w') :
  ∀ (m:Nat) (listed:Array Bool) (a:Act) (w:World),InvR ops n S b AL w1 listed a w→cntF listed n≤m→wpAny P .any ops Q (m+(ops.size - n)) listed a w:=by
 simp only [freeL,Bool.and_eq_true,decide_eq_true_eq] at hB
 obtain ⟨⟨⟨⟨⟨⟨hn,hfree⟩,hsink⟩,hal⟩,hdis⟩,hnod⟩,hseq⟩:=hB
 have hone:∀ p∈AL,∀ q∈AL,q.i=p.i→q=p:=fun p hp q hq e=>qlj (f:=Lays.i) (by simpa [freeAl,List.map_map,Function.comp_def] using hnod) hq hp e
 have hdis':∀ p∈AL,∀ q∈AL,p.i=q.i∨p.s≠q.s:=fun p hp q hq=>by
  have h1:=List.all_eq_true.1 hdis (p.i,p.s) (List.mem_map.2 ⟨p,hp,rfl⟩)
  have h2:=List.all_eq_true.1 h1 (q.i,q.s) (List.mem_map.2 ⟨q,hq,rfl⟩)
  simpa using h2
 have hal':∀ p∈AL,p.i < n∧dstB ops p.s p.i=true:=fun p hp=>by
  have h1:=List.all_eq_true.1 hal (p.i,p.s) (List.mem_map.2 ⟨p,hp,rfl⟩)
  simpa using h1
 intro m
 induction m with
 | zero =>
  intro listed a w inv hc
  have hall:=qf5 n (Nat.le_zero.1 hc)
  have hl:listed=(Array.replicate n true) ++ Array.replicate (ops.size - n) false:=by
   apply Array.ext
   ·rw [inv.size];simp;omega
   ·intro i h1 h2
    rcases Nat.lt_or_ge i n with hi | hi
    ·have:=hall i hi
     rw [Array.getElem_append_left (by simpa using hi)]
     simpa [h1] using this
    ·have:=inv.tail i hi
     rw [Array.getElem_append_right (by simpa using hi)]
     simpa [h1] using this
  obtain ⟨G,hG1,hG2⟩:=inv.laid
  have hGl:=fun p (hp:p∈AL)=>hG1 p hp (hall p.i (hal' p hp).1)
  have ha:a=putLays G AL b:=by
   obtain ⟨s1,s2,s3⟩:=qcp G AL b
   have ht:a.tmps=(putLays G AL b).tmps:=by
    apply Array.ext_getElem?
    intro s
    by_cases hm:∃ p∈AL,p.s=s
    ·obtain ⟨p,hp,rfl⟩:=hm
     rcases Nat.lt_or_ge p.s b.tmps.size with h | h
     ·rw [(hGl p hp).1 h,qex G AL b hdis' p hp h]
     ·rw [Array.getElem?_eq_none (by rw [inv.tsize];exact h),Array.getElem?_eq_none (by rw [s2];exact h)]
    ·have hm':∀ p∈AL,p.s≠s:=fun p hp e=>hm ⟨p,hp,e⟩
     rw [s3 s hm']
     exact inv.same s hm' fun j hj h=>by rw [hall j hj] at h;cases h
   have hd:a.defers=(putLays G AL b).defers:=by rw [inv.defers,s1]
   cases a
   simp only at ht hd
   rw [ht,hd]
  have hfl:=hfin w G inv.world inv.below (fun p hp=>⟨(hGl p hp).2.1,(hGl p hp).2.2⟩) fun p hp q hq=>hG2 p hp q hq (hall p.i (hal' p hp).1) (hall q.i (hal' q hq).1)
  have h:=wpAny_of_seq (md:=.any) (Q':=Q) (ops.toList.drop n) n listed a w (fun j=>by simp [List.getElem?_drop]) (by rw [hl];simpa using hseq) (ha ▸ hfl)
  rw [Nat.zero_add]
  simpa using h
 | succ m ih =>
  intro listed a w inv hc
  by_cases h0:cntF listed n=0
  ·have:=ih listed a w inv (by omega)
   rw [show m+1+(ops.size - n)=(m+(ops.size - n))+1 by omega]
   exact qeo this
  obtain ⟨j0,hj0,hu0,hlow⟩:=qh4 n h0
  rw [show m+1+(ops.size - n)=(m+(ops.size - n))+1 by omega]
  by_cases hl:late < n∧listed.getD late false=false∧∀ j,j < n→j≠late→listed.getD j false=true
  ·-- all but the late one have come up: it is taken first
   obtain ⟨hln,hlu,hlo⟩:=hl
   obtain ⟨hLB,hLA,hLY,hQ⟩:=hlate hln
   simp only [lateB,Bool.and_eq_true] at hLB
   have hlsz:late < ops.size:=by omega
   obtain ⟨o,ho⟩:∃ o,ops[late]? = some o:=⟨_,Array.getElem?_eq_getElem hlsz⟩
   have hf:=qbp hfree hln
   have hrd:∀ e∈o.after,Region.binds .any e=true→listed.getD e.on false=true:=fun e he hb=>by
    have hf':=hf
    unfold freeAt at hf'
    simp only [ho,Bool.and_eq_true] at hf'
    have h1:=Array.all_eq_true'.1 hf'.1.2 e he
    rw [hb] at h1
    simp only [Bool.not_true,Bool.false_or,decide_eq_true_eq] at h1
    exact hlo _ (by omega) (by omega)
   obtain ⟨d,hs⟩:=inv.seen ho hf hrd
   have hle:listed=((Array.replicate n true) ++ Array.replicate (ops.size - n) false).setIfInBounds late false:=by
    apply Array.ext
    ·rw [inv.size];simp;omega
    ·intro i h1 h2
     rw [Array.getElem_setIfInBounds (by simpa using h2)]
     split
     ·rename_i e
      subst e
      simpa [h1] using hlu
     ·rename_i e
      rcases Nat.lt_or_ge i n with hi | hi
      ·have:=hlo i hi (Ne.symm e)
       rw [Array.getElem_append_left (by simpa using hi)]
       simpa [h1] using this
      ·have:=inv.tail i hi
       rw [Array.getElem_append_right (by simpa using hi)]
       simpa [h1] using this
   have hready:late∈Region.ready .any ops listed:=mem_ready.2 ⟨by
    have hlt:late < listed.size:=by rw [inv.size];omega
    simpa [hlt] using hlu,o,ho,hrd⟩
   have hko:kindB o.op=true:=by
    rcases Bool.or_eq_true_iff.1 hs.kind with h | h
    ·obtain ⟨q,hq,he⟩:=List.any_eq_true.1 h
     obtain ⟨p,hp,rfl⟩:=List.mem_map.1 hq
     exact absurd (eq_of_beq he) (hLA p hp)
    ·exact h
   have hy:Yields P ops o (b.tmps.getD (o.dst.getD 0) undef) a:=by
    have h:=hLY o ho
    unfold Yields at h ⊢
    rw [hs.want,hs.same hko]
    exact h
   refine wpAny_take ho hLB.1 (by rw [hle];exact hLB.2) (by simpa using hready) (fun c a w h=>hQ c a d _ w (hs.dst ▸ h)) hy ?_
   exact ih _ _ _ (inv.next ho hln hs hSt hal' hrd hLA (Below.refl _ _)) (by have:=qjn (by rw [inv.size];exact hlsz) hlu n hln;omega)
  refine ⟨fun hr=>?_,fun i hi=>?_⟩
  ·-- what comes first is ready
   have hf0:=qbp hfree hj0
   unfold freeAt at hf0
   cases ho:ops[j0]? with
   | none=>rw [ho] at hf0;cases hf0
   | some o =>
    simp only [ho,Bool.and_eq_true] at hf0
    have:j0∈Region.ready .any ops listed:=mem_ready.2 ⟨by
     have hlt:j0 < listed.size:=by rw [inv.size];omega
     simpa [hlt] using hu0,o,ho,fun e he hb=>by
     have h1:=Array.all_eq_true'.1 hf0.1.2 e he
     rw [hb] at h1
     simp only [Bool.not_true,Bool.false_or,decide_eq_true_eq] at h1
     exact hlow _ h1⟩
    rw [hr] at this
    cases this
  obtain ⟨hun,o,ho,hrd⟩:=mem_ready.1 hi
  have hisz:i < ops.size:=(qg ho)
  have hin:i < n:=by
   rcases Nat.lt_or_ge i n with h | h
   ·exact h
   ·have h1:=qbp hsink hisz
    simp only [Bool.or_eq_true,decide_eq_true_eq] at h1
    rcases h1 with h1 | h1
    ·exact h1
    ·have hex:∃ j,j < n∧j≠late∧listed.getD j false=false:=by
      by_cases e:j0=late
      ·subst e
       have h2:=fun hall=>hl ⟨hj0,hu0,hall⟩
       refine Classical.byContradiction fun h3=>h2 fun j hj hne=>?_
       cases h4:listed.getD j false with
       | true=>rfl
       | false=>exact absurd ⟨j,hj,hne,h4⟩ h3
      ·exact ⟨j0,hj0,e,hu0⟩
     obtain ⟨j1,hj1,hne1,hu1⟩:=hex
     have h2:=qbp h1 hj1
     rw [ho] at h2
     rw [show (j1 == late)=false from beq_eq_false_iff_ne.2 hne1,Bool.false_or] at h2
     have:=qih inv.shut hrd h2
     rw [hu1] at this
     cases this
  have hil:i < listed.size:=by rw [inv.size];exact hisz
  have hunF:listed.getD i false=false:=by simpa [hil] using hun
  obtain ⟨d,hs⟩:=inv.seen ho (qbp hfree hin) hrd
  have hd:=hs.dst
  have hkind:=hs.kind
  have hwant:=hs.want
  have hset:(listed.setIfInBounds i true).size=ops.size:=by simp [inv.size]
  have hshut:=inv.shut' ho hrd
  have htail:∀ k,n≤k→(listed.setIfInBounds i true).getD k false=false:=fun k hk=>by rw [getD_set_ne false (by omega)];exact inv.tail k hk
  have hcnt:cntF (listed.setIfInBounds i true) n≤m:=by have:=qjn hil hunF n hin;omega
  have hlisted:∀ {k},k≠i→(listed.setIfInBounds i true).getD k false=listed.getD k false:=fun h=>getD_set_ne false (Ne.symm h)
  have hput:∀ v s,s≠d→(a.put (some d) v).tmps[s]? = a.tmps[s]?:=fun v s hs=>by simp only [Act.put];rw [Array.getElem?_setIfInBounds_ne (Ne.symm hs)]
  rcases hgo.get (i:=i) (o:=o) (by simp [hin,ho]) with ⟨p,hp,hpi,hlay⟩ | ⟨hnal,hgoes⟩
  ·-- a block is laid
   rw [Nat.zero_add] at hpi
   subst hpi
   have hps:p.s=d:=by
    have:=(hal' p hp).2
    unfold dstB at this
    simp only [ho,hd] at this
    have h2:=eq_of_beq this
    exact (Option.some.inj h2).symm
   unfold wpOp
   simp only [ho]
   rw [if_pos (by unfold Region.wanted;rw [hlay.1])]
   refine .inl ?_
   unfold Oper.wp
   rw [hlay.2]
   refine ih _ _ _ ?_ hcnt
   obtain ⟨G,hG1,hG2⟩:=inv.laid
   have hbA:Below w.heap.size w (w.alloc (.cells p.cs p.t)):=(Below.refl _ _).alloc qn _
   refine ⟨hset,htail,hshut,by rw [hd];exact inv.defers,by simp [Act.put,hd,inv.tsize],fun s hs hj=>?_,hSt _ _ inv.world hbA,inv.below.alloc inv.below.size _,fun k=>if k=p.i then w.heap.size else G k,fun q hq hl=>?_,fun q hq r hr hlq hlr hne=>?_⟩
   ·have hsd:s≠d:=fun e=>hs p hp (by rw [hps,e])
    rw [hd,hput _ s hsd]
    refine inv.same s hs fun j hj' hlj=>?_
    by_cases e:j=p.i
    ·subst e;unfold dstB;simp only [ho,hd];simp;exact fun e=>hsd e.symm
    ·exact hj j hj' (by rw [hlisted e];exact hlj)
   ·by_cases e:q.i=p.i
    ·have hqs:q.s=d:=by
      have:=(hal' q hq).2
      rw [e] at this
      unfold dstB at this
      simp only [ho,hd] at this
      have h2:=eq_of_beq this
      exact (Option.some.inj h2).symm
     obtain rfl:=hone p hp q hq e
     simp only [if_pos e,hqs]
     refine ⟨fun hsz=>?_,heap_alloc_new _ _,inv.below.size⟩
     rw [hd];simp only [Act.put];rw [Array.getElem?_setIfInBounds_self_of_lt (by rw [inv.tsize];exact hsz)];simp
    ·rw [hlisted e] at hl
     obtain ⟨g1,g2,g3⟩:=hG1 q hq hl
     have hqs:q.s≠d:=fun h=>(hdis' q hq p hp).elim e (fun h'=>h' (by rw [h,hps]))
     simp only [if_neg e]
     refine ⟨fun hsz=>by rw [hd,hput _ _ hqs];exact g1 hsz,(heap_alloc_old _ _ (qg g2)).trans g2,g3⟩
   ·have hlt:∀ q∈AL,q.i≠p.i→(listed.setIfInBounds p.i true).getD q.i false=true→G q.i < w.heap.size:=fun q hq e hl=>by
     rw [hlisted e] at hl
     exact (qg (hG1 q hq hl).2.1)
    by_cases e1:q.i=p.i
    ·have e2:r.i≠p.i:=fun e=>hne (e1.trans e.symm)
     have hh:=hlt r hr e2 hlr
     simp only [if_pos e1,if_neg e2];omega
    ·by_cases e2:r.i=p.i
     ·have hh:=hlt q hq e1 hlq
      simp only [if_neg e1,if_pos e2];omega
     ·simp only [if_neg e1,if_neg e2]
      exact hG2 q hq r hr (by rw [← hlisted e1];exact hlq) (by rw [← hlisted e2];exact hlr) hne
  ·-- a value
   rw [Nat.zero_add] at hnal
   have hnext:=fun w' (hbw:Below w.heap.size w w')=>inv.next ho hin hs hSt hal' hrd hnal hbw
   unfold wpOp
   simp only [ho]
   rw [hwant]
   rcases hgoes with ⟨hw,hv⟩ | ⟨hw,hrun⟩
   ·rw [if_neg (by rw [hw];decide)]
    have:=ih _ _ _ (hnext w (Below.refl _ _)) hcnt
    rwa [hv] at this
   ·rw [if_pos hw]
    refine .inl ?_
    have hko:kindB o.op=true:=by
     rcases Bool.or_eq_true_iff.1 hkind with h | h
     ·obtain ⟨q,hq,he⟩:=List.any_eq_true.1 h
      obtain ⟨p,hp,rfl⟩:=List.mem_map.1 hq
      exact absurd (eq_of_beq he) (hnal p hp)
     ·exact h
    have hsame:=hs.same hko
    have hr:=hrun w inv.world
    unfold Oper.wp
    rw [hsame]
    generalize (execOp b.eval o).run P w=r at hr ⊢
    match r,hr with
    | .ok (.value u) w',hr =>
     obtain ⟨rfl,rfl⟩:=hr
     exact ih _ _ _ (hnext _ (Below.refl _ _)) hcnt
    | .ok (.enter f args) w',hr =>
     obtain ⟨rfl,hcall⟩:=hr
     exact Calls.mono hcall fun e w'' ⟨h1,hb⟩=>by subst h1;exact ih _ _ _ (hnext _ hb) hcnt
/-- what free operations put -/
def putAll:List Oper→List Value→Act→Act
 | o :: os,v :: vs,a=>putAll os vs (a.put o.dst v)
 | _,_,a=>a
theorem qdy:∀ (l:List Oper) (vs:List Value) (a:Act),(putAll l vs a).defers=a.defers∧(putAll l vs a).tmps.size=a.tmps.size∧(∀ s,(∀ o∈l,o.dst≠some s)→(putAll l vs a).tmps[s]? = a.tmps[s]?)
 | [],vs,a=>by cases vs <;> exact ⟨rfl,rfl,fun _ _=>rfl⟩
 | o :: os,[],a=>⟨rfl,rfl,fun _ _=>rfl⟩
 | o :: os,v :: vs,a=>by
  obtain ⟨h1,h2,h3⟩:=qdy os vs (a.put o.dst v)
  have e:(a.put o.dst v).defers=a.defers∧(a.put o.dst v).tmps.size=a.tmps.size:=by cases o.dst <;> simp [Act.put]
  refine ⟨h1.trans e.1,h2.trans e.2,fun s hs=>(h3 s fun q hq=>hs q (List.mem_cons_of_mem _ hq)).trans ?_⟩
  have hd:=hs o (List.mem_cons_self ..)
  cases ho:o.dst with
  | none=>rfl
  | some d =>
   simp only [Act.put]
   rw [Array.getElem?_setIfInBounds_ne fun e=>hd (by rw [ho,e])]
theorem qdn:∀ (l:List Oper) (vs:List Value) (a:Act),putAll l vs a=putAll (l.take vs.length) vs a
 | [],vs,a=>by cases vs <;> rfl
 | o :: os,[],a=>rfl
 | o :: os,v :: vs,a=>by
  rw [List.length_cons,List.take_succ_cons,putAll,putAll]
  exact qdn os vs _
theorem GoAll.v {o:Oper} {os:List Oper} {i:Nat} (v:Value) (h:Goes P ops S b o v) (hs:GoAll P ops S b AL (i+1) os) (hv:b.tmps.getD (o.dst.getD 0) undef=v:=by rfl) (hn:(AL.all fun p=>p.i != i)=true:=by rfl):GoAll P ops S b AL i (o :: os) :=
 ⟨.inr ⟨fun p hp e=>by have:=List.all_eq_true.1 hn p hp;simp [e] at this,hv ▸ h⟩,hs⟩
theorem GoAll.l {o:Oper} {os:List Oper} {i k:Nat} {p:Lays} (hp:AL[k]? = some p) (hl:lays P o p.cs p.t) (hs:GoAll P ops S b AL (i+1) os) (hi:p.i=i:=by rfl):GoAll P ops S b AL i (o :: os) :=
 ⟨.inl ⟨p,List.mem_of_getElem? hp,hi,hl⟩,hs⟩
theorem GoAll.nil {i:Nat}:GoAll P ops S b AL i []:=trivial
theorem qaq {o:Oper} {v:Value} (h:∀ w,(execOp b.eval o).run P w=.ok (.value v) w) (hw:Region.wanted o (yielded ops b.tmps)=true:=by rfl):Goes P ops S b o v :=
 .inr ⟨hw,fun w _=>by rw [h w];exact ⟨rfl,rfl⟩⟩
theorem qhx {o:Oper} {v:Value} (h:∀ w,S w→(execOp b.eval o).run P w=.ok (.value v) w) (hw:Region.wanted o (yielded ops b.tmps)=true:=by rfl):Goes P ops S b o v :=
 .inr ⟨hw,fun w hs=>by rw [h w hs];exact ⟨rfl,rfl⟩⟩
theorem qee {o:Oper} {ty:TypeId} {i0 i1:Nat} {x0 x1:Operand} {v0 v1 v:Value} (hb:∀ w,(Instr.build ty #[(i0,v0),(i1,v1)]).run P w=.ok v w) (ho:o.op=.build ty #[(i0,x0),(i1,x1)]:=by rfl) (h0:b.eval x0=v0:=by rfl) (h1:b.eval x1=v1:=by rfl) (hw:Region.wanted o (yielded ops b.tmps)=true:=by rfl):Goes P ops S b o v :=
 qaq (qjc ho h0 h1 hb) hw
theorem qbo {o:Oper} (hw:Region.wanted o (yielded ops b.tmps)=false:=by rfl):Goes P ops S b o undef:=.inl ⟨hw,rfl⟩
theorem go_callS {o:Oper} {v:Value} {f:Nat} {xs:Array Operand} {ts:Array TypeId} {al:List Value} (hc:∀ w,S w→Calls P f al.toArray w fun e w'=>e=.returned v∧Below w.heap.size w w') (hf:Ent P f)
  (ho:o.op=.call { callee:=.value (.func f),args:=xs,argTypes:=ts }:=by rfl) (hx:xs.toList.map b.eval=al:=by rfl) (hw:Region.wanted o (yielded ops b.tmps)=true:=by rfl):Goes P ops S b o v :=
 .inr ⟨hw,fun w hs=>by
  rw [qf6 (cap:=[]) ho rfl hf hx w,List.append_nil]
  exact ⟨rfl,hc w hs⟩⟩
theorem qao {o:Oper} {v:Value} {f:Nat} {xs:Array Operand} {ts:Array TypeId} {al:List Value} (hc:∀ w,Calls P f al.toArray w fun e w'=>e=.returned v∧Below w.heap.size w w') (hf:Ent P f)
  (ho:o.op=.call { callee:=.value (.func f),args:=xs,argTypes:=ts }:=by rfl) (hx:xs.toList.map b.eval=al:=by rfl) (hw:Region.wanted o (yielded ops b.tmps)=true:=by rfl):Goes P ops S b o v :=
 go_callS (fun w _=>hc w) hf ho hx hw
section
variable {w0 w:World} {L L':List Blk} {g:Nat} {cs:Array Value} {t:TypeId} {k:Nat} {a:Act}
theorem qap {o:Oper} {ty:TypeId} {n:Nat} {x:Operand} (T:AggT P ty n) (hk:L[k]? = some (g,cs,t)) (hn:cs.size=n:=by rfl) (ho:o.op=.load ty x:=by rfl) (hx:b.eval x=.pointer (some ⟨g,0,none⟩):=by rfl) (hw:Region.wanted o (yielded ops b.tmps)=true:=by rfl):Goes P ops (fun w'=>Mem w0 w' L) b o (.agg cs) :=
 match T.desc with
 | ⟨d,hd,hd2⟩=>qhx (fun w hM=>by
  unfold execOp
  simp only [ho,hx,Instr.loadAt,Instr.sureAddr,Sem.run_bind,Sem.run_pure,Result.andThen_ok,run_loadVar_row w g t ty cs (0,0) d (Mem.at_ hM hk) hd (by cases d <;> first | rfl | cases hd2) (by rw [T.size,hn])]) hw
theorem qrl {o:Oper} {ty:TypeId} {n m:Nat} {x:Operand} (T:AggT P ty n) (hk:L[k]? = some (g,cs,t)) (new:Array Value) (ho:o.op=.load ty x:=by rfl) (hx:b.eval x=.pointer (some ⟨g,m,none⟩):=by rfl) (hn:new.size=n:=by rfl) (hnew:cs.toList.extract m (m+n)=new.toList:=by rfl) (hw:Region.wanted o (yielded ops b.tmps)=true:=by rfl):Goes P ops (fun w'=>Mem w0 w' L) b o (.agg new) :=
 match T.desc with
 | ⟨d,hd,hd2⟩=>qhx (fun w hM=>by
  unfold execOp
  simp only [ho,hx,Instr.loadAt,Instr.sureAddr,Sem.run_bind,Sem.run_pure,Result.andThen_ok,qb5 w g m ty new.toList d (fun j u hj=>rc (Mem.at_ hM hk) (m+j) (qe5 (n:=n) (hnew ▸ hj))) hd (by cases d <;> first | rfl | cases hd2) (by rw [T.size,← hn];simp),Array.toArray_toList]) hw
theorem qba {o:Oper} {ty:TypeId} {n m:Nat} {x:Operand} {new:Array Value} (T:AggT P ty n) (hk:L[k]? = some (g,cs,t)) (hp:PartAt cs m n new) (ho:o.op=.load ty x:=by rfl) (hx:b.eval x=.pointer (some ⟨g,m,none⟩):=by rfl) (hw:Region.wanted o (yielded ops b.tmps)=true:=by rfl):Goes P ops (fun w'=>Mem w0 w' L) b o (.agg new) :=
 qrl T hk new ho hx hp.size hp.part hw
theorem qg1 {o:Oper} {ty:TypeId} {j:Nat} {x:Operand} {v:Value} (hna:∀ w,(isAgg ty).run P w=.ok false w) (hk:L[k]? = some (g,cs,t)) (hj:cs[j]? = some v) (ho:o.op=.load ty x:=by rfl) (hx:b.eval x=.pointer (some ⟨g,j,none⟩):=by rfl) (hw:Region.wanted o (yielded ops b.tmps)=true:=by rfl):Goes P ops (fun w'=>Mem w0 w' L) b o v :=
 qhx (fun w hM=>by
  unfold execOp
  simp only [ho,hx,Instr.loadAt,Instr.sureAddr,Sem.run_bind,Sem.run_pure,Result.andThen_ok,qkq hM hna hk hj]) hw
theorem qax {o:Oper} {a:Act} {ty:TypeId} {n m:Nat} {x:Operand} {S:World→Prop} (T:AggT P ty n) (hS:∀ w,S w→w.heap[g]? = some (.cells cs t (0,0))) (new:Array Value) (ho:o.op=.load ty x:=by rfl) (hx:a.eval x=.pointer (some ⟨g,m,none⟩):=by rfl) (hn:new.size=n:=by rfl) (hnew:cs.toList.extract m (m+n)=new.toList:=by rfl) (hw:Region.wanted o (yielded ops a.tmps)=true:=by rfl):YieldsIf P ops S o (.agg new) a :=
 match T.desc with
 | ⟨d,hd,hd2⟩=>.inl ⟨hw,fun w hs=>by
  unfold execOp
  simp only [ho,hx,Instr.loadAt,Instr.sureAddr,Sem.run_bind,Sem.run_pure,Result.andThen_ok,qb5 w g m ty new.toList d (fun j u hj=>rc (hS w hs) (m+j) (qe5 (n:=n) (hnew ▸ hj))) hd (by cases d <;> first | rfl | cases hd2) (by rw [T.size,← hn];simp),Array.toArray_toList]⟩
theorem qfb {o:Oper} {a:Act} {ty:TypeId} {n:Nat} {x:Operand} {S:World→Prop} (T:AggT P ty n) (hS:∀ w,S w→w.heap[g]? = some (.cells cs t (0,0))) (ho:o.op=.load ty x:=by rfl) (hx:a.eval x=.pointer (some ⟨g,0,none⟩):=by rfl) (hn:cs.size=n:=by rfl) (hw:Region.wanted o (yielded ops a.tmps)=true:=by rfl):YieldsIf P ops S o (.agg cs) a :=
 match T.desc with
 | ⟨d,hd,hd2⟩=>.inl ⟨hw,fun w hs=>by
  unfold execOp
  simp only [ho,hx,Instr.loadAt,Instr.sureAddr,Sem.run_bind,Sem.run_pure,Result.andThen_ok,run_loadVar_row w g t ty cs (0,0) d (hS w hs) hd (by cases d <;> first | rfl | cases hd2) (by rw [T.size,hn])]⟩
/-- two rows are read, then two are written: 'a, b = c, d' -/
theorem qoe {id:Nat} {o0 o1 o2 o3:Oper} {n:Nat} {ty:TypeId} {x0 x1 y0 y1:Operand} {d0 d1:Tmp} {k1 k2 k3 g1 g2 g3:Nat} {c1 c2 c3:Array Value} {t1 t2 t3:TypeId} {L1 L2:List Blk} (hM:Mem w0 w L) (hm:P.follows .mixedOrders=true) (T:AggT P ty n)
  (h0:o0.op=.load ty x0) (h1:o1.op=.load ty x1) (h2:o2.op=.store ty y0 (.tmp d0)) (h3:o3.op=.store ty y1 (.tmp d1))
  (hx0:a.eval x0=.pointer (some ⟨g,0,none⟩)) (hx1:a.eval x1=.pointer (some ⟨g1,0,none⟩)) (hy0:a.eval y0=.pointer (some ⟨g2,0,none⟩)) (hy1:a.eval y1=.pointer (some ⟨g3,0,none⟩))
  (hk0:L[k]? = some (g,cs,t)) (hk1:L[k1]? = some (g1,c1,t1)) (hk2:L[k2]? = some (g2,c2,t2)∧L.set k2 (g2,cs,t2)=L1) (hk3:L1[k3]? = some (g3,c3,t3)∧L1.set k3 (g3,c1,t3)=L2)
  (n0:cs.size=n) (n1:c1.size=n) (n2:c2.size=n) (n3:c3.size=n) (u0:cs.all (·.oneCell')=true) (u1:c1.all (·.oneCell')=true) (hne:k1≠k2) (hd0:o0.dst=some d0) (hd1:o1.dst=some d1)
  (hb2:((a.put o0.dst (.agg cs)).put o1.dst (.agg c1)).eval y0=a.eval y0) (hb3:((a.put o0.dst (.agg cs)).put o1.dst (.agg c1)).eval y1=a.eval y1) (hb4:((a.put o0.dst (.agg cs)).put o1.dst (.agg c1)).eval (.tmp d0)=.agg cs) (hb5:((a.put o0.dst (.agg cs)).put o1.dst (.agg c1)).eval (.tmp d1)=.agg c1) (hb6:(a.put o0.dst (.agg cs)).eval x1=a.eval x1)
  (hw:(o0.guard.isNone && o1.guard.isNone && o2.guard.isNone && o3.guard.isNone && o2.dst.isNone && o3.dst.isNone && o0.dst.isSome && o1.dst.isSome)=true)
  (c0:(waitsB .any #[o0,o1,o2,o3] 2 0 && Region.noSelect #[o0,o1,o2,o3] && Region.free .any #[o0,o1,o2,o3] #[false,false,false,false] 0 && (Region.ready .any #[o0,o1,o2,o3] #[false,false,false,false]).contains 0)=true)
  (c1':(waitsB .any #[o0,o1,o2,o3] 3 1 && Region.free .any #[o0,o1,o2,o3] #[true,false,false,false] 1 && (Region.ready .any #[o0,o1,o2,o3] #[true,false,false,false]).contains 1)=true)
  (c2':Region.ready .any #[o0,o1,o2,o3] #[true,true,false,false] = [2]) (c3':Region.ready .any #[o0,o1,o2,o3] #[true,true,true,false] = [3]) (c4':Region.ready .any #[o0,o1,o2,o3] #[true,true,true,true] = [])
  (hQ:∀ c a d v w,Q (.panic c) (Act.put a (some d) v) w→Q (.panic c) a w)
  (h:∀ w',Mem w0 w' L2→Q .normal ((a.put o0.dst (.agg cs)).put o1.dst (.agg c1)) w'):(Code.region id [o0,o1,o2,o3].toArray true).wp P Q a w:=by
 simp only [Bool.and_eq_true,Option.isNone_iff_eq_none] at hw
 obtain ⟨⟨⟨⟨⟨⟨⟨w0',w1'⟩,w2'⟩,w3'⟩,v2⟩,v3⟩,_⟩,_⟩:=hw
 simp only [Bool.and_eq_true] at c0 c1'
 refine qat [(2,fun w'=>w'.heap[g]? = some (.cells cs t (0,0))),(3,fun w'=>w'.heap[g1]? = some (.cells c1 t1 (0,0)))] hm ?_
 have hD:=hM.drew
 refine qt8 (i:=0) (oi:=o0) (v:=.agg cs) 2 _ (.head _) rfl (qfb T (fun _ h=>h) h0 hx0 n0 (by simp [Region.wanted,w0'])) (.here (hD.at_ hk0) (.here (hD.at_ hk1) .nil)) (fun c a w h=>hQ c a _ _ w (hd0 ▸ h)) c0.1.1.1 (by rfl) c0.1.1.2 (by rfl) c0.1.2 c0.2 ?_
 refine qt8 (i:=1) (oi:=o1) (v:=.agg c1) 3 _ (.tail _ (.head _)) rfl (qfb T (fun _ h=>h) h1 (by rw [hb6];exact hx1) n1 (by simp [Region.wanted,w1'])) (.here (hD.at_ hk0) (.here (hD.at_ hk1) .nil)) (fun c a w h=>hQ c a _ _ w (hd1 ▸ h)) c1'.1.1 (by rfl) c0.1.1.2 (by rfl) c1'.1.2 c1'.2 ?_
 refine qeh (rs:=[2]) c2' (by simp) (AllReadyR.cons (o:=o2) rfl (fun K hK=>?_) AllReadyR.nil)
 rw [if_pos (by simp [Region.wanted,w2'])]
 refine wp_store_row _ _ _ h2 g2 cs (by rw [hb2];exact hy0) hb4 _ _ (hD.at_ hk2.1) (by rw [T.size,n0]) (by rw [n2,n0]) u0 ?_
 have hM1:=hD.set hk2.1 cs hk2.2
 rw [v2]
 have hg1:(World.setRow w.drew g2 cs).heap[g1]? = some (.cells c1 t1 (0,0)):=(qbe (hD.ne hk1 hk2.1 hne)).trans (hD.at_ hk1)
 refine hK _ _ (.past rfl (.here hg1 .nil)) (fun _=>?_)
 refine qeh (rs:=[3]) c3' (by simp) (AllReadyR.cons (o:=o3) rfl (fun K hK=>?_) AllReadyR.nil)
 rw [if_pos (by simp [Region.wanted,w3'])]
 refine wp_store_row _ _ _ h3 g3 c1 (by show Act.eval ((a.put o0.dst (.agg cs)).put o1.dst (.agg c1)) y1=_;rw [hb3];exact hy1) hb5 _ _ (hM1.at_ hk3.1) (by rw [T.size,n1]) (by rw [n3,n1]) u1 ?_
 have hM2:=hM1.set hk3.1 c1 hk3.2
 rw [v3]
 refine hK _ _ (.past rfl (.past rfl .nil)) (fun _=>?_)
 exact qbi c4' (h _ hM2) _
theorem Mem.news (hM:Mem w0 w L) {w':World} (h':Mem w0 w' L) (G:Nat→Nat):∀ {AL:List Lays},(AL.map (·.i)).Nodup→(∀ p∈AL,w'.heap[G p.i]? = some (.cells p.cs p.t (0,0))∧w.heap.size≤G p.i)→(∀ p∈AL,∀ q∈AL,p.i≠q.i→G p.i≠G q.i) →
  Mem w0 w' (AL.map (fun p=>(G p.i,p.cs,p.t)) ++ L)
 | [],_,_,_=>h'
 | p :: ps,hn,hl,hd=>by
  rw [List.map_cons,List.nodup_cons] at hn
  have ih:=Mem.news hM h' G hn.2 (fun q hq=>hl q (List.mem_cons_of_mem _ hq)) fun q hq r hr=>hd q (List.mem_cons_of_mem _ hq) r (List.mem_cons_of_mem _ hr)
  have hp:=hl p (List.mem_cons_self ..)
  refine ⟨h'.below,fun q hq=>?_,?_⟩
  ·rcases List.mem_cons.1 hq with rfl | hq
   ·exact ⟨hp.1,Nat.le_trans hM.below.size hp.2⟩
   ·exact ih.rows q hq
  ·show (G p.i :: (ps.map (fun p=>(G p.i,p.cs,p.t)) ++ L).map (·.1)).Nodup
   rw [List.nodup_cons]
   refine ⟨fun hm=>?_,ih.apart⟩
   obtain ⟨q,hq,he⟩:=List.mem_map.1 hm
   rcases List.mem_append.1 hq with hq | hq
   ·obtain ⟨r,hr,rfl⟩:=List.mem_map.1 hq
    exact hd p (List.mem_cons_self ..) r (List.mem_cons_of_mem _ hr) (fun e=>hn.1 (List.mem_map.2 ⟨r,hr,e.symm⟩)) he.symm
   ·have:=hM.lt hq
    omega
/-- a region that draws: what its first n operations put and lay, then the others one behind the other; operation `late` need not come up ahead of them -/
theorem qcz (late:Nat) {id:Nat} {l:List Oper} (n:Nat) (hM:Mem w0 w L) (hm:P.follows .mixedOrders=true) (VS:List Value) (AL:List Lays) {b:Act} (hb:putAll l VS a=b) (hVS:VS.length=n) (hB:freeL late l.toArray n (freeAl AL)=true) (hlate:late < n→lateB late l.toArray n=true∧(∀ p∈AL,p.i≠late)∧(∀ o,l.toArray[late]? = some o→Yields P l.toArray o (b.tmps.getD (o.dst.getD 0) undef) b)∧(∀ c a d v w,Q (.panic c) (Act.put a (some d) v) w→Q (.panic c) a w))
  (hgo:GoAll P l.toArray (fun w'=>Mem w0 w' L) b AL 0 (l.take n)) (hfin:∀ w' G,Mem w0 w' (AL.map (fun p=>(G p.i,p.cs,p.t)) ++ L)→wpList P l.toArray Q (l.drop n) (putLays G AL b) w'):(Code.region id l.toArray true).wp P Q a w:=by
 rw [qdn,hVS] at hb
 refine wp_region_any hm ?_
 have hn:n < l.toArray.size:=by
  have h:=hB
  simp only [freeL,Bool.and_eq_true,decide_eq_true_eq] at h
  exact h.1.1.1.1.1.1
 have hnod:(AL.map (·.i)).Nodup:=by
  have h:=hB
  simp only [freeL,Bool.and_eq_true,decide_eq_true_eq] at h
  simpa [freeAl,List.map_map,Function.comp_def] using h.1.2
 obtain ⟨s1,s2,s3⟩:=qdy (l.take n) VS a
 rw [hb] at s1 s2 s3
 have inv0:InvR l.toArray n (fun w'=>Mem w0 w' L) b AL w (Array.replicate l.toArray.size false) a { w with drawn:=w.drawn+1 } :=
  ⟨by simp,fun k _=>getD_replicate_false _ _,fun j o _ h=>absurd ((getD_replicate_false _ _).symm.trans h) (by decide),s1.symm,s2.symm,fun s _ hj=>(s3 s fun o ho e=>by
   obtain ⟨j,hjj⟩:=List.mem_iff_getElem?.1 ho
   have hjn:j < n:=by
    have:=(List.getElem?_eq_some_iff.1 hjj).1
    rw [List.length_take] at this;omega
   have h1:=hj j hjn (getD_replicate_false _ _)
   rw [List.getElem?_take,if_pos hjn] at hjj
   unfold dstB at h1
   simp [hjj,e] at h1).symm,hM.drew,(Below.refl _ w).drew,fun _=>0,fun p _ h=>absurd ((getD_replicate_false _ _).symm.trans h) (by decide),fun p _ q _ h=>absurd ((getD_replicate_false _ _).symm.trans h) (by decide)⟩
 have h:=qhf (Q:=Q) (b:=b) (w1:=w) late hB hlate (fun _ _ h hb=>Mem.call h hb) (by simpa using hgo) (fun w' G hS hbw hl hd=>by
  have:=hfin w' G (hM.news hS G hnod hl hd)
  simpa using this) n _ a _ inv0 (qgy _ n)
 rwa [show n+(l.toArray.size - n)=l.toArray.size by omega] at h
theorem qk8 {late:Nat} {o:Oper} {v:Value} {b:Act} (ho:ops[late]? = some o) (hv:b.tmps.getD (o.dst.getD 0) undef=v) (hw:Region.wanted o (yielded ops b.tmps)=true) (hy:∀ w,(execOp b.eval o).run P w=.ok (.value v) w) :
  ∀ o',ops[late]? = some o'→Yields P ops o' (b.tmps.getD (o'.dst.getD 0) undef) b:=fun o' h=>by
 rw [ho] at h
 obtain rfl:=Option.some.inj h
 exact .inl ⟨hw,fun w=>by rw [hv];exact hy w⟩
/-- a region that draws: what its first n operations put and lay, then the others one behind the other -/
theorem qau {id:Nat} {l:List Oper} (n:Nat) (hM:Mem w0 w L) (hm:P.follows .mixedOrders=true) (VS:List Value) (AL:List Lays) {b:Act} (hb:putAll l VS a=b) (hVS:VS.length=n) (hB:freeB l.toArray n (freeAl AL)=true)
  (hgo:GoAll P l.toArray (fun w'=>Mem w0 w' L) b AL 0 (l.take n)) (hfin:∀ w' G,Mem w0 w' (AL.map (fun p=>(G p.i,p.cs,p.t)) ++ L)→wpList P l.toArray Q (l.drop n) (putLays G AL b) w'):(Code.region id l.toArray true).wp P Q a w :=
 qcz n n hM hm VS AL hb hVS hB (fun h=>absurd h (Nat.lt_irrefl _)) hgo hfin
end
end
/- A call by the slot where its value goes; of no program. -/
theorem qak {P:Program} {ops:Array Oper} {rest:List Oper} {op:Oper} {a a':Act} {w0 w:World} {Q:Exit→Act→World→Prop} {L:List Blk} (s:Nat) (hd:op.dst=some s) (hM:Mem w0 w L) {f:Nat} {xs:Array Operand} {ts:Array TypeId} (ho:op.op=.call { callee:=.value (.func f),args:=xs,argTypes:=ts }) (hgd:Region.wanted op (yielded ops a.tmps)=true) (hf:Ent P f) {al:List Value} {v:Value}
  (hc:Calls P f al.toArray w fun e w'=>e=.returned v∧Below w.heap.size w w') (hx:xs.toList.map a.eval=al)
  (h:∀ w',Mem w0 w' L→wpList P ops Q rest a' w') (ha:a.put op.dst v=a':=by simp only [Act.put,List.setIfInBounds_toArray,List.set_cons_zero,List.set_cons_succ];rfl):wpList P ops Q (op :: rest) a w :=
 qad hM hgd ho hf hc hx h ha
/-- a part of a block, written anew -/
structure PutAt (cs:Array Value) (o n:Nat) (new cs':Array Value):Prop where
 put:cs.toList.take o ++ new.toList ++ cs.toList.drop (o+n)=cs'.toList
 size:new.size=n
 fits:o+n≤cs.size
theorem qdu {P:Program} {ops:Array Oper} {rest:List Oper} {op:Oper} {a a':Act} {w0 w:World} {Q:Exit→Act→World→Prop} {L L':List Blk} {g k n o:Nat} {cs cells new:Array Value} {t:TypeId} (hM:Mem w0 w L) (hgd:op.guard=none) {ty:TypeId} {x y:Operand} (ho:op.op=.store ty x y) (T:AggT P ty n) (hx:a.eval x=.pointer (some ⟨g,o,none⟩)) (hy:a.eval y=.agg cells)
  (hku:L[k]? = some (g,cs,t)∧L.set k (g,new,t)=L') (hp:PutAt cs o n cells new) (h1:cells.all (·.oneCell')=true)
  (h:∀ w',Mem w0 w' L'→wpList P ops Q rest a' w') (ha:a.put op.dst undef=a':=by simp only [Act.put,List.setIfInBounds_toArray,List.set_cons_zero,List.set_cons_succ];rfl):wpList P ops Q (op :: rest) a w :=
 qb7 hgd ty x y ho g o cells new hx hy t cs (hM.at_ hku.1) (by rw [T.size,hp.size]) (by rw [hp.size];exact hp.fits) h1 (by rw [hp.size];exact hp.put) (ha ▸ h _ (hM.set hku.1 new hku.2))
/- Regions that draw their order, one of whose free operations may come up late; of no program. -/
section
variable {P:Program} {ops:Array Oper} {Q:Exit→Act→World→Prop} {n:Nat} {S:World→Prop} {b:Act} {AL:List Lays} {w1:World}
theorem qkm {l:Array Bool} {i j:Nat} (v:Bool) (h:i≠j):(l.setIfInBounds i v).getD j false=l.getD j false:=by
 simp [Array.getD_eq_getD_getElem?,Array.getElem?_setIfInBounds_ne h]
theorem qlo (late:Nat) (hB:freeL late ops n (freeAl AL)=true) (hlate:late < n→∀ a w,InvR ops n S b AL w1 (((Array.replicate n true) ++ Array.replicate (ops.size - n) false).setIfInBounds late false) a w→wpAny P .any ops Q (ops.size - n+1) (((Array.replicate n true) ++ Array.replicate (ops.size - n) false).setIfInBounds late false) a w) (hSt:∀ w w',S w→Below w.heap.size w w'→S w') (hgo:GoAll P ops S b AL 0 (ops.toList.take n))
  (hfin:∀ w' G,S w'→Below w1.heap.size w1 w'→(∀ p∈AL,w'.heap[G p.i]? = some (.cells p.cs p.t (0,0))∧w1.heap.size≤G p.i)→(∀ p∈AL,∀ q∈AL,p.i≠q.i→G p.i≠G q.i)→wpList P ops Q (ops.toList.drop n) (putLays G AL b) w') :
  ∀ (m:Nat) (listed:Array Bool) (a:Act) (w:World),InvR ops n S b AL w1 listed a w→cntF listed n≤m→wpAny P .any ops Q (m+(ops.size - n)) listed a w:=by
 simp only [freeL,Bool.and_eq_true,decide_eq_true_eq] at hB
 obtain ⟨⟨⟨⟨⟨⟨hn,hfree⟩,hsink⟩,hal⟩,hdis⟩,hnod⟩,hseq⟩:=hB
 have hone:∀ p∈AL,∀ q∈AL,q.i=p.i→q=p:=fun p hp q hq e=>qlj (f:=Lays.i) (by simpa [freeAl,List.map_map,Function.comp_def] using hnod) hq hp e
 have hdis':∀ p∈AL,∀ q∈AL,p.i=q.i∨p.s≠q.s:=fun p hp q hq=>by
  have h1:=List.all_eq_true.1 hdis (p.i,p.s) (List.mem_map.2 ⟨p,hp,rfl⟩)
  have h2:=List.all_eq_true.1 h1 (q.i,q.s) (List.mem_map.2 ⟨q,hq,rfl⟩)
  simpa using h2
 have hal':∀ p∈AL,p.i < n∧dstB ops p.s p.i=true:=fun p hp=>by
  have h1:=List.all_eq_true.1 hal (p.i,p.s) (List.mem_map.2 ⟨p,hp,rfl⟩)
  simpa using h1
 intro m
 induction m with
 | zero =>
  intro listed a w inv hc
  have hall:=qf5 n (Nat.le_zero.1 hc)
  have hl:listed=(Array.replicate n true) ++ Array.replicate (ops.size - n) false:=by
   apply Array.ext
   ·rw [inv.size];simp;omega
   ·intro i h1 h2
    rcases Nat.lt_or_ge i n with hi | hi
    ·have:=hall i hi
     rw [Array.getElem_append_left (by simpa using hi)]
     simpa [h1] using this
    ·have:=inv.tail i hi
     rw [Array.getElem_append_right (by simpa using hi)]
     simpa [h1] using this
  obtain ⟨G,hG1,hG2⟩:=inv.laid
  have hGl:=fun p (hp:p∈AL)=>hG1 p hp (hall p.i (hal' p hp).1)
  have ha:a=putLays G AL b:=by
   obtain ⟨s1,s2,s3⟩:=qcp G AL b
   have ht:a.tmps=(putLays G AL b).tmps:=by
    apply Array.ext_getElem?
    intro s
    by_cases hm:∃ p∈AL,p.s=s
    ·obtain ⟨p,hp,rfl⟩:=hm
     rcases Nat.lt_or_ge p.s b.tmps.size with h | h
     ·rw [(hGl p hp).1 h,qex G AL b hdis' p hp h]
     ·rw [Array.getElem?_eq_none (by rw [inv.tsize];exact h),Array.getElem?_eq_none (by rw [s2];exact h)]
    ·have hm':∀ p∈AL,p.s≠s:=fun p hp e=>hm ⟨p,hp,e⟩
     rw [s3 s hm']
     exact inv.same s hm' fun j hj h=>by rw [hall j hj] at h;cases h
   have hd:a.defers=(putLays G AL b).defers:=by rw [inv.defers,s1]
   cases a
   simp only at ht hd
   rw [ht,hd]
  have hfl:=hfin w G inv.world inv.below (fun p hp=>⟨(hGl p hp).2.1,(hGl p hp).2.2⟩) fun p hp q hq=>hG2 p hp q hq (hall p.i (hal' p hp).1) (hall q.i (hal' q hq).1)
  have h:=wpAny_of_seq (md:=.any) (Q':=Q) (ops.toList.drop n) n listed a w (fun j=>by simp [List.getElem?_drop]) (by rw [hl];simpa using hseq) (ha ▸ hfl)
  rw [Nat.zero_add]
  simpa using h
 | succ m ih =>
  intro listed a w inv hc
  by_cases h0:cntF listed n=0
  ·have:=ih listed a w inv (by omega)
   rw [show m+1+(ops.size - n)=(m+(ops.size - n))+1 by omega]
   exact qeo this
  obtain ⟨j0,hj0,hu0,hlow⟩:=qh4 n h0
  rw [show m+1+(ops.size - n)=(m+(ops.size - n))+1 by omega]
  by_cases hl:late < n∧listed.getD late false=false∧∀ j,j < n→j≠late→listed.getD j false=true
  ·-- all but the late one have come up: it is taken first
   obtain ⟨hln,hlu,hlo⟩:=hl
   have hle:listed=((Array.replicate n true) ++ Array.replicate (ops.size - n) false).setIfInBounds late false:=by
    apply Array.ext
    ·rw [inv.size];simp;omega
    ·intro i h1 h2
     rw [Array.getElem_setIfInBounds (by simpa using h2)]
     split
     ·rename_i e
      subst e
      simpa [h1] using hlu
     ·rename_i e
      rcases Nat.lt_or_ge i n with hi | hi
      ·have:=hlo i hi (Ne.symm e)
       rw [Array.getElem_append_left (by simpa using hi)]
       simpa [h1] using this
      ·have:=inv.tail i hi
       rw [Array.getElem_append_right (by simpa using hi)]
       simpa [h1] using this
   have h:=hlate hln a w (hle ▸ inv)
   rw [← hle] at h
   have:=qja h m
   rwa [show m+(ops.size - n+1)=m+(ops.size - n)+1 by omega] at this
  refine ⟨fun hr=>?_,fun i hi=>?_⟩
  ·-- what comes first is ready
   have hf0:=qbp hfree hj0
   unfold freeAt at hf0
   cases ho:ops[j0]? with
   | none=>rw [ho] at hf0;cases hf0
   | some o =>
    simp only [ho,Bool.and_eq_true] at hf0
    have:j0∈Region.ready .any ops listed:=mem_ready.2 ⟨by
     have hlt:j0 < listed.size:=by rw [inv.size];omega
     simpa [hlt] using hu0,o,ho,fun e he hb=>by
     have h1:=Array.all_eq_true'.1 hf0.1.2 e he
     rw [hb] at h1
     simp only [Bool.not_true,Bool.false_or,decide_eq_true_eq] at h1
     exact hlow _ h1⟩
    rw [hr] at this
    cases this
  obtain ⟨hun,o,ho,hrd⟩:=mem_ready.1 hi
  have hisz:i < ops.size:=(qg ho)
  have hin:i < n:=by
   rcases Nat.lt_or_ge i n with h | h
   ·exact h
   ·have h1:=qbp hsink hisz
    simp only [Bool.or_eq_true,decide_eq_true_eq] at h1
    rcases h1 with h1 | h1
    ·exact h1
    ·have hex:∃ j,j < n∧j≠late∧listed.getD j false=false:=by
      by_cases e:j0=late
      ·subst e
       have h2:=fun hall=>hl ⟨hj0,hu0,hall⟩
       refine Classical.byContradiction fun h3=>h2 fun j hj hne=>?_
       cases h4:listed.getD j false with
       | true=>rfl
       | false=>exact absurd ⟨j,hj,hne,h4⟩ h3
      ·exact ⟨j0,hj0,e,hu0⟩
     obtain ⟨j1,hj1,hne1,hu1⟩:=hex
     have h2:=qbp h1 hj1
     rw [ho] at h2
     rw [show (j1 == late)=false from beq_eq_false_iff_ne.2 hne1,Bool.false_or] at h2
     have:=qih inv.shut hrd h2
     rw [hu1] at this
     cases this
  have hil:i < listed.size:=by rw [inv.size];exact hisz
  have hunF:listed.getD i false=false:=by simpa [hil] using hun
  obtain ⟨d,hs⟩:=inv.seen ho (qbp hfree hin) hrd
  have hd:=hs.dst
  have hkind:=hs.kind
  have hwant:=hs.want
  have hset:(listed.setIfInBounds i true).size=ops.size:=by simp [inv.size]
  have hshut:=inv.shut' ho hrd
  have htail:∀ k,n≤k→(listed.setIfInBounds i true).getD k false=false:=fun k hk=>by rw [getD_set_ne false (by omega)];exact inv.tail k hk
  have hcnt:cntF (listed.setIfInBounds i true) n≤m:=by have:=qjn hil hunF n hin;omega
  have hlisted:∀ {k},k≠i→(listed.setIfInBounds i true).getD k false=listed.getD k false:=fun h=>getD_set_ne false (Ne.symm h)
  have hput:∀ v s,s≠d→(a.put (some d) v).tmps[s]? = a.tmps[s]?:=fun v s hs=>by simp only [Act.put];rw [Array.getElem?_setIfInBounds_ne (Ne.symm hs)]
  rcases hgo.get (i:=i) (o:=o) (by simp [hin,ho]) with ⟨p,hp,hpi,hlay⟩ | ⟨hnal,hgoes⟩
  ·-- a block is laid
   rw [Nat.zero_add] at hpi
   subst hpi
   have hps:p.s=d:=by
    have:=(hal' p hp).2
    unfold dstB at this
    simp only [ho,hd] at this
    have h2:=eq_of_beq this
    exact (Option.some.inj h2).symm
   unfold wpOp
   simp only [ho]
   rw [if_pos (by unfold Region.wanted;rw [hlay.1])]
   refine .inl ?_
   unfold Oper.wp
   rw [hlay.2]
   refine ih _ _ _ ?_ hcnt
   obtain ⟨G,hG1,hG2⟩:=inv.laid
   have hbA:Below w.heap.size w (w.alloc (.cells p.cs p.t)):=(Below.refl _ _).alloc qn _
   refine ⟨hset,htail,hshut,by rw [hd];exact inv.defers,by simp [Act.put,hd,inv.tsize],fun s hs hj=>?_,hSt _ _ inv.world hbA,inv.below.alloc inv.below.size _,fun k=>if k=p.i then w.heap.size else G k,fun q hq hl=>?_,fun q hq r hr hlq hlr hne=>?_⟩
   ·have hsd:s≠d:=fun e=>hs p hp (by rw [hps,e])
    rw [hd,hput _ s hsd]
    refine inv.same s hs fun j hj' hlj=>?_
    by_cases e:j=p.i
    ·subst e;unfold dstB;simp only [ho,hd];simp;exact fun e=>hsd e.symm
    ·exact hj j hj' (by rw [hlisted e];exact hlj)
   ·by_cases e:q.i=p.i
    ·have hqs:q.s=d:=by
      have:=(hal' q hq).2
      rw [e] at this
      unfold dstB at this
      simp only [ho,hd] at this
      have h2:=eq_of_beq this
      exact (Option.some.inj h2).symm
     obtain rfl:=hone p hp q hq e
     simp only [if_pos e,hqs]
     refine ⟨fun hsz=>?_,heap_alloc_new _ _,inv.below.size⟩
     rw [hd];simp only [Act.put];rw [Array.getElem?_setIfInBounds_self_of_lt (by rw [inv.tsize];exact hsz)];simp
    ·rw [hlisted e] at hl
     obtain ⟨g1,g2,g3⟩:=hG1 q hq hl
     have hqs:q.s≠d:=fun h=>(hdis' q hq p hp).elim e (fun h'=>h' (by rw [h,hps]))
     simp only [if_neg e]
     refine ⟨fun hsz=>by rw [hd,hput _ _ hqs];exact g1 hsz,(heap_alloc_old _ _ (qg g2)).trans g2,g3⟩
   ·have hlt:∀ q∈AL,q.i≠p.i→(listed.setIfInBounds p.i true).getD q.i false=true→G q.i < w.heap.size:=fun q hq e hl=>by
     rw [hlisted e] at hl
     exact (qg (hG1 q hq hl).2.1)
    by_cases e1:q.i=p.i
    ·have e2:r.i≠p.i:=fun e=>hne (e1.trans e.symm)
     have hh:=hlt r hr e2 hlr
     simp only [if_pos e1,if_neg e2];omega
    ·by_cases e2:r.i=p.i
     ·have hh:=hlt q hq e1 hlq
      simp only [if_neg e1,if_pos e2];omega
     ·simp only [if_neg e1,if_neg e2]
      exact hG2 q hq r hr (by rw [← hlisted e1];exact hlq) (by rw [← hlisted e2];exact hlr) hne
  ·-- a value
   rw [Nat.zero_add] at hnal
   have hnext:=fun w' (hbw:Below w.heap.size w w')=>inv.next ho hin hs hSt hal' hrd hnal hbw
   unfold wpOp
   simp only [ho]
   rw [hwant]
   rcases hgoes with ⟨hw,hv⟩ | ⟨hw,hrun⟩
   ·rw [if_neg (by rw [hw];decide)]
    have:=ih _ _ _ (hnext w (Below.refl _ _)) hcnt
    rwa [hv] at this
   ·rw [if_pos hw]
    refine .inl ?_
    have hko:kindB o.op=true:=by
     rcases Bool.or_eq_true_iff.1 hkind with h | h
     ·obtain ⟨q,hq,he⟩:=List.any_eq_true.1 h
      obtain ⟨p,hp,rfl⟩:=List.mem_map.1 hq
      exact absurd (eq_of_beq he) (hnal p hp)
     ·exact h
    have hsame:=hs.same hko
    have hr:=hrun w inv.world
    unfold Oper.wp
    rw [hsame]
    generalize (execOp b.eval o).run P w=r at hr ⊢
    match r,hr with
    | .ok (.value u) w',hr =>
     obtain ⟨rfl,rfl⟩:=hr
     exact ih _ _ _ (hnext _ (Below.refl _ _)) hcnt
    | .ok (.enter f args) w',hr =>
     obtain ⟨rfl,hcall⟩:=hr
     exact Calls.mono hcall fun e w'' ⟨h1,hb⟩=>by subst h1;exact ih _ _ _ (hnext _ hb) hcnt
section
variable {w0 w:World} {L L':List Blk} {g:Nat} {cs:Array Value} {t:TypeId} {k:Nat} {a:Act}
/-- a region that draws: what its first n operations put and lay, then the others one behind the other; operation `late` need not come up ahead of them: what is then left is shown by hand -/
theorem qoz (late d:Nat) {id:Nat} {l:List Oper} (n:Nat) (hM:Mem w0 w L) (hm:P.follows .mixedOrders=true) (VS:List Value) (AL:List Lays) {b:Act} (hb:putAll l VS a=b) (hVS:VS.length=n) (hB:freeL late l.toArray n (freeAl AL)=true) (hAL:(AL.all fun p=>p.i != late)=true) (hd:dstB l.toArray d late=true)
  (hgo:GoAll P l.toArray (fun w'=>Mem w0 w' L) b AL 0 (l.take n)) (hfin:∀ w' G,Mem w0 w' (AL.map (fun p=>(G p.i,p.cs,p.t)) ++ L)→wpList P l.toArray Q (l.drop n) (putLays G AL b) w')
  (hlate:∀ w' G x,Mem w0 w' (AL.map (fun p=>(G p.i,p.cs,p.t)) ++ L)→wpAny P .any l.toArray Q (l.length - n+1) (((Array.replicate n true) ++ Array.replicate (l.length - n) false).setIfInBounds late false) ((putLays G AL b).put (some d) x) w') :
  (Code.region id l.toArray true).wp P Q a w:=by
 rw [qdn,hVS] at hb
 refine wp_region_any hm ?_
 have hn:n < l.toArray.size:=by
  have h:=hB
  simp only [freeL,Bool.and_eq_true,decide_eq_true_eq] at h
  exact h.1.1.1.1.1.1
 have hnod:(AL.map (·.i)).Nodup:=by
  have h:=hB
  simp only [freeL,Bool.and_eq_true,decide_eq_true_eq] at h
  simpa [freeAl,List.map_map,Function.comp_def] using h.1.2
 obtain ⟨s1,s2,s3⟩:=qdy (l.take n) VS a
 rw [hb] at s1 s2 s3
 have inv0:InvR l.toArray n (fun w'=>Mem w0 w' L) b AL w (Array.replicate l.toArray.size false) a { w with drawn:=w.drawn+1 } :=
  ⟨by simp,fun k _=>getD_replicate_false _ _,fun j o _ h=>absurd ((getD_replicate_false _ _).symm.trans h) (by decide),s1.symm,s2.symm,fun s _ hj=>(s3 s fun o ho e=>by
   obtain ⟨j,hjj⟩:=List.mem_iff_getElem?.1 ho
   have hjn:j < n:=by
    have:=(List.getElem?_eq_some_iff.1 hjj).1
    rw [List.length_take] at this;omega
   have h1:=hj j hjn (getD_replicate_false _ _)
   rw [List.getElem?_take,if_pos hjn] at hjj
   unfold dstB at h1
   simp [hjj,e] at h1).symm,hM.drew,(Below.refl _ w).drew,fun _=>0,fun p _ h=>absurd ((getD_replicate_false _ _).symm.trans h) (by decide),fun p _ q _ h=>absurd ((getD_replicate_false _ _).symm.trans h) (by decide)⟩
 have hAL':∀ p∈AL,p.i≠late:=fun p hp e=>by have:=List.all_eq_true.1 hAL p hp;simp [e] at this
 have hB':=hB
 simp only [freeL,Bool.and_eq_true,decide_eq_true_eq] at hB'
 obtain ⟨⟨⟨⟨⟨⟨_,hfree⟩,_⟩,hal⟩,hdis⟩,_⟩,_⟩:=hB'
 have hdis':∀ p∈AL,∀ q∈AL,p.i=q.i∨p.s≠q.s:=fun p hp q hq=>by
  have h1:=List.all_eq_true.1 hdis (p.i,p.s) (List.mem_map.2 ⟨p,hp,rfl⟩)
  have h2:=List.all_eq_true.1 h1 (q.i,q.s) (List.mem_map.2 ⟨q,hq,rfl⟩)
  simpa using h2
 have hal':∀ p∈AL,p.i < n∧dstB l.toArray p.s p.i=true:=fun p hp=>by
  have h1:=List.all_eq_true.1 hal (p.i,p.s) (List.mem_map.2 ⟨p,hp,rfl⟩)
  simpa using h1
 have hsz0:l.toArray.size=l.length:=rfl
 have h:=qlo (P:=P) (Q:=Q) (ops:=l.toArray) (n:=n) (S:=fun w'=>Mem w0 w' L) (b:=b) (AL:=AL) (w1:=w) late hB (fun hln a w' inv=>?late) (fun _ _ h hb=>Mem.call h hb) (by simpa using hgo) (fun w' G hS hbw hl hd=>by
  have:=hfin w' G (hM.news hS G hnod hl hd)
  simpa using this) n _ a _ inv0 (qgy _ n)
 case late =>
  have hlist:∀ j,j < n→j≠late→(((Array.replicate n true) ++ Array.replicate (l.toArray.size - n) false).setIfInBounds late false).getD j false=true:=fun j hj hne=>by
   rw [qkm false (Ne.symm hne)]
   have h1:j < ((Array.replicate n true) ++ Array.replicate (l.toArray.size - n) false).size:=by simp;omega
   simp only [Array.getD,h1,dif_pos]
   show ((Array.replicate n true) ++ Array.replicate (l.toArray.size - n) false)[j]=true
   rw [Array.getElem_append_left (by simpa using hj)]
   simp
  obtain ⟨G,hG1,hG2⟩:=inv.laid
  have hGl:=fun p (hp:p∈AL)=>hG1 p hp (hlist p.i (hal' p hp).1 (hAL' p hp))
  have hdn:∀ p∈AL,p.s≠d:=fun p hp e=>by
   have h1:=qbp hfree (hal' p hp).1
   unfold freeAt at h1
   cases ho:l.toArray[p.i]? with
   | none=>rw [ho] at h1;cases h1
   | some o =>
    simp only [ho,Bool.and_eq_true] at h1
    have h2:=qbp h1.2 hln
    have h3:=(hal' p hp).2
    unfold dstB at h3
    rw [ho] at h3
    have h4:o.dst=some p.s:=eq_of_beq h3
    rw [h4,e] at h2
    simp only [hd,Bool.not_true,Bool.or_false,beq_iff_eq] at h2
    exact hAL' p hp h2.symm
  have ha:a=(putLays G AL b).put (some d) (a.tmps.getD d undef):=by
   obtain ⟨s1,s2,s3⟩:=qcp G AL b
   have ht:a.tmps=((putLays G AL b).put (some d) (a.tmps.getD d undef)).tmps:=by
    apply Array.ext_getElem?
    intro s
    by_cases hsd:s=d
    ·subst hsd
     simp only [Act.put]
     rcases Nat.lt_or_ge s a.tmps.size with h | h
     ·rw [Array.getElem?_setIfInBounds_self_of_lt (by rw [s2,← inv.tsize];exact h)]
      simp [h]
     ·rw [Array.getElem?_eq_none h,Array.getElem?_eq_none (by simp only [Array.size_setIfInBounds];rw [s2,← inv.tsize];exact h)]
    ·simp only [Act.put]
     rw [Array.getElem?_setIfInBounds_ne (Ne.symm hsd)]
     by_cases hm:∃ p∈AL,p.s=s
     ·obtain ⟨p,hp,rfl⟩:=hm
      rcases Nat.lt_or_ge p.s b.tmps.size with h | h
      ·rw [(hGl p hp).1 h,qex G AL b hdis' p hp h]
      ·rw [Array.getElem?_eq_none (by rw [inv.tsize];exact h),Array.getElem?_eq_none (by rw [s2];exact h)]
     ·have hm':∀ p∈AL,p.s≠s:=fun p hp e=>hm ⟨p,hp,e⟩
      rw [s3 s hm']
      refine inv.same s hm' fun j hj h=>?_
      by_cases e:j=late
      ·subst e
       unfold dstB at hd ⊢
       cases ho:l.toArray[j]? with
       | none=>rfl
       | some o =>
        rw [ho] at hd
        simp only [eq_of_beq hd]
        simp;exact fun e=>hsd e.symm
      ·rw [hlist j hj e] at h;cases h
   have hdf:a.defers=((putLays G AL b).put (some d) (a.tmps.getD d undef)).defers:=by
    show a.defers=(putLays G AL b).defers
    rw [inv.defers,s1]
   generalize (putLays G AL b).put (some d) (a.tmps.getD d undef)=c at ht hdf
   cases a
   cases c
   simp only at ht hdf
   rw [ht,hdf]
  rw [ha]
  exact hlate w' G _ (hM.news inv.world G hnod (fun p hp=>(hGl p hp).2) (fun p hp q hq hne=>hG2 p hp q hq (hlist p.i (hal' p hp).1 (hAL' p hp)) (hlist q.i (hal' q hq).1 (hAL' q hq)) hne))
 rwa [show n+(l.toArray.size - n)=l.toArray.size by omega] at h
/-- the same, where what is left ends in one way -/
theorem qpd (late d:Nat) {id:Nat} {l:List Oper} (n:Nat) (hM:Mem w0 w L) (hm:P.follows .mixedOrders=true) (VS:List Value) (AL:List Lays) (Lf:(Nat→Nat)→List Blk) {b:Act} (hb:putAll l VS a=b) (hVS:VS.length=n) (hB:freeL late l.toArray n (freeAl AL)=true) (hAL:(AL.all fun p=>p.i != late)=true) (hd:dstB l.toArray d late=true)
  (hgo:GoAll P l.toArray (fun w'=>Mem w0 w' L) b AL 0 (l.take n)) (hQ:∀ c a d v w,Q (.panic c) (Act.put a (some d) v) w→Q (.panic c) a w)
  (htail:∀ (Q':Exit→Act→World→Prop) w' G,Mem w0 w' (AL.map (fun p=>(G p.i,p.cs,p.t)) ++ L)→(∀ w'',Mem w0 w'' (Lf G)→Q' .normal (putLays G AL b) w'')→wpList P l.toArray Q' (l.drop n) (putLays G AL b) w')
  (hlate:∀ (Q':Exit→Act→World→Prop) w' G x,(∀ c a d v w,Q' (.panic c) (Act.put a (some d) v) w→Q' (.panic c) a w)→Mem w0 w' (AL.map (fun p=>(G p.i,p.cs,p.t)) ++ L)→(∀ w'',Mem w0 w'' (Lf G)→Q' .normal (putLays G AL b) w'')→wpAny P .any l.toArray Q' (l.length - n+1) (((Array.replicate n true) ++ Array.replicate (l.length - n) false).setIfInBounds late false) ((putLays G AL b).put (some d) x) w')
  (hrest:∀ w' G,Mem w0 w' (Lf G)→Q .normal (putLays G AL b) w'):(Code.region id l.toArray true).wp P Q a w :=
 qoz late d n hM hm VS AL hb hVS hB hAL hd hgo (fun w' G h=>htail Q w' G h fun w'' h'=>hrest w'' G h') (fun w' G x h=>hlate Q w' G x hQ h fun w'' h'=>hrest w'' G h')
end
end
end Go.Proofs.YteoednifdpdbnaaGreat
