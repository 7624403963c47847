/- A row of the call's own that bears a mark behind its cells, as a text's bytes do: append and store; of no program. -/
import Derived.Test.YteoednifdpdbnaaGreatZ03
import Derived.Lib.ConvBytes
import Derived.Laws.Tables
namespace Go.Proofs.YteoednifdpdbnaaGreat
set_option linter.unusedVariables false
set_option linter.unusedSimpArgs false
open Go.RowKit
theorem qc6 {P:Program} (g o:Nat) (t:TypeId) (fr:Nat×Nat):∀ (vs:List Value) (i:Nat) (cur:Array Value) (w:World),w.heap[g]? = some (.cells cur t fr)→cur.size≤fr.1→o+i+vs.length≤cur.size→(∀ v∈vs,v.oneCell'=true) →
  (storeCells ⟨g,o,none⟩ vs i).run P w=.ok () (w.setRow g (cur.toList.take (o+i) ++ vs ++ cur.toList.drop (o+i+vs.length)).toArray)
 | [],i,cur,w,hg,hf,_,_=>by
  simp only [storeCells,List.append_nil,List.length_nil,Nat.add_zero,List.take_append_drop,Array.toArray_toList]
  rw [setRow_self w g cur t fr hg]
  rfl
 | v :: rest,i,cur,w,hg,hf,hl,h1=>by
  have hi:o+i < cur.size:=by simp at hl;omega
  have hadd:(⟨g,o,none⟩:Addr).add i=⟨g,o+i,none⟩:=by unfold Addr.add;split <;> simp_all
  have hcell:w.cell? ⟨g,o+i,none⟩=some cur[o+i]:=by simp [World.cell?,hg,hi]
  have hfro:w.frozen? ⟨g,o+i,none⟩=false:=by simp [World.frozen?,hg];omega
  have hst:(store ((⟨g,o,none⟩:Addr).add i) v).run P w=.ok () (w.setRow g (cur.setIfInBounds (o+i) v)):=by
   rw [hadd,run_store P w _ v _ (h1 v (by simp)),hcell]
   simp [hfro,setCell_eq_setRow w g (o+i) cur t fr v hg]
  have ih:=qc6 (P:=P) g o t fr rest (i+1) (cur.setIfInBounds (o+i) v) (w.setRow g (cur.setIfInBounds (o+i) v)) (setRow_heap w g cur _ t _ hg) (by simpa using hf) (by simp at hl ⊢;omega) (fun x hx=>h1 x (by simp [hx]))
  simp only [storeCells,Sem.run_bind,hst,Result.andThen_ok,ih,setRow_setRow]
  congr 3
  have e:=list_seg_step cur.toList (o+i) v rest (by simp at hl ⊢;omega)
  simpa [Array.toList_setIfInBounds,Nat.add_assoc] using e
/-- a row of the call's own, with a mark behind its cells or none -/
def OwnM (w:World) (base:Nat) (e:TypeId) (g n cap:Nat) (xs:List Value):Prop :=
 xs.length=n∧∃ cur fr,base≤g∧w.heap[g]? = some (.cells cur e fr)∧(cur.size≤fr.1∨fr=(0,0))∧n≤cap∧cap≤maxLen∧cur.size=cap∧cur.toList.take n=xs
section
variable {P:Program} {w:World}
theorem OwnM.at_ {base:Nat} {e:TypeId} {g n cap:Nat} {xs:List Value} (h:OwnM w base e g n cap xs) {j:Nat} {u:Value} (hj:xs[j]? = some u):w.cell? ⟨g,j,none⟩=some u:=by
 obtain ⟨h1,cur,fr,_,h2,_,_,_,h3,h4⟩:=h
 rw [cell_of_row _ _ _ _ _ _ h2]
 rw [← h4,List.getElem?_take] at hj
 split at hj
 ·simpa using hj
 ·cases hj
theorem OwnM.free {base:Nat} {e:TypeId} {g n cap:Nat} {xs:List Value} (h:OwnM w base e g n cap xs) {j:Nat} (hj:j < n):w.frozen? ⟨g,j,none⟩=false:=by
 obtain ⟨h1,cur,fr,_,h2,hf,h5,_,h3,h4⟩:=h
 rcases hf with hf | rfl
 ·simp [World.frozen?,h2];omega
 ·simp [World.frozen?,h2]
theorem OwnM.base {base:Nat} {e:TypeId} {g n cap:Nat} {xs:List Value} (h:OwnM w base e g n cap xs):base≤g∧g < w.heap.size∧n≤cap∧cap≤maxLen:=by
 obtain ⟨h1,cur,fr,hb,h2,_,h5,h6,h3,h4⟩:=h
 exact ⟨hb,(qg h2),h5,h6⟩
theorem OwnM.lies {base:Nat} {e:TypeId} {g n cap:Nat} {xs:List Value} (h:OwnM w base e g n cap xs):Lies Any w (some ⟨g,0,none⟩) xs :=
 fun _=>⟨g,0,rfl,trivial,fun j u hj=>by rw [Nat.zero_add];exact h.at_ hj⟩
theorem OwnM.keep {w':World} {base:Nat} {e:TypeId} {g n cap:Nat} {xs:List Value} (h:OwnM w base e g n cap xs) (hb:Below w.heap.size w w'):OwnM w' base e g n cap xs:=by
 obtain ⟨h1,cur,fr,h0,h2,h3⟩:=h
 exact ⟨h1,cur,fr,h0,(hb.block g (qg h2)).trans h2,h3⟩
theorem OwnM.set {base:Nat} {e:TypeId} {g n cap:Nat} {xs:List Value} (h:OwnM w base e g n cap xs) (j:Nat) (u:Value):OwnM (w.setCell ⟨g,j,none⟩ u) base e g n cap (xs.set j u):=by
 obtain ⟨h1,cur,fr,hb,h2,hf,h5,h6,h3,h4⟩:=h
 refine ⟨by simpa using h1,cur.setIfInBounds j u,fr,hb,qaa h2 u,by simpa using hf,h5,h6,by simpa using h3,?_⟩
 rw [Array.toList_setIfInBounds,List.take_set,h4]
theorem OwnM.of_block {w':World} {base:Nat} {e:TypeId} {g n cap:Nat} {xs:List Value} (h:OwnM w base e g n cap xs) (hb:w'.heap[g]? = w.heap[g]?):OwnM w' base e g n cap xs:=by
 obtain ⟨h1,cur,fr,h0,h2,h3⟩:=h
 exact ⟨h1,cur,fr,h0,hb.trans h2,h3⟩
theorem quu (w:World) (e:TypeId) (s:List UInt8) (hs:s.length≤maxLen):OwnM (Lib.bytesWorld w e (bs s)) w.heap.size e w.heap.size s.length (grownCap w s.length 0 e) (s.map cellB):=by
 have h:=Lib.bytesWorld_at_new w e (bs s)
 have hg:=grownCap_ge w s.length 0 e
 have hm:=grownCap_le_maxLen w s.length 0 e hs
 refine ⟨by simp,_,_,Nat.le_refl _,h,.inl qn,hg,hm,?_,?_⟩
 ·simp only [Lib.bytesCells,size_bs,data_bs,Array.size_append,Array.size_map,Array.size_replicate,List.size_toArray];omega
 ·simp only [Lib.bytesCells,size_bs,data_bs,Array.toList_append]
  rw [List.take_left' (by simp)]
  simp [cellB]
theorem qm6 (w:World) (e:TypeId) (s:ByteArray):Below w.heap.size w (Lib.bytesWorld w e s) :=
 ⟨rfl,rfl,rfl,by rw [Lib.bytesWorld_size];omega,fun k hk=>Lib.bytesWorld_at_old w e s k hk⟩
theorem qin {t e:TypeId} {z:Value} {bytes:Nat} (E:ElemOk P t e z 1 bytes) (ty:TypeId) (base g n cap:Nat) (xs:List Value) (hown:OwnM w base e g n cap xs)
  (ad:Addr) (m c:Nat) (news:List Value) (hl:news.length=m) (hnews:∀ j u,news[j]? = some u→w.cell? (ad.add j)=some u) (h1:∀ u∈news,u.oneCell'=true)
  (hm0:0 < m) (h63:n+m≤maxLen) (hbytes:(n+m) * bytes≤140737488355328) (hbase:base≤w.heap.size) :
  ∃ g' cap' w',(Builtin.append_ #[t,t] ty #[.slice (some ⟨g,0,none⟩) n cap,.slice (some ad) m c]).run P w=.ok (.slice (some ⟨g',0,none⟩) (n+m) cap') w'∧OwnM w' base e g' (n+m) cap' (xs ++ news)∧w.grownBy w' (some g):=by
 obtain ⟨i,hi,hz,hs,hb⟩:=info_parts E.hi
 have ht:=E.ht
 have hzs:=E.hz
 subst hb
 have hsmall:n+m≤9223372036854775807:=by simp only [maxLen] at h63;omega
 obtain ⟨hx1,cur,fr,hbg,hg,hf,hnc,hcm,hcs,htake⟩:=hown
 by_cases hroom:n+m≤cap
 ·have hfc:=run_firstCells_some (P:=P) w i.size m ad m c news (by rw [hs];omega) hnews
  have hst:(storeCells ⟨g,n,none⟩ news 0).run P w=.ok () (w.setRow g (cur.toList.take n ++ news ++ cur.toList.drop (n+news.length)).toArray):=by
   rcases hf with hf | rfl
   ·exact qc6 g n e fr news 0 cur w hg hf (by omega) h1
   ·exact run_storeCells_at P g n e news 0 cur w hg (by omega) h1
  rw [hs] at hfc
  refine ⟨g,cap,w.setRow g (cur.toList.take n ++ news ++ cur.toList.drop (n+news.length)).toArray,?_,⟨by simp;omega,(cur.toList.take n ++ news ++ cur.toList.drop (n+news.length)).toArray,fr,hbg,setRow_heap w g cur _ e _ hg,?_,hroom,hcm,?_,?_⟩,⟨rfl,rfl,rfl,by simp,fun k _ hk=>setRow_other w g k _ (fun e=>hk (by simp [e]))⟩⟩
  ·simp [Builtin.append_,run_underlying ht,sizeOf,typeInfo,hi,Builtin.lenOf,hroom,hfc,Addr.add_lit,hst,hs]
  ·rcases hf with hf | rfl
   ·left;simp only [List.size_toArray,List.length_append,List.length_take,List.length_drop,Array.length_toList];omega
   ·exact .inr rfl
  ·simp only [List.size_toArray,List.length_append,List.length_take,List.length_drop,Array.length_toList];omega
  ·rw [htake]
   have:(xs ++ news).length=n+m:=by simp;omega
   rw [← this]
   exact List.take_left
 ·have holds:∀ j u,xs[j]? = some u→w.cell? ((⟨g,0,none⟩:Addr).add j)=some u:=fun j u hj=>by
   rw [qfg,Nat.zero_add]
   exact OwnM.at_ (base:=base) (e:=e) (n:=n) (cap:=cap) ⟨hx1,cur,fr,hbg,hg,hf,hnc,hcm,hcs,htake⟩ hj
  have hr:=run_append_grow (P:=P) w t ty e i z ht hi hz ⟨g,0,none⟩ n cap xs (by rw [hs];omega) holds ad m c news (by rw [hs];omega) hnews (by omega) (by omega) (growslice_fits (by omega) hbytes)
  have hge:=grownCap_ge w (n+m) cap e
  have hcm':grownCap w (n+m) cap e≤maxLen:=grownCap_le_maxLen w (n+m) cap e h63
  refine ⟨w.heap.size,_,_,hr,⟨by simp;omega,_,(0,0),hbase,heap_alloc_new w.drew _,.inr rfl,hge,hcm',?_,?_⟩,⟨rfl,rfl,rfl,by simp,fun k hk _=>heap_alloc_old w.drew _ hk⟩⟩
  ·simp only [Array.size_append,List.size_toArray,size_zeroCells,hzs,hx1,hl];omega
  ·simp only [Array.toList_append,List.append_assoc]
   rw [← List.append_assoc]
   have:(xs ++ news).length=n+m:=by simp;omega
   rw [← this]
   exact List.take_left
theorem qev {t e:TypeId} {z:Value} {bytes:Nat} (E:ElemOk P t e z 1 bytes) {ops:Array Oper} {rest:List Oper} {o:Oper} {a:Act} {Q:Exit→Act→World→Prop} (hgd:o.guard=none) {s x:Operand}
  (ho:o.op=.call { callee:=.builtin .append,args:=#[s,x],argTypes:=#[t,t] }) {base g n cap:Nat} {xs:List Value} (hown:OwnM w base e g n cap xs) (hs:a.eval s=.slice (some ⟨g,0,none⟩) n cap)
  (u:Value) {g2:Nat} {c:Nat} (hx:a.eval x=.slice (some ⟨g2,0,none⟩) 1 c) (hu:w.cell? ⟨g2,0,none⟩=some u) (h1:u.oneCell'=true)
  (h63:n+1≤maxLen) (hbytes:(n+1) * bytes≤140737488355328) (hbase:base≤w.heap.size)
  (h:∀ g' cap' w',OwnM w' base e g' (n+1) cap' (xs ++ [u])→w.grownBy w' (some g)→wpList P ops Q rest (a.put o.dst (.slice (some ⟨g',0,none⟩) (n+1) cap')) w') :
  wpList P ops Q (o :: rest) a w:=by
 refine wpList_plain hgd fun K hK=>?_
 obtain ⟨g',cap',w',hr,h2,h3⟩:=qin E o.type base g n cap xs hown ⟨g2,0,none⟩ 1 c [u] rfl (fun j v hj=>by
  match j,hj with
  | 0,hj=>simp at hj;subst hj;rw [qfg];exact hu) (fun v hv=>by rw [List.mem_singleton] at hv;subst hv;exact h1) (by omega) h63 hbytes hbase
 unfold Oper.wp execOp
 simp only [ho,resolve,invoke,builtin,Sem.run_bind,Sem.run_pure,Result.andThen_ok,List.map_toArray,List.map_cons,List.map_nil,hs,hx,hr]
 exact hK _ _ (h g' cap' w' h2 h3)
end
/- An aggregate stored in the midst of a block, as one step of a walk; of no program. -/
section
variable {P:Program}
theorem run_storeCells_at (g o:Nat) (t:TypeId):∀ (vs:List Value) (i:Nat) (cur:Array Value) (w:World),w.heap[g]? = some (.cells cur t (0,0))→o+i+vs.length≤cur.size→(∀ v∈vs,v.oneCell'=true) →
  (storeCells ⟨g,o,none⟩ vs i).run P w=.ok () (w.setRow g (cur.toList.take (o+i) ++ vs ++ cur.toList.drop (o+i+vs.length)).toArray)
 | [],i,cur,w,hg,_,_=>by
  simp only [storeCells,List.append_nil,List.length_nil,Nat.add_zero,List.take_append_drop,Array.toArray_toList]
  rw [setRow_self w g cur t (0,0) hg]
  rfl
 | v :: rest,i,cur,w,hg,hl,h1=>by
  have hi:o+i < cur.size:=by simp at hl;omega
  have hadd:(⟨g,o,none⟩:Addr).add i=⟨g,o+i,none⟩:=by unfold Addr.add;split <;> simp_all
  have hcell:w.cell? ⟨g,o+i,none⟩=some cur[o+i]:=by simp [World.cell?,hg,hi]
  have hfro:w.frozen? ⟨g,o+i,none⟩=false:=by simp [World.frozen?,hg]
  have hst:(store ((⟨g,o,none⟩:Addr).add i) v).run P w=.ok () (w.setRow g (cur.setIfInBounds (o+i) v)):=by
   rw [hadd,run_store P w _ v _ (h1 v (by simp)),hcell]
   simp [hfro,setCell_eq_setRow w g (o+i) cur t (0,0) v hg]
  have ih:=run_storeCells_at g o t rest (i+1) (cur.setIfInBounds (o+i) v) (w.setRow g (cur.setIfInBounds (o+i) v)) (setRow_heap w g cur _ t _ hg) (by simp at hl ⊢;omega) (fun x hx=>h1 x (by simp [hx]))
  simp only [storeCells,Sem.run_bind,hst,Result.andThen_ok,ih,setRow_setRow]
  congr 3
  have e:=list_seg_step cur.toList (o+i) v rest (by simp at hl ⊢;omega)
  simpa [Array.toList_setIfInBounds,Nat.add_assoc] using e
theorem qej {ops:Array Oper} {rest:List Oper} {op:Oper} {a:Act} {w:World} {Q:Exit→Act→World→Prop} (hgd:op.guard=none) (ty:TypeId) (x y:Operand) (ho:op.op=.store ty x y)
  (g o:Nat) (cells new:Array Value) (hx:a.eval x=.pointer (some ⟨g,o,none⟩)) (hy:a.eval y=.agg cells)
  (t:TypeId) (old:Array Value) (hg:w.heap[g]? = some (.cells old t (0,0))) (hi:(P.info? ty).map (·.size)=some cells.size)
  (hold:o+cells.size≤old.size) (h1:cells.all (·.oneCell')=true) (hnew:(old.toList.take o ++ cells.toList ++ old.toList.drop (o+cells.size))=new.toList)
  (h:wpList P ops Q rest (a.put op.dst undef) (w.setRow g new)):wpList P ops Q (op :: rest) a w :=
 wpList_plain hgd fun _ hK=>by
  have hr:=run_storeCells_at (P:=P) g o t cells.toList 0 old w hg (by simpa using hold) (fun v hv=>(Array.all_eq_true_iff_forall_mem.1 h1) v (by simpa using hv))
  have hst:(storeVar ty ⟨g,o,none⟩ (.agg cells)).run P w=.ok () (w.setRow g new):=by
   cases hq:P.info? ty with
   | none=>simp [hq] at hi
   | some i =>
    have hs:cells.size=i.size:=by simp [hq] at hi;omega
    simp only [Nat.add_zero,Array.length_toList] at hr
    rw [hnew,Array.toArray_toList] at hr
    simp [storeVar,sizeOf,typeInfo,hq,Value.cells,hs,hr]
  unfold Oper.wp execOp
  simp only [ho,hx,hy,Instr.storeAt,Instr.sureAddr,Sem.run_bind,Sem.run_pure,Result.andThen_ok,hst]
  exact hK _ _ h
end
end Go.Proofs.YteoednifdpdbnaaGreat
