/- A row of the call's own that bears a mark behind its cells, as a text's bytes do: append and store; of no program. -/
import Derived.Test.YteoednifdpdbnaaGreatZ04
import Derived.Lib.ConvBytes
import Derived.Laws.Tables
namespace Go.Proofs.YteoednifdpdbnaaGreat
set_option linter.unusedVariables false
set_option linter.unusedSimpArgs false
open Go.RowKit
/-- a row of the call's own, with a mark behind its cells or none -/
def OwnM (w:World) (base:Nat) (e:TypeId) (g n cap:Nat) (xs:List Value):Prop :=
 xs.length=n∧∃ cur fr,base≤g∧w.heap[g]? = some (.cells cur e fr)∧(cur.size≤fr.1∨fr=(0,0))∧n≤cap∧cap≤maxLen∧cur.size=cap∧cur.toList.take n=xs
section
variable {P:Program} {w:World}
theorem OwnM.at_ {base:Nat} {e:TypeId} {g n cap:Nat} {xs:List Value} (h:OwnM w base e g n cap xs) {j:Nat} {u:Value} (hj:xs[j]? = some u):w.cell? ⟨g,j,none⟩=some u:=by
 obtain ⟨h1,cur,fr,_,h2,_,_,_,h3,h4⟩:=h
 rw [cell_of_row _ _ _ _ _ _ h2]
 rw [← h4,List.getElem?_take] at hj
 split at hj
 ·simpa using hj
 ·cases hj
theorem OwnM.free {base:Nat} {e:TypeId} {g n cap:Nat} {xs:List Value} (h:OwnM w base e g n cap xs) {j:Nat} (hj:j < n):w.frozen? ⟨g,j,none⟩=false:=by
 obtain ⟨h1,cur,fr,_,h2,hf,h5,_,h3,h4⟩:=h
 rcases hf with hf | rfl
 ·simp [World.frozen?,h2];omega
 ·simp [World.frozen?,h2]
theorem OwnM.base {base:Nat} {e:TypeId} {g n cap:Nat} {xs:List Value} (h:OwnM w base e g n cap xs):base≤g∧g < w.heap.size∧n≤cap∧cap≤maxLen:=by
 obtain ⟨h1,cur,fr,hb,h2,_,h5,h6,h3,h4⟩:=h
 exact ⟨hb,(qg h2),h5,h6⟩
theorem OwnM.lies {base:Nat} {e:TypeId} {g n cap:Nat} {xs:List Value} (h:OwnM w base e g n cap xs):Lies Any w (some ⟨g,0,none⟩) xs :=
 fun _=>⟨g,0,rfl,trivial,fun j u hj=>by rw [Nat.zero_add];exact h.at_ hj⟩
theorem OwnM.keep {w':World} {base:Nat} {e:TypeId} {g n cap:Nat} {xs:List Value} (h:OwnM w base e g n cap xs) (hb:Below w.heap.size w w'):OwnM w' base e g n cap xs:=by
 obtain ⟨h1,cur,fr,h0,h2,h3⟩:=h
 exact ⟨h1,cur,fr,h0,(hb.block g (qg h2)).trans h2,h3⟩
theorem OwnM.set {base:Nat} {e:TypeId} {g n cap:Nat} {xs:List Value} (h:OwnM w base e g n cap xs) (j:Nat) (u:Value):OwnM (w.setCell ⟨g,j,none⟩ u) base e g n cap (xs.set j u):=by
 obtain ⟨h1,cur,fr,hb,h2,hf,h5,h6,h3,h4⟩:=h
 refine ⟨by simpa using h1,cur.setIfInBounds j u,fr,hb,qaa h2 u,by simpa using hf,h5,h6,by simpa using h3,?_⟩
 rw [Array.toList_setIfInBounds,List.take_set,h4]
end
/- An aggregate stored in the midst of a block, as one step of a walk; of no program. -/
section
variable {P:Program}
theorem qdd (g o:Nat) (t:TypeId):∀ (vs:List Value) (i:Nat) (cur:Array Value) (w:World),w.heap[g]? = some (.cells cur t (0,0))→o+i+vs.length≤cur.size→(∀ v∈vs,v.oneCell'=true) →
  (storeCells ⟨g,o,none⟩ vs i).run P w=.ok () (w.setRow g (cur.toList.take (o+i) ++ vs ++ cur.toList.drop (o+i+vs.length)).toArray)
 | [],i,cur,w,hg,_,_=>by
  simp only [storeCells,List.append_nil,List.length_nil,Nat.add_zero,List.take_append_drop,Array.toArray_toList]
  rw [setRow_self w g cur t (0,0) hg]
  rfl
 | v :: rest,i,cur,w,hg,hl,h1=>by
  have hi:o+i < cur.size:=by simp at hl;omega
  have hadd:(⟨g,o,none⟩:Addr).add i=⟨g,o+i,none⟩:=by unfold Addr.add;split <;> simp_all
  have hcell:w.cell? ⟨g,o+i,none⟩=some cur[o+i]:=by simp [World.cell?,hg,hi]
  have hfro:w.frozen? ⟨g,o+i,none⟩=false:=by simp [World.frozen?,hg]
  have hst:(store ((⟨g,o,none⟩:Addr).add i) v).run P w=.ok () (w.setRow g (cur.setIfInBounds (o+i) v)):=by
   rw [hadd,run_store P w _ v _ (h1 v (by simp)),hcell]
   simp [hfro,setCell_eq_setRow w g (o+i) cur t (0,0) v hg]
  have ih:=qdd g o t rest (i+1) (cur.setIfInBounds (o+i) v) (w.setRow g (cur.setIfInBounds (o+i) v)) (setRow_heap w g cur _ t _ hg) (by simp at hl ⊢;omega) (fun x hx=>h1 x (by simp [hx]))
  simp only [storeCells,Sem.run_bind,hst,Result.andThen_ok,ih,setRow_setRow]
  congr 3
  have e:=list_seg_step cur.toList (o+i) v rest (by simp at hl ⊢;omega)
  simpa [Array.toList_setIfInBounds,Nat.add_assoc] using e
theorem qb7 {ops:Array Oper} {rest:List Oper} {op:Oper} {a:Act} {w:World} {Q:Exit→Act→World→Prop} (hgd:op.guard=none) (ty:TypeId) (x y:Operand) (ho:op.op=.store ty x y)
  (g o:Nat) (cells new:Array Value) (hx:a.eval x=.pointer (some ⟨g,o,none⟩)) (hy:a.eval y=.agg cells)
  (t:TypeId) (old:Array Value) (hg:w.heap[g]? = some (.cells old t (0,0))) (hi:(P.info? ty).map (·.size)=some cells.size)
  (hold:o+cells.size≤old.size) (h1:cells.all (·.oneCell')=true) (hnew:(old.toList.take o ++ cells.toList ++ old.toList.drop (o+cells.size))=new.toList)
  (h:wpList P ops Q rest (a.put op.dst undef) (w.setRow g new)):wpList P ops Q (op :: rest) a w :=
 wpList_plain hgd fun _ hK=>by
  have hr:=qdd (P:=P) g o t cells.toList 0 old w hg (by simpa using hold) (fun v hv=>(Array.all_eq_true_iff_forall_mem.1 h1) v (by simpa using hv))
  have hst:(storeVar ty ⟨g,o,none⟩ (.agg cells)).run P w=.ok () (w.setRow g new):=by
   cases hq:P.info? ty with
   | none=>simp [hq] at hi
   | some i =>
    have hs:cells.size=i.size:=by simp [hq] at hi;omega
    simp only [Nat.add_zero,Array.length_toList] at hr
    rw [hnew,Array.toArray_toList] at hr
    simp [storeVar,sizeOf,typeInfo,hq,Value.cells,hs,hr]
  unfold Oper.wp execOp
  simp only [ho,hx,hy,Instr.storeAt,Instr.sureAddr,Sem.run_bind,Sem.run_pure,Result.andThen_ok,hst]
  exact hK _ _ h
end
end Go.Proofs.YteoednifdpdbnaaGreat
