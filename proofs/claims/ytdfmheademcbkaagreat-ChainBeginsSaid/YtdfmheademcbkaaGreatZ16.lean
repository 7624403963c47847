/- The arena: a row of nodes that grows behind a pointer; the walk of lay. -/
import Derived.Test.YtdfmheademcbkaaGreatZ15
import Derived.Great.BuildSlice
import Derived.Test.YtdfmheademcbkaaGreatZ03
namespace Go.Proofs.YtdfmheademcbkaaGreat
set_option linter.unusedVariables false
set_option linter.unusedSimpArgs false
open Go.RowKit
set_option maxHeartbeats 4000000
set_option maxRecDepth 100000
/-- apart from the arena and its row -/
def Apart (g:Nat) (v:Value):Nat→Prop:=fun k=>k≠g∧v.ownBlock≠some k
/-- the arena at g holds nodes -/
structure Arn (w:World) (g:Nat) (v:Value) (ns:List TN):Prop where
 ptr:w.heap[g]? = some (.cells #[v] 191 (0,0))
 own:w.ownsRow (g+1) 130 19 v ns.length (nodesC ns)
 wide:Wide ns
/-- from a world to a later one nothing but the arena has changed -/
structure ArnTo (g:Nat) (v:Value) (w w':World) (v':Value):Prop where
 os:w'.os=w.os
 tape:w'.tape=w.tape
 output:w'.output=w.output
 size:w.heap.size≤w'.heap.size
 block:∀ k,k < w.heap.size→Apart g v k→w'.heap[k]? = w.heap[k]?
 row:∀ k,v'.ownBlock=some k→v.ownBlock=some k∨w.heap.size≤k
theorem ArnTo.refl (g:Nat) (v:Value) (w:World):ArnTo g v w w v:=⟨rfl,rfl,rfl,Nat.le_refl _,fun _ _ _=>rfl,fun _ h=>.inl h⟩
theorem ArnTo.trans {g:Nat} {v v1 v2:Value} {w w1 w2:World} (h:ArnTo g v w w1 v1) (k:ArnTo g v1 w1 w2 v2):ArnTo g v w w2 v2:=by
 refine ⟨k.os.trans h.os,k.tape.trans h.tape,k.output.trans h.output,Nat.le_trans h.size k.size,fun b hb ha=>?_,fun b hb=>?_⟩
 ·refine (k.block b (Nat.lt_of_lt_of_le hb h.size) ⟨ha.1,fun e=>?_⟩).trans (h.block b hb ha)
  rcases h.row b e with h1 | h1
  ·exact ha.2 h1
  ·omega
 ·rcases k.row b hb with h1 | h1
  ·exact h.row b h1
  ·exact .inr (Nat.le_trans h.size h1)
theorem ArnTo.of_below {g:Nat} {v:Value} {w w':World} (h:Below w.heap.size w w'):ArnTo g v w w' v :=
 ⟨h.os,h.tape,h.output,h.size,fun k hk _=>h.block k hk,fun _ h=>.inl h⟩
theorem ArnTo.apart {g:Nat} {v v':Value} {w w':World} (h:ArnTo g v w w' v') {k:Nat} (hk:k < w.heap.size) (ha:Apart g v k):Apart g v' k :=
 ⟨ha.1,fun e=>by rcases h.row k e with h1 | h1;exact ha.2 h1;omega⟩
theorem Arn.keep {w w':World} {g:Nat} {v:Value} {ns:List TN} (h:Arn w g v ns) (hb:Below w.heap.size w w'):Arn w' g v ns :=
 ⟨(hb.block g (Array.getElem?_eq_some_iff.1 h.ptr).1).trans h.ptr,own_keep h.own hb,h.wide⟩
theorem Arn.lt {w:World} {g:Nat} {v:Value} {ns:List TN} (h:Arn w g v ns):g < w.heap.size:=(Array.getElem?_eq_some_iff.1 h.ptr).1
theorem Arn.cell {w:World} {g:Nat} {v:Value} {ns:List TN} (h:Arn w g v ns):w.cell? ⟨g,0,none⟩=some v:=by
 rw [cell_of_row _ _ _ _ _ _ h.ptr];rfl
theorem Arn.free {w:World} {g:Nat} {v:Value} {ns:List TN} (h:Arn w g v ns):w.frozen? ⟨g,0,none⟩=false:=by simp [World.frozen?,h.ptr]
theorem KVs.arn {w w':World} {g:Nat} {v v':Value} {l:List KV} {A:Option Addr} {c:Nat} (h:KVs (Apart g v) w l A c) (ha:ArnTo g v w w' v'):KVs (Apart g v') w' l A c :=
 h.mono fun b hb hs=>⟨ha.apart hb hs,ha.block b hb hs⟩
/-- behind a node that is laid -/
def LaidPost (g:Nat) (v:Value) (ns:List TN) (n:TN) (w:World) (e:Ending) (w':World):Prop :=
 e=.returned (.int .i64 ns.length)∧∃ v',Arn w' g v' (ns ++ [n])∧ArnTo g v w w' v'
section
variable {P:Program}
/-- a load of a whole block, under an S that says what it holds -/
theorem yieldsIf_load_row {ops:Array Oper} {S:World→Prop} {op:Oper} {a:Act} (hw:Region.wanted op (yielded ops a.tmps)=true) {ty:TypeId} {x:Operand} (ho:op.op=.load ty x)
  {b:Nat} (hx:a.eval x=.pointer (some ⟨b,0,none⟩)) {t:TypeId} {cs:Array Value} {fr:Nat×Nat} {d:TypeDesc} (hS:∀ w,S w→w.heap[b]? = some (.cells cs t fr))
  (hu:P.underlying ty=some d) (hd:(match d with | .struct _ | .array _ _=>true | _=>false)=true) (hi:(P.info? ty).map (·.size)=some cs.size):YieldsIf P ops S op (.agg cs) a :=
 .inl ⟨hw,fun w hw'=>by
  unfold execOp
  simp only [ho,hx,Instr.loadAt,Instr.sureAddr,Sem.run_bind,Sem.run_pure,Result.andThen_ok,run_loadVar_row w b t ty cs fr d (hS w hw') hu hd hi]⟩
theorem yieldsIf_load_cell {ops:Array Oper} {S:World→Prop} {op:Oper} {a:Act} (hw:Region.wanted op (yielded ops a.tmps)=true) {ty:TypeId} {x:Operand} (ho:op.op=.load ty x)
  {b o:Nat} (hx:a.eval x=.pointer (some ⟨b,o,none⟩)) {v:Value} {d:TypeDesc} (hS:∀ w,S w→w.cell? ⟨b,o,none⟩=some v)
  (hu:P.underlying ty=some d) (hd:(match d with | .struct _ | .array _ _=>false | _=>true)=true):YieldsIf P ops S op v a :=
 .inl ⟨hw,fun w hw'=>by
  have hagg:(isAgg ty).run P w=.ok false w:=by
   unfold isAgg
   rw [Sem.run_bind,run_underlying hu w]
   cases d <;> simp_all
  have hc:=hS w hw'
  unfold execOp
  simp only [ho,hx,Instr.loadAt,Instr.sureAddr,loadVar,Sem.run_bind,Sem.run_pure,Result.andThen_ok,hagg,Bool.false_eq_true,if_false]
  have:=run_load (P:=P) w ⟨b,o,none⟩
  rw [hc] at this
  first
   | (rw [this];rfl)
   | (simp only [this];rfl)⟩
end
theorem list19 {α:Type} {l:List α} (h:l.length=19):∃ a0 a1 a2 a3 a4 a5 a6 a7 a8 a9 b0 b1 b2 b3 b4 b5 c0 c1 c2,l = [a0,a1,a2,a3,a4,a5,a6,a7,a8,a9,b0,b1,b2,b3,b4,b5,c0,c1,c2]:=by
 match l,h with
 | [a0,a1,a2,a3,a4,a5,a6,a7,a8,a9,b0,b1,b2,b3,b4,b5,c0,c1,c2],_=>exact ⟨_,_,_,_,_,_,_,_,_,_,_,_,_,_,_,_,_,_,_,rfl⟩
theorem fillN {N:List Value} (h:N.length=19):Instr.fill (fun i=>some (i * 19,19)) ((Array.range (1 * 19)).map fun i=>(nodeC (zeroN 0)).toArray[i % (nodeC (zeroN 0)).toArray.size]!) [(0,.agg N.toArray)]=some N.toArray:=by
 obtain ⟨a0,a1,a2,a3,a4,a5,a6,a7,a8,a9,b0,b1,b2,b3,b4,b5,c0,c1,c2,rfl⟩:=list19 h
 kernel_rfl
theorem stl_node {ops:Array Oper} {o:Oper} {a:Act} {w:World} {K:Act→World→Prop} {Q:Exit→Act→World→Prop} {F:Prop} (hgd:o.guard=none) {x:Operand} (ho:o.op=.buildSlice 73 1 #[(0,x)]) (n:TN) (hn:n.kids.length=16)
  (hx:a.eval x=.agg (nodeC n).toArray)
  (h:K (a.put o.dst (.slice (some ⟨w.heap.size,0,none⟩) 1 1)) (w.alloc (.cells (nodeC n).toArray 130))) :
  if Region.wanted o (yielded ops a.tmps)=true then Oper.wp Tryz.prog o a w K Q else F:=by
 have hw:Region.wanted o (yielded ops a.tmps)=true:=by simp [Region.wanted,hgd]
 rw [if_pos hw]
 obtain ⟨i,hi,hz,hs,hb⟩:=info_parts elNode.hi
 refine wp_buildSlice _ 130 _ _ ho (nodeC n).toArray i _ Tryz.underlying73 hi hz (by rw [hs];decide) (by rw [hs];decide) ?_ h
 rw [hs]
 simp only [List.map_toArray,List.map_cons,List.map_nil,hx]
 exact fillN (nodeC_len hn)
theorem own_setOther {w:World} {base:Nat} {e:TypeId} {size:Nat} {v:Value} {n:Nat} {xs:List Value} (h:w.ownsRow base e size v n xs) {g i:Nat} (hg:g < base) (u:Value):(w.setCell ⟨g,i,none⟩ u).ownsRow base e size v n xs :=
 h.kept (row:=some g) ⟨rfl,rfl,rfl,by simp,fun k _ hk=>heap_set_ne (fun e=>hk (by rw [e])) u⟩ (.inr (fun e=>by have:=(h.lt g e).1;omega))
theorem lay_fin {g:Nat} {v v1:Value} {ns:List TN} {n:TN} {w W2 w4:World} (hAA:Arn W2 g v ns) (hb:Below w.heap.size w W2) (hgw:g < w.heap.size)
  (hown1:w4.ownsRow (g+1) 130 19 v1 (ns.length+1) (nodesC ns ++ nodeC n)) (hg1:W2.grownBy w4 v.ownBlock) (hat1:v1.ownBlock=v.ownBlock∨v1.ownBlock=some W2.heap.size)
  (hn:n.kids.length=16) (hne:some g≠v.ownBlock):Arn (w4.setCell ⟨g,0,none⟩ v1) g v1 (ns ++ [n])∧ArnTo g v w (w4.setCell ⟨g,0,none⟩ v1) v1:=by
 have hp:w4.heap[g]? = some (.cells #[v] 191 (0,0)):=(hg1.block g hAA.lt hne).trans hAA.ptr
 refine ⟨⟨?_,?_,?_⟩,⟨hg1.os.trans hb.os,hg1.tape.trans hb.tape,hg1.output.trans hb.output,Nat.le_trans hb.size (Nat.le_trans hg1.size (by simp)),fun k hk ha=>?_,fun k hk=>?_⟩⟩
 ·rw [heap_setCell_here hp];rfl
 ·have:=own_setOther (g:=g) (i:=0) hown1 (by omega) v1
  rw [List.length_append,nodesC_append]
  simpa [nodesC] using this
 ·intro m hm
  rcases List.mem_append.1 hm with h | h
  ·exact hAA.wide m h
  ·rw [List.mem_singleton] at h;subst h;exact hn
 ·rw [heap_set_ne ha.1,hg1.block k (Nat.lt_of_lt_of_le hk hb.size) (fun e=>ha.2 e.symm),hb.block k hk]
 ·rcases hat1 with h | h
  ·exact .inl (by rw [← h];exact hk)
  ·rw [h] at hk;injection hk with hk;exact .inr (by rw [← hk];exact hb.size)
theorem lay_any (g:Nat) (v:Value) (ns:List TN) (n:TN) (w:World) (hl:ns.length≤10000) (hn:n.kids.length=16) (hA:Arn w g v ns) :
  Calls Tryz.prog 168 #[.pointer (some ⟨g,0,none⟩),.agg (nodeC n).toArray] w (LaidPost g v ns n w):=by
 have hrow:=NRow.new w n
 have hA1:=hA.keep ((Below.refl _ _).alloc (Nat.le_refl _) (.cells (nodeC n).toArray 130))
 have hb1:Below w.heap.size w (w.alloc (.cells (nodeC n).toArray 130)):=(Below.refl _ _).alloc (Nat.le_refl _) _
 have hiN:=infoN hn
 go_enter Tryz.func168,Tryz.ntmps168
 go_wp2_with fail
 obtain ⟨W1,hW1⟩:∃ W1,w.alloc (.cells (nodeC n).toArray 130)=W1:=⟨_,rfl⟩
 simp only [hW1] at hA1 hb1 hrow ⊢
 clear hW1
 have hbA:Below W1.heap.size W1 (W1.drew.alloc (.cells (nodeC n).toArray 130)):=(Below.refl _ _).drew.alloc (by simp) _
 have hAA:=hA1.keep hbA
 have hrr:=hrow.keep hbA
 have hne:some g≠v.ownBlock:=ne_own hA1.own (by omega)
 have hnb:some w.heap.size≠v.ownBlock:=fun e=>by have:=(hA.own.lt _ e.symm).2;omega
 have hgl:=hA.lt
 have hrl:=hrow.lt
 have c0:=hA1.cell
 have c1:(W1.drew.alloc (.cells (nodeC n).toArray 130)).cell? ⟨g,0,none⟩=some v:=hAA.cell
 have c2:(W1.alloc (.cells (nodeC n).toArray 130)).cell? ⟨g,0,none⟩=some v:=hAA.cell
 refine wp_region_held_drew (S:=fun w'=>NRow w' w.heap.size n) (by kernel_rfl) hrow (fun hHeld=>?_)
 refine H_t (i:=0) (v:=.pointer (some ⟨g,0,none⟩)) rfl (Or.inl ⟨by rfl,fun w' hS=>by go_simp⟩) (by assumption) ?_
 refine H_t (i:=1) (v:=.pointer (some ⟨g,0,none⟩)) rfl (Or.inl ⟨by rfl,fun w' hS=>by go_simp⟩) (by assumption) ?_
 refine H_t (i:=2) (v:=.pointer (some ⟨g,0,none⟩)) rfl (Or.inl ⟨by rfl,fun w' hS=>by go_simp⟩) (by assumption) ?_
 refine H_t (i:=3) (v:=.pointer (some ⟨g,0,none⟩)) rfl (Or.inl ⟨by rfl,fun w' hS=>by go_simp⟩) (by assumption) ?_
 refine H_t (i:=5) (v:=.agg (nodeC n).toArray) rfl (yieldsIf_load_row rfl rfl rfl (fun w' hS=>hS) Tryz.underlying130 rfl hiN) hHeld ?_
 refine wpAnyH_ready (rs:=[4,6]) (by kernel_rfl) (by simp) ?_
 refine AllReadyH.cons rfl (fun K hK=>?_) (AllReadyH.cons rfl (fun K hK=>?_) AllReadyH.nil)
 ·go_simp
  refine hK.out _ _ hrow (fun hHeld=>?_)
  clear hK K
  refine lay_H ?_
  refine H_now 6 fun K hK=>?_
  refine stl_node rfl rfl n hn rfl ?_
  try simp only [Act.put,List.setIfInBounds_toArray,List.set_cons_zero,List.set_cons_succ,List.getElem_toArray,List.getElem_cons_zero,List.getElem_cons_succ]
  refine hK.out _ _ hrr (fun hHeld=>?_)
  clear hK K
  refine H_now 7 fun K hK=>?_
  refine stl_append elNode rfl rfl (g+1) hAA.own rfl (m:=1) (nodeC n) rfl (by rw [nodeC_len hn]) (lies_new W1.drew (nodeC n).toArray _) (nodeC_one n) (by simp only [maxLen];omega) (by omega) (by simp;omega) ?_
  intro v1 w4 hown1 hg1 hat1
  obtain ⟨A1,k1,rfl⟩:=own_form hown1
  try simp only [Act.put,List.setIfInBounds_toArray,List.set_cons_zero,List.set_cons_succ,List.getElem_toArray,List.getElem_cons_zero,List.getElem_cons_succ]
  have hr4:NRow w4 w.heap.size n:=hrr.of_block (hg1.block _ hrr.lt hnb)
  have z0:w4.cell? ⟨g,0,none⟩=some v:=hg1.cell hAA.cell hne
  have z1:w4.frozen? ⟨g,0,none⟩=false:=(World.frozen?_of_block (hg1.block g hAA.lt hne)).trans hAA.free
  refine hK.out _ _ hr4 (fun hHeld=>?_)
  clear hK K
  refine wpAnyH_take (i:=8) (v:=.pointer (some ⟨g,0,none⟩)) rfl (by kernel_rfl) (by kernel_rfl) (by kernel_rfl) (fun _ _ _ h=>h) (Or.inl ⟨by rfl,fun w' hS=>by go_simp⟩) (by assumption) ?_
  try simp only [Act.put,List.setIfInBounds_toArray,List.set_cons_zero,List.set_cons_succ,List.getElem_toArray,List.getElem_cons_zero,List.getElem_cons_succ]
  refine wpAnyH_take (i:=9) (v:=.pointer (some ⟨g,0,none⟩)) rfl (by kernel_rfl) (by kernel_rfl) (by kernel_rfl) (fun _ _ _ h=>h) (Or.inl ⟨by rfl,fun w' hS=>by go_simp⟩) (by assumption) ?_
  try simp only [Act.put,List.setIfInBounds_toArray,List.set_cons_zero,List.set_cons_succ,List.getElem_toArray,List.getElem_cons_zero,List.getElem_cons_succ]
  refine H_now 10 fun K hK=>?_
  go_simp
  refine hK.out _ _ (hr4.of_block (heap_set_ne (b:=g) (by omega) _)) (fun hHeld=>?_)
  clear hK K
  refine wpAnyH_done (by kernel_rfl) ?_ _
  go_wp2_with fail
  go_ret
  exact ⟨rfl,_,lay_fin hAA (hb1.trans (hbA.mono hb1.size)) hgl hown1 hg1 hat1 hn hne⟩
 ·refine stl_node rfl rfl n hn rfl ?_
  try simp only [Act.put,List.setIfInBounds_toArray,List.set_cons_zero,List.set_cons_succ,List.getElem_toArray,List.getElem_cons_zero,List.getElem_cons_succ]
  refine hK.out _ _ hrr (fun hHeld=>?_)
  clear hK K
  refine H_now 4 fun K hK=>?_
  go_simp
  refine hK.out _ _ hrr (fun hHeld=>?_)
  clear hK K
  refine lay_H ?_
  refine H_now 7 fun K hK=>?_
  refine stl_append elNode rfl rfl (g+1) hAA.own rfl (m:=1) (nodeC n) rfl (by rw [nodeC_len hn]) (lies_new W1.drew (nodeC n).toArray _) (nodeC_one n) (by simp only [maxLen];omega) (by omega) (by simp;omega) ?_
  intro v1 w4 hown1 hg1 hat1
  obtain ⟨A1,k1,rfl⟩:=own_form hown1
  try simp only [Act.put,List.setIfInBounds_toArray,List.set_cons_zero,List.set_cons_succ,List.getElem_toArray,List.getElem_cons_zero,List.getElem_cons_succ]
  have hr4:NRow w4 w.heap.size n:=hrr.of_block (hg1.block _ hrr.lt hnb)
  have z0:w4.cell? ⟨g,0,none⟩=some v:=hg1.cell hAA.cell hne
  have z1:w4.frozen? ⟨g,0,none⟩=false:=(World.frozen?_of_block (hg1.block g hAA.lt hne)).trans hAA.free
  refine hK.out _ _ hr4 (fun hHeld=>?_)
  clear hK K
  refine wpAnyH_take (i:=8) (v:=.pointer (some ⟨g,0,none⟩)) rfl (by kernel_rfl) (by kernel_rfl) (by kernel_rfl) (fun _ _ _ h=>h) (Or.inl ⟨by rfl,fun w' hS=>by go_simp⟩) (by assumption) ?_
  try simp only [Act.put,List.setIfInBounds_toArray,List.set_cons_zero,List.set_cons_succ,List.getElem_toArray,List.getElem_cons_zero,List.getElem_cons_succ]
  refine wpAnyH_take (i:=9) (v:=.pointer (some ⟨g,0,none⟩)) rfl (by kernel_rfl) (by kernel_rfl) (by kernel_rfl) (fun _ _ _ h=>h) (Or.inl ⟨by rfl,fun w' hS=>by go_simp⟩) (by assumption) ?_
  try simp only [Act.put,List.setIfInBounds_toArray,List.set_cons_zero,List.set_cons_succ,List.getElem_toArray,List.getElem_cons_zero,List.getElem_cons_succ]
  refine H_now 10 fun K hK=>?_
  go_simp
  refine hK.out _ _ (hr4.of_block (heap_set_ne (b:=g) (by omega) _)) (fun hHeld=>?_)
  clear hK K
  refine wpAnyH_done (by kernel_rfl) ?_ _
  go_wp2_with fail
  go_ret
  exact ⟨rfl,_,lay_fin hAA (hb1.trans (hbA.mono hb1.size)) hgl hown1 hg1 hat1 hn hne⟩
/- The walks of arena.build, its literal, and each. -/
theorem kidsP_count {f:List KV→Nat→List TN×Int} {M:Nat} {l:List KV} (hf:∀ c b,(f (cutK l c) b).1.length≤M * (cutK l c).length) (hr:Rise l) (b:Nat):∀ c,c≤256→(kidsP f l b c).1.length+M * (fromP l c).length≤M * (fromP l 0).length:=by
 intro c
 induction c with
 | zero=>intro _;simp [kidsP]
 | succ c ih =>
  intro hc
  have h1:=ih (by omega)
  have h2:=hf c (b+(kidsP f l b c).1.length)
  have h3:=from_step hr c (by omega)
  rw [h3,List.length_append,Nat.mul_add] at h1
  rw [kidsP]
  simp only [List.length_append]
  have h4:(cutK l c).length=(pickP l c).length:=lessP_len _ _
  rw [h4] at h2
  omega
theorem fromP_le (l:List KV) (c:Nat):(fromP l c).length≤l.length:=List.length_filter_le _ _
theorem buildP_count (N:Nat):∀ l b,Rise l→(buildP N l b).1.length≤N * l.length:=by
 induction N with
 | zero=>intro l b _;simp [buildP]
 | succ N ih =>
  intro l b hr
  match l,hr with
  | [],_=>simp [buildP]
  | [p],_=>simp [buildP]
  | p :: q :: r,hr =>
   rw [buildP]
   split
   ·rename_i hk
    have:=ih _ b (rise_less hr (comP_take hr))
    rw [lessP_len] at this
    simp only [List.length_append,List.length_cons,List.length_nil] at this ⊢
    rw [Nat.add_mul];omega
   ·have h:=kidsP_count (f:=buildP N) (M:=N) (l:=p :: q :: r) (fun c b=>ih _ b (rise_cut hr c)) hr b 16 (by omega)
    have h2:=Nat.mul_le_mul_left N (fromP_le (p :: q :: r) 0)
    simp only [List.length_append,List.length_cons,List.length_nil] at h h2 ⊢
    rw [Nat.add_mul];omega
/-- what is asked of pairs that are built -/
structure BuildIn (N:Nat) (l:List KV):Prop where
 short:Short N l
 rise:Rise l
 half:Half l
 le:l.length≤100
/-- behind nodes that are built -/
def BuildPost (N:Nat) (l:List KV) (g:Nat) (v:Value) (ns:List TN) (w:World) (e:Ending) (w':World):Prop :=
 e=.returned (.int .i64 (buildP N l ns.length).2)∧∃ v',Arn w' g v' (ns ++ (buildP N l ns.length).1)∧ArnTo g v w w' v'
def BuildSaid (N:Nat):Prop:=∀ (l:List KV) (A:Option Addr) (c:Nat) (w:World) (g:Nat) (v:Value) (ns:List TN),BuildIn N l→ns.length+N * l.length≤10000→KVs (Apart g v) w l A c→Arn w g v ns →
 Calls Tryz.prog 121 #[.pointer (some ⟨g,0,none⟩),.slice A l.length c] w (BuildPost N l g v ns w)
theorem build_none (N:Nat) (A:Option Addr) (c:Nat) (w:World) (g:Nat) (v:Value) (ns:List TN) (hA:Arn w g v ns) :
  Calls Tryz.prog 121 #[.pointer (some ⟨g,0,none⟩),.slice A 0 c] w (BuildPost N [] g v ns w):=by
 have hb:=(Below.refl w.heap.size w).alloc (Nat.le_refl _) (.cells #[.pointer (some ⟨g,0,none⟩)] 189)
 have hA':=hA.keep hb
 go_enter Tryz.func121,Tryz.ntmps121
 go_wp2_with fail
 go_ret
 refine ⟨by rw [buildP_nil];rfl,v,?_,?_⟩
 ·rw [buildP_nil,List.append_nil];exact hA'
 ·exact ArnTo.of_below hb
theorem newN (w:World):(w.alloc (.cells #[.int .i64 0,.string { data:=#[] },.string { data:=#[] },.int .i64 0,.int .i64 0,.int .i64 0,.int .i64 0,.int .i64 0,.int .i64 0,.int .i64 0,.int .i64 0,.int .i64 0,.int .i64 0,.int .i64 0,.int .i64 0,.int .i64 0,.int .i64 0,.int .i64 0,.int .i64 0] 130)).heap[w.heap.size]? = some (.cells (nodeC (zeroN 0)).toArray 130 (0,0)):=by
 rw [zN];exact heap_alloc_new w _
/-- a node is laid in a variable -/
theorem varN (w:World) (n:TN):NRow ((w.alloc (.cells #[.int .i64 0,.string { data:=#[] },.string { data:=#[] },.int .i64 0,.int .i64 0,.int .i64 0,.int .i64 0,.int .i64 0,.int .i64 0,.int .i64 0,.int .i64 0,.int .i64 0,.int .i64 0,.int .i64 0,.int .i64 0,.int .i64 0,.int .i64 0,.int .i64 0,.int .i64 0] 130)).setRow w.heap.size (nodeC n).toArray) w.heap.size n ∧
  Below w.heap.size w ((w.alloc (.cells #[.int .i64 0,.string { data:=#[] },.string { data:=#[] },.int .i64 0,.int .i64 0,.int .i64 0,.int .i64 0,.int .i64 0,.int .i64 0,.int .i64 0,.int .i64 0,.int .i64 0,.int .i64 0,.int .i64 0,.int .i64 0,.int .i64 0,.int .i64 0,.int .i64 0,.int .i64 0] 130)).setRow w.heap.size (nodeC n).toArray) :=
 ⟨NRow.row (n:=zeroN 0) (newN w) n,below_setRow ((Below.refl _ _).alloc (Nat.le_refl _) _) (Nat.le_refl _) _⟩
theorem build_one (N:Nat) (p:KV) (A:Option Addr) (c:Nat) (w:World) (g:Nat) (v:Value) (ns:List TN) (hl:ns.length≤9999) (hv:KVs (Apart g v) w [p] A c) (hA:Arn w g v ns) :
  Calls Tryz.prog 121 #[.pointer (some ⟨g,0,none⟩),.slice A 1 c] w (BuildPost (N+1) [p] g v ns w):=by
 have hb:=(Below.refl w.heap.size w).alloc (Nat.le_refl _) (.cells #[.pointer (some ⟨g,0,none⟩)] 189)
 have hA':=hA.keep hb
 have hv':=hv.keep hb
 go_enter Tryz.func121,Tryz.ntmps121
 go_wp2_with fail
 refine (fresh_any 1 _).mono ?_
 rintro e w1 ⟨rfl,hb1⟩
 have hA1:=hA'.keep hb1
 have hv1:=hv'.keep hb1
 have hB1:=below_call hb hb.size hb1
 have hp1:w1.cell? ⟨w.heap.size,0,none⟩=some (.pointer (some ⟨g,0,none⟩)):=by rw [(bcell hb1).1 _ _ (by simp)];simp
 have hz:=newN w1
 have hi:=infoN (n:=⟨1,[],[],noKids⟩) rfl
 have ha:=allN ⟨1,[],[],noKids⟩
 have hs:=sizeN (n:=zeroN 0) (m:=⟨1,[],[],noKids⟩) rfl rfl
 have hV:=varN w1 ⟨1,[],[],noKids⟩
 clear hA' hv' hb1 hb
 go_wp2_with (refine wpList_store_row rfl _ _ _ rfl w1.heap.size (nodeC ⟨1,[],[],noKids⟩).toArray rfl rfl _ _ hz hi hs ha ?_)
 generalize hW2:World.setRow _ w1.heap.size _=W2 at hV ⊢
 clear hW2 hz hs
 obtain ⟨hn,hb2⟩:=hV
 have hA2:=hA1.keep hb2
 have hv2:=hv1.keep hb2
 have hB2:=below_call hB1 hB1.size hb2
 have hlt1:w.heap.size < w1.heap.size:=lt_of_cell hp1
 have hp2:W2.cell? ⟨w.heap.size,0,none⟩=some (.pointer (some ⟨g,0,none⟩)):=by rw [(bcell hb2).1 _ _ hlt1];exact hp1
 obtain ⟨b,o,rfl,hS,c0,c1⟩:=hv2.at_ (i:=0) (p:=p) rfl
 have hbW1:b < w1.heap.size:=by
  obtain ⟨b',o',e,_,e0,_⟩:=hv1.at_ (i:=0) (p:=p) rfl
  injection e with e;injection e with e1 e2;subst e1;exact lt_of_cell e0
 have d1:W2.cell? ⟨w1.heap.size,1,none⟩=some (.string (bs [])):=hn.cell rfl
 have d2:W2.cell? ⟨w1.heap.size,2,none⟩=some (.string (bs [])):=hn.cell rfl
 have f1:=hn.free 1
 have f2:=hn.free 2
 have hbne:b≠w1.heap.size:=by omega
 have hne2:w.heap.size≠w1.heap.size:=by omega
 obtain ⟨p1,p2⟩:=p
 simp only [Nat.zero_mul,Nat.add_zero] at c0 c1
 have hb3:Below w1.heap.size w1 ((W2.setCell ⟨w1.heap.size,1,none⟩ (.string (bs p1))).setCell ⟨w1.heap.size,2,none⟩ (.string (bs p2))).drew:=((hb2.setCell (p:=⟨w1.heap.size,_,_⟩) (Nat.le_refl _) _).setCell (p:=⟨w1.heap.size,_,_⟩) (Nat.le_refl _) _).drew
 have hn3:NRow ((W2.setCell ⟨w1.heap.size,1,none⟩ (.string (bs p1))).setCell ⟨w1.heap.size,2,none⟩ (.string (bs p2))).drew w1.heap.size ⟨1,p1,p2,noKids⟩:=(hn.set (nodeC_part _ p1)).set (nodeC_value _ p2)
 have hA3:=hA1.keep hb3
 have hB3:=below_call hB1 hB1.size hb3
 have hi3:=infoN (n:=⟨1,p1,p2,noKids⟩) rfl
 have HA:=Lib.hid hA3
 have HB:=Lib.hid hB3
 clear hA1 hv1 hB1 hp1 hb2 hA2 hv2 hB2 hn hi ha hb3 hA3 hB3 hv hA
 simp only [Act.put]
 go_region
 unfold NRow at hn3
 go_wp2_with (refine wpList_load_row rfl _ _ rfl w1.heap.size rfl _ _ _ _ hn3 Tryz.underlying130 rfl hi3 ?_)
 refine (lay_any g v ns ⟨1,p1,p2,noKids⟩ _ (by omega) rfl HA.out).mono ?_
 rintro e w4 ⟨rfl,v4,hA4,hT4⟩
 go_wp2_with fail
 go_ret
 exact ⟨rfl,v4,hA4,(ArnTo.of_below HB.out).trans hT4⟩
theorem Arn.other {w:World} {g:Nat} {v:Value} {ns:List TN} (h:Arn w g v ns) {G i:Nat} (hG:Apart g v G) (u:Value):Arn (w.setCell ⟨G,i,none⟩ u) g v ns :=
 ⟨(heap_set_ne hG.1.symm u).trans h.ptr,h.own.kept (row:=some G) ⟨rfl,rfl,rfl,by simp,fun k _ hk=>heap_set_ne (fun e=>hk (by rw [e])) u⟩ (.inr hG.2),h.wide⟩
theorem ArnTo.set {g:Nat} {v v':Value} {w w':World} (h:ArnTo g v w w' v') {G i:Nat} (hG:w.heap.size≤G) (u:Value):ArnTo g v w (w'.setCell ⟨G,i,none⟩ u) v' :=
 ⟨h.os,h.tape,h.output,by simpa using h.size,fun k hk ha=>(heap_set_ne (by omega) u).trans (h.block k hk ha),h.row⟩
theorem Arn.fresh {w:World} {g:Nat} {v:Value} {ns:List TN} (h:Arn w g v ns) {G:Nat} (hG:w.heap.size≤G):Apart g v G :=
 ⟨by have:=h.lt;omega,fun e=>by have:=(h.own.lt _ e).2;omega⟩
theorem cons_of_get {α:Type} {l:List α} {p:α} (h:l[0]? = some p):∃ r,l=p :: r:=by
 cases l with
 | nil=>simp at h
 | cons a r=>simp at h;exact ⟨r,by rw [h]⟩
theorem comP_eq {l:List KV} {p z:KV} (hp:l[0]? = some p) (hz:l[l.length - 1]? = some z):comP l=shareP p.1 z.1:=by
 obtain ⟨r,rfl⟩:=cons_of_get hp
 show shareP p.1 ((p :: r).getLast (by simp)).1=_
 have:(p :: r).getLast (by simp)=z:=by
  have h:=List.getLast?_eq_getElem? (l:=p :: r)
  rw [hz,List.getLast?_eq_some_getLast (by simp)] at h
  exact Option.some.inj h
 rw [this]
theorem comP_take' {l:List KV} (h:Rise l):∃ t,∀ q∈l,q.1.take (comP l)=t:=by
 cases l with
 | nil=>exact ⟨[],fun q hq=>by cases hq⟩
 | cons p r=>exact ⟨_,comP_take h⟩
theorem comP_len' {l:List KV} (h:Rise l):∀ q∈l,comP l≤q.1.length:=by
 cases l with
 | nil=>intro q hq;cases hq
 | cons p r=>exact comP_len h
theorem buildP_joint (N:Nat) {l:List KV} {p:KV} (hp:l[0]? = some p) (h2:2≤l.length) (hk:0 < comP l) (b:Nat):buildP (N+1) l b=((buildP N (lessP l (comP l)) b).1 ++ [⟨2,p.1.take (comP l),[],noKids.set 0 (buildP N (lessP l (comP l)) b).2⟩],
  ((b+(buildP N (lessP l (comP l)) b).1.length:Nat):Int)):=by
 match l,hp,h2 with
 | p' :: q :: r,hp,_=>simp at hp;subst hp;rw [buildP,if_pos hk]
theorem buildP_branch (N:Nat) {l:List KV} (h2:2≤l.length) (hk:¬ 0 < comP l) (b:Nat):buildP (N+1) l b=((kidsP (buildP N) l b 16).1 ++ [⟨3,[],topV l,(kidsP (buildP N) l b 16).2⟩],((b+(kidsP (buildP N) l b 16).1.length:Nat):Int)):=by
 match l,h2 with
 | p' :: q :: r,_=>rw [buildP,if_neg hk]
theorem build_joint (N:Nat) (hN:BuildSaid N) (l:List KV) (h2:2≤l.length) (hk:0 < comP l) (A:Option Addr) (c:Nat) (w:World) (g:Nat) (v:Value) (ns:List TN) (hI:BuildIn (N+1) l) (hN66:N≤66)
  (hl:ns.length+(N+1) * l.length≤10000) (hv:KVs (Apart g v) w l A c) (hA:Arn w g v ns) :
  Calls Tryz.prog 121 #[.pointer (some ⟨g,0,none⟩),.slice A l.length c] w (BuildPost (N+1) l g v ns w):=by
 obtain ⟨p,hp⟩:∃ p,l[0]? = some p:=getElem_ex (by omega)
 obtain ⟨z,hz⟩:∃ z,l[l.length - 1]? = some z:=getElem_ex (by omega)
 have hcom:=comP_eq hp hz
 have HBI:Hid (BuildIn N (lessP l (comP l))):=Lib.hid (by
  obtain ⟨t,ht⟩:=comP_take' hI.rise
  exact ⟨short_less hI.short hk (comP_len' hI.rise),rise_less hI.rise ht,half_less hI.half _,by rw [lessP_len];exact hI.le⟩)
 have HBP:=Lib.hid (buildP_joint N hp h2 hk ns.length)
 have HCN:=Lib.hid (buildP_count N _ ns.length HBI.out.rise)
 have hpl:p.1.length < N+1:=hI.short p (List.mem_of_getElem? hp)
 have hzl:z.1.length < N+1:=hI.short z (List.mem_of_getElem? hz)
 have hkp:=comP_len' hI.rise
 obtain ⟨k,hkk⟩:∃ k,comP l=k:=⟨_,rfl⟩
 rw [hkk] at hk hcom HBI HBP HCN hkp
 have HL:=Lib.hid hl
 have HKP:=Lib.hid hkp
 have hle:=hI.le
 have hshort:=hI.short
 have hb:=(Below.refl w.heap.size w).alloc (Nat.le_refl _) (.cells #[.pointer (some ⟨g,0,none⟩)] 189)
 have hA':=hA.keep hb
 have hv':=hv.keep hb
 have hkpp:=hkp p (List.mem_of_getElem? hp)
 obtain ⟨b,o,rfl,hSb,c0,_⟩:=hv'.at_ hp
 obtain ⟨b',o',e,_,c1,_⟩:=hv'.at_ hz
 injection e with e;injection e with e1 e2;subst e1;subst e2
 have t0:((l.length:Int) == 0)=false:=by rw [beq_eq_false_iff_ne];omega
 have t1:((l.length:Int) == 1)=false:=by rw [beq_eq_false_iff_ne];omega
 have hlI1:(2:Int)≤(l.length:Int):=by omega
 have hlI2:(l.length:Int)≤100:=by omega
 have s1:IntKind.i64.wrap ((l.length:Int) - 1)=(l.length:Int) - 1:=IntWalk.i64_in _ (by omega)
 have s2:((l.length:Int) - 1).toNat=l.length - 1:=by omega
 have s3:0≤(l.length:Int) - 1:=by omega
 have s4:(l.length:Int) - 1 < (l.length:Int):=by omega
 have hS1:=fun w=>Share_drew p.1 z.1 (by omega) (by omega) w
 rw [← hcom] at hS1
 have HSH:=Lib.hid hS1
 simp only [Nat.zero_mul,Nat.add_zero] at c0
 have HV:=Lib.hid hv'
 have HA:=Lib.hid hA'
 have HK:=Lib.hid (And.intro hk h2)
 have HP:=Lib.hid hp
 have HH:=Lib.hid hshort
 obtain ⟨p1,p2⟩:=p
 obtain ⟨z1,z2⟩:=z
 simp only [] at c0 c1 hpl HSH HBP hkpp
 clear hz hcom hzl hkp hkk hI hl hb hA' hv' hS1 hv hSb h2 hp hshort
 go_enter Tryz.func121,Tryz.ntmps121
 go_wp2_with fail
 go_quiet ((go_at_call 169;exact Calls.quiet_of (HSH.out _)))
 have hAq:=HA.out.keep (below_drewN (Below.refl _ _) nq)
 have hVq:=HV.out.keep (below_drewN (Below.refl _ _) nq)
 have hBq:Below w.heap.size w ((w.alloc (.cells #[.pointer (some ⟨g,0,none⟩)] 189)).drewN nq):=below_drewN ((Below.refl _ _).alloc (Nat.le_refl _) _) nq
 have hpq:((w.alloc (.cells #[.pointer (some ⟨g,0,none⟩)] 189)).drewN nq).cell? ⟨w.heap.size,0,none⟩=some (.pointer (some ⟨g,0,none⟩)):=by simp
 generalize (w.alloc (.cells #[.pointer (some ⟨g,0,none⟩)] 189)).drewN nq=W0 at hAq hVq hBq hpq ⊢
 clear HA HV c0 c1
 go_wp2_with fail
 refine (fresh_any 2 _).mono ?_
 rintro e w1 ⟨rfl,hb1⟩
 have hA1:=hAq.keep hb1
 have hv1:=hVq.keep hb1
 have hB1:=below_call hBq hBq.size hb1
 have hp1:w1.cell? ⟨w.heap.size,0,none⟩=some (.pointer (some ⟨g,0,none⟩)):=by rw [(bcell hb1).1 _ _ (lt_of_cell hpq)];exact hpq
 have hz:=newN w1
 have hi:=infoN (n:=⟨2,[],[],noKids⟩) rfl
 have ha:=allN ⟨2,[],[],noKids⟩
 have hs:=sizeN (n:=zeroN 0) (m:=⟨2,[],[],noKids⟩) rfl rfl
 have hV:=varN w1 ⟨2,[],[],noKids⟩
 clear hAq hVq hBq hpq hb1
 have HA1:=Lib.hid hA1
 have HV1:=Lib.hid hv1
 have HB1:=Lib.hid hB1
 have hlt1:w.heap.size < w1.heap.size:=lt_of_cell hp1
 clear hA1 hv1 hB1
 go_wp2_with (refine wpList_store_row rfl _ _ _ rfl w1.heap.size (nodeC ⟨2,[],[],noKids⟩).toArray rfl rfl _ _ hz hi hs ha ?_;generalize hW2:World.setRow _ w1.heap.size _=W2 at hV ⊢;clear hW2 hz hs hi ha;obtain ⟨hn,hb2⟩:=hV;obtain ⟨b',o',e,_,c0,_⟩:=(HV1.out.keep hb2).at_ HP.out;injection e with e;injection e with e1 e2;subst e1;subst e2;simp only [Nat.zero_mul,Nat.add_zero] at c0;have d1:W2.cell? ⟨w1.heap.size,1,none⟩=some (.string (bs [])):=hn.cell rfl;have f1:=hn.free 1;have hp2:W2.cell? ⟨w.heap.size,0,none⟩=some (.pointer (some ⟨g,0,none⟩)):=(by rw [(bcell hb2).1 _ _ hlt1];exact hp1);have HN:=Lib.hid hn;have HB2:=Lib.hid hb2;clear hn hb2 hp1)
 have hn3:=HN.out.set (nodeC_part _ (List.take k p1))
 have hb3:Below w1.heap.size w1 (W2.setCell ⟨w1.heap.size,1,none⟩ (.string (bs (List.take k p1)))):=HB2.out.setCell (p:=⟨w1.heap.size,_,_⟩) (Nat.le_refl _) _
 have hp3:(W2.setCell ⟨w1.heap.size,1,none⟩ (.string (bs (List.take k p1)))).cell? ⟨w.heap.size,0,none⟩=some (.pointer (some ⟨g,0,none⟩)):=by rw [(bcell hb3).1 _ _ hlt1,← (bcell HB2.out).1 _ _ hlt1];exact hp2
 generalize W2.setCell ⟨w1.heap.size,1,none⟩ (.string (bs (List.take k p1)))=W3 at hn3 hb3 hp3 ⊢
 clear HN HB2 hp2 c0 d1 f1
 have hA3:=HA1.out.keep hb3
 have hV3:=HV1.out.keep hb3
 have hB3:=below_call HB1.out HB1.out.size hb3
 have hB1s:=HB1.out.size
 have hapT:Apart g v w.heap.size:=hA.fresh (Nat.le_refl _)
 have hapG:Apart g v w1.heap.size:=HA1.out.fresh (Nat.le_refl _)
 have hapR:Apart g v W3.heap.size:=hA3.fresh (Nat.le_refl _)
 have hG3:=hn3.lt
 have hkl:∀ p∈l,k≤p.1.length∧p.1.length≤100000:=fun p hp=>⟨HKP.out p hp,by have:=HH.out p hp;omega⟩
 refine wp_region_held_drew (S:=fun w'=>w'.cell? ⟨w.heap.size,0,none⟩=some (.pointer (some ⟨g,0,none⟩))) (by kernel_rfl) hp3 (fun hHeld=>?_)
 refine H_t (i:=0) (v:=.pointer (some ⟨g,0,none⟩)) rfl (yieldsIf_load_cell rfl rfl rfl (fun w' hS=>hS) Tryz.underlying189 rfl) hHeld ?_
 refine H_t (i:=1) (v:=.slice (some ⟨b,o,none⟩) l.length c) rfl (Or.inl ⟨by rfl,fun w' hS=>by go_simp⟩) hHeld ?_
 refine H_t (i:=2) (v:=.int .i64 (k:Int)) rfl (Or.inl ⟨by rfl,fun w' hS=>by go_simp⟩) hHeld ?_
 refine H_t (i:=5) (v:=.pointer (some ⟨w1.heap.size,3,none⟩)) rfl (Or.inl ⟨by rfl,fun w' hS=>by go_simp⟩) hHeld ?_
 have hbd:Below W3.heap.size W3 W3.drew:=(Below.refl _ _).drew
 replace hA3:=hA3.keep hbd
 replace hV3:=hV3.keep hbd
 replace hn3:=hn3.keep hbd
 replace hB3:=below_call hB3 hB3.size hbd
 replace hapR:Apart g v W3.drew.heap.size:=hapR
 replace hG3:w1.heap.size < W3.drew.heap.size:=hG3
 replace hp3:W3.drew.cell? ⟨w.heap.size,0,none⟩=some (.pointer (some ⟨g,0,none⟩)):=hHeld
 clear hHeld hbd hb3
 generalize W3.drew=W3 at hA3 hV3 hn3 hB3 hapR hG3 hp3 ⊢
 refine H_now 3 fun K hK=>?_
 go_simp
 refine (less_any l k _ c _ hle hkl (by omega) hV3.any).mono ?_
 rintro e w4 ⟨rfl,hr4,hb4⟩
 have hb4':Below W3.heap.size W3 w4:=hb4
 have hA4:=hA3.keep hb4'
 have hn4:=hn3.keep hb4'
 have hB4:=below_call hB3 hB3.size hb4'
 have hp4:w4.cell? ⟨w.heap.size,0,none⟩=some (.pointer (some ⟨g,0,none⟩)):=by rw [(bcell hb4').1 _ _ (lt_of_cell hp3)];exact hp3
 have hr4':KRow w4 W3.heap.size (lessP l k):=hr4
 have hk4:KVs (Apart g v) w4 (lessP l k) (some ⟨W3.heap.size,0,none⟩) l.length:=hr4'.kvs _ hapR (by rw [lessP_len];exact Nat.le_refl _) (by simp only [maxLen];omega)
 go_wp2_with fail
 refine hK.out _ _ hp4 (fun hHeld=>?_)
 clear hK K
 refine lay_H ?_
 refine H_now 4 fun K hK=>?_
 go_simp
 have hcall:=hN (lessP l k) (some ⟨W3.heap.size,0,none⟩) l.length w4 g v ns HBI.out (by have h1:=HL.out;rw [lessP_len];rw [Nat.add_mul] at h1;omega) hk4 hA4
 rw [lessP_len] at hcall
 refine hcall.mono ?_
 rintro e w5 ⟨rfl,v5,hA5,hT5⟩
 have hn5:=hn4.of_block (hT5.block _ hn4.lt hapG)
 have hp5:w5.cell? ⟨w.heap.size,0,none⟩=some (.pointer (some ⟨g,0,none⟩)):=by rw [World.cell?_of_block (hT5.block _ (lt_of_cell hp4) hapT)];exact hp4
 have hapG5:=hT5.apart hn4.lt hapG
 go_wp2_with fail
 refine hK.out _ _ hp5 (fun hHeld=>?_)
 clear hK K
 refine lay_H ?_
 refine H_t (i:=6) (v:=.pointer (some ⟨w1.heap.size,3,none⟩)) rfl (Or.inl ⟨by rfl,fun w' hS=>by go_simp⟩) hHeld ?_
 refine H_now 7 fun K hK=>?_
 have d3:w5.cell? ⟨w1.heap.size,3,none⟩=some (.int .i64 (-1)):=hn5.cell rfl
 have f3:=hn5.free 3
 go_simp
 refine hK.out _ _ (by rw [World.cell?_setCell_far _ _ _ _ (by simp;omega)];exact hp5) (fun hHeld=>?_)
 clear hK K
 refine lay_H ?_
 refine wpAnyH_done (by kernel_rfl) ?_ _
 have hn6:=hn5.set (nodeC_kid _ 0 (buildP N (lessP l k) ns.length).2)
 have hA6:=hA5.other (i:=3) hapG5 (.int .i64 (buildP N (lessP l k) ns.length).2)
 have hT6:=(((ArnTo.of_below hB4).trans hT5).set (i:=3) hB1s (.int .i64 (buildP N (lessP l k) ns.length).2))
 have hp6:=hHeld
 have hn5l:=hn5.lt
 have hlen:(ns ++ (buildP N (lessP l k) ns.length).1).length≤10000:=by
  have h1:=HCN.out
  have h2:=HL.out
  rw [lessP_len] at h1
  rw [Nat.add_mul] at h2
  rw [List.length_append];omega
 obtain ⟨M,hM⟩:∃ M:TN,M=⟨2,List.take k p1,[],noKids.set 0 (buildP N (lessP l k) ns.length).2⟩:=⟨_,rfl⟩
 have hMk:M.kids.length=16:=by rw [hM];simp [noKids]
 have hn6':NRow (w5.setCell ⟨w1.heap.size,3,none⟩ (.int .i64 (buildP N (lessP l k) ns.length).2)) w1.heap.size M:=by rw [hM];exact hn6
 have hi6:=infoN hMk
 have HM:=Lib.hid hM
 have HA6:=Lib.hid hA6
 unfold NRow at hn6'
 clear hn6 hM hA6 hn5 hn4 hn3
 go_wp2_with (refine wpList_load_row rfl _ _ rfl w1.heap.size rfl _ _ _ _ hn6' Tryz.underlying130 rfl hi6 ?_)
 refine (lay_any g v5 _ M _ hlen hMk HA6.out).mono ?_
 rintro e w7 ⟨rfl,v7,hA7,hT7⟩
 go_wp2_with fail
 go_ret
 refine ⟨by rw [HBP.out];simp,v7,?_,hT6.trans hT7⟩
 rw [HBP.out,← List.append_assoc,← HM.out];exact hA7
/- The walks of arena.build's literal and of each; arena.build. -/
/-- in the midst of a branch -/
structure Br (w wr:World) (g:Nat) (v v':Value) (ns:List TN) (T G:Nat) (n:TN):Prop where
 arn:Arn wr g v' ns
 to:ArnTo g v w wr v'
 cell:wr.cell? ⟨T,0,none⟩=some (.pointer (some ⟨g,0,none⟩))
 row:NRow wr G n
 apT:Apart g v' T
 apG:Apart g v' G
 wT:w.heap.size≤T
 wG:w.heap.size≤G
 ne:T≠G
theorem Br.keep {w wr wr':World} {g:Nat} {v v':Value} {ns:List TN} {T G:Nat} {n:TN} (h:Br w wr g v v' ns T G n) (hb:Below wr.heap.size wr wr'):Br w wr' g v v' ns T G n :=
 ⟨h.arn.keep hb,h.to.trans (ArnTo.of_below hb),by rw [(bcell hb).1 _ _ (lt_of_cell h.cell)];exact h.cell,h.row.keep hb,h.apT,h.apG,h.wT,h.wG,h.ne⟩
theorem Br.on {w wr wr':World} {g:Nat} {v v' v'':Value} {ns ns':List TN} {T G:Nat} {n:TN} (h:Br w wr g v v' ns T G n) (hA:Arn wr' g v'' ns') (ht:ArnTo g v' wr wr' v''):Br w wr' g v v'' ns' T G n :=
 ⟨hA,h.to.trans ht,by rw [World.cell?_of_block (ht.block _ (lt_of_cell h.cell) h.apT)];exact h.cell,h.row.of_block (ht.block _ h.row.lt h.apG),ht.apart (lt_of_cell h.cell) h.apT,ht.apart h.row.lt h.apG,h.wT,h.wG,h.ne⟩
theorem Br.set {w wr:World} {g:Nat} {v v':Value} {ns:List TN} {T G:Nat} {n m:TN} (h:Br w wr g v v' ns T G n) {i:Nat} {u:Value} (hm:(nodeC n).set i u=nodeC m):Br w (wr.setCell ⟨G,i,none⟩ u) g v v' ns T G m :=
 ⟨h.arn.other h.apG u,h.to.set h.wG u,by rw [World.cell?_setCell_far _ _ _ _ (by simpa using h.ne.symm)];exact h.cell,h.row.set hm,h.apT,h.apG,h.wT,h.wG,h.ne⟩
/-- behind a call of the literal -/
def ClosPost (N:Nat) (l:List KV) (x:Nat) (w:World) (g:Nat) (v:Value) (ns:List TN) (T G:Nat) (n:TN) (e:Ending) (w':World):Prop :=
 e=.returned (.tuple #[])∧∃ v'',Br w w' g v v'' (ns ++ (buildP N (lessP l 1) ns.length).1) T G { n with kids:=n.kids.set x (buildP N (lessP l 1) ns.length).2 }
theorem build1_any (N:Nat) (hN:BuildSaid N) (l:List KV) (x:Nat) (hx:x < 16) (A:Option Addr) (c:Nat) (w wr:World) (g:Nat) (v v':Value) (ns:List TN) (T G:Nat) (n:TN) (hn:n.kids[x]? = some (-1)) (hI:BuildIn N (lessP l 1)) (hk:∀ p∈l,1≤p.1.length∧p.1.length≤100000)
  (hl:ns.length+N * l.length≤10000) (hv:KVs Any wr l A c) (hB:Br w wr g v v' ns T G n) :
  Calls Tryz.prog 172 #[.int .u8 (x:Int),.slice A l.length c,.pointer (some ⟨T,0,none⟩),.pointer (some ⟨G,0,none⟩)] wr (ClosPost N l x w g v ns T G n):=by
 have hle:l.length≤100:=by have:=hI.le;rw [lessP_len] at this;exact this
 have HK:=Lib.hid hk
 have HNK:=Lib.hid hn
 clear hk hn
 have hxI:(x:Int) < 16:=by omega
 go_enter Tryz.func172,Tryz.ntmps172
 go_wp2_with fail
 refine wp_region_held_drew (S:=fun w'=>w'.cell? ⟨T,0,none⟩=some (.pointer (some ⟨g,0,none⟩))) (by kernel_rfl) hB.cell (fun hHeld=>?_)
 refine H_t (i:=0) (v:=.int .u8 (x:Int)) rfl (Or.inl ⟨by rfl,fun w' hS=>by go_simp⟩) hHeld ?_
 refine H_t (i:=1) (v:=.pointer (some ⟨g,0,none⟩)) rfl (yieldsIf_load_cell rfl rfl rfl (fun w' hS=>hS) Tryz.underlying189 rfl) hHeld ?_
 refine H_t (i:=2) (v:=.slice A l.length c) rfl (Or.inl ⟨by rfl,fun w' hS=>by go_simp⟩) hHeld ?_
 refine H_t (i:=5) (v:=.pointer (some ⟨G,3,none⟩)) rfl (Or.inl ⟨by rfl,fun w' hS=>by go_simp⟩) hHeld ?_
 have hbd:Below wr.heap.size wr wr.drew:=(Below.refl _ _).drew
 replace hB:=hB.keep hbd
 replace hv:=hv.keep hbd
 clear hHeld hbd
 generalize wr.drew=wr at hB hv ⊢
 refine H_now 3 fun K hK=>?_
 go_simp
 refine (less_any l 1 _ c _ hle HK.out (by omega) hv).mono ?_
 rintro e w4 ⟨rfl,hr4,hb4⟩
 have hb4':Below wr.heap.size wr w4:=hb4
 have hB4:=hB.keep hb4'
 have hr4':KRow w4 wr.heap.size (lessP l 1):=hr4
 have hk4:KVs (Apart g v') w4 (lessP l 1) (some ⟨wr.heap.size,0,none⟩) l.length:=hr4'.kvs _ (hB.arn.fresh (Nat.le_refl _)) (by rw [lessP_len];exact Nat.le_refl _) (by simp only [maxLen];omega)
 go_wp2_with fail
 refine hK.out _ _ hB4.cell (fun hHeld=>?_)
 clear hK K
 refine lay_H ?_
 refine H_now 4 fun K hK=>?_
 go_simp
 have hcall:=hN (lessP l 1) (some ⟨wr.heap.size,0,none⟩) l.length w4 g v' ns hI (by rw [lessP_len];exact hl) hk4 hB4.arn
 rw [lessP_len] at hcall
 refine hcall.mono ?_
 rintro e w5 ⟨rfl,v5,hA5,hT5⟩
 have hB5:=hB4.on hA5 hT5
 go_wp2_with fail
 refine hK.out _ _ hB5.cell (fun hHeld=>?_)
 clear hK K
 refine lay_H ?_
 refine H_t (i:=6) (v:=.pointer (some ⟨G,3+x,none⟩)) rfl (Or.inl ⟨by rfl,fun w' hS=>by go_simp⟩) hHeld ?_
 refine H_now 7 fun K hK=>?_
 have d3:=hB5.row.cell (nodeC_kid_at HNK.out)
 have f3:=hB5.row.free (3+x)
 have hB6:=hB5.set (nodeC_kid n x (buildP N (lessP l 1) ns.length).2)
 go_simp
 refine hK.out _ _ hB6.cell (fun hHeld=>?_)
 clear hK K
 refine lay_H ?_
 refine wpAnyH_done (by kernel_rfl) ?_ _
 go_wp2_with fail
 go_end0
 exact ⟨rfl,v5,hB6⟩
/-- a branch of which the kids of so many half bytes are laid -/
def brN (val:Bytes) (ks:List Int) (c:Nat):TN:=⟨3,[],val,ks ++ List.replicate (16 - c) (-1)⟩
theorem brN_kid {val:Bytes} {ks:List Int} {c:Nat} (h:ks.length=c) (hc:c < 16):(brN val ks c).kids[c]? = some (-1):=by
 unfold brN
 rw [List.getElem?_append_right (by omega),h,Nat.sub_self,List.getElem?_replicate,if_pos (by omega)]
theorem brN_set {val:Bytes} {ks:List Int} {c:Nat} (h:ks.length=c) (hc:c < 16) (r:Int):{ brN val ks c with kids:=(brN val ks c).kids.set c r } = brN val (ks ++ [r]) (c+1):=by
 unfold brN
 congr 1
 rw [List.set_append_right _ _ (by omega),h,Nat.sub_self,show 16 - c=(16 - (c+1))+1 by omega,List.replicate_succ,List.set_cons_zero]
 simp
theorem brN_skip (val:Bytes) (ks:List Int) {c d:Nat} (hcd:c≤d) (hd:d≤16):brN val (ks ++ List.replicate (d - c) (-1)) d=brN val ks c:=by
 unfold brN
 congr 1
 rw [List.append_assoc,List.replicate_append_replicate,show d - c+(16 - d)=16 - c by omega]
theorem KVs.take {S:Nat→Prop} {w:World} {l:List KV} {A:Option Addr} {c:Nat} (h:KVs S w l A c) (n:Nat):KVs S w (l.take n) A c:=by
 refine ⟨?_,by have:=h.le;rw [List.length_take];omega,h.cap⟩
 rw [kvC_take]
 intro hne
 obtain ⟨g,o,hA,hs,hc⟩:=h.lies (fun e=>by rw [e] at hne;simp at hne)
 exact ⟨g,o,hA,hs,fun j u hj=>hc j u (by rw [List.getElem?_take] at hj;split at hj;exact hj;cases hj)⟩
theorem KVs.drop {S:Nat→Prop} {w:World} {l:List KV} {b o c:Nat} (h:KVs S w l (some ⟨b,o,none⟩) c) (n:Nat):KVs S w (l.drop n) (some ⟨b,o+n * 2,none⟩) (c - n):=by
 refine ⟨?_,by have:=h.le;rw [List.length_drop];omega,by have:=h.cap;omega⟩
 rw [kvC_drop]
 intro hne
 obtain ⟨g,o',hA,hs,hc⟩:=h.lies (fun e=>by rw [e] at hne;simp at hne)
 injection hA with hA;injection hA with h1 h2;subst h1;subst h2
 refine ⟨b,o+n * 2,rfl,hs,fun j u hj=>?_⟩
 rw [List.getElem?_drop] at hj
 have:=hc _ _ hj
 rwa [show o+(n * 2+j)=o+n * 2+j by omega] at this
theorem pick_get {l:List KV} {c i:Nat} {p:KV} (hc:c < 256) (h:(pickP l c)[i]? = some p):∃ t,p.1=UInt8.ofNat c :: t:=by
 have:=(pick_head (List.mem_of_getElem? h)).2
 cases hp:p.1 with
 | nil=>rw [hp] at this;cases this
 | cons x t=>rw [hp] at this;simp at this;exact ⟨t,by rw [this]⟩
theorem from_empty {l:List KV} (h:Rise l) {c:Nat} (hf:fromP l c = []):∀ j,c≤j→j < 256→fromP l j = []∧pickP l j = []:=by
 intro j hcj
 induction j with
 | zero=>intro _;have:c=0:=by omega
         subst this
         have:=from_step h 0 (by omega)
         rw [hf] at this
         exact ⟨hf,(List.append_eq_nil_iff.1 this.symm).1⟩
 | succ j ih =>
  intro hj
  have key:fromP l (j+1) = []:=by
   by_cases e:c=j+1
   ·rw [← e];exact hf
   ·have:=from_step h j (by omega)
    rw [(ih (by omega) (by omega)).1] at this
    exact (List.append_eq_nil_iff.1 this.symm).2
  have:=from_step h (j+1) hj
  rw [key] at this
  exact ⟨key,(List.append_eq_nil_iff.1 this.symm).1⟩
/-- behind each -/
def EachPost (N:Nat) (l:List KV) (val:Bytes) (w:World) (g:Nat) (v:Value) (ns:List TN) (T G:Nat) (e:Ending) (w':World):Prop :=
 e=.returned (.tuple #[])∧∃ v'',Br w w' g v v'' (ns ++ (kidsP (buildP N) l ns.length 16).1) T G ⟨3,[],val,(kidsP (buildP N) l ns.length 16).2⟩
theorem each_any (N:Nat) (hN:BuildSaid N) (hN66:N≤66) (l:List KV) (hI:BuildIn (N+1) l) (A:Option Addr) (c:Nat) (w wr:World) (g:Nat) (v v':Value) (ns:List TN) (T G:Nat) (val:Bytes)
  (hl:ns.length+N * l.length≤10000) (hv:KVs (Apart g v) w (fromP l 0) A c) (hB:Br w wr g v v' ns T G (brN val [] 0)) :
  Calls Tryz.prog 171 #[.slice A (fromP l 0).length c,.func (.func 172) #[] #[.pointer (some ⟨T,0,none⟩),.pointer (some ⟨G,0,none⟩)]] wr (EachPost N l val w g v ns T G):=by
 go_enter Tryz.func171,Tryz.ntmps171
 go_wp2_with fail
 go_loopw [0] (fun sl wr=>∃ (cc:Nat) (A:Option Addr) (c:Nat) (vv:Value),cc≤16∧sl=.slice A (fromP l cc).length c∧KVs (Apart g v) w (fromP l cc) A c ∧
   Br w wr g v vv (ns ++ (kidsP (buildP N) l ns.length cc).1) T G (brN val (kidsP (buildP N) l ns.length cc).2 cc)) (fun sl _=>match sl with | .slice _ n _=>n | _=>0)
 case atStart=>exact ⟨0,A,c,v',by omega,rfl,hv,by simpa [kidsP] using hB⟩
 case round =>
  clear hv hB
  obtain ⟨cc,A,c,vv,hcc,rfl,hv,hB⟩:=hrel
  cases hf:fromP l cc with
  | nil =>
   have hsk:=kidsP_skip (f:=buildP N) (buildP_nil N) (l:=l) (b:=ns.length) hcc (fun j h1 h2=>(from_empty hI.rise hf j h1 (by omega)).2)
   have hfin:Hid (∃ v'',Br w wr g v v'' (ns ++ (kidsP (buildP N) l ns.length 16).1) T G ⟨3,[],val,(kidsP (buildP N) l ns.length 16).2⟩):=by
    refine Lib.hid ⟨vv,?_⟩
    rw [hsk]
    simpa [brN] using hB
   clear hsk hB hv hf
   simp only [List.length_nil]
   go_wp2_with fail
   go_end0
   exact ⟨rfl,hfin.out⟩
  | cons p r =>
   obtain ⟨⟨p1,p2⟩,rfl⟩:∃ q,q=p:=⟨_,rfl⟩
   obtain ⟨x,t,rfl⟩:∃ x t,p1=x :: t:=by
    obtain ⟨_,x,t,e,_⟩:=from_mem (l:=l) (c:=cc) (q:=(p1,p2)) (by rw [hf];simp)
    exact ⟨x,t,e⟩
   have hmem:=from_mem (l:=l) (c:=cc) (q:=(x :: t,p2)) (by rw [hf];simp)
   have hxc:cc≤x.toNat:=by
    obtain ⟨_,x',t',e,h⟩:=hmem
    injection e with e1 _;subst e1;exact h
   have hx16:x.toNat < 16:=hI.half _ hmem.1 x (by simp)
   have hsk:=from_skip hI.rise hf
   obtain ⟨d,hd⟩:∃ d,x.toNat=d:=⟨_,rfl⟩
   have hfd:fromP l d=fromP l cc:=(hsk d (by omega) (by omega)).1
   have hks:=kidsP_skip (f:=buildP N) (buildP_nil N) (l:=l) (b:=ns.length) (c:=cc) (d:=d) (by omega) (fun j h1 h2=>(hsk j h1 (by omega)).2 (by omega))
   have hBd:Br w wr g v vv (ns ++ (kidsP (buildP N) l ns.length d).1) T G (brN val (kidsP (buildP N) l ns.length d).2 d):=by
    rw [hks,brN_skip _ _ (by omega) (by omega)];exact hB
   have hvd:KVs (Apart g v) w (fromP l d) A c:=by rw [hfd];exact hv
   have hpk:=pick_from hI.rise (c:=d) (by omega)
   have hst:=from_step hI.rise d (by omega)
   rw [← hf,← hfd]
   have hf0:(fromP l d)[0]? = some (x :: t,p2):=by rw [hfd,hf];rfl
   have hlen:=fromP_le l d
   clear hf hfd hks hsk hB hv hmem hxc
   obtain ⟨b,o,rfl,_,c0,_⟩:=(hvd.arn hBd.to).at_ hf0
   simp only [Nat.zero_mul,Nat.add_zero] at c0
   have hpl:(pickP l d).length≤(fromP l d).length:=by rw [hst];simp
   obtain ⟨P,hP⟩:∃ P,(pickP l d).length=P:=⟨_,rfl⟩
   rw [hP] at hpl
   have hP1:1≤P:=by
    rcases Nat.eq_zero_or_pos P with h0 | h0
    ·rw [h0] at hP
     have hp0:=List.eq_nil_of_length_eq_zero hP
     have hf1:=hf0
     rw [hst,hp0,List.nil_append] at hf1
     obtain ⟨_,x',t',e,h⟩:=from_mem (List.mem_of_getElem? hf1)
     injection e with e1 _;subst e1;omega
    ·exact h0
   -- what stands at a place: of this half byte,or of a later one
   have hat:∀ (i:Nat) q,(fromP l d)[i]? = some q→∃ y s,q.1=y :: s∧(i < P→y.toNat=d)∧(¬ i < P→y.toNat≠d):=fun i q hq=>by
    rw [hst] at hq
    by_cases hi:i < P
    ·rw [List.getElem?_append_left (by omega)] at hq
     obtain ⟨s,hs⟩:=pick_get (by omega) hq
     exact ⟨_,s,hs,fun _=>u8_ofNat (by omega),fun h=>absurd hi h⟩
    ·rw [List.getElem?_append_right (by omega)] at hq
     obtain ⟨_,y,s,e,h⟩:=from_mem (List.mem_of_getElem? hq)
     exact ⟨y,s,e,fun h=>absurd h hi,fun _=>by omega⟩
   obtain ⟨L,hL⟩:∃ L,(fromP l d).length=L:=⟨_,rfl⟩
   have hLP:0 < L:=by have:=(List.getElem?_eq_some_iff.1 hf0).1;omega
   have hcap:=hvd.le
   have hL100:L≤100:=by have:=hI.le;omega
   rw [hL] at hpl hcap hlen ⊢
   have HAT:=Lib.hid hat
   have HL:=Lib.hid hL
   have HP:=Lib.hid hP
   have HF0:=Lib.hid hf0
   have HPK:=Lib.hid hpk
   have HST:=Lib.hid hst
   have hdI:(x.toNat:Int)=d:=by omega
   have HD:=Lib.hid hd
   have hLI:(0:Int) < L:=by omega
   clear hat hL hP hf0 hpk hst hd
   go_wp2_with fail
   have HV:=Lib.hid hvd
   have HB:=Lib.hid hBd
   clear hvd hBd c0 hdI
   go_loop [5] (fun n=>∃ m:Nat,m≤P∧n=.int .i64 m) (fun n=>L - (intOf n).toNat)
   case atStart=>exact ⟨0,by omega,rfl⟩
   case round =>
    obtain ⟨m,hm,rfl⟩:=hrel
    by_cases hmP:m < P
    ·obtain ⟨q,hq⟩:∃ q,(fromP l d)[m]? = some q:=getElem_ex (by have:=HL.out;omega)
     obtain ⟨y,s,e,h1,_⟩:=HAT.out m q hq
     obtain ⟨b',o',e1,_,cm,_⟩:=(HV.out.arn HB.out.to).at_ hq
     injection e1 with e1;injection e1 with e2 e3;subst e2;subst e3
     rw [e] at cm
     have hy:(y.toNat:Int)=d:=by have:=h1 hmP;omega
     have hmL:(m:Int) < L:=by omega
     clear h1 e hq
     go_wp2_with fail
     go_round
     case rel=>exact ⟨m+1,by omega,by go_num⟩
     case measure=>simp [intOf];omega
    ·obtain rfl:m=P:=by omega
     have hd16:d < 16:=by have:=HD.out;omega
     have hkl:=kidsP_len (buildP N) l ns.length d
     have hcnt:=kidsP_count (f:=buildP N) (M:=N) (l:=l) (fun c b=>buildP_count N _ b (rise_cut hI.rise c)) hI.rise ns.length d (by omega)
     have h0:=Nat.mul_le_mul_left N (fromP_le l 0)
     have hm1:N * m≤N * (fromP l d).length:=Nat.mul_le_mul_left N (by have:=HL.out;omega)
     have hclos:=build1_any N hN (pickP l d) d hd16 (some ⟨b,o,none⟩) c w wr g v vv (ns ++ (kidsP (buildP N) l ns.length d).1) T G (brN val (kidsP (buildP N) l ns.length d).2 d) (brN_kid hkl hd16)
      ⟨short_cut hI.short d,rise_cut hI.rise d,half_cut hI.half d,by rw [lessP_len,HP.out];omega⟩
      (fun p hp=>by
       have h1:=pick_head hp
       have h2:=hI.short p h1.1
       refine ⟨?_,by omega⟩
       cases hp1:p.1 with
       | nil=>rw [hp1] at h1;simp at h1
       | cons a b=>simp)
      (by rw [List.length_append,HP.out];omega)
      (by rw [← HPK.out.1];exact (HV.out.arn HB.out.to).any.take _) HB.out
     rw [HP.out] at hclos
     have HC:=Lib.hid hclos
     have hx:∀ w2 v2,Br w w2 g v v2 ((ns ++ (kidsP (buildP N) l ns.length d).1) ++ (buildP N (lessP (pickP l d) 1) (ns ++ (kidsP (buildP N) l ns.length d).1).length).1) T G
       { brN val (kidsP (buildP N) l ns.length d).2 d with kids:=(brN val (kidsP (buildP N) l ns.length d).2 d).kids.set d (buildP N (lessP (pickP l d) 1) (ns ++ (kidsP (buildP N) l ns.length d).1).length).2 } →
       Br w w2 g v v2 (ns ++ (kidsP (buildP N) l ns.length (d+1)).1) T G (brN val (kidsP (buildP N) l ns.length (d+1)).2 (d+1)):=fun w2 v2 h=>by
      rw [brN_set hkl hd16,List.length_append,List.append_assoc] at h
      exact h
     have HX:=Lib.hid hx
     have hnn:(fromP l (d+1)).length=L - m:=by
      have:=congrArg List.length HST.out
      rw [List.length_append,HP.out,HL.out] at this;omega
     have HN:=Lib.hid hnn
     have hvd:=HV.out.drop m
     rw [← HP.out,HPK.out.2,HP.out] at hvd
     have HVD:=Lib.hid hvd
     clear hkl hcnt h0 hm1 hclos hx hnn hvd
     rcases Nat.lt_or_ge m L with hmL0 | hmL0
     ·obtain ⟨q,hq⟩:∃ q,(fromP l d)[m]? = some q:=getElem_ex (by have:=HL.out;omega)
      obtain ⟨y,s,e,_,h1⟩:=HAT.out m q hq
      obtain ⟨b',o',e1,_,cm,_⟩:=(HV.out.arn HB.out.to).at_ hq
      injection e1 with e1;injection e1 with e2 e3;subst e2;subst e3
      rw [e] at cm
      have hy:((y.toNat:Int) == (d:Int))=false:=by rw [beq_eq_false_iff_ne];have:=h1 hmP;omega
      have hmL:(m:Int) < L:=by omega
      have hmc:¬ c=m:=by omega
      have hmI:(m:Int)≤L:=by omega
      have hcI:(L:Int)≤c:=by omega
      clear h1 e hq
      go_wp2_with fail
      refine HC.out.mono ?_
      rintro e w2 ⟨rfl,v2,hB2⟩
      go_wp2_with fail
      go_roundw
      case rel=>exact ⟨d+1,some ⟨b,o+m * 2,none⟩,c - m,v2,by omega,by rw [HN.out],HVD.out,HX.out w2 v2 hB2⟩
      case measure=>show _ < _;simp only [];omega
     ·obtain rfl:m=L:=by omega
      have hmI:(m:Int)≤c:=by omega
      have hnil:fromP l (d+1) = []:=List.eq_nil_of_length_eq_zero (by have:=HN.out;omega)
      have HNIL:=Lib.hid hnil
      clear hnil
      by_cases hmc:c=m
      ·subst hmc
       go_wp2_with fail
       refine HC.out.mono ?_
       rintro e w2 ⟨rfl,v2,hB2⟩
       go_wp2_with fail
       go_roundw
       case rel=>exact ⟨d+1,some ⟨b,o,none⟩,0,v2,by omega,by rw [HNIL.out];rfl,(by rw [HNIL.out];exact ⟨Lies.nil,by simp,by simp [maxLen]⟩),HX.out w2 v2 hB2⟩
       case measure=>show _ < _;simp only [];omega
      ·go_wp2_with fail
       refine HC.out.mono ?_
       rintro e w2 ⟨rfl,v2,hB2⟩
       go_wp2_with fail
       go_roundw
       case rel=>exact ⟨d+1,some ⟨b,o+m * 2,none⟩,c - m,v2,by omega,by rw [HNIL.out];rfl,(by rw [HNIL.out];exact ⟨Lies.nil,by simp,by have:=HV.out.cap;omega⟩),HX.out w2 v2 hB2⟩
       case measure=>show _ < _;simp only [];omega
/- The walk of arena.build at a branch; arena.build. -/
theorem build_branch (N:Nat) (hN:BuildSaid N) (l:List KV) (h2:2≤l.length) (hk:¬ 0 < comP l) (A:Option Addr) (c:Nat) (w:World) (g:Nat) (v:Value) (ns:List TN) (hI:BuildIn (N+1) l) (hN66:N≤66)
  (hl:ns.length+(N+1) * l.length≤10000) (hv:KVs (Apart g v) w l A c) (hA:Arn w g v ns) :
  Calls Tryz.prog 121 #[.pointer (some ⟨g,0,none⟩),.slice A l.length c] w (BuildPost (N+1) l g v ns w):=by
 obtain ⟨p,hp⟩:∃ p,l[0]? = some p:=getElem_ex (by omega)
 obtain ⟨z,hz⟩:∃ z,l[l.length - 1]? = some z:=getElem_ex (by omega)
 have hcom:=comP_eq hp hz
 have HBP:=Lib.hid (buildP_branch N h2 hk ns.length)
 have hpl:p.1.length < N+1:=hI.short p (List.mem_of_getElem? hp)
 have hzl:z.1.length < N+1:=hI.short z (List.mem_of_getElem? hz)
 have hk0:comP l=0:=by omega
 rw [hk0] at hcom
 have HL:=Lib.hid hl
 have HII:=Lib.hid hI
 have hle:=hI.le
 have hshort:=hI.short
 have hb:=(Below.refl w.heap.size w).alloc (Nat.le_refl _) (.cells #[.pointer (some ⟨g,0,none⟩)] 189)
 have hA':=hA.keep hb
 have hv':=hv.keep hb
 obtain ⟨b,o,rfl,hSb,c0,_⟩:=hv'.at_ hp
 obtain ⟨b',o',e,_,c1,_⟩:=hv'.at_ hz
 injection e with e;injection e with e1 e2;subst e1;subst e2
 have t0:((l.length:Int) == 0)=false:=by rw [beq_eq_false_iff_ne];omega
 have t1:((l.length:Int) == 1)=false:=by rw [beq_eq_false_iff_ne];omega
 have hlI1:(2:Int)≤(l.length:Int):=by omega
 have hlI2:(l.length:Int)≤100:=by omega
 have s1:IntKind.i64.wrap ((l.length:Int) - 1)=(l.length:Int) - 1:=IntWalk.i64_in _ (by omega)
 have s2:((l.length:Int) - 1).toNat=l.length - 1:=by omega
 have s3:0≤(l.length:Int) - 1:=by omega
 have s4:(l.length:Int) - 1 < (l.length:Int):=by omega
 have hS1:=fun w=>Share_drew p.1 z.1 (by omega) (by omega) w
 rw [← hcom] at hS1
 have HSH:=Lib.hid hS1
 simp only [Nat.zero_mul,Nat.add_zero] at c0
 have HV:=Lib.hid hv'
 have HA:=Lib.hid hA'
 have HP:=Lib.hid hp
 have HK:=Lib.hid h2
 have HH:=Lib.hid hshort
 obtain ⟨p1,p2⟩:=p
 obtain ⟨z1,z2⟩:=z
 simp only [] at c0 c1 hpl HSH HBP
 clear hz hcom hzl hk hk0 hI hl hb hA' hv' hS1 hSb h2 hp hshort
 go_enter Tryz.func121,Tryz.ntmps121
 go_wp2_with fail
 go_quiet ((go_at_call 169;exact Calls.quiet_of (HSH.out _)))
 have hAq:=HA.out.keep (below_drewN (Below.refl _ _) nq)
 have hVq:=HV.out.keep (below_drewN (Below.refl _ _) nq)
 have hBq:Below w.heap.size w ((w.alloc (.cells #[.pointer (some ⟨g,0,none⟩)] 189)).drewN nq):=below_drewN ((Below.refl _ _).alloc (Nat.le_refl _) _) nq
 have hpq:((w.alloc (.cells #[.pointer (some ⟨g,0,none⟩)] 189)).drewN nq).cell? ⟨w.heap.size,0,none⟩=some (.pointer (some ⟨g,0,none⟩)):=by simp
 generalize (w.alloc (.cells #[.pointer (some ⟨g,0,none⟩)] 189)).drewN nq=W0 at hAq hVq hBq hpq ⊢
 clear HA HV c0 c1
 go_wp2_with fail
 refine (fresh_any 3 _).mono ?_
 rintro e w1 ⟨rfl,hb1⟩
 have hA1:=hAq.keep hb1
 have hv1:=hVq.keep hb1
 have hB1:=below_call hBq hBq.size hb1
 have hp1:w1.cell? ⟨w.heap.size,0,none⟩=some (.pointer (some ⟨g,0,none⟩)):=by rw [(bcell hb1).1 _ _ (lt_of_cell hpq)];exact hpq
 have hz:=newN w1
 have hi:=infoN (n:=⟨3,[],[],noKids⟩) rfl
 have ha:=allN ⟨3,[],[],noKids⟩
 have hs:=sizeN (n:=zeroN 0) (m:=⟨3,[],[],noKids⟩) rfl rfl
 have hV:=varN w1 ⟨3,[],[],noKids⟩
 clear hAq hVq hBq hpq hb1
 have HA1:=Lib.hid hA1
 have HV1:=Lib.hid hv1
 have HB1:=Lib.hid hB1
 have hlt1:w.heap.size < w1.heap.size:=lt_of_cell hp1
 clear hA1 hv1 hB1
 have hce:¬ c=1:=by have:=HV1.out.le;have:=HK.out;omega
 rcases p1 with _ | ⟨x,t⟩
 ·go_wp2_with (refine wpList_store_row rfl _ _ _ rfl w1.heap.size (nodeC ⟨3,[],[],noKids⟩).toArray rfl rfl _ _ hz hi hs ha ?_;generalize hW2:World.setRow _ w1.heap.size _=W2 at hV ⊢;clear hW2 hz hs hi ha;obtain ⟨hn,hb2⟩:=hV;obtain ⟨b',o',e,_,c0,c1⟩:=(HV1.out.keep hb2).at_ HP.out;injection e with e;injection e with e1 e2;subst e1;subst e2;simp only [Nat.zero_mul,Nat.add_zero] at c0 c1;have d2:W2.cell? ⟨w1.heap.size,2,none⟩=some (.string (bs [])):=hn.cell rfl;have f2:=hn.free 2;have hp2:W2.cell? ⟨w.heap.size,0,none⟩=some (.pointer (some ⟨g,0,none⟩)):=(by rw [(bcell hb2).1 _ _ hlt1];exact hp1);have HN:=Lib.hid hn;have HB2:=Lib.hid hb2;clear hn hb2 hp1)
  have hb3:Below w1.heap.size w1 (W2.setCell ⟨w1.heap.size,2,none⟩ (.string (bs p2))):=HB2.out.setCell (p:=⟨w1.heap.size,_,_⟩) (Nat.le_refl _) _
  have hn3:NRow (W2.setCell ⟨w1.heap.size,2,none⟩ (.string (bs p2))) w1.heap.size (brN p2 [] 0):=HN.out.set (nodeC_value _ p2)
  have hp3:((W2.setCell ⟨w1.heap.size,2,none⟩ (.string (bs p2)))).cell? ⟨w.heap.size,0,none⟩=some (.pointer (some ⟨g,0,none⟩)):=by rw [(bcell hb3).1 _ _ hlt1,← (bcell HB2.out).1 _ _ hlt1];exact hp2
  have hBr:Br w (W2.setCell ⟨w1.heap.size,2,none⟩ (.string (bs p2))) g v v ns w.heap.size w1.heap.size (brN p2 [] 0) :=
   ⟨HA1.out.keep hb3,ArnTo.of_below (below_call HB1.out HB1.out.size hb3),hp3,hn3,hA.fresh (Nat.le_refl _),HA1.out.fresh (Nat.le_refl _),Nat.le_refl _,HB1.out.size,by omega⟩
  have hev:KVs (Apart g v) w (fromP l 0) (some ⟨b,o+2,none⟩) (c - 1)∧(fromP l 0).length=l.length - 1:=by
   obtain ⟨r,hr⟩:=cons_of_get HP.out
   have h0:=from_zero HII.out.rise
   have h1:fromP l 0=l.drop 1:=by rw [h0,hr];rfl
   rw [h1]
   exact ⟨hv.drop 1,by simp⟩
  have hcl:=each_any N hN hN66 l HII.out _ _ w _ g v v ns w.heap.size w1.heap.size p2 (by have:=HL.out;rw [Nat.add_mul] at this;omega) hev.1 hBr
  rw [hev.2] at hcl
  clear hb3 hn3 hp3 hBr hev c0 c1 d2 f2 HN HB2 hp2
  refine hcl.mono ?_
  clear hcl
  rintro e w5 ⟨rfl,v5,hB5⟩
  have hp5:=hB5.cell
  have hn5:=hB5.row
  have hk5:(kidsP (buildP N) l ns.length 16).2.length=16:=kidsP_len _ _ _ _
  have hlen:(ns ++ (kidsP (buildP N) l ns.length 16).1).length≤10000:=by
   have h1:=kidsP_count (f:=buildP N) (M:=N) (l:=l) (fun c b=>buildP_count N _ b (rise_cut HII.out.rise c)) HII.out.rise ns.length 16 (by omega)
   have h2:=Nat.mul_le_mul_left N (fromP_le l 0)
   have h3:=HL.out
   rw [Nat.add_mul] at h3
   rw [List.length_append];omega
  obtain ⟨M,hM⟩:∃ M:TN,M=⟨3,[],p2,(kidsP (buildP N) l ns.length 16).2⟩:=⟨_,rfl⟩
  have hMk:M.kids.length=16:=by rw [hM];exact hk5
  rw [← hM] at hn5
  have hi5:=infoN hMk
  have HM:=Lib.hid hM
  have HB5:=Lib.hid hB5
  have HTV:Hid (topV l=p2):=Lib.hid (by obtain ⟨r,rfl⟩:=cons_of_get HP.out;rfl)
  unfold NRow at hn5
  clear hM hB5 hk5
  go_wp2_with (refine wpList_load_row rfl _ _ rfl w1.heap.size rfl _ _ _ _ hn5 Tryz.underlying130 rfl hi5 ?_)
  refine (lay_any g v5 _ M _ hlen hMk HB5.out.arn).mono ?_
  rintro e w7 ⟨rfl,v7,hA7,hT7⟩
  go_wp2_with fail
  go_ret
  refine ⟨by rw [HBP.out];simp,v7,?_,HB5.out.to.trans hT7⟩
  rw [HBP.out,← List.append_assoc,HTV.out,← HM.out];exact hA7
 ·go_wp2_with (refine wpList_store_row rfl _ _ _ rfl w1.heap.size (nodeC ⟨3,[],[],noKids⟩).toArray rfl rfl _ _ hz hi hs ha ?_;generalize hW2:World.setRow _ w1.heap.size _=W2 at hV ⊢;clear hW2 hz hs hi ha;obtain ⟨hn,hb2⟩:=hV;obtain ⟨b',o',e,_,c0,c1⟩:=(HV1.out.keep hb2).at_ HP.out;injection e with e;injection e with e1 e2;subst e1;subst e2;simp only [Nat.zero_mul,Nat.add_zero] at c0 c1;have d2:W2.cell? ⟨w1.heap.size,2,none⟩=some (.string (bs [])):=hn.cell rfl;have f2:=hn.free 2;have hp2:W2.cell? ⟨w.heap.size,0,none⟩=some (.pointer (some ⟨g,0,none⟩)):=(by rw [(bcell hb2).1 _ _ hlt1];exact hp1);have HN:=Lib.hid hn;have HB2:=Lib.hid hb2;clear hn hb2 hp1)
  have hb3:Below w1.heap.size w1 W2:=HB2.out
  have hn3:NRow W2 w1.heap.size (brN [] [] 0):=HN.out
  have hp3:(W2).cell? ⟨w.heap.size,0,none⟩=some (.pointer (some ⟨g,0,none⟩)):=by rw [(bcell hb3).1 _ _ hlt1,← (bcell HB2.out).1 _ _ hlt1];exact hp2
  have hBr:Br w W2 g v v ns w.heap.size w1.heap.size (brN [] [] 0) :=
   ⟨HA1.out.keep hb3,ArnTo.of_below (below_call HB1.out HB1.out.size hb3),hp3,hn3,hA.fresh (Nat.le_refl _),HA1.out.fresh (Nat.le_refl _),Nat.le_refl _,HB1.out.size,by omega⟩
  have hev:KVs (Apart g v) w (fromP l 0) (some ⟨b,o,none⟩) (c)∧(fromP l 0).length=l.length:=by
   obtain ⟨r,hr⟩:=cons_of_get HP.out
   have h0:=from_zero HII.out.rise
   have h1:fromP l 0=l:=by rw [h0,hr];rfl
   rw [h1]
   exact ⟨hv,rfl⟩
  have hcl:=each_any N hN hN66 l HII.out _ _ w _ g v v ns w.heap.size w1.heap.size [] (by have:=HL.out;rw [Nat.add_mul] at this;omega) hev.1 hBr
  rw [hev.2] at hcl
  clear hb3 hn3 hp3 hBr hev c0 c1 d2 f2 HN HB2 hp2
  refine hcl.mono ?_
  clear hcl
  rintro e w5 ⟨rfl,v5,hB5⟩
  have hp5:=hB5.cell
  have hn5:=hB5.row
  have hk5:(kidsP (buildP N) l ns.length 16).2.length=16:=kidsP_len _ _ _ _
  have hlen:(ns ++ (kidsP (buildP N) l ns.length 16).1).length≤10000:=by
   have h1:=kidsP_count (f:=buildP N) (M:=N) (l:=l) (fun c b=>buildP_count N _ b (rise_cut HII.out.rise c)) HII.out.rise ns.length 16 (by omega)
   have h2:=Nat.mul_le_mul_left N (fromP_le l 0)
   have h3:=HL.out
   rw [Nat.add_mul] at h3
   rw [List.length_append];omega
  obtain ⟨M,hM⟩:∃ M:TN,M=⟨3,[],[],(kidsP (buildP N) l ns.length 16).2⟩:=⟨_,rfl⟩
  have hMk:M.kids.length=16:=by rw [hM];exact hk5
  rw [← hM] at hn5
  have hi5:=infoN hMk
  have HM:=Lib.hid hM
  have HB5:=Lib.hid hB5
  have HTV:Hid (topV l = []):=Lib.hid (by obtain ⟨r,rfl⟩:=cons_of_get HP.out;rfl)
  unfold NRow at hn5
  clear hM hB5 hk5
  go_wp2_with (refine wpList_load_row rfl _ _ rfl w1.heap.size rfl _ _ _ _ hn5 Tryz.underlying130 rfl hi5 ?_)
  refine (lay_any g v5 _ M _ hlen hMk HB5.out.arn).mono ?_
  rintro e w7 ⟨rfl,v7,hA7,hT7⟩
  go_wp2_with fail
  go_ret
  refine ⟨by rw [HBP.out];simp,v7,?_,HB5.out.to.trans hT7⟩
  rw [HBP.out,← List.append_assoc,HTV.out,← HM.out];exact hA7
theorem build_any (N:Nat) (hN66:N≤66):BuildSaid N:=by
 induction N with
 | zero =>
  intro l A c w g v ns hI hl hv hA
  cases l with
  | nil=>exact build_none 0 A c w g v ns hA
  | cons p l=>exact absurd (hI.short p (by simp)) (by omega)
 | succ N ih =>
  intro l A c w g v ns hI hl hv hA
  match l,hI,hl,hv with
  | [],_,_,_=>exact build_none (N+1) A c w g v ns hA
  | [p],_,hl,hv=>exact build_one N p A c w g v ns (by simp at hl;omega) hv hA
  | p :: q :: r,hI,hl,hv =>
   by_cases hk:0 < comP (p :: q :: r)
   ·exact build_joint N (ih (by omega)) _ (by simp) hk A c w g v ns hI (by omega) hl hv hA
   ·exact build_branch N (ih (by omega)) _ (by simp) hk A c w g v ns hI (by omega) hl hv hA
end Go.Proofs.YtdfmheademcbkaaGreat
