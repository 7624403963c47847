/- Nodes and pairs in memory; the walks of trie.fresh, less, lay. -/
import Derived.Test.YtdfmheademcbkaaGreatZ13
import Derived.Test.YtdfmheademcbkaaGreatZ14
import Derived.Deep.RegionHeld3
namespace Go.Proofs.YtdfmheademcbkaaGreat
set_option linter.unusedVariables false
set_option linter.unusedSimpArgs false
open Go.RowKit
set_option maxHeartbeats 2000000
set_option maxRecDepth 100000
/-- a node's cells -/
def nodeC (n:TN):List Value:=[.int .i64 n.k,.string (bs n.part),.string (bs n.value)] ++ n.kids.map fun i=>.int .i64 i
theorem nodeC_len {n:TN} (h:n.kids.length=16):(nodeC n).length=19:=by simp [nodeC,h]
theorem nodeC_one (n:TN):∀ u∈nodeC n,u.oneCell'=true:=by
 intro u hu
 simp only [nodeC,List.cons_append,List.nil_append,List.mem_cons,List.mem_map] at hu
 rcases hu with rfl | rfl | rfl | ⟨i,_,rfl⟩ <;> rfl
def nodesC (ns:List TN):List Value:=ns.flatMap nodeC
theorem nodesC_append (a b:List TN):nodesC (a ++ b)=nodesC a ++ nodesC b:=by simp [nodesC]
def Wide (ns:List TN):Prop:=∀ n∈ns,n.kids.length=16
theorem nodesC_get {ns:List TN} (h:Wide ns):∀ {i:Nat} {n:TN},ns[i]? = some n→∀ j u,(nodeC n)[j]? = some u→(nodesC ns)[i * 19+j]? = some u:=by
 induction ns with
 | nil=>intro i n hi;simp at hi
 | cons m ns ih =>
  intro i n hi j u hj
  have h1:=nodeC_len (h m (by simp))
  cases i with
  | zero =>
   simp at hi;subst hi
   have hl:=(List.getElem?_eq_some_iff.1 hj).1
   simp only [nodesC,List.flatMap_cons]
   rw [List.getElem?_append_left (by omega),show 0 * 19+j=j by omega];exact hj
  | succ i =>
   have:=ih (fun m hm=>h m (by simp [hm])) (i:=i) (by simpa using hi) j u hj
   simp only [nodesC,List.flatMap_cons] at this ⊢
   rw [List.getElem?_append_right (by omega),show (i+1) * 19+j - (nodeC m).length=i * 19+j by omega]
   exact this
/-- a block that is a node -/
def NRow (w:World) (g:Nat) (n:TN):Prop:=w.heap[g]? = some (.cells (nodeC n).toArray 130 (0,0))
section
variable {w w':World} {g:Nat} {n:TN}
theorem NRow.cell (h:NRow w g n) {j:Nat} {u:Value} (hj:(nodeC n)[j]? = some u):w.cell? ⟨g,j,none⟩=some u:=by
 rw [cell_of_row _ _ _ _ _ _ h];simpa using hj
theorem NRow.free (h:NRow w g n) (i:Nat):w.frozen? ⟨g,i,none⟩=false:=by simp [World.frozen?,show w.heap[g]? = _ from h]
theorem NRow.lt (h:NRow w g n):g < w.heap.size:=(Array.getElem?_eq_some_iff.1 (show w.heap[g]? = _ from h)).1
theorem NRow.of_block (h:NRow w g n) (hb:w'.heap[g]? = w.heap[g]?):NRow w' g n:=hb.trans h
theorem NRow.keep (h:NRow w g n) (hb:Below w.heap.size w w'):NRow w' g n:=(hb.block g h.lt).trans h
theorem NRow.alloc (h:NRow w g n) (o:Obj):NRow (w.alloc o) g n:=(heap_alloc_old w o h.lt).trans h
theorem NRow.new (w:World) (n:TN):NRow (w.alloc (.cells (nodeC n).toArray 130)) w.heap.size n:=heap_alloc_new w _
theorem NRow.set (h:NRow w g n) {i:Nat} {u:Value} {m:TN} (hm:(nodeC n).set i u=nodeC m):NRow (w.setCell ⟨g,i,none⟩ u) g m:=by
 have:=heap_setCell_here h (i:=i) u
 show _=_
 rw [this,← hm];simp
theorem NRow.row (h:NRow w g n) (m:TN):NRow (w.setRow g (nodeC m).toArray) g m:=setRow_heap w g _ _ _ _ h
end
theorem nodeC_kid (n:TN) (i:Nat) (v:Int):(nodeC n).set (3+i) (.int .i64 v)=nodeC { n with kids:=n.kids.set i v }:=by
 simp [nodeC,List.map_set,Nat.add_comm 3 i]
theorem nodeC_kid_at {n:TN} {i:Nat} {v:Int} (h:n.kids[i]? = some v):(nodeC n)[3+i]? = some (.int .i64 v):=by
 simp [nodeC,Nat.add_comm 3 i,h]
theorem nodeC_part (n:TN) (s:Bytes):(nodeC n).set 1 (.string (bs s))=nodeC { n with part:=s }:=by simp [nodeC]
theorem nodeC_value (n:TN) (s:Bytes):(nodeC n).set 2 (.string (bs s))=nodeC { n with value:=s }:=by simp [nodeC]
theorem infoN {n:TN} (h:n.kids.length=16):(Tryz.prog.info? 130).map (·.size)=some (nodeC n).toArray.size:=by
 rw [List.size_toArray,nodeC_len h];kernel_rfl
theorem allN (n:TN):(nodeC n).toArray.all (·.oneCell')=true:=by
 rw [Array.all_eq_true_iff_forall_mem]
 intro v hv;exact nodeC_one n v (by simpa using hv)
theorem sizeN {n m:TN} (h:n.kids.length=16) (h2:m.kids.length=16):(nodeC n).toArray.size=(nodeC m).toArray.size:=by
 rw [List.size_toArray,List.size_toArray,nodeC_len h,nodeC_len h2]
def zeroN (k:Nat):TN:=⟨k,[],[],List.replicate 16 0⟩
theorem builtN (k:Nat):Tryz.prog.built 130 [(0,.int .i64 (k:Int))]=some (nodeC (zeroN k)).toArray:=by kernel_rfl
theorem wp_node {ops:Array Oper} {rest:List Oper} {o:Oper} {a:Act} {w:World} {Q:Exit→Act→World→Prop} (hg:o.guard=none) {x:Operand} (ho:o.op=.build 130 #[(0,x)]) (k:Nat) (hx:a.eval x=.int .i64 (k:Int))
  (h:wpList Tryz.prog ops Q rest (a.put o.dst (.agg (nodeC (zeroN k)).toArray)) w):wpList Tryz.prog ops Q (o :: rest) a w:=by
 refine wpList_build hg _ _ ho (by simp [hx,builtN]) ?_
 simp only [List.map_toArray,List.map_cons,List.map_nil,hx,builtN,Option.getD_some]
 exact h
/-- an aggregate is loaded, wherever it lies -/
theorem run_loadVar_at {P:Program} (w:World) (g o:Nat) (ty:TypeId) (cs:List Value) (d:TypeDesc) (hc:∀ j u,cs[j]? = some u→w.cell? ⟨g,o+j,none⟩=some u)
  (hu:P.underlying ty=some d) (hd:(match d with | .struct _ | .array _ _=>true | _=>false)=true) (hi:(P.info? ty).map (·.size)=some cs.length) :
  (loadVar ty ⟨g,o,none⟩).run P w=.ok (.agg cs.toArray) w:=by
 have hl:(loadCells ⟨g,o,none⟩ cs.length).run P w=.ok cs.toArray w :=
  run_loadCells_list (P:=P) w ⟨g,o,none⟩ cs (fun j v hv=>by rw [add_lit];exact hc j v hv)
 cases hq:P.info? ty with
 | none=>simp [hq] at hi
 | some i =>
  have hs:i.size=cs.length:=by simpa [hq] using hi
  have hagg:(isAgg ty).run P w=.ok true w:=by
   unfold isAgg
   rw [Sem.run_bind,run_underlying hu w]
   cases d <;> simp_all
  simp [loadVar,Sem.run_bind,hagg,sizeOf,typeInfo,hq,hs,hl]
theorem wpl_load_at {P:Program} {ops:Array Oper} {rest:List Oper} {op:Oper} {a:Act} {w:World} {Q:Exit→Act→World→Prop} (hgd:op.guard=none) {ty:TypeId} {x:Operand} (ho:op.op=.load ty x)
  {g o:Nat} (hx:a.eval x=.pointer (some ⟨g,o,none⟩)) (cs:List Value) {d:TypeDesc} (hc:∀ j u,cs[j]? = some u→w.cell? ⟨g,o+j,none⟩=some u)
  (hu:P.underlying ty=some d) (hd:(match d with | .struct _ | .array _ _=>true | _=>false)=true) (hi:(P.info? ty).map (·.size)=some cs.length)
  (h:wpList P ops Q rest (a.put op.dst (.agg cs.toArray)) w):wpList P ops Q (op :: rest) a w :=
 wpList_plain hgd fun _ hK=>by
  unfold Oper.wp execOp
  simp only [ho,hx,Instr.loadAt,Instr.sureAddr,Sem.run_bind,Sem.run_pure,Result.andThen_ok,run_loadVar_at w g o ty cs d hc hu hd hi]
  exact hK _ _ h
/-- pairs' cells -/
def kvC (l:List KV):List Value:=l.flatMap fun p=>[.string (bs p.1),.string (bs p.2)]
theorem kvC_len (l:List KV):(kvC l).length=l.length * 2:=by
 induction l with
 | nil=>rfl
 | cons p l ih=>simp only [kvC,List.flatMap_cons,List.length_append,List.length_cons,List.length_nil] at ih ⊢;omega
theorem kvC_append (a b:List KV):kvC (a ++ b)=kvC a ++ kvC b:=by simp [kvC]
theorem kvC_one (l:List KV):∀ u∈kvC l,u.oneCell'=true:=by
 intro u hu
 obtain ⟨p,_,hp⟩:=List.mem_flatMap.1 hu
 simp at hp;rcases hp with rfl | rfl <;> rfl
theorem kvC_get {l:List KV}:∀ {i:Nat} {p:KV},l[i]? = some p→(kvC l)[i * 2]? = some (.string (bs p.1))∧(kvC l)[i * 2+1]? = some (.string (bs p.2)):=by
 induction l with
 | nil=>intro i p hi;simp at hi
 | cons q l ih =>
  intro i p hi
  cases i with
  | zero=>simp at hi;subst hi;simp [kvC]
  | succ i =>
   have:=ih (i:=i) (by simpa using hi)
   simp only [kvC,List.flatMap_cons] at this ⊢
   rw [show (i+1) * 2=i * 2+2 by omega]
   simpa using this
theorem kvC_take (l:List KV) (n:Nat):kvC (l.take n)=(kvC l).take (n * 2):=by
 induction l generalizing n with
 | nil=>simp [kvC]
 | cons p l ih =>
  cases n with
  | zero=>simp [kvC]
  | succ n =>
   have:=ih n
   simp only [kvC,List.take_succ_cons,List.flatMap_cons] at this ⊢
   rw [this,show (n+1) * 2=n * 2+1+1 by omega]
   simp
theorem kvC_drop (l:List KV) (n:Nat):kvC (l.drop n)=(kvC l).drop (n * 2):=by
 induction l generalizing n with
 | nil=>simp [kvC]
 | cons p l ih =>
  cases n with
  | zero=>simp [kvC]
  | succ n =>
   have:=ih n
   simp only [kvC,List.drop_succ_cons,List.flatMap_cons] at this ⊢
   rw [this,show (n+1) * 2=n * 2+1+1 by omega]
   simp
/-- pairs in memory, in blocks of S -/
structure KVs (S:Nat→Prop) (w:World) (l:List KV) (A:Option Addr) (c:Nat):Prop where
 lies:Lies S w A (kvC l)
 le:l.length≤c
 cap:c≤maxLen
section
variable {S S':Nat→Prop} {w w':World} {l:List KV} {A:Option Addr} {c:Nat}
theorem KVs.mono (h:KVs S w l A c) (hb:∀ b,b < w.heap.size→S b→S' b∧w'.heap[b]? = w.heap[b]?):KVs S' w' l A c:=⟨h.lies.mono hb,h.le,h.cap⟩
theorem KVs.keep (h:KVs S w l A c) (hb:Below w.heap.size w w'):KVs S w' l A c:=h.mono fun b hl hs=>⟨hs,hb.block b hl⟩
theorem KVs.any (h:KVs S w l A c):KVs Any w l A c:=⟨h.lies.any,h.le,h.cap⟩
theorem KVs.at_ (h:KVs S w l A c) {i:Nat} {p:KV} (hi:l[i]? = some p):∃ g o,A=some ⟨g,o,none⟩∧S g∧w.cell? ⟨g,o+i * 2,none⟩=some (.string (bs p.1))∧w.cell? ⟨g,o+i * 2+1,none⟩=some (.string (bs p.2)):=by
 obtain ⟨h1,h2⟩:=kvC_get hi
 obtain ⟨g,o,hA,hs,hc⟩:=h.lies (by intro e;rw [e] at h1;simp at h1)
 exact ⟨g,o,hA,hs,hc _ _ h1,by simpa [Nat.add_assoc] using hc _ _ h2⟩
theorem KVs.emp (S:Nat→Prop) (w:World):KVs S w [] none 0:=⟨Lies.nil,Nat.le_refl _,Nat.zero_le _⟩
end
theorem elKV:ElemOk Tryz.prog 105 121 (.agg #[.string (bs []),.string (bs [])]) 2 32:=⟨Tryz.underlying105,by kernel_rfl,rfl,by omega⟩
theorem elNode:ElemOk Tryz.prog 73 130 (.agg (nodeC (zeroN 0)).toArray) 19 168:=⟨Tryz.underlying73,by kernel_rfl,rfl,by omega⟩
theorem zN:(nodeC (zeroN 0)).toArray=#[.int .i64 0,.string { data:=#[] },.string { data:=#[] },.int .i64 0,.int .i64 0,.int .i64 0,.int .i64 0,.int .i64 0,.int .i64 0,.int .i64 0,.int .i64 0,.int .i64 0,.int .i64 0,.int .i64 0,.int .i64 0,.int .i64 0,.int .i64 0,.int .i64 0,.int .i64 0]:=rfl
/-- so many kids are laid -/
def midN (k i:Nat):TN:=⟨k,[],[],List.replicate i (-1) ++ List.replicate (16 - i) 0⟩
theorem midN_step {k i:Nat} (h:i < 16):{ midN k i with kids:=(midN k i).kids.set i (-1) } = midN k (i+1):=by
 unfold midN
 congr 1
 rw [List.set_append_right _ _ (by simp),List.length_replicate,Nat.sub_self,show 16 - i=(16 - (i+1))+1 by omega,List.replicate_succ,List.set_cons_zero,List.replicate_succ']
 simp
theorem midN_kid {k i:Nat} (h:i < 16):(midN k i).kids[i]? = some 0:=by
 unfold midN
 rw [List.getElem?_append_right (by simp),List.length_replicate,Nat.sub_self,List.getElem?_replicate,if_pos (by omega)]
theorem midN_all (k:Nat):midN k 16=⟨k,[],[],noKids⟩:=rfl
theorem fresh_any (k:Nat) (w:World):Calls Tryz.prog 167 #[.int .i64 (k:Int)] w fun e w'=>e=.returned (.agg (nodeC ⟨k,[],[],noKids⟩).toArray)∧Below w.heap.size w w':=by
 have hr0:=NRow.new (w.alloc (.cells (nodeC (zeroN 0)).toArray 130)) (zeroN 0)
 have hq0:=(NRow.new w (zeroN 0)).alloc (.cells (nodeC (zeroN 0)).toArray 130)
 rw [World.size_alloc] at hr0
 have hr1:=hr0.row (zeroN k)
 have hq1:NRow _ w.heap.size (zeroN 0):=hq0.of_block (heap_setRow_ne _ (b:=w.heap.size+1) (by omega) (nodeC (zeroN k)).toArray)
 have hb1:Below w.heap.size w _:=below_setRow (b:=w.heap.size+1) ((((Below.refl w.heap.size w).alloc (Nat.le_refl _) (.cells (nodeC (zeroN 0)).toArray 130)).alloc (by simp) (.cells (nodeC (zeroN 0)).toArray 130))) (by omega) (nodeC (zeroN k)).toArray
 have hi:=infoN (n:=zeroN k) rfl
 have ha:=allN (zeroN k)
 have hs:=sizeN (n:=zeroN 0) (m:=zeroN k) rfl rfl
 have H1:=Lib.hid (And.intro hr1 (And.intro hq1 hb1))
 unfold NRow at hr0
 rw [zN] at hr0 H1 hs
 clear hr1 hq1 hb1 hq0
 go_enter Tryz.func167,Tryz.ntmps167
 go_wp2_with (first | (refine wp_node rfl rfl k rfl ?_) | (refine wpList_store_row rfl _ _ _ rfl (w.heap.size+1) (nodeC (zeroN k)).toArray rfl rfl _ _ hr0 hi hs ha ?_))
 clear hr0 hi hs ha
 go_loopw [7] (fun v wr=>∃ i:Nat,i≤16∧v=.int .i64 i∧NRow wr (w.heap.size+1) (midN k i)∧NRow wr w.heap.size (zeroN 0)∧Below w.heap.size w wr) (fun v _=>16 - (intOf v).toNat)
 case atStart=>exact ⟨0,by omega,rfl,H1.out.1,H1.out.2.1,H1.out.2.2⟩
 case round =>
  clear H1
  obtain ⟨i,hi,rfl,hr,hq,hb⟩:=hrel
  by_cases hlt:i < 16
  ·have hlt':(i:Int) < 16:=by omega
   have c0:=hr.cell (nodeC_kid_at (midN_kid (k:=k) hlt))
   have f0:=hr.free (3+i)
   have H:=Lib.hid (And.intro hr (And.intro hq hb))
   clear hr hq hb
   go_wp2_with fail
   go_roundw
   case rel =>
    refine ⟨i+1,by omega,by go_num,?_,H.out.2.1.of_block (heap_set_ne (by omega) _),H.out.2.2.setCell (p:=⟨w.heap.size+1,_,_⟩) (Nat.le_succ _) _⟩
    have:=H.out.1.set (nodeC_kid (midN k i) i (-1))
    rw [midN_step hlt] at this
    exact this
   case measure=>simp [intOf];omega
  ·obtain rfl:i=16:=by omega
   have h16:(midN k 16).kids.length=16:=rfl
   have hi1:=infoN h16
   have hi0:=infoN (n:=zeroN 0) rfl
   have ha:=allN (midN k 16)
   have hs:=sizeN (n:=zeroN 0) rfl h16
   have hq':=hq.row (midN k 16)
   go_wp2_with (first | (refine wpList_load_row rfl _ _ rfl (w.heap.size+1) rfl _ _ _ _ hr Tryz.underlying130 rfl hi1 ?_) | (refine wpList_store_row rfl _ _ _ rfl w.heap.size (nodeC (midN k 16)).toArray rfl rfl _ _ hq hi1 hs ha ?_))
   refine bodyPost_ret (v:=.agg (nodeC (midN k 16)).toArray) (results_cell_row rfl _ _ w.heap.size _ _ _ _ rfl hq' Tryz.underlying130 rfl hi1) rfl ?_
   exact ⟨by rw [midN_all],below_setRow hb (Nat.le_refl _) _⟩
/-- a block of pairs -/
def KRow (w:World) (g:Nat) (l:List KV):Prop:=w.heap[g]? = some (.cells (kvC l).toArray 121 (0,0))
section
variable {w w':World} {g:Nat} {l:List KV}
theorem KRow.lt (h:KRow w g l):g < w.heap.size:=(Array.getElem?_eq_some_iff.1 (show w.heap[g]? = _ from h)).1
theorem KRow.free (h:KRow w g l) (i:Nat):w.frozen? ⟨g,i,none⟩=false:=by simp [World.frozen?,show w.heap[g]? = _ from h]
theorem KRow.cell (h:KRow w g l) {i:Nat} {p:KV} (hi:l[i]? = some p):w.cell? ⟨g,i * 2,none⟩=some (.string (bs p.1))∧w.cell? ⟨g,i * 2+1,none⟩=some (.string (bs p.2)):=by
 obtain ⟨h1,h2⟩:=kvC_get hi
 exact ⟨by rw [cell_of_row _ _ _ _ _ _ h];simpa using h1,by rw [cell_of_row _ _ _ _ _ _ h];simpa using h2⟩
theorem KRow.of_block (h:KRow w g l) (hb:w'.heap[g]? = w.heap[g]?):KRow w' g l:=hb.trans h
theorem KRow.set (h:KRow w g l) (i:Nat) (p:KV) (hi:i < l.length):KRow ((w.setCell ⟨g,i * 2,none⟩ (.string (bs p.1))).setCell ⟨g,i * 2+1,none⟩ (.string (bs p.2))) g (l.set i p):=by
 have h1:=heap_setCell_here h (i:=i * 2) (.string (bs p.1))
 have h2:=heap_setCell_here h1 (i:=i * 2+1) (.string (bs p.2))
 show _=_
 rw [h2]
 have key:∀ (l:List KV) (i:Nat),i < l.length→((kvC l).set (i * 2) (.string (bs p.1))).set (i * 2+1) (.string (bs p.2))=kvC (l.set i p):=by
  intro l
  induction l with
  | nil=>intro i h;simp at h
  | cons q l ih =>
   intro i h
   cases i with
   | zero=>simp [kvC]
   | succ i =>
    have:=ih i (by simpa using h)
    simp only [kvC,List.flatMap_cons,List.set_cons_succ] at this ⊢
    rw [← this,show (i+1) * 2=i * 2+1+1 by omega]
    simp
 rw [← key l i hi];simp
theorem KRow.kvs (h:KRow w g l) (S:Nat→Prop) (hS:S g) {c:Nat} (h1:l.length≤c) (h2:c≤maxLen):KVs S w l (some ⟨g,0,none⟩) c :=
 ⟨fun _=>⟨g,0,rfl,hS,fun j u hj=>by rw [Nat.zero_add,cell_of_row _ _ _ _ _ _ h];simpa using hj⟩,h1,h2⟩
end
theorem infoKV:(Tryz.prog.info? 121).map (fun i=>(i.zero,i.size,i.bytes))=some (some (.agg #[.string (bs []),.string (bs [])]),2,32):=by kernel_rfl
theorem kvC_zero (n:Nat):kvC (List.replicate n ([],[]))=List.replicate (n * 2) (.string (bs [])):=by
 induction n with
 | zero=>rfl
 | succ n ih =>
  rw [List.replicate_succ,show (n+1) * 2=n * 2+1+1 by omega,List.replicate_succ,List.replicate_succ]
  simp only [kvC,List.flatMap_cons] at ih ⊢
  rw [ih];rfl
theorem made_kv (n:Nat):madeCells #[.string (bs []),.string (bs [])] (n * 2)=(kvC (List.replicate n ([],[]))).toArray:=by
 apply Array.toList_inj.1
 rw [kvC_zero]
 apply List.ext_getElem?
 intro j
 unfold madeCells
 by_cases hj:j < n * 2
 ·have h2:j % 2 < 2:=Nat.mod_lt _ (by omega)
  have h3:j % 2=0∨j % 2=1:=by omega
  rcases h3 with h | h <;> simp [hj,h]
 ·simp [hj]
theorem mk_kv (n:Nat) (h:n≤1000000) (w:World):(Instr.makeSlice 105 (.int .i64 n) (.int .i64 n)).run Tryz.prog w=.ok (.slice (some ⟨w.heap.size,0,none⟩) n n) (w.alloc (.cells (kvC (List.replicate n ([],[]))).toArray 121)):=by
 obtain ⟨i,hi,hz,hs,hb⟩:=info_parts infoKV
 have:=run_make (P:=Tryz.prog) w 105 121 i (.agg #[.string (bs []),.string (bs [])]) Tryz.underlying105 hi hz .i64 .i64 (n:Int) (n:Int) (by omega) (Int.le_refl _) (by rw [hb];omega) (by omega)
 rw [this,Int.toNat_natCast,hs,← made_kv]
 rfl
/-- so many pairs are cut -/
def lessM (l:List KV) (k i:Nat):List KV:=lessP (l.take i) k ++ List.replicate (l.length - i) ([],[])
theorem lessM_len (l:List KV) (k i:Nat) (h:i≤l.length):(lessM l k i).length=l.length:=by simp [lessM,lessP_len];omega
theorem lessM_step {l:List KV} {k i:Nat} {p:KV} (h:l[i]? = some p):(lessM l k i).set i (p.1.drop k,p.2)=lessM l k (i+1):=by
 have hi:=(List.getElem?_eq_some_iff.1 h).1
 unfold lessM
 rw [List.set_append_right _ _ (by rw [lessP_len,List.length_take];omega),lessP_len,List.length_take,Nat.min_eq_left (by omega),Nat.sub_self,show l.length - i=(l.length - (i+1))+1 by omega,List.replicate_succ,List.set_cons_zero,take_snoc h]
 simp [lessP]
theorem lessM_at {l:List KV} {k i:Nat} (h:i < l.length):(lessM l k i)[i]? = some ([],[]):=by
 unfold lessM
 rw [List.getElem?_append_right (by rw [lessP_len,List.length_take];omega),lessP_len,List.length_take,Nat.min_eq_left (by omega),Nat.sub_self,List.getElem?_replicate,if_pos (by omega)]
theorem less_any (l:List KV) (k:Nat) (A:Option Addr) (c:Nat) (w:World) (hl:l.length≤100) (hk:∀ p∈l,k≤p.1.length∧p.1.length≤100000) (hk2:k≤100000) (hv:KVs Any w l A c) :
  Calls Tryz.prog 170 #[.slice A l.length c,.int .i64 (k:Int)] w fun e w'=>e=.returned (.slice (some ⟨w.heap.size,0,none⟩) l.length l.length)∧KRow w' w.heap.size (lessP l k)∧Below w.heap.size w w':=by
 have hmk:=mk_kv l.length (by omega) w
 have hr0:KRow (w.alloc (.cells (kvC (List.replicate l.length ([],[]))).toArray 121)) w.heap.size (lessM l k 0):=by
  have:lessM l k 0=List.replicate l.length ([],[]):=by simp [lessM,lessP]
  rw [this];exact heap_alloc_new w _
 have hb0:Below w.heap.size w (w.alloc (.cells (kvC (List.replicate l.length ([],[]))).toArray 121)):=(Below.refl _ _).alloc (Nat.le_refl _) _
 generalize w.alloc (.cells (kvC (List.replicate l.length ([],[]))).toArray 121)=W1 at *
 have HK:=Lib.hid hk
 have hlI:(l.length:Int)≤100:=by omega
 clear hk
 go_enter Tryz.func170,Tryz.ntmps170
 go_wp2_with fail
 clear hmk
 go_loopw [13] (fun v wr=>∃ i:Nat,i≤l.length∧v=.int .i64 i∧KRow wr w.heap.size (lessM l k i)∧Below w.heap.size w wr) (fun v _=>l.length - (intOf v).toNat)
 case atStart=>exact ⟨0,by omega,rfl,hr0,hb0⟩
 case round =>
  clear hr0 hb0
  obtain ⟨i,hi,rfl,hr,hb⟩:=hrel
  by_cases hlt:i < l.length
  ·have hlt':(i:Int) < (l.length:Int):=by omega
   obtain ⟨p,hp⟩:=getElem_ex hlt
   obtain ⟨g,o,rfl,_,c0,c1⟩:=(hv.keep hb).at_ hp
   have hpk:=HK.out p (List.mem_of_getElem? hp)
   have hst:=lessM_step (k:=k) hp
   have hz:=hr.cell (lessM_at (k:=k) hlt)
   obtain ⟨d0,d1⟩:=hz
   have f0:=hr.free (i * 2)
   have f1:=hr.free (i * 2+1)
   have hrl:=hr.lt
   have hml:=lessM_len l k i (by omega)
   obtain ⟨p1,p2⟩:=p
   simp only [] at hpk c0 c1 hst
   have HS:=Lib.hid hst
   clear hst hp
   go_wp2_with fail
   refine wp_tail 10 (by kernel_rfl) (by kernel_rfl) ?_
   intro w2 hw2
   have hbA:Below wr.heap.size wr w2:=by rw [hw2];exact ((Below.refl _ _).alloc (Nat.le_refl _) _).drew
   have e0:w2.cell? ⟨wr.heap.size,0,none⟩=some (.string (bs p1)):=by rw [hw2];simp
   have e1:w2.cell? ⟨wr.heap.size,1,none⟩=some (.string (bs p2)):=by rw [hw2];simp
   obtain ⟨q1,q2⟩:=bcell hbA
   rw [← q1 _ _ hrl] at d0 d1
   rw [← q2 _ _ hrl] at f0 f1
   have HR:=Lib.hid (hr.of_block (hbA.block _ hrl))
   have HB:=Lib.hid (hb.trans (hbA.mono hb.size))
   have hdk:List.take (p1.length - k) (List.drop k p1)=List.drop k p1:=List.take_of_length_le (by simp)
   have b1:(k:Int)≤p1.length:=by omega
   clear hw2 q1 q2 hr hb hv hbA c0 c1
   intro R hR
   simp only [List.take_succ_cons,List.take_zero]
   repeat (first | go_big_quiet_skip | (go_big_quiet_want;go_big_quiet_op;go_big_quiet_on))
   refine wpQuiet_nil (hR _ ?_)
   clear hR R
   simp only [List.drop_succ_cons,List.drop_zero]
   go_wp2_with fail
   go_roundw
   case rel =>
    refine ⟨i+1,hlt,by go_num,?_,(HB.out.setCell (p:=⟨w.heap.size,_,_⟩) (Nat.le_refl _) _).setCell (p:=⟨w.heap.size,_,_⟩) (Nat.le_refl _) _⟩
    have:=HR.out.set i (p1.drop k,p2) (by omega)
    rw [HS.out] at this
    exact this
   case measure=>simp [intOf];omega
  ·obtain rfl:i=l.length:=by omega
   have hm:lessM l k l.length=lessP l k:=by simp [lessM]
   rw [hm] at hr
   clear hm
   go_wp2_with fail
   go_ret
   exact ⟨rfl,hr,hb⟩
end Go.Proofs.YtdfmheademcbkaaGreat
