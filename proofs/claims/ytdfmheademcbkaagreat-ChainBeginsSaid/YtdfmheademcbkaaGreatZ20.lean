/- The walk of slices.Insert at a pair. -/
import Derived.Test.YtdfmheademcbkaaGreatZ19
import Derived.Lib.AppendZerosOnto
import Derived.Lib.Overlaps
import Derived.Laws.CopyRow
import Derived.Laws.NewBlocks
import Derived.Test.YtdfmheademcbkaaGreatZ03
namespace Go.Proofs.YtdfmheademcbkaaGreat
set_option linter.unusedVariables false
set_option linter.unusedSimpArgs false
open Go.RowKit
set_option maxHeartbeats 4000000
set_option maxRecDepth 100000
/-- a row of which a part is written over -/
def spl (cur:List Value) (o:Nat) (cs:List Value):List Value:=cur.take o ++ cs ++ cur.drop (o+cs.length)
theorem spl_len {cur:List Value} {o:Nat} {cs:List Value} (h:o+cs.length≤cur.length):(spl cur o cs).length=cur.length:=by simp [spl];omega
theorem spl_take {cur:List Value} {o:Nat} {cs:List Value} (h:o+cs.length≤cur.length) {k:Nat} (hk:k≤o):(spl cur o cs).take k=cur.take k:=by
 unfold spl
 rw [List.append_assoc,List.take_append_of_le_length (by simp;omega),List.take_take,Nat.min_eq_left hk]
theorem spl_upto {cur:List Value} {o:Nat} {cs:List Value} (h:o+cs.length≤cur.length):(spl cur o cs).take (o+cs.length)=cur.take o ++ cs:=by
 unfold spl
 rw [List.take_append_of_le_length (by simp;omega),List.take_of_length_le (by simp;omega)]
theorem spl_drop {cur:List Value} {o:Nat} {cs:List Value} (h:o+cs.length≤cur.length):(spl cur o cs).drop (o+cs.length)=cur.drop (o+cs.length):=by
 unfold spl
 rw [List.drop_append_of_le_length (by simp;omega),List.drop_of_length_le (by simp;omega),List.nil_append]
theorem spl_mid {cur:List Value} {o:Nat} {cs:List Value} (h:o+cs.length≤cur.length):((spl cur o cs).drop o).take cs.length=cs:=by
 unfold spl
 rw [List.append_assoc,List.drop_append_of_le_length (by simp;omega),List.drop_of_length_le (by simp;omega),List.nil_append,List.take_append_of_le_length (Nat.le_refl _),List.take_of_length_le (Nat.le_refl _)]
theorem kvC_ins (l:List KV) (i:Nat) (p:KV):kvC (l.take i ++ p :: l.drop i)=kvC (l.take i) ++ kvC [p] ++ kvC (l.drop i):=by
 rw [kvC_append,show p :: l.drop i = [p] ++ l.drop i from rfl,kvC_append,List.append_assoc]
section
variable {P:Program}
theorem run_copy_row2 (w:World) (dT sT ty elem:TypeId) (g o dLen dCap:Nat) (a:Addr) (sLen sCap:Nat) (cur:Array Value) (t:TypeId) (m:Nat) (cs:List Value)
  (hu:P.underlying dT=some (.slice elem)) (hs:(P.info? elem).map (·.size)=some 2)
  (hg:w.heap[g]? = some (.cells cur t (0,0))) (hm:m=Nat.min sLen dLen) (hn:cs.length=m * 2)
  (hsrc:∀ j v,cs[j]? = some v→w.cell? (a.add j)=some v) (hfit:o+cs.length≤cur.size) (h1:∀ v∈cs,v.oneCell'=true) :
  (Builtin.copy_ #[dT,sT] ty #[.slice (some ⟨g,o,none⟩) dLen dCap,.slice (some a) sLen sCap]).run P w=.ok (goInt m) (w.setRow g (spl cur.toList o cs).toArray):=by
 have hl:=run_loadCells_list (P:=P) w a cs hsrc
 have hst:=run_storeCells_at P g o t cs 0 cur w hg (by simpa using hfit) h1
 rw [hn] at hl
 cases hq:P.info? elem with
 | none=>simp [hq] at hs
 | some i =>
  have hi:i.size=2:=by simpa [hq] using hs
  simp [Builtin.copy_,run_underlying hu,Builtin.lenOf,Builtin.firstCells,sizeOf,typeInfo,hq,hi,← hm,hl,hst,spl]
theorem stl_copy {ops:Array Oper} {o:Oper} {a:Act} {w:World} {K:Act→World→Prop} {Q:Exit→Act→World→Prop} {E:Prop}
  (hg:o.guard=none) (d x:Operand) (dT sT:TypeId) (hop:o.op=Op.call { callee:=Callee.builtin Builtin.copy,args:=#[d,x],argTypes:=#[dT,sT] })
  (v u:Value) (hd:a.eval d=v) (hx:a.eval x=u) {v':Value} {w':World} (hr:(Builtin.copy_ #[dT,sT] o.type #[v,u]).run P w=.ok v' w') (hK:K (a.put o.dst v') w') :
  if Region.wanted o (yielded ops a.tmps)=true then Oper.wp P o a w K Q else E:=by
 have hw:Region.wanted o (yielded ops a.tmps)=true:=by simp [Region.wanted,hg]
 rw [if_pos hw]
 unfold Oper.wp
 simp [execOp,hop,resolve,invoke,builtin,hd,hx,hr,Result.andThen]
 exact hK
end
theorem infoK2:(Tryz.prog.info? 121).map (·.size)=some 2:=by kernel_rfl
/-- pairs at the head of a row -/
theorem kvs_row {w:World} {g:Nat} {cur:List Value} {t:TypeId} {l:List KV} {c:Nat} (h:w.heap[g]? = some (.cells cur.toArray t (0,0))) (hc:cur.take (l.length * 2)=kvC l) (h1:l.length≤c) (h2:c≤maxLen):KVs Any w l (some ⟨g,0,none⟩) c :=
 ⟨fun _=>⟨g,0,rfl,trivial,fun j u hj=>by
  rw [Nat.zero_add,cell_of_row _ _ _ _ _ _ h]
  rw [← hc,List.getElem?_take] at hj
  split at hj
  ·simpa using hj
  ·cases hj⟩,h1,h2⟩
/-- behind a pair that is put among pairs -/
def InsPost (l:List KV) (base:Nat) (w:World) (e:Ending) (w':World):Prop:=∃ A c,e=.returned (.slice A l.length c)∧KVs Any w' l A c∧Below base w w'
theorem below_grown {base:Nat} {w w':World} {row:Option Nat} (h:w.grownBy w' row) (hr:∀ k,row=some k→base≤k) (hb:base≤w.heap.size):Below base w w' :=
 ⟨h.os,h.tape,h.output,h.size,fun k hk=>h.block k (by omega) (fun e=>by have:=hr k e.symm;omega)⟩
/-- at the end -/
theorem insert_end (l:List KV) (hl:l.length≤1000) (p:KV) (base:Nat) (A:Option Addr) (c:Nat) (w:World) (hbase:base≤w.heap.size) (hown:w.ownsRow base 121 2 (.slice A l.length c) l.length (kvC l)) (V:Nat)
  (hV:w.heap[V]? = some (.cells (kvC [p]).toArray 121 (0,0))) :
  Calls Tryz.prog 69 #[.slice A l.length c,.int .i64 (l.length:Int),.slice (some ⟨V,0,none⟩) 1 1] w (InsPost (l ++ [p]) base w):=by
 have hcap:=own_cap hown
 have hcI:(l.length:Int)≤c:=by omega
 have hlV:Lies Any w (some ⟨V,0,none⟩) (kvC [p]):=fun _=>⟨V,0,rfl,trivial,fun j u hj=>by rw [Nat.zero_add,cell_of_row _ _ _ _ _ _ hV];simpa using hj⟩
 have hOW:=Lib.hid hown
 clear hown
 go_enter Tryz.func69,Tryz.ntmps69
 go_wp2_with (at_builtin;go_must (refine wpl_append elKV rfl rfl base hOW.out rfl (m:=1) (kvC [p]) rfl rfl hlV (kvC_one _) ?_ ?_ hbase ?_;(simp only [maxLen];omega);omega;intro v1 w4 hown1 hg1 hat1;obtain ⟨A1,k1,rfl⟩:=own_form hown1;have HO:=Lib.hid hown1;have HG:=Lib.hid hg1;clear hown1 hg1 hat1))
 all_goals (
  go_ret
  refine ⟨A1,k1,by rw [List.length_append];rfl,⟨?_,?_,(own_cap HO.out).2⟩,below_grown HG.out (fun k hk=>(hOW.out.lt k hk).1) hbase⟩
  ·rw [kvC_append];exact lies_own HO.out (fun _ _ _=>trivial)
  ·rw [List.length_append];exact (own_cap HO.out).1)
/-- in the midst, with room -/
theorem insert_shift (l:List KV) (hl:l.length≤1000) (i:Nat) (hi:i < l.length) (p:KV) (base g c:Nat) (w:World) (hbase:base≤g) (cur:List Value) (hg:w.heap[g]? = some (.cells cur.toArray 121 (0,0)))
  (hc:cur.take (l.length * 2)=kvC l) (hcl:cur.length=c * 2) (hcm:c≤maxLen) (hroom:l.length+1≤c) (V:Nat) (hVg:V≠g)
  (hV:w.heap[V]? = some (.cells (kvC [p]).toArray 121 (0,0))) :
  Calls Tryz.prog 69 #[.slice (some ⟨g,0,none⟩) l.length c,.int .i64 (i:Int),.slice (some ⟨V,0,none⟩) 1 1] w (InsPost (l.take i ++ p :: l.drop i) base w):=by
 have hdl:(kvC (l.drop i)).length=(l.length - i) * 2:=by rw [kvC_len,List.length_drop]
 obtain ⟨R1,hR1⟩:∃ R1,R1=spl cur ((i+1) * 2) (kvC (l.drop i)):=⟨_,rfl⟩
 have hfit1:(i+1) * 2+(kvC (l.drop i)).length≤cur.length:=by rw [hdl,hcl];omega
 have hR1l:R1.length=cur.length:=by rw [hR1];exact spl_len hfit1
 obtain ⟨R2,hR2⟩:∃ R2,R2=spl R1 (i * 2) (kvC [p]):=⟨_,rfl⟩
 have hfit2:i * 2+(kvC [p]).length≤R1.length:=by rw [hR1l,hcl];show i * 2+2≤c * 2;omega
 have hcp1:∀ (W:World) ty dc sc,W.heap[g]? = some (.cells cur.toArray 121 (0,0))→(Builtin.copy_ #[105,105] ty #[.slice (some ⟨g,(i+1) * 2,none⟩) (l.length+1 - (i+1)) dc,.slice (some ⟨g,i * 2,none⟩) (l.length+1 - i) sc]).run Tryz.prog W=.ok (goInt ((l.length - i:Nat):Int)) (W.setRow g R1.toArray):=fun W ty dc sc hW=>by
  rw [hR1]
  refine run_copy_row2 W _ _ ty 121 g ((i+1) * 2) _ dc _ _ sc cur.toArray 121 (l.length - i) (kvC (l.drop i)) Tryz.underlying105 infoK2 hW (by simp only [Nat.min_def];split <;> omega) hdl ?_ (by simpa using hfit1) (kvC_one _)
  intro j v hj
  rw [add_lit,cell_of_row _ _ _ _ _ _ hW]
  rw [kvC_drop,← hc,List.getElem?_drop,List.getElem?_take] at hj
  split at hj
  ·simpa using hj
  ·cases hj
 have hcp2:∀ (W:World) ty dc,W.heap[g]? = some (.cells R1.toArray 121 (0,0))→W.heap[V]? = some (.cells (kvC [p]).toArray 121 (0,0))→(Builtin.copy_ #[105,105] ty #[.slice (some ⟨g,i * 2,none⟩) (l.length+1 - i) dc,.slice (some ⟨V,0,none⟩) 1 1]).run Tryz.prog W=.ok (goInt 1) (W.setRow g R2.toArray):=fun W ty dc hW hWV=>by
  rw [hR2]
  refine run_copy_row2 W _ _ ty 121 g (i * 2) _ dc _ _ 1 R1.toArray 121 1 (kvC [p]) Tryz.underlying105 infoK2 hW (by simp only [Nat.min_def];split <;> omega) rfl ?_ (by simpa using hfit2) (kvC_one _)
  intro j v hj
  rw [add_lit,cell_of_row _ _ _ _ _ _ hWV,Nat.zero_add];simpa using hj
 have hfin:R2.take ((l.take i ++ p :: l.drop i).length * 2)=kvC (l.take i ++ p :: l.drop i):=by
  have e1:(l.take i ++ p :: l.drop i).length * 2=i * 2+(kvC [p]).length+(kvC (l.drop i)).length:=by
   rw [hdl];simp [kvC_len];omega
  have e2:R2=R2.take (i * 2+(kvC [p]).length) ++ R2.drop (i * 2+(kvC [p]).length):=(List.take_append_drop _ _).symm
  have e3:R2.take (i * 2+(kvC [p]).length)=kvC (l.take i) ++ kvC [p]:=by
   rw [hR2,spl_upto hfit2,hR1,spl_take hfit1 (by omega),kvC_take,← hc,List.take_take,Nat.min_eq_left (by omega)]
  have e4:(R2.drop (i * 2+(kvC [p]).length)).take (kvC (l.drop i)).length=kvC (l.drop i):=by
   rw [hR2,spl_drop hfit2,show i * 2+(kvC [p]).length=(i+1) * 2 from by simp [kvC_len];omega]
   rw [hR1];exact spl_mid hfit1
  have e5:(kvC (l.take i) ++ kvC [p]).length=i * 2+(kvC [p]).length:=by rw [List.length_append,kvC_len (l.take i),List.length_take,Nat.min_eq_left (by omega)]
  rw [e1,e2,e3,List.take_append,List.take_of_length_le (by rw [e5];omega),e5,Nat.add_sub_cancel_left,e4,kvC_ins]
 have hl2:(l.take i ++ p :: l.drop i).length=l.length+1:=by simp;omega
 have hov:∀ lb cb,(callFunc 118 #[.slice (some ⟨V,0,none⟩) 1 1,.slice (some ⟨g,(i+1) * 2,none⟩) lb cb]).run Tryz.prog w=.ok (.value (.bool false)) w:=fun lb cb=>by
  have hz:∀ w,(Go.sizeOf 121).run Tryz.prog w=.ok 2 w:=fun w=>by
   obtain ⟨j,hj⟩:=info_of_underlying Tryz.underlying121
   rw [run_sizeOf w hj,show Tryz.prog.cellsOf 121 = 2 by kernel_rfl]
  rw [run_callFunc_extern Tryz.func118 (by kernel_rfl) (by kernel_rfl) (by kernel_rfl) (e:=Extern.SlicesOverlaps.overlaps #[105,105] #[4]) (by kernel_rfl),
   Lib.run_overlaps_apart w 105 4 121 Tryz.underlying105 2 hz ⟨V,0,none⟩ ⟨g,(i+1) * 2,none⟩ 1 1 lb cb hVg 121 121 2 (c * 2)
    (by simp [World.shape?,hV,kvC]) (by simp [World.shape?,hg,hcl]) (by omega) (by simp [World.frozen?,hV]) (by simp [World.frozen?,hV])]
  rfl
 have hz2:((i:Int) == (l.length:Int))=false:=by rw [beq_eq_false_iff_ne];omega
 have hiI:(i:Int) < (l.length:Int):=by omega
 have hcI:(l.length:Int)+1≤(c:Int):=by omega
 have hw1:IntKind.i64.wrap ((i:Int)+1)=(i:Int)+1:=IntWalk.i64_in _ (by omega)
 have hw2:IntKind.i64.wrap ((l.length:Int)+1)=(l.length:Int)+1:=IntWalk.i64_in _ (by omega)
 have HC1:=Lib.hid hcp1
 have HC2:=Lib.hid hcp2
 have HF:=Lib.hid hfin
 have HG:=Lib.hid hg
 have HV:=Lib.hid hV
 have HL2:=Lib.hid hl2
 have HR:=Lib.hid (And.intro hR1 (And.intro hR2 hc))
 clear hcp1 hcp2 hfin hR1 hR2 hc hfit1 hfit2 hdl hg hV hl2
 go_enter Tryz.func69,Tryz.ntmps69
 go_wp2_with (simp only [hov])
 have hci:¬ (c=i):=by omega
 have hci1:¬ (c=i+1):=by omega
 have hi1:(0:Int)≤(i:Int)+1:=by omega
 have hi2:((i:Int)+1).toNat=i+1:=by omega
 have hi3:(i:Int)≤(l.length:Int)+1:=by omega
 have hi4:(i:Int)+1≤(l.length:Int)+1:=by omega
 refine wp_region_held_drew (S:=fun _=>True) (by kernel_rfl) trivial (fun hHeld=>?_)
 refine H_t (i:=0) (v:=.slice (some ⟨g,0,none⟩) (l.length+1) c) rfl (Or.inl ⟨by rfl,fun w' hS=>by go_simp⟩) hHeld ?_
 refine H_t (i:=1) (v:=.int .i64 (i:Int)) rfl (Or.inl ⟨by rfl,fun w' hS=>by go_simp⟩) hHeld ?_
 refine H_t (i:=2) (v:=.int .i64 1) rfl (Or.inl ⟨by rfl,fun w' hS=>by go_simp⟩) hHeld ?_
 refine H_t (i:=3) (v:=.int .i64 ((i:Int)+1)) rfl (Or.inl ⟨by rfl,fun w' hS=>by go_simp⟩) hHeld ?_
 refine H_t (i:=4) (v:=.slice (some ⟨g,(i+1) * 2,none⟩) (l.length+1 - (i+1)) (c - (i+1))) rfl (Or.inl ⟨by rfl,fun w' hS=>by go_simp⟩) hHeld ?_
 refine H_t (i:=5) (v:=.slice (some ⟨g,0,none⟩) (l.length+1) c) rfl (Or.inl ⟨by rfl,fun w' hS=>by go_simp⟩) hHeld ?_
 refine H_t (i:=6) (v:=.int .i64 (i:Int)) rfl (Or.inl ⟨by rfl,fun w' hS=>by go_simp⟩) hHeld ?_
 refine H_t (i:=7) (v:=.slice (some ⟨g,i * 2,none⟩) (l.length+1 - i) (c - i)) rfl (Or.inl ⟨by rfl,fun w' hS=>by go_simp⟩) hHeld ?_
 have hd1:w.drew.heap[g]? = some (.cells cur.toArray 121 (0,0)):=HG.out
 have hd2:(w.drew.setRow g R1.toArray).heap[V]? = some (.cells (kvC [p]).toArray 121 (0,0)):=(heap_setRow_ne w.drew (b:=g) hVg R1.toArray).trans HV.out
 have hd3:=setRow_heap w.drew g cur.toArray R1.toArray 121 (0,0) hd1
 refine H_now 8 fun K hK=>?_
 refine stl_copy rfl _ _ 105 105 rfl _ _ rfl rfl (HC1.out _ _ _ _ hd1) ?_
 try simp only [Act.put,List.setIfInBounds_toArray,List.set_cons_zero,List.set_cons_succ,List.getElem_toArray,List.getElem_cons_zero,List.getElem_cons_succ]
 refine hK.out _ _ trivial (fun hHeld=>?_)
 clear hK K
 refine lay_H ?_
 refine wpAnyH_done (by kernel_rfl) ?_ _
 have hb1:Below base w (w.drew.setRow g R1.toArray):=below_setRow ((Below.refl _ _).drew.mono (by omega)) hbase R1.toArray
 have hb2:Below base w ((w.drew.setRow g R1.toArray).setRow g R2.toArray):=below_setRow hb1 hbase R2.toArray
 have hd4:=setRow_heap (w.drew.setRow g R1.toArray) g R1.toArray R2.toArray 121 (0,0) hd3
 have HR2:=HC2.out (w.drew.setRow g R1.toArray)
 go_wp2_with fail
 go_ret
 exact ⟨_,c,by rw [HL2.out];rfl,kvs_row hd4 HF.out (by rw [HL2.out];exact hroom) hcm,hb2⟩
/-- in the midst, without room -/
theorem insert_grow (l:List KV) (hl:l.length≤1000) (i:Nat) (hi:i < l.length) (p:KV) (base g c:Nat) (w:World) (hbase:base≤w.heap.size) (cur:List Value) (hg:w.heap[g]? = some (.cells cur.toArray 121 (0,0)))
  (hc:cur.take (l.length * 2)=kvC l) (hcl:cur.length=c * 2) (hcn:l.length≤c) (hroom:c < l.length+1) (V:Nat)
  (hV:w.heap[V]? = some (.cells (kvC [p]).toArray 121 (0,0))) :
  Calls Tryz.prog 69 #[.slice (some ⟨g,0,none⟩) l.length c,.int .i64 (i:Int),.slice (some ⟨V,0,none⟩) 1 1] w (InsPost (l.take i ++ p :: l.drop i) base w):=by
 obtain ⟨i0,hi0,hz0,hzs,hzb⟩:=info_parts elKV.hi
 have hdl:(kvC (l.drop i)).length=(l.length - i) * 2:=by rw [kvC_len,List.length_drop]
 have htl:(kvC (l.take i)).length=i * 2:=by rw [kvC_len,List.length_take,Nat.min_eq_left (by omega)]
 have hsrcg:∀ (W:World),W.heap[g]? = some (.cells cur.toArray 121 (0,0))→∀ k m j v,k+m≤l.length * 2→((kvC l).drop k)[j]? = some v→W.cell? ⟨g,k+j,none⟩=some v:=fun W hW k m j v _ hj=>by
  rw [cell_of_row _ _ _ _ _ _ hW]
  rw [← hc,List.getElem?_drop,List.getElem?_take] at hj
  split at hj
  ·simpa using hj
  ·cases hj
 obtain ⟨G,hG⟩:∃ G,G=grownCap w (l.length+1) c 121:=⟨_,rfl⟩
 obtain ⟨ROW,hROW⟩:∃ ROW:List Value,ROW=kvC (l.take i) ++ (Builtin.zeroCells (Value.agg #[.string (bs []),.string (bs [])]).cells (l.length+1 - i)).toList ++ (Builtin.zeroCells (Value.agg #[.string (bs []),.string (bs [])]).cells (G - (l.length+1))).toList:=⟨_,rfl⟩
 have hrz:∀ ty,(Builtin.append_ #[105,3] ty #[.slice (some ⟨g,0,none⟩) i c,.int .i64 ((l.length:Int)+1 - (i:Int))]).run Tryz.prog w =
   .ok (.slice (some ⟨w.heap.size,0,none⟩) (l.length+1) G) (w.drew.alloc (.cells ROW.toArray 121)):=fun ty=>by
  have hold:(Builtin.firstCells i0.size i (.slice (some ⟨g,0,none⟩) i c)).run Tryz.prog w.drew=.ok (kvC (l.take i)).toArray w.drew:=by
   rw [hzs]
   refine run_firstCells_some w.drew 2 i ⟨g,0,none⟩ i c (kvC (l.take i)) htl (fun j v hj=>?_)
   rw [add_lit]
   refine hsrcg w.drew hg 0 0 j v (by omega) ?_
   rw [kvC_take,List.getElem?_take] at hj
   split at hj
   ·simpa using hj
   ·cases hj
  have h:=Lib.run_append_grow_zeros w 105 3 ty 121 i0 _ .i64 .i64 Tryz.underlying105 Tryz.underlying3 hi0 hz0 (some ⟨g,0,none⟩) i c (kvC (l.take i)) hold (l.length+1 - i) (by omega) (by omega) (by omega) (by omega) (by rw [hzb];omega) (by rw [hzb,show i+(l.length+1 - i)=l.length+1 by omega];exact growslice_fits (by omega) (by omega))
  rw [show i+(l.length+1 - i)=l.length+1 by omega,← hG] at h
  rw [show ((l.length:Int)+1 - (i:Int))=((l.length+1 - i:Nat):Int) by omega,h]
  have hRA:ROW.toArray=(kvC (l.take i)).toArray ++ Builtin.zeroCells (Value.agg #[.string (bs []),.string (bs [])]).cells (l.length+1 - i) ++ Builtin.zeroCells (Value.agg #[.string (bs []),.string (bs [])]).cells (G - (l.length+1)):=by
   rw [hROW];apply Array.toList_inj.1;simp
  rw [hRA]
 have hGn:l.length+1≤G:=by rw [hG];exact grownCap_ge w _ _ _
 have hG63:G≤maxLen:=by rw [hG];exact grownCap_le_maxLen w (l.length+1) c 121 (by unfold maxLen;omega)
 have hRl:(l.length+1) * 2≤ROW.length:=by
  rw [hROW,List.length_append,List.length_append,htl]
  simp [Builtin.zeroCells,Value.cells]
  omega
 have hRt:ROW.take (i * 2)=kvC (l.take i):=by
  rw [hROW,List.append_assoc,List.take_append_of_le_length (by omega),List.take_of_length_le (by omega)]
 obtain ⟨R1,hR1⟩:∃ R1,R1=spl ROW (i * 2) (kvC [p]):=⟨_,rfl⟩
 have hfit1:i * 2+(kvC [p]).length≤ROW.length:=by show i * 2+2≤ROW.length;omega
 have hR1l:R1.length=ROW.length:=by rw [hR1];exact spl_len hfit1
 obtain ⟨R2,hR2⟩:∃ R2,R2=spl R1 ((i+1) * 2) (kvC (l.drop i)):=⟨_,rfl⟩
 have hfit2:(i+1) * 2+(kvC (l.drop i)).length≤R1.length:=by rw [hdl,hR1l];omega
 have hcp1:∀ (W:World) ty dc,W.heap[w.heap.size]? = some (.cells ROW.toArray 121 (0,0))→W.heap[V]? = some (.cells (kvC [p]).toArray 121 (0,0))→(Builtin.copy_ #[105,105] ty #[.slice (some ⟨w.heap.size,i * 2,none⟩) (l.length+1 - i) dc,.slice (some ⟨V,0,none⟩) 1 1]).run Tryz.prog W=.ok (goInt 1) (W.setRow w.heap.size R1.toArray):=fun W ty dc hW hWV=>by
  rw [hR1]
  refine run_copy_row2 W _ _ ty 121 w.heap.size (i * 2) _ dc _ _ 1 ROW.toArray 121 1 (kvC [p]) Tryz.underlying105 infoK2 hW (by simp only [Nat.min_def];split <;> omega) rfl ?_ (by simpa using hfit1) (kvC_one _)
  intro j v hj
  rw [add_lit,cell_of_row _ _ _ _ _ _ hWV,Nat.zero_add];simpa using hj
 have hcp2:∀ (W:World) ty dc sc,W.heap[w.heap.size]? = some (.cells R1.toArray 121 (0,0))→W.heap[g]? = some (.cells cur.toArray 121 (0,0))→(Builtin.copy_ #[105,105] ty #[.slice (some ⟨w.heap.size,(i+1) * 2,none⟩) (l.length+1 - (i+1)) dc,.slice (some ⟨g,i * 2,none⟩) (l.length - i) sc]).run Tryz.prog W=.ok (goInt ((l.length - i:Nat):Int)) (W.setRow w.heap.size R2.toArray):=fun W ty dc sc hW hWg=>by
  rw [hR2]
  refine run_copy_row2 W _ _ ty 121 w.heap.size ((i+1) * 2) _ dc _ _ sc R1.toArray 121 (l.length - i) (kvC (l.drop i)) Tryz.underlying105 infoK2 hW (by simp only [Nat.min_def];split <;> omega) hdl ?_ (by simpa using hfit2) (kvC_one _)
  intro j v hj
  rw [add_lit]
  rw [kvC_drop] at hj
  exact hsrcg W hWg _ 0 j v (by omega) hj
 have hl2:(l.take i ++ p :: l.drop i).length=l.length+1:=by simp;omega
 have hfin:R2.take ((l.take i ++ p :: l.drop i).length * 2)=kvC (l.take i ++ p :: l.drop i):=by
  rw [hl2,show (l.length+1) * 2=(i+1) * 2+(kvC (l.drop i)).length by rw [hdl];omega,hR2,spl_upto hfit2,hR1,show (i+1) * 2=i * 2+(kvC [p]).length from by rw [kvC_len];simp;omega,spl_upto hfit1,hRt,kvC_ins]
 obtain ⟨W1,hW1⟩:∃ W1,W1=w.drew.alloc (.cells ROW.toArray 121):=⟨_,rfl⟩
 rw [← hW1] at hrz
 have hglt:=(Array.getElem?_eq_some_iff.1 hg).1
 have hVlt:=(Array.getElem?_eq_some_iff.1 hV).1
 have hN:W1.heap[w.heap.size]? = some (.cells ROW.toArray 121 (0,0)):=by rw [hW1];exact heap_alloc_new w.drew _
 have hNg:W1.heap[g]? = some (.cells cur.toArray 121 (0,0)):=by rw [hW1];exact (heap_alloc_old w.drew _ hglt).trans hg
 have hNV:W1.heap[V]? = some (.cells (kvC [p]).toArray 121 (0,0)):=by rw [hW1];exact (heap_alloc_old w.drew _ hVlt).trans hV
 have hb1:Below base w W1:=by rw [hW1];exact ((Below.refl _ _).drew.alloc (Nat.le_refl _) _).mono hbase
 have hb2:Below base w (W1.setRow w.heap.size R1.toArray):=below_setRow hb1 hbase R1.toArray
 have hb3:Below base w ((W1.setRow w.heap.size R1.toArray).drew.setRow w.heap.size R2.toArray):=below_setRow hb2.drew hbase R2.toArray
 have hr1:=setRow_heap W1 w.heap.size ROW.toArray R1.toArray 121 (0,0) hN
 have hr1g:=(heap_setRow_ne W1 (g:=g) (b:=w.heap.size) (by omega) R1.toArray).trans hNg
 have hr2:=setRow_heap (W1.setRow w.heap.size R1.toArray).drew w.heap.size R1.toArray R2.toArray 121 (0,0) hr1
 have HC1:=Lib.hid (hcp1 W1)
 have HC2:=Lib.hid hcp2
 have HRZ:=Lib.hid hrz
 have HF:=Lib.hid hfin
 have HN:=Lib.hid (And.intro hN hNV)
 have HW2:=Lib.hid (And.intro hr1 hr1g)
 have HR2:=Lib.hid hr2
 have HB3:=Lib.hid hb3
 have HL2:=Lib.hid hl2
 have hz2:((i:Int) == (l.length:Int))=false:=by rw [beq_eq_false_iff_ne];omega
 have hiI:(i:Int) < (l.length:Int):=by omega
 have hcI:(c:Int) < (l.length:Int)+1:=by omega
 have hcnI:(l.length:Int)≤(c:Int):=by omega
 have hGI:(l.length:Int)+1≤(G:Int):=by omega
 have hw1:IntKind.i64.wrap ((i:Int)+1)=(i:Int)+1:=IntWalk.i64_in _ (by omega)
 have hw2:IntKind.i64.wrap ((l.length:Int)+1)=(l.length:Int)+1:=IntWalk.i64_in _ (by omega)
 have hw3:IntKind.i64.wrap ((l.length:Int)+1 - (i:Int))=(l.length:Int)+1 - (i:Int):=IntWalk.i64_in _ (by omega)
 have hci:¬ (c=i):=by omega
 have hGi:¬ (G=i):=by omega
 have hGi1:¬ (G=i+1):=by omega
 have hi1:(0:Int)≤(i:Int)+1:=by omega
 have hi2:((i:Int)+1).toNat=i+1:=by omega
 have hi3:(i:Int)≤(l.length:Int)+1:=by omega
 have hi4:(i:Int)+1≤(l.length:Int)+1:=by omega
 have hi5:(i:Int)≤(c:Int):=by omega
 have hi6:(i:Int)≤(l.length:Int):=by omega
 have hi7:i≤l.length:=by omega
 clear hcp1 hcp2 hrz hfin hR1 hR2 hc hfit1 hfit2 hdl hg hV hl2 hW1 hN hNg hNV hb1 hb2 hb3 hr1 hr1g hr2 hROW hG hRl hRt htl hsrcg hR1l hi0 hz0 hzs hzb
 go_enter Tryz.func69,Tryz.ntmps69
 have hcpw:=fun ty dc=>HC1.out ty dc HN.out.1 HN.out.2
 go_wp2_with (first
  | (at_builtin;refine Lib.wpList_append_run _ rfl _ _ _ _ rfl _ _ rfl rfl _ _ (HRZ.out _) ?_))
 refine wp_region_held_drew (S:=fun _=>True) (by kernel_rfl) trivial (fun hHeld=>?_)
 refine H_t (i:=0) (v:=.slice (some ⟨w.heap.size,0,none⟩) (l.length+1) G) rfl (Or.inl ⟨by rfl,fun w' hS=>by go_simp⟩) hHeld ?_
 refine H_t (i:=1) (v:=.int .i64 (i:Int)) rfl (Or.inl ⟨by rfl,fun w' hS=>by go_simp⟩) hHeld ?_
 refine H_t (i:=2) (v:=.int .i64 1) rfl (Or.inl ⟨by rfl,fun w' hS=>by go_simp⟩) hHeld ?_
 refine H_t (i:=3) (v:=.int .i64 ((i:Int)+1)) rfl (Or.inl ⟨by rfl,fun w' hS=>by go_simp⟩) hHeld ?_
 refine H_t (i:=4) (v:=.slice (some ⟨w.heap.size,(i+1) * 2,none⟩) (l.length+1 - (i+1)) (G - (i+1))) rfl (Or.inl ⟨by rfl,fun w' hS=>by go_simp⟩) hHeld ?_
 refine H_t (i:=5) (v:=.slice (some ⟨g,0,none⟩) l.length c) rfl (Or.inl ⟨by rfl,fun w' hS=>by go_simp⟩) hHeld ?_
 refine H_t (i:=6) (v:=.int .i64 (i:Int)) rfl (Or.inl ⟨by rfl,fun w' hS=>by go_simp⟩) hHeld ?_
 refine H_t (i:=7) (v:=.slice (some ⟨g,i * 2,none⟩) (l.length - i) (c - i)) rfl (Or.inl ⟨by rfl,fun w' hS=>by go_simp⟩) hHeld ?_
 refine H_now 8 fun K hK=>?_
 refine stl_copy rfl _ _ 105 105 rfl _ _ rfl rfl (HC2.out _ _ _ _ HW2.out.1 HW2.out.2) ?_
 try simp only [Act.put,List.setIfInBounds_toArray,List.set_cons_zero,List.set_cons_succ,List.getElem_toArray,List.getElem_cons_zero,List.getElem_cons_succ]
 refine hK.out _ _ trivial (fun hHeld=>?_)
 clear hK K
 refine lay_H ?_
 refine wpAnyH_done (by kernel_rfl) ?_ _
 go_wp2_with fail
 go_ret
 exact ⟨_,G,by rw [HL2.out];rfl,kvs_row HR2.out HF.out (by rw [HL2.out];exact hGn) hG63,HB3.out⟩
end Go.Proofs.YtdfmheademcbkaaGreat
