/- Nodes are equal to themselves; the walks of slices.Equal at a node, trie.same, pairs. -/
import Derived.Test.YtdfmheademcbkaaGreatZ17
import Derived.ChangeKeysEq
import Derived.Test.YtdfmheademcbkaaGreatZ03
namespace Go.Proofs.YtdfmheademcbkaaGreat
set_option linter.unusedVariables false
set_option linter.unusedSimpArgs false
open Go.RowKit
set_option maxHeartbeats 4000000
set_option maxRecDepth 100000
theorem run_eqItems_refl {P:Program} (d:Nat) {e:TypeId} {q:IntKind} (he:P.underlying e=some (.int q)) (w:World) (xs:Array Value):∀ (is:List Nat),(∀ i∈is,∃ v,xs[i * 1]? = some (.int q v)) →
  (Op.eqItems (d+1) e 1 xs xs is).run P w=.ok true w
 | [],_=>by simp [Op.eqItems]
 | i :: is,h=>by
  obtain ⟨v,hv⟩:=h i (by simp)
  have hp:(part e xs (i * 1)).run P w=.ok (.int q v) w:=by simp only [part,isAgg,Sem.run_bind,run_underlying he,Result.andThen_ok,hv];simp
  have ih:=run_eqItems_refl d he w xs is (fun j hj=>h j (by simp [hj]))
  simp only [Op.eqItems,Sem.run_bind,hp,Result.andThen_ok,run_equalIn_int w d e q q v v he]
  simpa using ih
theorem infoInt:∃ i,Tryz.prog.info? 3 = some i:=info_of_underlying Tryz.underlying3
theorem fieldsNode:Tryz.prog.underlying 130 = some (.struct (Tryz.prog.fieldsOf 130)):=by kernel_rfl
theorem stoodNode:Tryz.prog.stoodInHeld 130 = false:=by kernel_rfl
theorem guardNode:Tryz.prog.eqGuardType Tryz.prog.depth 130 = false:=by kernel_rfl
theorem eqKids (kids:List Int) (h:kids.length=16) (w:World):(Op.equalIn 9999 128 (.agg (kids.map fun i=>Value.int .i64 i).toArray) (.agg (kids.map fun i=>Value.int .i64 i).toArray)).run Tryz.prog w=.ok true w:=by
 obtain ⟨i,hi⟩:=infoInt
 rw [show (9999:Nat)=9998+1 from rfl,run_equalIn_array w 9998 _ _ Tryz.underlying128 hi]
 rw [show Tryz.prog.cellsOf 3 = 1 by kernel_rfl]
 exact run_eqItems_refl 9997 Tryz.underlying3 w _ _ (fun j hj=>by
  have:j < kids.length:=by rw [h];simpa using hj
  exact ⟨kids[j],by simp [this]⟩)
section
variable (n:TN) (w:World)
theorem partN0:(part 3 (nodeC n).toArray 0).run Tryz.prog w=.ok (.int .i64 n.k) w:=by simp [part,isAgg,run_underlying Tryz.underlying3,nodeC,Sem.run_bind]
theorem partN1:(part 9 (nodeC n).toArray 1).run Tryz.prog w=.ok (.string (bs n.part)) w:=by simp [part,isAgg,run_underlying Tryz.underlying9,nodeC,Sem.run_bind]
theorem partN2:(part 9 (nodeC n).toArray 2).run Tryz.prog w=.ok (.string (bs n.value)) w:=by simp [part,isAgg,run_underlying Tryz.underlying9,nodeC,Sem.run_bind]
theorem partN3 (h:n.kids.length=16):(part 128 (nodeC n).toArray 3).run Tryz.prog w=.ok (.agg (n.kids.map fun i=>Value.int .i64 i).toArray) w:=by
 have hz:(sizeOf 128).run Tryz.prog w=.ok 16 w:=by
  obtain ⟨i,hi⟩:=info_of_underlying Tryz.underlying128
  rw [run_sizeOf w hi,show Tryz.prog.cellsOf 128 = 16 by kernel_rfl]
 have hx:(nodeC n).toArray.extract 3 (3+16)=(n.kids.map fun i=>Value.int .i64 i).toArray:=by
  simp [nodeC,List.extract_eq_take_drop,h]
  rw [List.take_of_length_le (by simp [h])]
 simp only [part,isAgg,Sem.run_bind,run_underlying Tryz.underlying128,Result.andThen_ok,Sem.run_pure,if_true,hz,hx]
end
theorem eqN0 (k:Int) (w:World):(Op.equalIn 9999 3 (.int .i64 k) (.int .i64 k)).run Tryz.prog w=.ok true w:=by
 rw [show (9999:Nat)=9998+1 from rfl,run_equalIn_int w 9998 _ .i64 .i64 _ _ Tryz.underlying3];simp
theorem eqN1 (s:ByteArray) (w:World):(Op.equalIn 9999 9 (.string s) (.string s)).run Tryz.prog w=.ok true w:=by
 rw [show (9999:Nat)=9998+1 from rfl,run_equalIn_string w 9998 _ _ _ Tryz.underlying9];simp
theorem eqFields_cons {P:Program} {w:World} {d:Nat} {xs ys:Array Value} {f:Field} {fs:List Field} (hne:f.name ≠ "_") {a b:Value} (ha:(part f.type xs f.offset).run P w=.ok a w) (hb:(part f.type ys f.offset).run P w=.ok b w)
  (hr:(Op.equalIn d f.type a b).run P w=.ok true w) (h:(Op.eqFields d xs ys fs).run P w=.ok true w):(Op.eqFields d xs ys (f :: fs)).run P w=.ok true w:=by
 rw [Op.eqFields,if_pos hne]
 simp [Sem.run_bind,ha,hb,hr,h]
theorem eqNode (n:TN) (h:n.kids.length=16) (w:World):(binOp .neq 130 (.agg (nodeC n).toArray) (.agg (nodeC n).toArray)).run Tryz.prog w=.ok (.bool false) w:=by
 have hm:(Op.eqFields 9999 (nodeC n).toArray (nodeC n).toArray (Tryz.prog.fieldsOf 130).toList).run Tryz.prog w=.ok true w:=by
  simp only [Program.fieldsOf,Tryz.underlying130]
  refine eqFields_cons (by decide) (partN0 n w) (partN0 n w) (eqN0 _ w) ?_
  refine eqFields_cons (by decide) (partN1 n w) (partN1 n w) (eqN1 _ w) ?_
  refine eqFields_cons (by decide) (partN2 n w) (partN2 n w) (eqN1 _ w) ?_
  refine eqFields_cons (by decide) (partN3 n w h) (partN3 n w h) (eqKids _ h w) ?_
  rfl
 rw [run_neq_struct,show (10000:Nat)=9999+1 from rfl,run_equalIn_agg w 9999 _ _ _ fieldsNode stoodNode,hm]
 rfl
section
variable {P:Program}
/-- a load of an aggregate, wherever it lies, under an S that says what it holds -/
theorem yieldsIf_load_at {ops:Array Oper} {S:World→Prop} {op:Oper} {a:Act} (hw:Region.wanted op (yielded ops a.tmps)=true) {ty:TypeId} {x:Operand} (ho:op.op=.load ty x)
  {g o:Nat} (hx:a.eval x=.pointer (some ⟨g,o,none⟩)) (cs:List Value) {d:TypeDesc} (hS:∀ w,S w→∀ j u,cs[j]? = some u→w.cell? ⟨g,o+j,none⟩=some u)
  (hu:P.underlying ty=some d) (hd:(match d with | .struct _ | .array _ _=>true | _=>false)=true) (hi:(P.info? ty).map (·.size)=some cs.length):YieldsIf P ops S op (.agg cs.toArray) a :=
 .inl ⟨hw,fun w hw'=>by
  unfold execOp
  simp only [ho,hx,Instr.loadAt,Instr.sureAddr,Sem.run_bind,Sem.run_pure,Result.andThen_ok,run_loadVar_at w g o ty cs d (hS w hw') hu hd hi]⟩
end
theorem equal_any (ns:List TN) (hl:ns.length≤10000) (A B:Option Addr) (c d:Nat) (w:World) (hv:TNs Any w ns A c) (hv2:TNs Any w ns B d) :
  Calls Tryz.prog 165 #[.slice A ns.length c,.slice B ns.length d] w fun e w'=>e=.returned (.bool true)∧Below w.heap.size w w':=by
 have hlI:(ns.length:Int)≤10000:=by omega
 go_enter Tryz.func165,Tryz.ntmps165
 go_wp2_with fail
 go_loopw [13] (fun v wr=>∃ i:Nat,i≤ns.length∧v=.int .i64 i∧Below w.heap.size w wr) (fun v _=>ns.length - (intOf v).toNat)
 case atStart=>exact ⟨0,by omega,rfl,Below.refl _ _⟩
 case round =>
  obtain ⟨i,hi,rfl,hb⟩:=hrel
  by_cases hlt:i < ns.length
  ·have hlt':(i:Int) < (ns.length:Int):=by omega
   obtain ⟨n,hat⟩:=getElem_ex hlt
   have hn:=hv.wide n (List.mem_of_getElem? hat)
   obtain ⟨g,o,rfl,_,hc⟩:=(hv.keep hb).at_ hat
   obtain ⟨g2,o2,rfl,_,hc2⟩:=(hv2.keep hb).at_ hat
   have hiL:(Tryz.prog.info? 130).map (·.size)=some (nodeC n).length:=by rw [infoN hn];simp
   clear hat
   go_wp2_with fail
   refine wp_region_held_drew (S:=fun w'=>(∀ j u,(nodeC n)[j]? = some u→w'.cell? ⟨g,o+i * 19+j,none⟩=some u)∧(∀ j u,(nodeC n)[j]? = some u→w'.cell? ⟨g2,o2+i * 19+j,none⟩=some u)) (by kernel_rfl) ⟨hc,hc2⟩ (fun hHeld=>?_)
   refine H_t (i:=0) (v:=.slice (some ⟨g,o,none⟩) ns.length c) rfl (Or.inl ⟨by rfl,fun w' hS=>by go_simp⟩) hHeld ?_
   refine H_t (i:=1) (v:=.int .i64 (i:Int)) rfl (Or.inl ⟨by rfl,fun w' hS=>by go_simp⟩) hHeld ?_
   refine H_t (i:=2) (v:=.pointer (some ⟨g,o+i * 19,none⟩)) rfl (Or.inl ⟨by rfl,fun w' hS=>by go_simp⟩) hHeld ?_
   refine H_t (i:=3) (v:=.agg (nodeC n).toArray) rfl (yieldsIf_load_at rfl rfl rfl (nodeC n) (fun w' hS=>hS.1) Tryz.underlying130 rfl hiL) hHeld ?_
   refine H_t (i:=4) (v:=.slice (some ⟨g2,o2,none⟩) ns.length d) rfl (Or.inl ⟨by rfl,fun w' hS=>by go_simp⟩) hHeld ?_
   refine H_t (i:=5) (v:=.int .i64 (i:Int)) rfl (Or.inl ⟨by rfl,fun w' hS=>by go_simp⟩) hHeld ?_
   refine H_t (i:=6) (v:=.pointer (some ⟨g2,o2+i * 19,none⟩)) rfl (Or.inl ⟨by rfl,fun w' hS=>by go_simp⟩) hHeld ?_
   refine H_t (i:=7) (v:=.agg (nodeC n).toArray) rfl (yieldsIf_load_at rfl rfl rfl (nodeC n) (fun w' hS=>hS.2) Tryz.underlying130 rfl hiL) hHeld ?_
   refine H_t (i:=8) (v:=.bool false) rfl (Or.inl ⟨by rfl,fun w' hS=>by have h1:=eqNode n hn w';have h2:=fun x y=>run_eqGuard_agg w' .neq 130 x y (nodeC n).toArray (nodeC n).toArray guardNode;generalize Value.agg (nodeC n).toArray=V at h1 h2 ⊢;go_simp⟩) hHeld ?_
   refine wpAnyH_done (by kernel_rfl) ?_ _
   go_wp2_with fail
   go_roundw
   case rel=>exact ⟨i+1,by omega,by go_num,hb.trans ((Below.refl _ _).drew.mono hb.size)⟩
   case measure=>simp [intOf];omega
  ·obtain rfl:i=ns.length:=by omega
   go_wp2_with fail
   go_ret
   exact ⟨rfl,hb⟩
/- The walks of trie.same and pairs. -/
theorem same_any (ns:List TN) (root:Int) (hl:ns.length≤10000) (A B:Option Addr) (c d:Nat) (w:World) (hv:TNs Any w ns A c) (hv2:TNs Any w ns B d) :
  Calls Tryz.prog 115 #[.agg #[.slice A ns.length c,.int .i64 root],.agg #[.slice B ns.length d,.int .i64 root]] w fun e w'=>e=.returned (.bool true)∧Below w.heap.size w w':=by
 have hb:Below w.heap.size w ((w.alloc (.cells #[.slice A ns.length c,.int .i64 root] 75)).alloc (.cells #[.slice B ns.length d,.int .i64 root] 75)):=((Below.refl _ _).alloc (Nat.le_refl _) _).alloc (by simp) _
 have h:=equal_any ns hl A B c d _ (hv.keep hb) (hv2.keep hb)
 have HB:=Lib.hid hb
 clear hb hv hv2
 go_enter Tryz.func115,Tryz.ntmps115
 go_wp2_with fail
 refine h.mono ?_
 rintro e w1 ⟨rfl,hb1⟩
 have hb2:=below_call HB.out HB.out.size hb1
 go_wp2_with fail
 go_ret
 exact ⟨rfl,hb2⟩
theorem own_mono {w:World} {base base':Nat} {e:TypeId} {size:Nat} {v:Value} {n:Nat} {xs:List Value} (h:w.ownsRow base e size v n xs) (hb:base'≤base):w.ownsRow base' e size v n xs :=
 ⟨h.1,h.2.imp id fun ⟨g,cap,cur,h1,h2,r⟩=>⟨g,cap,cur,h1,Nat.le_trans hb h2,r⟩⟩
/-- behind a trie's pairs -/
def PairsPost (l:List KV) (w:World) (e:Ending) (w':World):Prop :=
 ∃ A c,e=.returned (.tuple #[.slice A l.length c,.bool true])∧w'.ownsRow w.heap.size 121 2 (.slice A l.length c) l.length (kvC l)∧Below w.heap.size w w'
theorem pairs_any (l:List KV) (hO:OkL l) (A:Option Addr) (c:Nat) (w:World) (hv:TNs Any w (ofP l).1 A c) :
  Calls Tryz.prog 66 #[.agg #[.slice A (ofP l).1.length c,.int .i64 (ofP l).2]] w (PairsPost l w):=by
 by_cases hl:l = []
 ·subst hl
  have hb:Below w.heap.size w ((w.alloc (.cells #[.slice A 0 c,.int .i64 (-1)] 75)).alloc (.cells #[.slice none 0 0] 105)):=((Below.refl _ _).alloc (Nat.le_refl _) _).alloc (by simp) _
  rw [ofP_nil]
  simp only [List.length_nil]
  go_enter Tryz.func66,Tryz.ntmps66
  go_wp2_with fail
  go_quiet (fail)
  go_wp2_with fail
  go_ret2
  exact ⟨none,0,rfl,World.ownsRow_nil _ _ _ _,below_drewN hb nq⟩
 ·have hne:partsP l ≠ []:=by intro e;have:=congrArg List.length e;rw [partsP_len] at this;exact hl (List.eq_nil_of_length_eq_zero this)
  obtain ⟨htop,hpos⟩:=buildP_top 66 (partsP l) 0 hne hO.short
  have hcnt:=buildP_count 66 (partsP l) 0 (rise_parts hO.rise)
  rw [partsP_len] at hcnt
  have hle:=hO.le
  obtain ⟨j,hj⟩:∃ j:Nat,(ofP l).2=(j:Int):=⟨_,htop⟩
  obtain ⟨W1,hW1⟩:∃ W1,W1=(w.alloc (.cells #[.slice A (ofP l).1.length c,.int .i64 j] 75)).alloc (.cells #[.slice none 0 0] 105):=⟨_,rfl⟩
  have hb:Below w.heap.size w W1:=by rw [hW1];exact ((Below.refl _ _).alloc (Nat.le_refl _) _).alloc (by simp) _
  have hOt:Otn W1 (w.heap.size+1) (.slice none 0 0) []:=by
   rw [hW1]
   have:=heap_alloc_new (w.alloc (.cells #[.slice A (ofP l).1.length c,.int .i64 j] 75)) (.cells #[.slice none 0 0] 105)
   rw [World.size_alloc] at this
   exact ⟨this,World.ownsRow_nil _ _ _ _⟩
  have hbox:W1.heap[w.heap.size]? = some (.cells #[.slice A (ofP l).1.length c,.int .i64 j] 75 (0,0)):=by
   rw [hW1,heap_alloc_old _ _ (by simp)];exact heap_alloc_new w _
  have hvT:TNs (Apart (w.heap.size+1) (.slice none 0 0)) W1 (ofP l).1 A c:=hv.mono fun b hb' _=>⟨⟨by omega,by simp [Value.ownBlock]⟩,hb.block b hb'⟩
  have hw:=walk_any 66 (partsP l) 0 [] (ofP l).1 A c j [] (w.heap.size+1) (.slice none 0 0) W1 hne hO.short (rise_parts hO.rise) hO.half (goods_parts hO) (by rw [partsP_len,List.length_nil];omega) (Sub.refl _) (by show (buildP 66 (partsP l) 0).1.length≤10000;omega) hvT hOt
  rw [show (buildP 66 (partsP l) 0).2=(j:Int) from hj,outP_parts,List.nil_append] at hw
  rw [hj]
  have hj1:((j:Int) == -1)=false:=by rw [beq_eq_false_iff_ne];omega
  have HW:=Lib.hid hw
  have H1:=Lib.hid hW1
  have HB:=Lib.hid hb
  have HX:=Lib.hid hbox
  have HVT:=Lib.hid hvT
  have HN:=Lib.hid (show (ofP l).1.length≤10000 by show (buildP 66 (partsP l) 0).1.length≤10000;omega)
  have hs1:W1.heap.size=w.heap.size+1+1:=by rw [hW1];simp
  clear hw hW1 hb hbox hvT hOt htop hpos hcnt hne
  go_enter Tryz.func66,Tryz.ntmps66
  go_wp2_with fail
  rw [← H1.out]
  refine HW.out.mono ?_
  rintro e w2 ⟨rfl,v2,hO2,hT2⟩
  go_wp2_with fail
  obtain ⟨A2,c2,rfl⟩:=own_form hO2.own
  have hbx2:=(hT2.block w.heap.size (by omega) ⟨by omega,by simp [Value.ownBlock]⟩).trans HX.out
  have hb2:Below w.heap.size w w2:=⟨hT2.os.trans HB.out.os,hT2.tape.trans HB.out.tape,hT2.output.trans HB.out.output,Nat.le_trans HB.out.size hT2.size,fun k hk=>(hT2.block k (by omega) ⟨by omega,by simp [Value.ownBlock]⟩).trans (HB.out.block k hk)⟩
  have hv2:=(HVT.out.arn hT2).any
  clear hT2 HB HX HW H1 HVT hv
  refine wp_region_held_drew (S:=fun w'=>w'.cell? ⟨w.heap.size+1,0,none⟩=some (.slice A2 l.length c2)∧w'.heap[w.heap.size]? = some (.cells #[.slice A (ofP l).1.length c,.int .i64 (j:Int)] 75 (0,0))) (by kernel_rfl) ⟨hO2.cell,hbx2⟩ (fun hHeld=>?_)
  refine H_t (i:=0) (v:=.slice A2 l.length c2) rfl (yieldsIf_load_cell rfl rfl rfl (fun w' hS=>hS.1) Tryz.underlying105 rfl) hHeld ?_
  refine H_t (i:=1) (v:=.bool true) rfl (Or.inl ⟨by rfl,fun w' hS=>by go_simp⟩) hHeld ?_
  refine H_t (i:=2) (v:=.bool true) rfl (Or.inl ⟨by rfl,fun w' hS=>by go_simp⟩) hHeld ?_
  refine H_t (i:=3) (v:=.agg #[.slice A (ofP l).1.length c,.int .i64 (j:Int)]) rfl (yieldsIf_load_row rfl rfl rfl (fun w' hS=>hS.2) Tryz.underlying75 rfl infoT) hHeld ?_
  refine H_t (i:=4) (v:=.slice A2 l.length c2) rfl (yieldsIf_load_cell rfl rfl rfl (fun w' hS=>hS.1) Tryz.underlying105 rfl) hHeld ?_
  have hbd:Below w2.heap.size w2 w2.drew:=(Below.refl _ _).drew
  replace hO2:=hO2.keep hbd
  replace hv2:=hv2.keep hbd
  replace hb2:=below_call hb2 hb2.size hbd
  replace hbx2:w2.drew.heap[w.heap.size]? = _:=hHeld.2
  clear hHeld hbd
  generalize w2.drew=w2 at hO2 hv2 hb2 hbx2 ⊢
  refine H_now 5 fun K hK=>?_
  go_simp
  have hk2:KVs Any w2 l A2 c2:=⟨lies_own hO2.own (fun _ _ _=>trivial),(own_cap hO2.own).1,(own_cap hO2.own).2⟩
  refine (of_any l hO A2 c2 w2 hk2).mono ?_
  rintro e w3 ⟨A3,c3,rfl,hv3,hb3⟩
  have hO3:=hO2.keep hb3
  have hv23:=hv2.keep hb3
  have hB3:=below_call hb2 hb2.size hb3
  have hbx3:=(hb3.block _ (Array.getElem?_eq_some_iff.1 hbx2).1).trans hbx2
  rw [hj]
  go_wp2_with fail
  refine hK.out _ _ ⟨hO3.cell,hbx3⟩ (fun hHeld=>?_)
  clear hK K
  refine lay_H ?_
  refine H_now 6 fun K hK=>?_
  go_simp
  refine (same_any (ofP l).1 (j:Int) HN.out A A3 c c3 w3 hv23.any hv3.any).mono ?_
  rintro e w4 ⟨rfl,hb4⟩
  have hO4:=hO3.keep hb4
  have hB4:=below_call hB3 hB3.size hb4
  have hbx4:=(hb4.block _ (Array.getElem?_eq_some_iff.1 hbx3).1).trans hbx3
  go_wp2_with fail
  refine hK.out _ _ ⟨hO4.cell,hbx4⟩ (fun hHeld=>?_)
  clear hK K
  refine lay_H ?_
  refine H_t (i:=7) (v:=.bool true) rfl (Or.inl ⟨by rfl,fun w' hS=>by go_simp⟩) hHeld ?_
  refine H_t (i:=8) (v:=.slice A2 l.length c2) rfl (Or.inl ⟨by rfl,fun w' hS=>by go_simp⟩) hHeld ?_
  refine H_t (i:=9) (v:=.bool true) rfl (Or.inl ⟨by rfl,fun w' hS=>by go_simp⟩) hHeld ?_
  refine wpAnyH_done (by kernel_rfl) ?_ _
  go_wp2_with fail
  go_ret2
  exact ⟨A2,c2,rfl,own_mono hO4.own (by omega),hB4⟩
end Go.Proofs.YtdfmheademcbkaaGreat
