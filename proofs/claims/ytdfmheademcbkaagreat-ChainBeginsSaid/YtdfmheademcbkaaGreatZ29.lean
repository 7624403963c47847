/- The walk of sums.add at a branch. -/
import Derived.Test.YtdfmheademcbkaaGreatZ28
import Derived.Test.YtdfmheademcbkaaGreatZ03
namespace Go.Proofs.YtdfmheademcbkaaGreat
set_option linter.unusedVariables false
set_option linter.unusedSimpArgs false
open Go.RowKit
set_option maxHeartbeats 4000000
set_option maxRecDepth 100000
theorem add_branch (n:TN) (hk:n.k=3) (its:List Item) (hN:NodeOk its n) (hl:its.length≤10000) (g:Nat) (v:Value) (last:Bytes) (xs:List Value) (w:World) (hs:SumV w g v its last xs) :
  Calls Tryz.prog 72 #[.pointer (some ⟨g,0,none⟩),.agg (nodeC n).toArray] w (AddPost g v its n w):=by
 obtain ⟨A0,c0,rfl⟩:=own_form hs.own
 obtain ⟨v,hv⟩:∃ v,v=Value.slice A0 its.length c0:=⟨_,rfl⟩
 rw [← hv] at hs ⊢
 have HVV:=Lib.hid hv
 clear hv
 have hb:Below w.heap.size w (w.alloc (.cells (nodeC n).toArray 130)):=(Below.refl _ _).alloc (Nat.le_refl _) _
 have hn:=NRow.new w n
 have h0:(nodeC n)[0]? = some (.int .i64 n.k):=rfl
 have h1:(nodeC n)[1]? = some (.string (bs n.part)):=rfl
 have h2:(nodeC n)[2]? = some (.string (bs n.value)):=rfl
 have d0:=hn.cell h0
 have d1:=hn.cell h1
 have d2:=hn.cell h2
 rw [hk] at d0
 have hpl:=hN.part
 have HN:=Lib.hid hN
 have HB:=Lib.hid hb
 have HR:=Lib.hid hn
 have HS:=Lib.hid hs
 clear hN hb hn hs h0 h1 h2
 go_enter Tryz.func72,Tryz.ntmps72
 go_wp2_with fail
 refine (Pack_any n.part (by omega) HN.out.half false _).mono ?_
 rintro e w1 ⟨rfl,hb1⟩
 have hB1:=below_call HB.out HB.out.size hb1
 have hr1:=HR.out.keep hb1
 have e0:w1.cell? ⟨w.heap.size,0,none⟩=some (.int .i64 3):=by rw [(bcell hb1).1 _ _ HR.out.lt];exact d0
 have e2:w1.cell? ⟨w.heap.size,2,none⟩=some (.string (bs n.value)):=by rw [(bcell hb1).1 _ _ HR.out.lt];exact d2
 clear d0 d1 d2 HB HR hb1
 have HB:=Lib.hid hB1
 have HR:=Lib.hid hr1
 clear hB1 hr1
 go_wp2_with fail
 refine (List_any _ 2 2 _).mono ?_
 rintro e w2 ⟨rfl,hb2⟩
 have hBR:Below w.heap.size w (w1.alloc (.cells #[.bool false,.string (bs (packP n.part false)),.slice none 0 0,.bool false,.string (bs n.value),.slice none 0 0] 86)):=HB.out.alloc HB.out.size _
 have hB2:=below_call hBR hBR.size hb2
 have hwg:=HS.out.lt
 have hnx:nodeIt its n=listIt (n.kids.map (tellAt its) ++ [leafIt n.value]):=by simp [nodeIt,hk]
 have hw2:=hB2.size
 have hw1l:w.heap.size < w1.heap.size:=HR.out.lt
 have hw2l:w1.heap.size < w2.heap.size:=by have:=hb2.size;simp at this;omega
 have hR2:=HR.out.keep ((Below.refl w1.heap.size w1).alloc (Nat.le_refl _) (.cells #[.bool false,.string (bs (packP n.part false)),.slice none 0 0,.bool false,.string (bs n.value),.slice none 0 0] 86))
 replace hR2:=hR2.keep hb2
 replace e0:w2.cell? ⟨w.heap.size,0,none⟩=some (.int .i64 3):=by have h:=hR2.cell (j:=0) (u:=.int .i64 n.k) rfl;rw [hk] at h;exact h
 have e00:=ca e0 (.cells #[.bool true,.string (bs []),.slice (some ⟨w1.heap.size,0,none⟩) 2 2] 86)
 have hba:Below w2.heap.size w2 (w2.alloc (.cells #[.bool true,.string (bs []),.slice (some ⟨w1.heap.size,0,none⟩) 2 2] 86)):=(Below.refl _ _).alloc (Nat.le_refl _) _
 have HNX:=Lib.hid hnx
 have HX:=Lib.hid (heap_alloc_new w2 (.cells #[.bool true,.string (bs []),.slice (some ⟨w1.heap.size,0,none⟩) 2 2] 86))
 have HB2:=Lib.hid (below_call hB2 hB2.size hba)
 have HR2:=Lib.hid (hR2.keep hba)
 clear hnx hBR e2 hB2 hba hR2 hb2 HB HR
 go_wp2_with fail
 refine (List_any none 0 0 _).mono ?_
 rintro e w3 ⟨rfl,hb3⟩
 have hX3:=(hb3.block _ (Array.getElem?_eq_some_iff.1 HX.out).1).trans HX.out
 have hB3:=below_call HB2.out HB2.out.size hb3
 have hR3:=HR2.out.keep hb3
 have hXl3:=(Array.getElem?_eq_some_iff.1 hX3).1
 have c0:w3.cell? ⟨w2.heap.size,0,none⟩=some (.bool true):=by rw [cell_of_row _ _ _ _ _ _ hX3];rfl
 have c1:w3.cell? ⟨w2.heap.size,1,none⟩=some (.string (bs [])):=by rw [cell_of_row _ _ _ _ _ _ hX3];rfl
 have c2:w3.cell? ⟨w2.heap.size,2,none⟩=some (.slice (some ⟨w1.heap.size,0,none⟩) 2 2):=by rw [cell_of_row _ _ _ _ _ _ hX3];rfl
 have f0:w3.frozen? ⟨w2.heap.size,0,none⟩=false:=by simp [World.frozen?,hX3]
 have f1:w3.frozen? ⟨w2.heap.size,1,none⟩=false:=by simp [World.frozen?,hX3]
 have f2:w3.frozen? ⟨w2.heap.size,2,none⟩=false:=by simp [World.frozen?,hX3]
 obtain ⟨W4,hW4⟩:∃ W4,W4=(((w3.setCell ⟨w2.heap.size,0,none⟩ (.bool true)).setCell ⟨w2.heap.size,1,none⟩ (.string (bs []))).setCell ⟨w2.heap.size,2,none⟩ (.slice none 0 0)):=⟨_,rfl⟩
 have hX4:W4.heap[w2.heap.size]? = some (.cells #[.bool true,.string (bs []),.slice none 0 0] 86 (0,0)):=by
  rw [hW4];exact heap_setCell_here (heap_setCell_here (heap_setCell_here hX3 _) _) _
 have hR4:NRow W4 w.heap.size n:=hR3.of_block (by rw [hW4,heap_set_ne (by omega),heap_set_ne (by omega),heap_set_ne (by omega)])
 have hB4:Below w.heap.size w W4:=by
  rw [hW4]
  exact ((hB3.setCell (p:=⟨w2.heap.size,_,_⟩) hw2 _).setCell (p:=⟨w2.heap.size,_,_⟩) hw2 _).setCell (p:=⟨w2.heap.size,_,_⟩) hw2 _
 have hXl4:=(Array.getElem?_eq_some_iff.1 hX4).1
 have hk3:∀ (j:Nat) (u:Value),(n.kids.map fun i=>Value.int .i64 i)[j]? = some u→(((w3.setCell ⟨w2.heap.size,0,none⟩ (.bool true)).setCell ⟨w2.heap.size,1,none⟩ (.string (bs []))).setCell ⟨w2.heap.size,2,none⟩ (.slice none 0 0)).cell? ⟨w.heap.size,3+j,none⟩=some u:=fun j u hj=>by
  rw [← hW4]
  refine hR4.cell ?_
  unfold nodeC
  rw [List.getElem?_append_right (by simp),show 3+j - [Value.int IntKind.i64 n.k,Value.string (bs n.part),Value.string (bs n.value)].length=j by simp]
  exact hj
 have hi16:(Tryz.prog.info? 128).map (·.size)=some (n.kids.map fun i=>Value.int .i64 i).length:=by rw [List.length_map,HN.out.wide];kernel_rfl
 have HW4:=Lib.hid hW4
 have HX4:=Lib.hid hX4
 have HR4:=Lib.hid hR4
 have HB4:=Lib.hid hB4
 clear hX3 hB3 hR3 hb3 hW4 hX4 hR4 hB4 HX HB2 HR2 e00 e0 hXl3
 go_wp2_with (refine wpl_load_at (g:=w.heap.size) (o:=3) rfl rfl rfl (n.kids.map fun i=>Value.int .i64 i) hk3 Tryz.underlying128 rfl hi16 ?_)
 rw [← HW4.out]
 clear hk3 hi16 HW4 c0 c1 c2 f0 f1 f2
 go_loopw [45] (fun a wr=>∃ (cc:Nat) (ys:List Value) (u:Value),a=.int .i64 cc∧cc≤16∧wr.heap[w2.heap.size]? = some (.cells #[.bool true,.string (bs []),u] 86 (0,0)) ∧
   wr.ownsRow (w2.heap.size+1) 86 3 u cc ys∧RepN (fun b=>Apart g v b∧b < w.heap.size) w 3 (itemsD ((n.kids.take cc).map (tellAt its))) ys∧NRow wr w.heap.size n∧Below w.heap.size w wr)
  (fun a _=>16 - (intOf a).toNat)
 case atStart=>exact ⟨0,[],_,rfl,by omega,HX4.out,⟨rfl,.inl ⟨rfl,rfl⟩⟩,.nil,HR4.out,HB4.out⟩
 case round =>
  clear HX4 HR4 HB4
  obtain ⟨cc,ys,u,rfl,hcc,hX',hown',hrep',hR',hB'⟩:=hrel
  obtain ⟨A',c',rfl⟩:=own_form hown'
  have hXl:=(Array.getElem?_eq_some_iff.1 hX').1
  have hXu:∀ k,(Value.slice A' cc c').ownBlock=some k→w2.heap.size+1≤k:=fun k e=>(hown'.lt _ e).1
  by_cases hlt:cc < 16
  ·have hlt':(cc:Int) < 16:=by omega
   obtain ⟨k,hka⟩:∃ k,n.kids[cc]? = some k:=getElem_ex (by rw [HN.out.wide];omega)
   have hkA:(n.kids.map fun i=>Value.int .i64 i)[cc]? = some (.int .i64 k):=by rw [List.getElem?_map,hka];rfl
   have hix:=run_index_at (P:=Tryz.prog) Tryz.underlying128 Tryz.underlying3 (by kernel_rfl) (n.kids.map fun i=>Value.int .i64 i).toArray cc hlt (.int .i64 k) (by simpa using hkA) wr
   have hx2:wr.cell? ⟨w2.heap.size,2,none⟩=some (.slice A' cc c'):=by rw [cell_of_row _ _ _ _ _ _ hX'];rfl
   have HKA:=Lib.hid hka
   have HX':=Lib.hid hX'
   have HW':=Lib.hid hown'
   have HP':=Lib.hid hrep'
   have HR':=Lib.hid hR'
   have HB':=Lib.hid hB'
   clear hkA hka hX' hown' hrep' hR' hB'
   go_wp2_with fail
   clear hix
   refine wp_region_R [(6,fun w'=>w'.cell? ⟨w2.heap.size,2,none⟩=some (.slice A' cc c'))] (by kernel_rfl) ?_
   have hbd:Below wr.heap.size wr wr.drew:=(Below.refl _ _).drew
   have hX5:wr.drew.heap[w2.heap.size]? = _:=HX'.out
   have hown5:=own_keep HW'.out hbd
   have hR5:=HR'.out.keep hbd
   have hB5:=below_call HB'.out HB'.out.size hbd
   have hxl:wr.heap.size=wr.drew.heap.size:=rfl
   have hx5:wr.drew.cell? ⟨w2.heap.size,2,none⟩=some (.slice A' cc c'):=hx2
   clear hbd HX' HW' HR' HB' hx2
   rw [hxl] at hXl
   clear hxl
   generalize wr.drew=wr at hX5 hown5 hR5 hB5 hXl hx5 ⊢
   refine R_p (i:=0) (v:=.pointer (some ⟨w2.heap.size,2,none⟩)) (Meets.here hx5 Meets.nil) ?_
   refine R_l (i:=1) (v:=.slice A' cc c') 6 _ List.mem_cons_self rfl (yieldsIf_load_cell rfl rfl rfl (fun w' hS=>hS) Tryz.underlying84 rfl) (Meets.here hx5 Meets.nil) ?_
   refine R_p (i:=2) (v:=.func (.func 123) #[.pointer (some ⟨g,0,none⟩)] #[]) (Meets.here hx5 Meets.nil) ?_
   refine R_p (i:=3) (v:=.int .i64 k) (Meets.here hx5 Meets.nil) ?_
   refine R_now 4 fun K hK=>?_
   go_simp
   refine (told_any wr g v its last xs (HS.out.keep hB5) (fun b=>Apart g v b∧b < w.heap.size) (RepN.mono HS.out.rep fun b h1 h2=>⟨⟨h2,h1⟩,hB5.block b h1⟩) k (HN.out.kid k (List.mem_of_getElem? HKA.out))).mono ?_
   rintro e w5 ⟨A,c,rfl,hy5,hb5⟩
   obtain ⟨y,hyy⟩:∃ y,tellAt its k=y:=⟨_,rfl⟩
   rw [hyy] at hy5 ⊢
   have hX6:=(hb5.block _ hXl).trans hX5
   have hown6:=own_keep hown5 hb5
   have hR6:=hR5.keep hb5
   have hB6:=below_call hB5 hB5.size hb5
   have hP6:RepN (fun b=>Apart g v b∧b < w.heap.size) w 3 (itemsD ((n.kids.take (cc+1)).map (tellAt its))) (ys ++ [.bool y.l,.string (bs y.b),.slice A y.ks.length c]):=by
    rw [take_snoc HKA.out,List.map_append,List.map_cons,List.map_nil,hyy,itemsD_append]
    exact RepN.snoc (hy5.mono fun b _ hs=>⟨hs,(hB6.block b hs.2).symm⟩) rfl HP'.out
   have hx6:w5.cell? ⟨w2.heap.size,2,none⟩=some (.slice A' cc c'):=rc2 hX6
   have hXl6:=(Array.getElem?_eq_some_iff.1 hX6).1
   have HP9:=Lib.hid hP6
   clear hX5 hown5 hR5 hB5 hXl hy5 hb5 hyy hP6 HP' hx5
   refine hK.out _ _ (Meets.here hx6 Meets.nil) (fun hMeets=>?_)
   clear hK K hMeets
   refine lay_R ?_
   refine R_now 5 fun K hK=>?_
   have hba:Below w5.heap.size w5 (w5.alloc (.cells #[.bool y.l,.string (bs y.b),.slice A y.ks.length c] 86)):=(Below.refl _ _).alloc (Nat.le_refl _) _
   have hX7:=(hba.block _ hXl6).trans hX6
   have hown7:=own_keep hown6 hba
   have hR7:=hR6.keep hba
   have hB7:=below_call hB6 hB6.size hba
   have hL7:=lies_new w5 #[.bool y.l,.string (bs y.b),.slice A y.ks.length c] 86
   have hs7:(w5.alloc (.cells #[.bool y.l,.string (bs y.b),.slice A y.ks.length c] 86)).heap.size=w5.heap.size+1:=by simp
   have hx7:(w5.alloc (.cells #[.bool y.l,.string (bs y.b),.slice A y.ks.length c] 86)).cell? ⟨w2.heap.size,2,none⟩=some (.slice A' cc c'):=rc2 hX7
   go_simp
   clear hX6 hown6 hR6 hB6 hx6 hba
   refine hK.out _ _ (Meets.here hx7 Meets.nil) (fun hMeets=>?_)
   clear hK K hMeets
   refine lay_R ?_
   refine R_now 6 fun K hK=>?_
   refine stl_append elItem rfl rfl (w2.heap.size+1) hown7 rfl (m:=1) [.bool y.l,.string (bs y.b),.slice A y.ks.length c] rfl rfl hL7 (by intro u hu;simp at hu;rcases hu with rfl | rfl | rfl <;> rfl) (by simp only [maxLen];omega) (by omega) (by omega) ?_
   intro v1 w8 hown1 hg1 hat1
   obtain ⟨A1,cc1,rfl⟩:=own_form hown1
   have hX8:=(hg1.block w2.heap.size (by omega) (fun e=>by have:=hXu _ e.symm;omega)).trans hX7
   have hR8:=hR7.of_block (hg1.block w.heap.size (by omega) (fun e=>by have:=hXu _ e.symm;omega))
   have hB8:=below_app hB7 hown7 hg1 (by omega) (by omega)
   have hx8:w8.cell? ⟨w2.heap.size,2,none⟩=some (.slice A' cc c'):=rc2 hX8
   have hf8:=rf hX8 2
   have HX9:Hid ((w8.setCell ⟨w2.heap.size,2,none⟩ (.slice A1 (cc+1) cc1)).heap[w2.heap.size]? = some (.cells #[.bool true,.string (bs []),(.slice A1 (cc+1) cc1)] 86 (0,0))):=Lib.hid (heap_setCell_here hX8 _)
   have HW9:=Lib.hid (own_setOther (g:=w2.heap.size) (i:=2) hown1 (by omega) (.slice A1 (cc+1) cc1))
   have HR9:=Lib.hid (hR8.of_block (heap_set_ne (b:=w2.heap.size) (i:=2) (by omega) (.slice A1 (cc+1) cc1)))
   have HB9:=Lib.hid (hB8.setCell (p:=⟨w2.heap.size,2,none⟩) hw2 (.slice A1 (cc+1) cc1))
   clear hX7 hown7 hR7 hB7 hL7 hx7 hX8 hR8 hB8 hown1 hg1 hat1
   try simp only [Act.put,List.setIfInBounds_toArray,List.set_cons_zero,List.set_cons_succ,List.getElem_toArray,List.getElem_cons_zero,List.getElem_cons_succ]
   refine hK.out _ _ (Meets.past (by kernel_rfl) Meets.nil) (fun hMeets=>?_)
   clear hK K hMeets
   refine lay_R ?_
   refine R_p (i:=7) (v:=.pointer (some ⟨w2.heap.size,2,none⟩)) (Meets.past (by kernel_rfl) Meets.nil) ?_
   refine R_now 8 fun K hK=>?_
   go_simp
   refine hK.out _ _ (Meets.past (by kernel_rfl) Meets.nil) (fun hMeets=>?_)
   clear hK K hMeets
   refine lay_R ?_
   refine R_done (by kernel_rfl) ?_ _
   go_wp2_with fail
   go_roundw
   case rel=>exact ⟨cc+1,ys ++ [.bool y.l,.string (bs y.b),.slice A y.ks.length c],.slice A1 (cc+1) cc1,by go_num,by omega,HX9.out,HW9.out,HP9.out,HR9.out,HB9.out⟩
   case measure=>simp [intOf];omega
  ·obtain rfl:cc=16:=by omega
   have x0:wr.cell? ⟨w2.heap.size,0,none⟩=some (.bool true):=by rw [cell_of_row _ _ _ _ _ _ hX'];rfl
   have x1:wr.cell? ⟨w2.heap.size,1,none⟩=some (.string (bs [])):=by rw [cell_of_row _ _ _ _ _ _ hX'];rfl
   have x2:wr.cell? ⟨w2.heap.size,2,none⟩=some (.slice A' 16 c'):=by rw [cell_of_row _ _ _ _ _ _ hX'];rfl
   have xv:wr.cell? ⟨w.heap.size,2,none⟩=some (.string (bs n.value)):=hR'.cell (j:=2) rfl
   have hba:Below wr.heap.size wr (wr.alloc (.cells #[.bool false,.string (bs n.value),.slice none 0 0] 86)):=(Below.refl _ _).alloc (Nat.le_refl _) _
   have hown5:=own_keep hown' hba
   have k2:=ca x2 (.cells #[.bool false,.string (bs n.value),.slice none 0 0] 86)
   have hX5:=(hba.block _ hXl).trans hX'
   have hB5:=below_call hB' hB'.size hba
   have HX5:=Lib.hid hX5
   have HB5:=Lib.hid hB5
   have HP5:=Lib.hid hrep'
   have HNE:=Lib.hid hXu
   have hwl:wr.heap.size < (wr.alloc (.cells #[.bool false,.string (bs n.value),.slice none 0 0] 86)).heap.size:=by simp
   clear hX' hown' hrep' hR' hB' hba hX5 hB5 hXu
   go_wp2_with (at_builtin;refine wpl_append elItem rfl rfl (w2.heap.size+1) hown5 rfl (m:=1) (itemC (leafIt n.value) none 0) rfl rfl ?_ ?_ ?_ ?_ ?_ ?_;exact (lies_new wr #[.bool false,.string (bs n.value),.slice none 0 0] _);exact (itemC_one _ _ _);(simp only [maxLen];omega);omega;omega;intro v1 w4 hown1 hg1 hat1;obtain ⟨AX,CX,rfl⟩:=own_form hown1;have hX6:=(hg1.block w2.heap.size (by omega) (fun e=>by have:=HNE.out _ e.symm;omega)).trans HX5.out;have d0:=rc0 hX6;have d1:=rc1 hX6;have d2:=rc2 hX6;have df:=rf hX6 2;have HX6:=Lib.hid hX6;clear hX6)
   obtain ⟨W6,hW6⟩:∃ W6,W6=w4.setCell ⟨w2.heap.size,2,none⟩ (.slice AX 17 CX):=⟨_,rfl⟩
   have hX6:W6.heap[w2.heap.size]? = some (.cells #[.bool true,.string (bs []),.slice AX 17 CX] 86 (0,0)):=by rw [hW6];exact heap_setCell_here HX6.out _
   have hB6:Below w.heap.size w W6:=by rw [hW6];exact (below_app HB5.out hown5 hg1 (by omega) (by omega)).setCell (p:=⟨w2.heap.size,2,none⟩) hw2 _
   have hown6:W6.ownsRow (w2.heap.size+1) 86 3 (.slice AX 17 CX) 17 (ys ++ itemC (leafIt n.value) none 0):=by rw [hW6];exact own_setOther hown1 (by omega) _
   have hS6:=HS.out.keep hB6
   have hkl:(n.kids.map (tellAt its) ++ [leafIt n.value]).length=17:=by simp [HN.out.wide]
   have hP6:RepN (Apart g v) W6 3 (itemsD (n.kids.map (tellAt its) ++ [leafIt n.value])) (ys ++ itemC (leafIt n.value) none 0):=by
    rw [itemsD_append]
    have hp:=HP5.out
    rw [List.take_of_length_le (by rw [HN.out.wide];omega)] at hp
    exact RepN.snoc (ItemV.leaf n.value false) rfl (RepN.mono hp fun b hb hs=>⟨hs.1,hB6.block b hb⟩)
   have hxv:ItemV (Apart g v) W6 (nodeIt its n) AX CX:=by
    rw [HNX.out]
    refine itemV_mk ?_
    show Rep _ _ (.sl 3 (itemsD (n.kids.map (tellAt its) ++ [leafIt n.value]))) [.slice AX (n.kids.map (tellAt its) ++ [leafIt n.value]).length CX]
    rw [hkl]
    exact rep_own hown6 hP6 (by rw [itemsD_len,hkl]) (fun b h1 h2=>⟨by omega,fun e=>by have:=(HS.out.own.lt _ e).2;omega⟩)
   have HL:Hid ((nodeIt its n).l=true∧(nodeIt its n).b = []∧(nodeIt its n).ks.length=17):=Lib.hid (by rw [HNX.out];exact ⟨rfl,rfl,hkl⟩)
   rw [← hW6]
   have hE:=Encode_any (nodeIt its n) AX CX W6 (by have:=HN.out.len;omega) hxv.any
   rw [enc_fine HN.out,HL.out.1,HL.out.2.1,HL.out.2.2] at hE
   have HE:=Lib.hid hE
   have HX3:=Lib.hid hxv
   have HS3:=Lib.hid hS6
   have HB3:=Lib.hid hB6
   have HXR:=Lib.hid hX6
   clear hE hxv hS6 hB6 hX6 hW6 hown6 hkl hP6 d0 d1 d2 df HX6 hown1 hg1 hat1 hown5 k2 HX5 HB5 HP5 HNE x0 x1 x2 xv hwl
   refine HE.out.mono ?_
   rintro e w4 ⟨rfl,hb4⟩
   have hS4:=HS3.out.keep hb4
   have hX4:=HX3.out.keep hb4
   have hXR4:=(hb4.block _ (Array.getElem?_eq_some_iff.1 HXR.out).1).trans HXR.out
   have hB4:=below_call HB3.out HB3.out.size hb4
   have z1:=hS4.cell1
   have z2:=hS4.free 1
   clear HE HX3 HS3 HB3 HXR hb4
   try clear HS2 HB2 HXV HB HR e0 e00
   have HS4:=Lib.hid hS4
   have HX4:=Lib.hid hX4
   have HR4:=Lib.hid hXR4
   have HB4:=Lib.hid hB4
   clear hS4 hX4 hXR4 hB4
   go_wp2_with fail
   ·refine (sum_any (writeP (nodeIt its n)) (by have:=HN.out.len;omega) _).mono ?_
    rintro e w5 ⟨rfl,hb5⟩
    obtain ⟨y,hy⟩:∃ y,y=leafIt (sumK (writeP (nodeIt its n))):=⟨_,rfl⟩
    have hty:tellP (nodeIt its n)=y:=by unfold tellP;rw [if_pos (by omega),hy]
    have hXw:w.heap.size≤w2.heap.size:=hw2
    have hS5:=(HS4.out.set (writeP (nodeIt its n))).keep hb5
    have hT5:=((ArnTo.of_below (g:=g) (v:=v) HB4.out).setg 1 (.string (bs (writeP (nodeIt its n))))).trans (ArnTo.of_below hb5)
    have hX4:(w4.setCell ⟨g,1,none⟩ (.string (bs (writeP (nodeIt its n))))).heap[w2.heap.size]? = _:=(heap_set_ne (by omega) _).trans HR4.out
    have hX5:=(hb5.block _ (Array.getElem?_eq_some_iff.1 hX4).1).trans hX4
    have hkk:∀ k,k < w.heap.size→k≠g→w5.heap[k]? = w.heap[k]?:=fun k h1 h2 =>
     (hb5.block k (by have:=HB4.out.size;simp;omega)).trans ((heap_set_ne h2 _).trans (HB4.out.block k h1))
    clear hb5 hX4 HS4 HX4 HR4 HB4 z1 z2
    have d0:w5.cell? ⟨w2.heap.size,0,none⟩=some (.bool true):=by rw [cell_of_row _ _ _ _ _ _ hX5];rfl
    have d1:w5.cell? ⟨w2.heap.size,1,none⟩=some (.string (bs [])):=by rw [cell_of_row _ _ _ _ _ _ hX5];rfl
    have d2:w5.cell? ⟨w2.heap.size,2,none⟩=some (.slice AX 17 CX):=by rw [cell_of_row _ _ _ _ _ _ hX5];rfl
    have f0:w5.frozen? ⟨w2.heap.size,0,none⟩=false:=by simp [World.frozen?,hX5]
    have f1:w5.frozen? ⟨w2.heap.size,1,none⟩=false:=by simp [World.frozen?,hX5]
    have f2:w5.frozen? ⟨w2.heap.size,2,none⟩=false:=by simp [World.frozen?,hX5]
    have z5:=hS5.cell1
    have HP5:=Lib.hid hS5.ptr
    have HT5':=Lib.hid hT5
    have HX5':=Lib.hid hX5
    have HKK:=Lib.hid hkk
    clear hS5 hT5 hX5 hkk
    go_wp2_with fail
    obtain ⟨X,hX⟩:∃ X,X=w2.heap.size:=⟨_,rfl⟩
    rw [← hX] at HX5' hXw ⊢
    obtain ⟨W,hW⟩:∃ W,W=((w5.setCell ⟨X,0,none⟩ (.bool false)).setCell ⟨X,1,none⟩ (.string (bs (sumK (writeP (nodeIt its n)))))).setCell ⟨X,2,none⟩ (.slice none 0 0):=⟨_,rfl⟩
    obtain ⟨A,hA⟩:∃ A,A=(none:Option Addr):=⟨_,rfl⟩
    obtain ⟨c,hc⟩:∃ c,c=0:=⟨_,rfl⟩
    have HS5:Hid (SumV W g v its (writeP (nodeIt its n)) xs):=Lib.hid (by
     rw [hW]
     refine HS.out.later ?_ (fun k h1 h2=>?_)
     ·rw [heap_set_ne (by omega),heap_set_ne (by omega),heap_set_ne (by omega)];exact HP5.out
     ·rw [heap_set_ne (by omega),heap_set_ne (by omega),heap_set_ne (by omega)];exact HKK.out k h1 h2)
    have HY:Hid (ItemV (Apart g v) W y A c):=Lib.hid (by rw [hy,hA,hc];exact ItemV.leaf _ _)
    have HXR:Hid (W.heap[X]? = some (.cells #[.bool y.l,.string (bs y.b),.slice A y.ks.length c] 86 (0,0))):=Lib.hid (by
     rw [hW,hA,hc,hy]
     exact heap_setCell_here (heap_setCell_here (heap_setCell_here HX5'.out _) _) _)
    have HT5:Hid (ArnTo g v w W v):=Lib.hid (by rw [hW];exact ((HT5'.out.set hXw _).set hXw _).set hXw _)
    rw [← hW]
    clear hW hA hc hy HT5' HX5' d0 d1 d2 f0 f1 f2 hX HP5 HKK z5
    refine wp_region_held_drew (S:=fun w'=>w'.heap[X]? = some (.cells #[.bool y.l,.string (bs y.b),.slice A y.ks.length c] 86 (0,0))) (by kernel_rfl) HXR.out (fun hHeld=>?_)
    refine H_t (i:=0) (v:=.pointer (some ⟨g,0,none⟩)) rfl (Or.inl ⟨by rfl,fun w' hS=>by go_simp⟩) hHeld ?_
    refine H_t (i:=1) (v:=.pointer (some ⟨g,0,none⟩)) rfl (Or.inl ⟨by rfl,fun w' hS=>by go_simp⟩) hHeld ?_
    refine H_t (i:=2) (v:=.pointer (some ⟨g,0,none⟩)) rfl (Or.inl ⟨by rfl,fun w' hS=>by go_simp⟩) hHeld ?_
    refine H_t (i:=4) (v:=.agg #[.bool y.l,.string (bs y.b),.slice A y.ks.length c]) rfl (yieldsIf_load_row rfl rfl rfl (fun w' hS=>hS) Tryz.underlying86 rfl infoI) hHeld ?_
    have hbd:Below W.heap.size W W.drew:=(Below.refl _ _).drew
    have hS6:=HS5.out.keep hbd
    have hY6:=HY.out.keep hbd
    have hT6:=HT5.out.trans (ArnTo.of_below hbd)
    have hXR6:W.drew.heap[X]? = _:=HXR.out
    generalize W.drew=W6 at hS6 hY6 hT6 hXR6 ⊢
    have z0:=hS6.cell0
    rw [HVV.out] at z0
    refine wpAnyH_ready (rs:=[3,6]) (by kernel_rfl) (by simp) ?_
    refine AllReadyH.cons rfl (fun K hK=>?_) (AllReadyH.cons rfl (fun K hK=>?_) AllReadyH.nil)
    ·go_simp
     refine hK.out _ _ hXR6 (fun hHeld=>?_)
     clear hK K
     refine lay_H ?_
     refine H_t (i:=5) (v:=.int .i64 (its.length:Int)) rfl (Or.inl ⟨by rfl,fun w' hS=>by go_simp⟩) hHeld ?_
     refine H_now 6 fun K hK=>?_
     have hba:Below W6.heap.size W6 (W6.alloc (.cells #[.bool false,.string ⟨#[]⟩,.slice none 0 0] 86)):=(Below.refl _ _).alloc (Nat.le_refl _) _
     have hS7:=hS6.keep hba
     have hY7:=hY6.keep hba
     have hT7:=hT6.trans (ArnTo.of_below hba)
     have hXR7:=(hba.block _ (Array.getElem?_eq_some_iff.1 hXR6).1).trans hXR6
     have hL7:=lies_new W6 #[.bool false,.string ⟨#[]⟩,.slice none 0 0] 86
     go_simp
     refine hK.out _ _ hXR7 (fun hHeld=>?_)
     clear hK K
     refine lay_H ?_
     refine H_now 7 fun K hK=>?_
     have hown7:(W6.alloc (.cells #[.bool false,.string ⟨#[]⟩,.slice none 0 0] 86)).ownsRow (g+1) 86 3 (.slice A0 its.length c0) its.length xs:=by rw [← HVV.out];exact hS7.own
     have hgl7:=hS7.lt
     refine stl_append elItem rfl rfl (g+1) hown7 rfl (m:=1) [.bool false,.string ⟨#[]⟩,.slice none 0 0] rfl rfl hL7 (by intro u hu;simp at hu;rcases hu with rfl | rfl | rfl <;> rfl) (by simp only [maxLen];omega) (by omega) (by omega) ?_
     intro v1 w8 hown1 hg1 hat1
     rw [← HVV.out] at hg1 hat1
     have hxl:xs.length=its.length * 3:=hS7.own.1
     have hne:some g≠v.ownBlock:=fun e=>by have:=(hS7.own.lt _ e.symm).1;omega
     obtain ⟨g1,k1,cur1,rfl,hg1b,_,hk1,hk2,_,_⟩:=hown1.2.resolve_left (fun h=>by omega)
     have hc0:=hown1.cellAt (its.length * 3) (by omega)
     have hc1:=hown1.cellAt (its.length * 3+1) (by omega)
     have hc2:=hown1.cellAt (its.length * 3+2) (by omega)
     rw [List.getElem?_append_right (by omega),hxl] at hc0 hc1 hc2
     simp only [Nat.sub_self,Nat.add_sub_cancel_left,List.getElem?_cons_zero,List.getElem?_cons_succ] at hc0 hc1 hc2
     have hf0:=hown1.frozenAt (its.length * 3)
     have hf1:=hown1.frozenAt (its.length * 3+1)
     have hf2:=hown1.frozenAt (its.length * 3+2)
     have z8:w8.cell? ⟨g,0,none⟩=some v:=hg1.cell hS7.cell0 hne
     have f8:w8.frozen? ⟨g,0,none⟩=false:=(World.frozen?_of_block (hg1.block g hgl7 hne)).trans (hS7.free 0)
     rw [HVV.out] at z8
     have hXne:some X≠v.ownBlock:=fun e=>by have:=(HS.out.own.lt _ e.symm).2;omega
     have hXl:=(Array.getElem?_eq_some_iff.1 hXR7).1
     have hXR8:=(hg1.block X hXl hXne).trans hXR7
     have hg1g:g1≠g:=by omega
     have hXg1:X≠g1:=fun e=>by
      rcases hat1 with h | h
      ·exact hXne (by rw [← h,e];rfl)
      ·injection h with h;simp only [] at h;omega
     try simp only [Act.put,List.setIfInBounds_toArray,List.set_cons_zero,List.set_cons_succ,List.getElem_toArray,List.getElem_cons_zero,List.getElem_cons_succ]
     refine hK.out _ _ hXR8 (fun hHeld=>?_)
     clear hK K
     refine lay_H ?_
     have hlI:(its.length:Int) < (its.length:Int)+1:=by omega
     refine H_t (i:=8) (v:=.pointer (some ⟨g1,its.length * 3,none⟩)) rfl (Or.inl ⟨by rfl,fun w' hS=>by go_simp⟩) hHeld ?_
     refine H_t (i:=10) (v:=.pointer (some ⟨g,0,none⟩)) rfl (Or.inl ⟨by rfl,fun w' hS=>by go_simp⟩) hHeld ?_
     refine H_t (i:=11) (v:=.pointer (some ⟨g,0,none⟩)) rfl (Or.inl ⟨by rfl,fun w' hS=>by go_simp⟩) hHeld ?_
     have hKg:∀ k,k < (W6.alloc (.cells #[.bool false,.string ⟨#[]⟩,.slice none 0 0] 86)).heap.size→Apart g v k→k≠g1:=fun k h1 h2 e=>by
      rcases hat1 with h | h
      ·exact h2.2 (by rw [← h,e];rfl)
      ·injection h with h;simp only [] at h;omega
     have hp8:=(hg1.block g hgl7 hne).trans hS7.ptr
     refine wpAnyH_ready (rs:=[9,12]) (by kernel_rfl) (by simp) ?_
     refine AllReadyH.cons rfl (fun K hK=>?_) (AllReadyH.cons rfl (fun K hK=>?_) AllReadyH.nil)
     ·have z9:(((w8.setCell ⟨g1,its.length * 3,none⟩ (.bool y.l)).setCell ⟨g1,its.length * 3+1,none⟩ (.string (bs y.b))).setCell ⟨g1,its.length * 3+2,none⟩ (.slice A y.ks.length c)).cell? ⟨g,0,none⟩=some (.slice A0 its.length c0):=by rw [World.cell?_setCell_far _ _ _ _ (by simpa using hg1g),World.cell?_setCell_far _ _ _ _ (by simpa using hg1g),World.cell?_setCell_far _ _ _ _ (by simpa using hg1g)];exact z8
      have hX9:(((w8.setCell ⟨g1,its.length * 3,none⟩ (.bool y.l)).setCell ⟨g1,its.length * 3+1,none⟩ (.string (bs y.b))).setCell ⟨g1,its.length * 3+2,none⟩ (.slice A y.ks.length c)).heap[X]? = _:=(heap_set_ne hXg1 _).trans ((heap_set_ne hXg1 _).trans ((heap_set_ne hXg1 _).trans hXR8))
      have hp9:(((w8.setCell ⟨g1,its.length * 3,none⟩ (.bool y.l)).setCell ⟨g1,its.length * 3+1,none⟩ (.string (bs y.b))).setCell ⟨g1,its.length * 3+2,none⟩ (.slice A y.ks.length c)).heap[g]? = _:=(heap_set_ne hg1g.symm _).trans ((heap_set_ne hg1g.symm _).trans ((heap_set_ne hg1g.symm _).trans hp8))
      have st1:=(World.ownsRow.stored hown1 (its.length * 3) (.bool y.l)).1
      have st2:=(st1.stored (its.length * 3+1) (.string (bs y.b))).1
      have st3:=(st2.stored (its.length * 3+2) (.slice A y.ks.length c)).1
      rw [set3 hxl] at st3
      have hfin:=add_fin (W':=((((w8.setCell ⟨g1,its.length * 3,none⟩ (.bool y.l)).setCell ⟨g1,its.length * 3+1,none⟩ (.string (bs y.b))).setCell ⟨g1,its.length * 3+2,none⟩ (.slice A y.ks.length c)).setCell ⟨g,0,none⟩ (.slice (some ⟨g1,0,none⟩) (its.length+1) k1))) hS7 hY7 hT7 hat1 (heap_setCell_here hp9 _) (own_setOther st3 (by omega) _) ⟨hg1.os,hg1.tape,hg1.output,by simpa using hg1.size⟩ (fun k h1 h2=>(heap_set_ne h2.1 _).trans ((heap_set_ne (hKg k h1 h2) _).trans ((heap_set_ne (hKg k h1 h2) _).trans ((heap_set_ne (hKg k h1 h2) _).trans (hg1.block k h1 (fun e=>h2.2 e.symm))))))
      have HFIN:=Lib.hid hfin
      clear hfin st1 st2 st3 hp9
      go_simp
      refine hK.out _ _ hX9 (fun hHeld=>?_)
      clear hK K
      refine lay_H ?_
      refine H_now 12 fun K hK=>?_
      go_simp
      refine hK.out _ _ ((heap_set_ne (by omega) _).trans hX9) (fun hHeld=>?_)
      clear hK K
      refine lay_H ?_
      refine wpAnyH_done (by kernel_rfl) ?_ _
      go_wp2_with fail
      go_end0
      exact ⟨rfl,_,_,by rw [hty];exact HFIN.out.1,HFIN.out.2⟩
     ·have hX9:(w8.setCell ⟨g,0,none⟩ (.slice (some ⟨g1,0,none⟩) (its.length+1) k1)).heap[X]? = _:=(heap_set_ne (by omega) _).trans hXR8
      have hp9:(w8.setCell ⟨g,0,none⟩ (.slice (some ⟨g1,0,none⟩) (its.length+1) k1)).heap[g]? = some (.cells #[(.slice (some ⟨g1,0,none⟩) (its.length+1) k1),.string (bs (writeP (nodeIt its n)))] 127 (0,0)):=heap_setCell_here hp8 _
      have ho9:(w8.setCell ⟨g,0,none⟩ (.slice (some ⟨g1,0,none⟩) (its.length+1) k1)).ownsRow (g+1) 86 3 (.slice (some ⟨g1,0,none⟩) (its.length+1) k1) (its.length+1) (xs ++ [.bool false,.string ⟨#[]⟩,.slice none 0 0]):=own_setOther hown1 (by omega) _
      have st1:=(World.ownsRow.stored ho9 (its.length * 3) (.bool y.l)).1
      have st2:=(st1.stored (its.length * 3+1) (.string (bs y.b))).1
      have st3:=(st2.stored (its.length * 3+2) (.slice A y.ks.length c)).1
      rw [set3 hxl] at st3
      have hfin:=add_fin (W':=((((w8.setCell ⟨g,0,none⟩ (.slice (some ⟨g1,0,none⟩) (its.length+1) k1)).setCell ⟨g1,its.length * 3,none⟩ (.bool y.l)).setCell ⟨g1,its.length * 3+1,none⟩ (.string (bs y.b))).setCell ⟨g1,its.length * 3+2,none⟩ (.slice A y.ks.length c))) hS7 hY7 hT7 hat1 ((heap_set_ne hg1g.symm _).trans ((heap_set_ne hg1g.symm _).trans ((heap_set_ne hg1g.symm _).trans hp9))) st3 ⟨hg1.os,hg1.tape,hg1.output,by simpa using hg1.size⟩ (fun k h1 h2=>(heap_set_ne (hKg k h1 h2) _).trans ((heap_set_ne (hKg k h1 h2) _).trans ((heap_set_ne (hKg k h1 h2) _).trans ((heap_set_ne h2.1 _).trans (hg1.block k h1 (fun e=>h2.2 e.symm))))))
      have HFIN:=Lib.hid hfin
      have hd0:(w8.setCell ⟨g,0,none⟩ (.slice (some ⟨g1,0,none⟩) (its.length+1) k1)).cell? ⟨g1,its.length * 3,none⟩=some (.bool false):=by rw [World.cell?_setCell_far _ _ _ _ (by simpa using hg1g.symm)];exact hc0
      have hd1:(w8.setCell ⟨g,0,none⟩ (.slice (some ⟨g1,0,none⟩) (its.length+1) k1)).cell? ⟨g1,its.length * 3+1,none⟩=some (.string ⟨#[]⟩):=by rw [World.cell?_setCell_far _ _ _ _ (by simpa using hg1g.symm)];exact hc1
      have hd2:(w8.setCell ⟨g,0,none⟩ (.slice (some ⟨g1,0,none⟩) (its.length+1) k1)).cell? ⟨g1,its.length * 3+2,none⟩=some (.slice none 0 0):=by rw [World.cell?_setCell_far _ _ _ _ (by simpa using hg1g.symm)];exact hc2
      clear hfin st1 st2 st3 hp9 ho9
      go_simp
      refine hK.out _ _ hX9 (fun hHeld=>?_)
      clear hK K
      refine lay_H ?_
      refine H_now 9 fun K hK=>?_
      go_simp
      refine hK.out _ _ ((heap_set_ne hXg1 _).trans ((heap_set_ne hXg1 _).trans ((heap_set_ne hXg1 _).trans hX9))) (fun hHeld=>?_)
      clear hK K
      refine lay_H ?_
      refine wpAnyH_done (by kernel_rfl) ?_ _
      go_wp2_with fail
      go_end0
      exact ⟨rfl,_,_,by rw [hty];exact HFIN.out.1,HFIN.out.2⟩
    ·go_simp
     have hba:Below W6.heap.size W6 (W6.alloc (.cells #[.bool false,.string ⟨#[]⟩,.slice none 0 0] 86)):=(Below.refl _ _).alloc (Nat.le_refl _) _
     have hS7:=hS6.keep hba
     have hY7:=hY6.keep hba
     have hT7:=hT6.trans (ArnTo.of_below hba)
     have hXR7:=(hba.block _ (Array.getElem?_eq_some_iff.1 hXR6).1).trans hXR6
     have hL7:=lies_new W6 #[.bool false,.string ⟨#[]⟩,.slice none 0 0] 86
     have z7:=hS7.cell0
     rw [HVV.out] at z7
     refine hK.out _ _ hXR7 (fun hHeld=>?_)
     clear hK K
     refine lay_H ?_
     refine H_now 3 fun K hK=>?_
     go_simp
     refine hK.out _ _ hXR7 (fun hHeld=>?_)
     clear hK K
     refine lay_H ?_
     refine H_t (i:=5) (v:=.int .i64 (its.length:Int)) rfl (Or.inl ⟨by rfl,fun w' hS=>by go_simp⟩) hHeld ?_
     refine H_now 7 fun K hK=>?_
     have hown7:(W6.alloc (.cells #[.bool false,.string ⟨#[]⟩,.slice none 0 0] 86)).ownsRow (g+1) 86 3 (.slice A0 its.length c0) its.length xs:=by rw [← HVV.out];exact hS7.own
     have hgl7:=hS7.lt
     refine stl_append elItem rfl rfl (g+1) hown7 rfl (m:=1) [.bool false,.string ⟨#[]⟩,.slice none 0 0] rfl rfl hL7 (by intro u hu;simp at hu;rcases hu with rfl | rfl | rfl <;> rfl) (by simp only [maxLen];omega) (by omega) (by omega) ?_
     intro v1 w8 hown1 hg1 hat1
     rw [← HVV.out] at hg1 hat1
     have hxl:xs.length=its.length * 3:=hS7.own.1
     have hne:some g≠v.ownBlock:=fun e=>by have:=(hS7.own.lt _ e.symm).1;omega
     obtain ⟨g1,k1,cur1,rfl,hg1b,_,hk1,hk2,_,_⟩:=hown1.2.resolve_left (fun h=>by omega)
     have hc0:=hown1.cellAt (its.length * 3) (by omega)
     have hc1:=hown1.cellAt (its.length * 3+1) (by omega)
     have hc2:=hown1.cellAt (its.length * 3+2) (by omega)
     rw [List.getElem?_append_right (by omega),hxl] at hc0 hc1 hc2
     simp only [Nat.sub_self,Nat.add_sub_cancel_left,List.getElem?_cons_zero,List.getElem?_cons_succ] at hc0 hc1 hc2
     have hf0:=hown1.frozenAt (its.length * 3)
     have hf1:=hown1.frozenAt (its.length * 3+1)
     have hf2:=hown1.frozenAt (its.length * 3+2)
     have z8:w8.cell? ⟨g,0,none⟩=some v:=hg1.cell hS7.cell0 hne
     have f8:w8.frozen? ⟨g,0,none⟩=false:=(World.frozen?_of_block (hg1.block g hgl7 hne)).trans (hS7.free 0)
     rw [HVV.out] at z8
     have hXne:some X≠v.ownBlock:=fun e=>by have:=(HS.out.own.lt _ e.symm).2;omega
     have hXl:=(Array.getElem?_eq_some_iff.1 hXR7).1
     have hXR8:=(hg1.block X hXl hXne).trans hXR7
     have hg1g:g1≠g:=by omega
     have hXg1:X≠g1:=fun e=>by
      rcases hat1 with h | h
      ·exact hXne (by rw [← h,e];rfl)
      ·injection h with h;simp only [] at h;omega
     try simp only [Act.put,List.setIfInBounds_toArray,List.set_cons_zero,List.set_cons_succ,List.getElem_toArray,List.getElem_cons_zero,List.getElem_cons_succ]
     refine hK.out _ _ hXR8 (fun hHeld=>?_)
     clear hK K
     refine lay_H ?_
     have hlI:(its.length:Int) < (its.length:Int)+1:=by omega
     refine H_t (i:=8) (v:=.pointer (some ⟨g1,its.length * 3,none⟩)) rfl (Or.inl ⟨by rfl,fun w' hS=>by go_simp⟩) hHeld ?_
     refine H_t (i:=10) (v:=.pointer (some ⟨g,0,none⟩)) rfl (Or.inl ⟨by rfl,fun w' hS=>by go_simp⟩) hHeld ?_
     refine H_t (i:=11) (v:=.pointer (some ⟨g,0,none⟩)) rfl (Or.inl ⟨by rfl,fun w' hS=>by go_simp⟩) hHeld ?_
     have hKg:∀ k,k < (W6.alloc (.cells #[.bool false,.string ⟨#[]⟩,.slice none 0 0] 86)).heap.size→Apart g v k→k≠g1:=fun k h1 h2 e=>by
      rcases hat1 with h | h
      ·exact h2.2 (by rw [← h,e];rfl)
      ·injection h with h;simp only [] at h;omega
     have hp8:=(hg1.block g hgl7 hne).trans hS7.ptr
     refine wpAnyH_ready (rs:=[9,12]) (by kernel_rfl) (by simp) ?_
     refine AllReadyH.cons rfl (fun K hK=>?_) (AllReadyH.cons rfl (fun K hK=>?_) AllReadyH.nil)
     ·have z9:(((w8.setCell ⟨g1,its.length * 3,none⟩ (.bool y.l)).setCell ⟨g1,its.length * 3+1,none⟩ (.string (bs y.b))).setCell ⟨g1,its.length * 3+2,none⟩ (.slice A y.ks.length c)).cell? ⟨g,0,none⟩=some (.slice A0 its.length c0):=by rw [World.cell?_setCell_far _ _ _ _ (by simpa using hg1g),World.cell?_setCell_far _ _ _ _ (by simpa using hg1g),World.cell?_setCell_far _ _ _ _ (by simpa using hg1g)];exact z8
      have hX9:(((w8.setCell ⟨g1,its.length * 3,none⟩ (.bool y.l)).setCell ⟨g1,its.length * 3+1,none⟩ (.string (bs y.b))).setCell ⟨g1,its.length * 3+2,none⟩ (.slice A y.ks.length c)).heap[X]? = _:=(heap_set_ne hXg1 _).trans ((heap_set_ne hXg1 _).trans ((heap_set_ne hXg1 _).trans hXR8))
      have hp9:(((w8.setCell ⟨g1,its.length * 3,none⟩ (.bool y.l)).setCell ⟨g1,its.length * 3+1,none⟩ (.string (bs y.b))).setCell ⟨g1,its.length * 3+2,none⟩ (.slice A y.ks.length c)).heap[g]? = _:=(heap_set_ne hg1g.symm _).trans ((heap_set_ne hg1g.symm _).trans ((heap_set_ne hg1g.symm _).trans hp8))
      have st1:=(World.ownsRow.stored hown1 (its.length * 3) (.bool y.l)).1
      have st2:=(st1.stored (its.length * 3+1) (.string (bs y.b))).1
      have st3:=(st2.stored (its.length * 3+2) (.slice A y.ks.length c)).1
      rw [set3 hxl] at st3
      have hfin:=add_fin (W':=((((w8.setCell ⟨g1,its.length * 3,none⟩ (.bool y.l)).setCell ⟨g1,its.length * 3+1,none⟩ (.string (bs y.b))).setCell ⟨g1,its.length * 3+2,none⟩ (.slice A y.ks.length c)).setCell ⟨g,0,none⟩ (.slice (some ⟨g1,0,none⟩) (its.length+1) k1))) hS7 hY7 hT7 hat1 (heap_setCell_here hp9 _) (own_setOther st3 (by omega) _) ⟨hg1.os,hg1.tape,hg1.output,by simpa using hg1.size⟩ (fun k h1 h2=>(heap_set_ne h2.1 _).trans ((heap_set_ne (hKg k h1 h2) _).trans ((heap_set_ne (hKg k h1 h2) _).trans ((heap_set_ne (hKg k h1 h2) _).trans (hg1.block k h1 (fun e=>h2.2 e.symm))))))
      have HFIN:=Lib.hid hfin
      clear hfin st1 st2 st3 hp9
      go_simp
      refine hK.out _ _ hX9 (fun hHeld=>?_)
      clear hK K
      refine lay_H ?_
      refine H_now 12 fun K hK=>?_
      go_simp
      refine hK.out _ _ ((heap_set_ne (by omega) _).trans hX9) (fun hHeld=>?_)
      clear hK K
      refine lay_H ?_
      refine wpAnyH_done (by kernel_rfl) ?_ _
      go_wp2_with fail
      go_end0
      exact ⟨rfl,_,_,by rw [hty];exact HFIN.out.1,HFIN.out.2⟩
     ·have hX9:(w8.setCell ⟨g,0,none⟩ (.slice (some ⟨g1,0,none⟩) (its.length+1) k1)).heap[X]? = _:=(heap_set_ne (by omega) _).trans hXR8
      have hp9:(w8.setCell ⟨g,0,none⟩ (.slice (some ⟨g1,0,none⟩) (its.length+1) k1)).heap[g]? = some (.cells #[(.slice (some ⟨g1,0,none⟩) (its.length+1) k1),.string (bs (writeP (nodeIt its n)))] 127 (0,0)):=heap_setCell_here hp8 _
      have ho9:(w8.setCell ⟨g,0,none⟩ (.slice (some ⟨g1,0,none⟩) (its.length+1) k1)).ownsRow (g+1) 86 3 (.slice (some ⟨g1,0,none⟩) (its.length+1) k1) (its.length+1) (xs ++ [.bool false,.string ⟨#[]⟩,.slice none 0 0]):=own_setOther hown1 (by omega) _
      have st1:=(World.ownsRow.stored ho9 (its.length * 3) (.bool y.l)).1
      have st2:=(st1.stored (its.length * 3+1) (.string (bs y.b))).1
      have st3:=(st2.stored (its.length * 3+2) (.slice A y.ks.length c)).1
      rw [set3 hxl] at st3
      have hfin:=add_fin (W':=((((w8.setCell ⟨g,0,none⟩ (.slice (some ⟨g1,0,none⟩) (its.length+1) k1)).setCell ⟨g1,its.length * 3,none⟩ (.bool y.l)).setCell ⟨g1,its.length * 3+1,none⟩ (.string (bs y.b))).setCell ⟨g1,its.length * 3+2,none⟩ (.slice A y.ks.length c))) hS7 hY7 hT7 hat1 ((heap_set_ne hg1g.symm _).trans ((heap_set_ne hg1g.symm _).trans ((heap_set_ne hg1g.symm _).trans hp9))) st3 ⟨hg1.os,hg1.tape,hg1.output,by simpa using hg1.size⟩ (fun k h1 h2=>(heap_set_ne (hKg k h1 h2) _).trans ((heap_set_ne (hKg k h1 h2) _).trans ((heap_set_ne (hKg k h1 h2) _).trans ((heap_set_ne h2.1 _).trans (hg1.block k h1 (fun e=>h2.2 e.symm))))))
      have HFIN:=Lib.hid hfin
      have hd0:(w8.setCell ⟨g,0,none⟩ (.slice (some ⟨g1,0,none⟩) (its.length+1) k1)).cell? ⟨g1,its.length * 3,none⟩=some (.bool false):=by rw [World.cell?_setCell_far _ _ _ _ (by simpa using hg1g.symm)];exact hc0
      have hd1:(w8.setCell ⟨g,0,none⟩ (.slice (some ⟨g1,0,none⟩) (its.length+1) k1)).cell? ⟨g1,its.length * 3+1,none⟩=some (.string ⟨#[]⟩):=by rw [World.cell?_setCell_far _ _ _ _ (by simpa using hg1g.symm)];exact hc1
      have hd2:(w8.setCell ⟨g,0,none⟩ (.slice (some ⟨g1,0,none⟩) (its.length+1) k1)).cell? ⟨g1,its.length * 3+2,none⟩=some (.slice none 0 0):=by rw [World.cell?_setCell_far _ _ _ _ (by simpa using hg1g.symm)];exact hc2
      clear hfin st1 st2 st3 hp9 ho9
      go_simp
      refine hK.out _ _ hX9 (fun hHeld=>?_)
      clear hK K
      refine lay_H ?_
      refine H_now 9 fun K hK=>?_
      go_simp
      refine hK.out _ _ ((heap_set_ne hXg1 _).trans ((heap_set_ne hXg1 _).trans ((heap_set_ne hXg1 _).trans hX9))) (fun hHeld=>?_)
      clear hK K
      refine lay_H ?_
      refine wpAnyH_done (by kernel_rfl) ?_ _
      go_wp2_with fail
      go_end0
      exact ⟨rfl,_,_,by rw [hty];exact HFIN.out.1,HFIN.out.2⟩
   ·obtain ⟨y,hy⟩:∃ y,y=nodeIt its n:=⟨_,rfl⟩
    have hty:tellP (nodeIt its n)=y:=by unfold tellP;rw [if_neg (by omega),hy]
    obtain ⟨X,hX⟩:∃ X,X=w2.heap.size:=⟨_,rfl⟩
    obtain ⟨W,hW⟩:∃ W,W=w4.setCell ⟨g,1,none⟩ (.string (bs (writeP (nodeIt its n)))):=⟨_,rfl⟩
    obtain ⟨A,hA⟩:∃ A,A=AX:=⟨_,rfl⟩
    obtain ⟨c,hc⟩:∃ c,c=CX:=⟨_,rfl⟩
    have HS5:Hid (SumV W g v its (writeP (nodeIt its n)) xs):=Lib.hid (by rw [hW];exact HS4.out.set _)
    have HY:Hid (ItemV (Apart g v) W y A c):=Lib.hid (by rw [hW,hy,hA,hc];exact HX4.out.mono fun b _ hb=>⟨hb,heap_set_ne hb.1 _⟩)
    have HXR:Hid (W.heap[X]? = some (.cells #[.bool y.l,.string (bs y.b),.slice A y.ks.length c] 86 (0,0))):=Lib.hid (by
     rw [hW,hX,hA,hc,hy,HL.out.1,HL.out.2.1,HL.out.2.2]
     exact (heap_set_ne (by have:=HB4.out.size;omega) _).trans HR4.out)
    have HT5:Hid (ArnTo g v w W v):=Lib.hid (by rw [hW];exact (ArnTo.of_below HB4.out).setg _ _)
    have hXw:w.heap.size≤X:=by rw [hX];exact hw2
    rw [← hX,← hW]
    clear hW hX hA hc hy HS4 HX4 HR4 HB4 z1 z2
    refine wp_region_held_drew (S:=fun w'=>w'.heap[X]? = some (.cells #[.bool y.l,.string (bs y.b),.slice A y.ks.length c] 86 (0,0))) (by kernel_rfl) HXR.out (fun hHeld=>?_)
    refine H_t (i:=0) (v:=.pointer (some ⟨g,0,none⟩)) rfl (Or.inl ⟨by rfl,fun w' hS=>by go_simp⟩) hHeld ?_
    refine H_t (i:=1) (v:=.pointer (some ⟨g,0,none⟩)) rfl (Or.inl ⟨by rfl,fun w' hS=>by go_simp⟩) hHeld ?_
    refine H_t (i:=2) (v:=.pointer (some ⟨g,0,none⟩)) rfl (Or.inl ⟨by rfl,fun w' hS=>by go_simp⟩) hHeld ?_
    refine H_t (i:=4) (v:=.agg #[.bool y.l,.string (bs y.b),.slice A y.ks.length c]) rfl (yieldsIf_load_row rfl rfl rfl (fun w' hS=>hS) Tryz.underlying86 rfl infoI) hHeld ?_
    have hbd:Below W.heap.size W W.drew:=(Below.refl _ _).drew
    have hS6:=HS5.out.keep hbd
    have hY6:=HY.out.keep hbd
    have hT6:=HT5.out.trans (ArnTo.of_below hbd)
    have hXR6:W.drew.heap[X]? = _:=HXR.out
    generalize W.drew=W6 at hS6 hY6 hT6 hXR6 ⊢
    have z0:=hS6.cell0
    rw [HVV.out] at z0
    refine wpAnyH_ready (rs:=[3,6]) (by kernel_rfl) (by simp) ?_
    refine AllReadyH.cons rfl (fun K hK=>?_) (AllReadyH.cons rfl (fun K hK=>?_) AllReadyH.nil)
    ·go_simp
     refine hK.out _ _ hXR6 (fun hHeld=>?_)
     clear hK K
     refine lay_H ?_
     refine H_t (i:=5) (v:=.int .i64 (its.length:Int)) rfl (Or.inl ⟨by rfl,fun w' hS=>by go_simp⟩) hHeld ?_
     refine H_now 6 fun K hK=>?_
     have hba:Below W6.heap.size W6 (W6.alloc (.cells #[.bool false,.string ⟨#[]⟩,.slice none 0 0] 86)):=(Below.refl _ _).alloc (Nat.le_refl _) _
     have hS7:=hS6.keep hba
     have hY7:=hY6.keep hba
     have hT7:=hT6.trans (ArnTo.of_below hba)
     have hXR7:=(hba.block _ (Array.getElem?_eq_some_iff.1 hXR6).1).trans hXR6
     have hL7:=lies_new W6 #[.bool false,.string ⟨#[]⟩,.slice none 0 0] 86
     go_simp
     refine hK.out _ _ hXR7 (fun hHeld=>?_)
     clear hK K
     refine lay_H ?_
     refine H_now 7 fun K hK=>?_
     have hown7:(W6.alloc (.cells #[.bool false,.string ⟨#[]⟩,.slice none 0 0] 86)).ownsRow (g+1) 86 3 (.slice A0 its.length c0) its.length xs:=by rw [← HVV.out];exact hS7.own
     have hgl7:=hS7.lt
     refine stl_append elItem rfl rfl (g+1) hown7 rfl (m:=1) [.bool false,.string ⟨#[]⟩,.slice none 0 0] rfl rfl hL7 (by intro u hu;simp at hu;rcases hu with rfl | rfl | rfl <;> rfl) (by simp only [maxLen];omega) (by omega) (by omega) ?_
     intro v1 w8 hown1 hg1 hat1
     rw [← HVV.out] at hg1 hat1
     have hxl:xs.length=its.length * 3:=hS7.own.1
     have hne:some g≠v.ownBlock:=fun e=>by have:=(hS7.own.lt _ e.symm).1;omega
     obtain ⟨g1,k1,cur1,rfl,hg1b,_,hk1,hk2,_,_⟩:=hown1.2.resolve_left (fun h=>by omega)
     have hc0:=hown1.cellAt (its.length * 3) (by omega)
     have hc1:=hown1.cellAt (its.length * 3+1) (by omega)
     have hc2:=hown1.cellAt (its.length * 3+2) (by omega)
     rw [List.getElem?_append_right (by omega),hxl] at hc0 hc1 hc2
     simp only [Nat.sub_self,Nat.add_sub_cancel_left,List.getElem?_cons_zero,List.getElem?_cons_succ] at hc0 hc1 hc2
     have hf0:=hown1.frozenAt (its.length * 3)
     have hf1:=hown1.frozenAt (its.length * 3+1)
     have hf2:=hown1.frozenAt (its.length * 3+2)
     have z8:w8.cell? ⟨g,0,none⟩=some v:=hg1.cell hS7.cell0 hne
     have f8:w8.frozen? ⟨g,0,none⟩=false:=(World.frozen?_of_block (hg1.block g hgl7 hne)).trans (hS7.free 0)
     rw [HVV.out] at z8
     have hXne:some X≠v.ownBlock:=fun e=>by have:=(HS.out.own.lt _ e.symm).2;omega
     have hXl:=(Array.getElem?_eq_some_iff.1 hXR7).1
     have hXR8:=(hg1.block X hXl hXne).trans hXR7
     have hg1g:g1≠g:=by omega
     have hXg1:X≠g1:=fun e=>by
      rcases hat1 with h | h
      ·exact hXne (by rw [← h,e];rfl)
      ·injection h with h;simp only [] at h;omega
     try simp only [Act.put,List.setIfInBounds_toArray,List.set_cons_zero,List.set_cons_succ,List.getElem_toArray,List.getElem_cons_zero,List.getElem_cons_succ]
     refine hK.out _ _ hXR8 (fun hHeld=>?_)
     clear hK K
     refine lay_H ?_
     have hlI:(its.length:Int) < (its.length:Int)+1:=by omega
     refine H_t (i:=8) (v:=.pointer (some ⟨g1,its.length * 3,none⟩)) rfl (Or.inl ⟨by rfl,fun w' hS=>by go_simp⟩) hHeld ?_
     refine H_t (i:=10) (v:=.pointer (some ⟨g,0,none⟩)) rfl (Or.inl ⟨by rfl,fun w' hS=>by go_simp⟩) hHeld ?_
     refine H_t (i:=11) (v:=.pointer (some ⟨g,0,none⟩)) rfl (Or.inl ⟨by rfl,fun w' hS=>by go_simp⟩) hHeld ?_
     have hKg:∀ k,k < (W6.alloc (.cells #[.bool false,.string ⟨#[]⟩,.slice none 0 0] 86)).heap.size→Apart g v k→k≠g1:=fun k h1 h2 e=>by
      rcases hat1 with h | h
      ·exact h2.2 (by rw [← h,e];rfl)
      ·injection h with h;simp only [] at h;omega
     have hp8:=(hg1.block g hgl7 hne).trans hS7.ptr
     refine wpAnyH_ready (rs:=[9,12]) (by kernel_rfl) (by simp) ?_
     refine AllReadyH.cons rfl (fun K hK=>?_) (AllReadyH.cons rfl (fun K hK=>?_) AllReadyH.nil)
     ·have z9:(((w8.setCell ⟨g1,its.length * 3,none⟩ (.bool y.l)).setCell ⟨g1,its.length * 3+1,none⟩ (.string (bs y.b))).setCell ⟨g1,its.length * 3+2,none⟩ (.slice A y.ks.length c)).cell? ⟨g,0,none⟩=some (.slice A0 its.length c0):=by rw [World.cell?_setCell_far _ _ _ _ (by simpa using hg1g),World.cell?_setCell_far _ _ _ _ (by simpa using hg1g),World.cell?_setCell_far _ _ _ _ (by simpa using hg1g)];exact z8
      have hX9:(((w8.setCell ⟨g1,its.length * 3,none⟩ (.bool y.l)).setCell ⟨g1,its.length * 3+1,none⟩ (.string (bs y.b))).setCell ⟨g1,its.length * 3+2,none⟩ (.slice A y.ks.length c)).heap[X]? = _:=(heap_set_ne hXg1 _).trans ((heap_set_ne hXg1 _).trans ((heap_set_ne hXg1 _).trans hXR8))
      have hp9:(((w8.setCell ⟨g1,its.length * 3,none⟩ (.bool y.l)).setCell ⟨g1,its.length * 3+1,none⟩ (.string (bs y.b))).setCell ⟨g1,its.length * 3+2,none⟩ (.slice A y.ks.length c)).heap[g]? = _:=(heap_set_ne hg1g.symm _).trans ((heap_set_ne hg1g.symm _).trans ((heap_set_ne hg1g.symm _).trans hp8))
      have st1:=(World.ownsRow.stored hown1 (its.length * 3) (.bool y.l)).1
      have st2:=(st1.stored (its.length * 3+1) (.string (bs y.b))).1
      have st3:=(st2.stored (its.length * 3+2) (.slice A y.ks.length c)).1
      rw [set3 hxl] at st3
      have hfin:=add_fin (W':=((((w8.setCell ⟨g1,its.length * 3,none⟩ (.bool y.l)).setCell ⟨g1,its.length * 3+1,none⟩ (.string (bs y.b))).setCell ⟨g1,its.length * 3+2,none⟩ (.slice A y.ks.length c)).setCell ⟨g,0,none⟩ (.slice (some ⟨g1,0,none⟩) (its.length+1) k1))) hS7 hY7 hT7 hat1 (heap_setCell_here hp9 _) (own_setOther st3 (by omega) _) ⟨hg1.os,hg1.tape,hg1.output,by simpa using hg1.size⟩ (fun k h1 h2=>(heap_set_ne h2.1 _).trans ((heap_set_ne (hKg k h1 h2) _).trans ((heap_set_ne (hKg k h1 h2) _).trans ((heap_set_ne (hKg k h1 h2) _).trans (hg1.block k h1 (fun e=>h2.2 e.symm))))))
      have HFIN:=Lib.hid hfin
      clear hfin st1 st2 st3 hp9
      go_simp
      refine hK.out _ _ hX9 (fun hHeld=>?_)
      clear hK K
      refine lay_H ?_
      refine H_now 12 fun K hK=>?_
      go_simp
      refine hK.out _ _ ((heap_set_ne (by omega) _).trans hX9) (fun hHeld=>?_)
      clear hK K
      refine lay_H ?_
      refine wpAnyH_done (by kernel_rfl) ?_ _
      go_wp2_with fail
      go_end0
      exact ⟨rfl,_,_,by rw [hty];exact HFIN.out.1,HFIN.out.2⟩
     ·have hX9:(w8.setCell ⟨g,0,none⟩ (.slice (some ⟨g1,0,none⟩) (its.length+1) k1)).heap[X]? = _:=(heap_set_ne (by omega) _).trans hXR8
      have hp9:(w8.setCell ⟨g,0,none⟩ (.slice (some ⟨g1,0,none⟩) (its.length+1) k1)).heap[g]? = some (.cells #[(.slice (some ⟨g1,0,none⟩) (its.length+1) k1),.string (bs (writeP (nodeIt its n)))] 127 (0,0)):=heap_setCell_here hp8 _
      have ho9:(w8.setCell ⟨g,0,none⟩ (.slice (some ⟨g1,0,none⟩) (its.length+1) k1)).ownsRow (g+1) 86 3 (.slice (some ⟨g1,0,none⟩) (its.length+1) k1) (its.length+1) (xs ++ [.bool false,.string ⟨#[]⟩,.slice none 0 0]):=own_setOther hown1 (by omega) _
      have st1:=(World.ownsRow.stored ho9 (its.length * 3) (.bool y.l)).1
      have st2:=(st1.stored (its.length * 3+1) (.string (bs y.b))).1
      have st3:=(st2.stored (its.length * 3+2) (.slice A y.ks.length c)).1
      rw [set3 hxl] at st3
      have hfin:=add_fin (W':=((((w8.setCell ⟨g,0,none⟩ (.slice (some ⟨g1,0,none⟩) (its.length+1) k1)).setCell ⟨g1,its.length * 3,none⟩ (.bool y.l)).setCell ⟨g1,its.length * 3+1,none⟩ (.string (bs y.b))).setCell ⟨g1,its.length * 3+2,none⟩ (.slice A y.ks.length c))) hS7 hY7 hT7 hat1 ((heap_set_ne hg1g.symm _).trans ((heap_set_ne hg1g.symm _).trans ((heap_set_ne hg1g.symm _).trans hp9))) st3 ⟨hg1.os,hg1.tape,hg1.output,by simpa using hg1.size⟩ (fun k h1 h2=>(heap_set_ne (hKg k h1 h2) _).trans ((heap_set_ne (hKg k h1 h2) _).trans ((heap_set_ne (hKg k h1 h2) _).trans ((heap_set_ne h2.1 _).trans (hg1.block k h1 (fun e=>h2.2 e.symm))))))
      have HFIN:=Lib.hid hfin
      have hd0:(w8.setCell ⟨g,0,none⟩ (.slice (some ⟨g1,0,none⟩) (its.length+1) k1)).cell? ⟨g1,its.length * 3,none⟩=some (.bool false):=by rw [World.cell?_setCell_far _ _ _ _ (by simpa using hg1g.symm)];exact hc0
      have hd1:(w8.setCell ⟨g,0,none⟩ (.slice (some ⟨g1,0,none⟩) (its.length+1) k1)).cell? ⟨g1,its.length * 3+1,none⟩=some (.string ⟨#[]⟩):=by rw [World.cell?_setCell_far _ _ _ _ (by simpa using hg1g.symm)];exact hc1
      have hd2:(w8.setCell ⟨g,0,none⟩ (.slice (some ⟨g1,0,none⟩) (its.length+1) k1)).cell? ⟨g1,its.length * 3+2,none⟩=some (.slice none 0 0):=by rw [World.cell?_setCell_far _ _ _ _ (by simpa using hg1g.symm)];exact hc2
      clear hfin st1 st2 st3 hp9 ho9
      go_simp
      refine hK.out _ _ hX9 (fun hHeld=>?_)
      clear hK K
      refine lay_H ?_
      refine H_now 9 fun K hK=>?_
      go_simp
      refine hK.out _ _ ((heap_set_ne hXg1 _).trans ((heap_set_ne hXg1 _).trans ((heap_set_ne hXg1 _).trans hX9))) (fun hHeld=>?_)
      clear hK K
      refine lay_H ?_
      refine wpAnyH_done (by kernel_rfl) ?_ _
      go_wp2_with fail
      go_end0
      exact ⟨rfl,_,_,by rw [hty];exact HFIN.out.1,HFIN.out.2⟩
    ·go_simp
     have hba:Below W6.heap.size W6 (W6.alloc (.cells #[.bool false,.string ⟨#[]⟩,.slice none 0 0] 86)):=(Below.refl _ _).alloc (Nat.le_refl _) _
     have hS7:=hS6.keep hba
     have hY7:=hY6.keep hba
     have hT7:=hT6.trans (ArnTo.of_below hba)
     have hXR7:=(hba.block _ (Array.getElem?_eq_some_iff.1 hXR6).1).trans hXR6
     have hL7:=lies_new W6 #[.bool false,.string ⟨#[]⟩,.slice none 0 0] 86
     have z7:=hS7.cell0
     rw [HVV.out] at z7
     refine hK.out _ _ hXR7 (fun hHeld=>?_)
     clear hK K
     refine lay_H ?_
     refine H_now 3 fun K hK=>?_
     go_simp
     refine hK.out _ _ hXR7 (fun hHeld=>?_)
     clear hK K
     refine lay_H ?_
     refine H_t (i:=5) (v:=.int .i64 (its.length:Int)) rfl (Or.inl ⟨by rfl,fun w' hS=>by go_simp⟩) hHeld ?_
     refine H_now 7 fun K hK=>?_
     have hown7:(W6.alloc (.cells #[.bool false,.string ⟨#[]⟩,.slice none 0 0] 86)).ownsRow (g+1) 86 3 (.slice A0 its.length c0) its.length xs:=by rw [← HVV.out];exact hS7.own
     have hgl7:=hS7.lt
     refine stl_append elItem rfl rfl (g+1) hown7 rfl (m:=1) [.bool false,.string ⟨#[]⟩,.slice none 0 0] rfl rfl hL7 (by intro u hu;simp at hu;rcases hu with rfl | rfl | rfl <;> rfl) (by simp only [maxLen];omega) (by omega) (by omega) ?_
     intro v1 w8 hown1 hg1 hat1
     rw [← HVV.out] at hg1 hat1
     have hxl:xs.length=its.length * 3:=hS7.own.1
     have hne:some g≠v.ownBlock:=fun e=>by have:=(hS7.own.lt _ e.symm).1;omega
     obtain ⟨g1,k1,cur1,rfl,hg1b,_,hk1,hk2,_,_⟩:=hown1.2.resolve_left (fun h=>by omega)
     have hc0:=hown1.cellAt (its.length * 3) (by omega)
     have hc1:=hown1.cellAt (its.length * 3+1) (by omega)
     have hc2:=hown1.cellAt (its.length * 3+2) (by omega)
     rw [List.getElem?_append_right (by omega),hxl] at hc0 hc1 hc2
     simp only [Nat.sub_self,Nat.add_sub_cancel_left,List.getElem?_cons_zero,List.getElem?_cons_succ] at hc0 hc1 hc2
     have hf0:=hown1.frozenAt (its.length * 3)
     have hf1:=hown1.frozenAt (its.length * 3+1)
     have hf2:=hown1.frozenAt (its.length * 3+2)
     have z8:w8.cell? ⟨g,0,none⟩=some v:=hg1.cell hS7.cell0 hne
     have f8:w8.frozen? ⟨g,0,none⟩=false:=(World.frozen?_of_block (hg1.block g hgl7 hne)).trans (hS7.free 0)
     rw [HVV.out] at z8
     have hXne:some X≠v.ownBlock:=fun e=>by have:=(HS.out.own.lt _ e.symm).2;omega
     have hXl:=(Array.getElem?_eq_some_iff.1 hXR7).1
     have hXR8:=(hg1.block X hXl hXne).trans hXR7
     have hg1g:g1≠g:=by omega
     have hXg1:X≠g1:=fun e=>by
      rcases hat1 with h | h
      ·exact hXne (by rw [← h,e];rfl)
      ·injection h with h;simp only [] at h;omega
     try simp only [Act.put,List.setIfInBounds_toArray,List.set_cons_zero,List.set_cons_succ,List.getElem_toArray,List.getElem_cons_zero,List.getElem_cons_succ]
     refine hK.out _ _ hXR8 (fun hHeld=>?_)
     clear hK K
     refine lay_H ?_
     have hlI:(its.length:Int) < (its.length:Int)+1:=by omega
     refine H_t (i:=8) (v:=.pointer (some ⟨g1,its.length * 3,none⟩)) rfl (Or.inl ⟨by rfl,fun w' hS=>by go_simp⟩) hHeld ?_
     refine H_t (i:=10) (v:=.pointer (some ⟨g,0,none⟩)) rfl (Or.inl ⟨by rfl,fun w' hS=>by go_simp⟩) hHeld ?_
     refine H_t (i:=11) (v:=.pointer (some ⟨g,0,none⟩)) rfl (Or.inl ⟨by rfl,fun w' hS=>by go_simp⟩) hHeld ?_
     have hKg:∀ k,k < (W6.alloc (.cells #[.bool false,.string ⟨#[]⟩,.slice none 0 0] 86)).heap.size→Apart g v k→k≠g1:=fun k h1 h2 e=>by
      rcases hat1 with h | h
      ·exact h2.2 (by rw [← h,e];rfl)
      ·injection h with h;simp only [] at h;omega
     have hp8:=(hg1.block g hgl7 hne).trans hS7.ptr
     refine wpAnyH_ready (rs:=[9,12]) (by kernel_rfl) (by simp) ?_
     refine AllReadyH.cons rfl (fun K hK=>?_) (AllReadyH.cons rfl (fun K hK=>?_) AllReadyH.nil)
     ·have z9:(((w8.setCell ⟨g1,its.length * 3,none⟩ (.bool y.l)).setCell ⟨g1,its.length * 3+1,none⟩ (.string (bs y.b))).setCell ⟨g1,its.length * 3+2,none⟩ (.slice A y.ks.length c)).cell? ⟨g,0,none⟩=some (.slice A0 its.length c0):=by rw [World.cell?_setCell_far _ _ _ _ (by simpa using hg1g),World.cell?_setCell_far _ _ _ _ (by simpa using hg1g),World.cell?_setCell_far _ _ _ _ (by simpa using hg1g)];exact z8
      have hX9:(((w8.setCell ⟨g1,its.length * 3,none⟩ (.bool y.l)).setCell ⟨g1,its.length * 3+1,none⟩ (.string (bs y.b))).setCell ⟨g1,its.length * 3+2,none⟩ (.slice A y.ks.length c)).heap[X]? = _:=(heap_set_ne hXg1 _).trans ((heap_set_ne hXg1 _).trans ((heap_set_ne hXg1 _).trans hXR8))
      have hp9:(((w8.setCell ⟨g1,its.length * 3,none⟩ (.bool y.l)).setCell ⟨g1,its.length * 3+1,none⟩ (.string (bs y.b))).setCell ⟨g1,its.length * 3+2,none⟩ (.slice A y.ks.length c)).heap[g]? = _:=(heap_set_ne hg1g.symm _).trans ((heap_set_ne hg1g.symm _).trans ((heap_set_ne hg1g.symm _).trans hp8))
      have st1:=(World.ownsRow.stored hown1 (its.length * 3) (.bool y.l)).1
      have st2:=(st1.stored (its.length * 3+1) (.string (bs y.b))).1
      have st3:=(st2.stored (its.length * 3+2) (.slice A y.ks.length c)).1
      rw [set3 hxl] at st3
      have hfin:=add_fin (W':=((((w8.setCell ⟨g1,its.length * 3,none⟩ (.bool y.l)).setCell ⟨g1,its.length * 3+1,none⟩ (.string (bs y.b))).setCell ⟨g1,its.length * 3+2,none⟩ (.slice A y.ks.length c)).setCell ⟨g,0,none⟩ (.slice (some ⟨g1,0,none⟩) (its.length+1) k1))) hS7 hY7 hT7 hat1 (heap_setCell_here hp9 _) (own_setOther st3 (by omega) _) ⟨hg1.os,hg1.tape,hg1.output,by simpa using hg1.size⟩ (fun k h1 h2=>(heap_set_ne h2.1 _).trans ((heap_set_ne (hKg k h1 h2) _).trans ((heap_set_ne (hKg k h1 h2) _).trans ((heap_set_ne (hKg k h1 h2) _).trans (hg1.block k h1 (fun e=>h2.2 e.symm))))))
      have HFIN:=Lib.hid hfin
      clear hfin st1 st2 st3 hp9
      go_simp
      refine hK.out _ _ hX9 (fun hHeld=>?_)
      clear hK K
      refine lay_H ?_
      refine H_now 12 fun K hK=>?_
      go_simp
      refine hK.out _ _ ((heap_set_ne (by omega) _).trans hX9) (fun hHeld=>?_)
      clear hK K
      refine lay_H ?_
      refine wpAnyH_done (by kernel_rfl) ?_ _
      go_wp2_with fail
      go_end0
      exact ⟨rfl,_,_,by rw [hty];exact HFIN.out.1,HFIN.out.2⟩
     ·have hX9:(w8.setCell ⟨g,0,none⟩ (.slice (some ⟨g1,0,none⟩) (its.length+1) k1)).heap[X]? = _:=(heap_set_ne (by omega) _).trans hXR8
      have hp9:(w8.setCell ⟨g,0,none⟩ (.slice (some ⟨g1,0,none⟩) (its.length+1) k1)).heap[g]? = some (.cells #[(.slice (some ⟨g1,0,none⟩) (its.length+1) k1),.string (bs (writeP (nodeIt its n)))] 127 (0,0)):=heap_setCell_here hp8 _
      have ho9:(w8.setCell ⟨g,0,none⟩ (.slice (some ⟨g1,0,none⟩) (its.length+1) k1)).ownsRow (g+1) 86 3 (.slice (some ⟨g1,0,none⟩) (its.length+1) k1) (its.length+1) (xs ++ [.bool false,.string ⟨#[]⟩,.slice none 0 0]):=own_setOther hown1 (by omega) _
      have st1:=(World.ownsRow.stored ho9 (its.length * 3) (.bool y.l)).1
      have st2:=(st1.stored (its.length * 3+1) (.string (bs y.b))).1
      have st3:=(st2.stored (its.length * 3+2) (.slice A y.ks.length c)).1
      rw [set3 hxl] at st3
      have hfin:=add_fin (W':=((((w8.setCell ⟨g,0,none⟩ (.slice (some ⟨g1,0,none⟩) (its.length+1) k1)).setCell ⟨g1,its.length * 3,none⟩ (.bool y.l)).setCell ⟨g1,its.length * 3+1,none⟩ (.string (bs y.b))).setCell ⟨g1,its.length * 3+2,none⟩ (.slice A y.ks.length c))) hS7 hY7 hT7 hat1 ((heap_set_ne hg1g.symm _).trans ((heap_set_ne hg1g.symm _).trans ((heap_set_ne hg1g.symm _).trans hp9))) st3 ⟨hg1.os,hg1.tape,hg1.output,by simpa using hg1.size⟩ (fun k h1 h2=>(heap_set_ne (hKg k h1 h2) _).trans ((heap_set_ne (hKg k h1 h2) _).trans ((heap_set_ne (hKg k h1 h2) _).trans ((heap_set_ne h2.1 _).trans (hg1.block k h1 (fun e=>h2.2 e.symm))))))
      have HFIN:=Lib.hid hfin
      have hd0:(w8.setCell ⟨g,0,none⟩ (.slice (some ⟨g1,0,none⟩) (its.length+1) k1)).cell? ⟨g1,its.length * 3,none⟩=some (.bool false):=by rw [World.cell?_setCell_far _ _ _ _ (by simpa using hg1g.symm)];exact hc0
      have hd1:(w8.setCell ⟨g,0,none⟩ (.slice (some ⟨g1,0,none⟩) (its.length+1) k1)).cell? ⟨g1,its.length * 3+1,none⟩=some (.string ⟨#[]⟩):=by rw [World.cell?_setCell_far _ _ _ _ (by simpa using hg1g.symm)];exact hc1
      have hd2:(w8.setCell ⟨g,0,none⟩ (.slice (some ⟨g1,0,none⟩) (its.length+1) k1)).cell? ⟨g1,its.length * 3+2,none⟩=some (.slice none 0 0):=by rw [World.cell?_setCell_far _ _ _ _ (by simpa using hg1g.symm)];exact hc2
      clear hfin st1 st2 st3 hp9 ho9
      go_simp
      refine hK.out _ _ hX9 (fun hHeld=>?_)
      clear hK K
      refine lay_H ?_
      refine H_now 9 fun K hK=>?_
      go_simp
      refine hK.out _ _ ((heap_set_ne hXg1 _).trans ((heap_set_ne hXg1 _).trans ((heap_set_ne hXg1 _).trans hX9))) (fun hHeld=>?_)
      clear hK K
      refine lay_H ?_
      refine wpAnyH_done (by kernel_rfl) ?_ _
      go_wp2_with fail
      go_end0
      exact ⟨rfl,_,_,by rw [hty];exact HFIN.out.1,HFIN.out.2⟩
end Go.Proofs.YtdfmheademcbkaaGreat
