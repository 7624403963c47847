/- The walk of the reference's item: a branch. -/
import Derived.Test.YtdfmheademcbkaaGreatZ43
import Derived.Test.YtdfmheademcbkaaGreatZ03
namespace Go.Proofs.YtdfmheademcbkaaGreat
set_option linter.unusedVariables false
set_option linter.unusedSimpArgs false
open Go.RowKit
set_option maxHeartbeats 4000000
set_option maxRecDepth 100000
theorem item_branch (N:Nat) (hT:ToldSaid N) (hN:N+1≤66) (p q:KV) (r0:List KV) (hk0:¬ 0 < comP (p :: q :: r0)) (A:Option Addr) (c:Nat) (w:World) (hin:ItIn (N+1) (p :: q :: r0)) (hv:KVs Any w (p :: q :: r0) A c) :
  Calls Tryz.prog 100 #[.slice A (p :: q :: r0).length c] w (ItPost (itemP (N+1) (p :: q :: r0)) w):=by
 have hit:=itemP_branch N p q r0 hk0
 have hil:∀ c,ItIn N (cutK (p :: q :: r0) c):=fun c=>⟨short_cut hin.short c,rise_cut hin.rise c,half_cut hin.half c,small_cut hin.small c,by
  unfold cutK;rw [lessP_len];have:=List.length_filter_le (fun p:KV=>p.1.head? == some (UInt8.ofNat c)) (p :: q :: r0);have:=hin.le;unfold pickP;omega⟩
 have hcl:∀ x∈p :: q :: r0,x.1.length≤1000:=fun x hx=>by have:=hin.short x hx;omega
 have htv:=getP_nil hin.rise
 obtain ⟨r,hrr⟩:∃ r:List KV,r=q :: r0:=⟨_,rfl⟩
 have hr1:1≤r.length:=by rw [hrr];simp
 rw [← hrr] at hin hv hit hil hcl hk0 htv ⊢
 clear hrr
 have hb:Below w.heap.size w (w.alloc (.cells #[.bool false,.string ⟨#[]⟩,.slice none 0 0] 86)):=(Below.refl _ _).alloc (Nat.le_refl _) _
 have hr:(w.alloc (.cells #[.bool false,.string ⟨#[]⟩,.slice none 0 0] 86)).heap[w.heap.size]? = some (.cells #[.bool false,.string ⟨#[]⟩,.slice none 0 0] 86 (0,0)):=heap_alloc_new w _
 have HC:=Lib.hid (refCommon_any p r (by have:=hin.le;omega) (fun q hq=>by have:=hin.short q hq;omega) A c _ (hv.keep hb))
 rw [com_ref hin.rise] at HC
 obtain ⟨l,hl⟩:∃ l,p :: r=l:=⟨_,rfl⟩
 have hp0:l[0]? = some p:=by rw [← hl];rfl
 obtain ⟨p1,p2⟩:=p
 have hps:=hin.short (p1,p2) (by simp)
 have hpv:=hin.small (p1,p2) (by simp)
 have hph:=hin.half (p1,p2) (by simp)
 simp only [] at hps hpv hph
 obtain ⟨g,o,rfl,_,k0,k1⟩:=hv.at_ (i:=0) (p:=(p1,p2)) rfl
 simp only [Nat.zero_mul,Nat.add_zero] at k0 k1
 rw [hl] at HC hin hv hit hil hcl hk0 htv ⊢
 have hlen2:2≤l.length:=by rw [← hl];simp;omega
 obtain ⟨k,hke⟩:∃ k,comP l=k:=⟨_,rfl⟩
 rw [hke] at HC hk0
 have hkp:k≤p1.length:=by rw [← hke,← hl];exact comP_len (by rw [hl];exact hin.rise) (p1,p2) (by simp)
 have HKE:=Lib.hid hke
 have HIT:=Lib.hid hit
 have HIL:=Lib.hid hil
 have HCL:=Lib.hid hcl
 have HTV:=Lib.hid htv
 have hk0I:¬ (0:Int) < k:=by omega
 clear hit hil hcl htv
 clear hke
 have hgw:=lt_of_cell k0
 have hlle:=hin.le
 have HIN:=Lib.hid hin
 have HV:=Lib.hid hv
 have HB:=Lib.hid hb
 have HR:=Lib.hid hr
 have HK0:=Lib.hid k0
 have HK1:=Lib.hid k1
 have HP0:=Lib.hid hp0
 have HPH:=Lib.hid hph
 have HL:=Lib.hid hl
 clear hin hv hb hr k0 k1 hp0 hph hl
 go_enter Tryz.func100,Tryz.ntmps100
 go_wp2_with fail
 refine HC.out.mono ?_
 clear HC
 rintro e w1 ⟨rfl,hb1⟩
 have hr1:=(hb1.block _ (Array.getElem?_eq_some_iff.1 HR.out).1).trans HR.out
 have hB1:=below_call HB.out HB.out.size hb1
 have hba:Below w1.heap.size w1 (w1.alloc (.cells #[.bool true,.string ⟨#[]⟩,.slice none 0 0] 86)):=(Below.refl _ _).alloc (Nat.le_refl _) _
 have hR:=(hba.block _ (Array.getElem?_eq_some_iff.1 hr1).1).trans hr1
 have hB:=below_call hB1 hB1.size hba
 have hX:=heap_alloc_new w1 (.cells #[.bool true,.string ⟨#[]⟩,.slice none 0 0] 86)
 have hRX:w.heap.size < w1.heap.size:=(Array.getElem?_eq_some_iff.1 hr1).1
 have HR2:=Lib.hid hR
 have HB2:=Lib.hid hB
 have HX2:=Lib.hid hX
 clear hr1 hB1 hba hR hB hX hb1 HB HR
 have hl1I:((l.length:Int) == 1)=false:=by rw [beq_eq_false_iff_ne];omega
 go_wp2_with fail
 obtain ⟨X,hXe⟩:∃ X,w1.heap.size=X:=⟨_,rfl⟩
 have hX0:=HX2.out
 rw [hXe] at hRX hX0 ⊢
 have HX0:=Lib.hid hX0
 clear hX0 HX2
 go_loopw [5] (fun a wr=>∃ (cc:Nat) (ys:List Value) (u:Value),a=.int .i64 cc∧cc≤16∧wr.heap[X]? = some (.cells #[.bool true,.string ⟨#[]⟩,u] 86 (0,0))∧wr.heap[w.heap.size]? = some (.cells #[.bool false,.string ⟨#[]⟩,.slice none 0 0] 86 (0,0)) ∧
   wr.ownsRow (X+1) 86 3 u cc ys∧RepN (RowS (X+1) u) wr 3 (itemsD ((List.range cc).map fun c=>toldP N (cutK l c))) ys∧Below w.heap.size w wr) (fun a _=>16 - (intOf a).toNat)
 case atStart=>exact ⟨0,[],_,rfl,by omega,HX0.out,HR2.out,World.ownsRow_nil _ _ _ _,.nil,HB2.out⟩
 case round =>
  clear HX0 HR2 HB2
  obtain ⟨cc,ys,u,rfl,hcc,hX,hR,hown,hrep,hB⟩:=hrel
  obtain ⟨A',c',rfl⟩:=own_form hown
  have hXl:=(Array.getElem?_eq_some_iff.1 hX).1
  by_cases hlt:cc < 16
  ·have hlt':(cc:Int) < 16:=by omega
   have HX:=Lib.hid hX
   have HR:=Lib.hid hR
   have HW:=Lib.hid hown
   have HP:=Lib.hid hrep
   have HB:=Lib.hid hB
   clear hX hR hown hrep hB
   go_wp2_with fail
   have hbd:Below wr.heap.size wr wr.drew:=(Below.refl _ _).drew
   have hX:=(hbd.block _ (Array.getElem?_eq_some_iff.1 HX.out).1).trans HX.out
   have hR:=(hbd.block _ (Array.getElem?_eq_some_iff.1 HR.out).1).trans HR.out
   have hown:=own_keep HW.out hbd
   have hrep:=HP.out.keep hbd
   have hB:=below_call HB.out HB.out.size hbd
   have hxs:wr.heap.size=wr.drew.heap.size:=rfl
   rw [hxs] at hXl
   clear hbd HX HR HW HP HB hxs
   refine wp_region_R [(7,fun w'=>w'.cell? ⟨X,2,none⟩=some (.slice A' cc c'))] (by kernel_rfl) ?_
   generalize wr.drew=w3 at hX hR hown hrep hB hXl ⊢
   refine R_p (i:=0) (v:=.pointer (some ⟨X,2,none⟩)) (Meets.here (rc2 hX) Meets.nil) ?_
   refine R_l (i:=1) (v:=.slice A' cc c') 7 _ List.mem_cons_self rfl (yieldsIf_load_cell rfl rfl rfl (fun w' hS=>hS) Tryz.underlying84 rfl) (Meets.here (rc2 hX) Meets.nil) ?_
   refine R_p (i:=2) (v:=.slice (some ⟨g,o,none⟩) l.length c) (Meets.here (rc2 hX) Meets.nil) ?_
   refine R_p (i:=3) (v:=.int .i64 (cc:Int)) (Meets.here (rc2 hX) Meets.nil) ?_
   refine R_now 4 fun K hK=>?_
   go_simp
   refine (refCut_any l hlle cc hlt HCL.out _ _ _ (HV.out.keep hB)).mono ?_
   rintro e w5 ⟨Ac,c5,rfl,hcv,hb5⟩
   replace hR:=(hb5.block _ (Array.getElem?_eq_some_iff.1 hR).1).trans hR
   replace hX:=(hb5.block _ (Array.getElem?_eq_some_iff.1 hX).1).trans hX
   replace hB:=below_call hB hB.size hb5
   replace hown:=own_keep hown hb5
   replace hrep:=hrep.keep hb5
   replace hXl:=Nat.lt_of_lt_of_le hXl hb5.size
   clear hb5
   refine hK.out _ _ (Meets.here (rc2 hX) Meets.nil) (fun hMeets=>?_)
   clear hK K hMeets
   refine lay_R ?_
   have hX5:=hXl
   obtain ⟨y,hye⟩:∃ y,toldP N (cutK l cc)=y:=⟨_,rfl⟩
   have hTC:=hT (cutK l cc) Ac c5 w5 (by omega) (HIL.out cc) hcv
   rw [hye] at hTC
   have HYE:=Lib.hid hye
   clear hye hcv
   have ho5:=hown.lt
   refine R_now 5 fun K hK=>?_
   go_simp
   refine hTC.mono ?_
   clear hTC
   rintro e w6 ⟨Ay,cy,rfl,hy6,hb6⟩
   have hY:ItemV (RowS (X+1) (.slice A' cc c')) w6 y Ay cy:=hy6.mono fun b _ hb=>⟨⟨Nat.le_trans hX5 hb,fun e=>by have h1:=(ho5 _ e).2;have h2:w5.heap.size≤b:=hb;omega⟩,rfl⟩
   clear hy6 ho5
   replace hR:=(hb6.block _ (Array.getElem?_eq_some_iff.1 hR).1).trans hR
   replace hX:=(hb6.block _ (Array.getElem?_eq_some_iff.1 hX).1).trans hX
   replace hB:=below_call hB hB.size hb6
   replace hown:=own_keep hown hb6
   replace hrep:=hrep.keep hb6
   replace hXl:=Nat.lt_of_lt_of_le hXl hb6.size
   clear hb6
   refine hK.out _ _ (Meets.here (rc2 hX) Meets.nil) (fun hMeets=>?_)
   clear hK K hMeets
   refine lay_R ?_
   refine R_now 6 fun K hK=>?_
   have hbb:Below w6.heap.size w6 (w6.alloc (.cells #[.bool y.l,.string (bs y.b),.slice Ay y.ks.length cy] 86)):=(Below.refl _ _).alloc (Nat.le_refl _) _
   replace hR:=(hbb.block _ (Array.getElem?_eq_some_iff.1 hR).1).trans hR
   replace hX:=(hbb.block _ (Array.getElem?_eq_some_iff.1 hX).1).trans hX
   replace hB:=below_call hB hB.size hbb
   replace hown:=own_keep hown hbb
   replace hrep:=hrep.keep hbb
   replace hXl:=Nat.lt_of_lt_of_le hXl hbb.size
   replace hY:=hY.keep hbb
   have hL:=lies_new w6 #[.bool y.l,.string (bs y.b),.slice Ay y.ks.length cy] 86
   clear hbb
   go_simp
   refine hK.out _ _ (Meets.here (rc2 hX) Meets.nil) (fun hMeets=>?_)
   clear hK K hMeets
   refine lay_R ?_
   refine R_now 7 fun K hK=>?_
   refine stl_append elItem rfl rfl (X+1) hown rfl (m:=1) [.bool y.l,.string (bs y.b),.slice Ay y.ks.length cy] rfl rfl hL (by intro u hu;simp at hu;rcases hu with rfl | rfl | rfl <;> rfl) (by simp only [maxLen];omega) (by omega) (by omega) ?_
   intro v1 w8 hown1 hg1 hat1
   obtain ⟨A2,c2,rfl⟩:=own_form hown1
   have hrep8:RepN (RowS (X+1) (.slice A2 (cc+1) c2)) w8 3 (itemsD ((List.range (cc+1)).map fun c=>toldP N (cutK l c))) (ys ++ [.bool y.l,.string (bs y.b),.slice Ay y.ks.length cy]):=by
    rw [List.range_succ,List.map_append,List.map_cons,List.map_nil,HYE.out,itemsD_append]
    exact repN_app (RepN.snoc hY rfl hrep) hg1 hat1
   have hX8:=(hg1.block X hXl (fun e=>by have:=(hown.lt _ e.symm).1;omega)).trans hX
   have hR8:=(hg1.block w.heap.size (by omega) (fun e=>by have:=(hown.lt _ e.symm).1;omega)).trans hR
   have hB8:=below_app hB hown hg1 (by omega) (by omega)
   clear hX hR hB hown hrep hY hL hg1 hat1
   try simp only [Act.put,List.setIfInBounds_toArray,List.set_cons_zero,List.set_cons_succ,List.getElem_toArray,List.getElem_cons_zero,List.getElem_cons_succ]
   refine hK.out _ _ (Meets.past (by kernel_rfl) Meets.nil) (fun hMeets=>?_)
   clear hK K hMeets
   refine lay_R ?_
   refine R_p (i:=8) (v:=.pointer (some ⟨X,2,none⟩)) (Meets.past (by kernel_rfl) Meets.nil) ?_
   have d2:w8.cell? ⟨X,2,none⟩=some (.slice A' cc c'):=rc2 hX8
   have df:=rf hX8 2
   refine R_now 9 fun K hK=>?_
   have HX9:Hid ((w8.setCell ⟨X,2,none⟩ (.slice A2 (cc+1) c2)).heap[X]? = some (.cells #[.bool true,.string ⟨#[]⟩,.slice A2 (cc+1) c2] 86 (0,0))):=Lib.hid (heap_setCell_here hX8 _)
   have HR9:Hid ((w8.setCell ⟨X,2,none⟩ (.slice A2 (cc+1) c2)).heap[w.heap.size]? = some (.cells #[.bool false,.string ⟨#[]⟩,.slice none 0 0] 86 (0,0))):=Lib.hid ((heap_set_ne (by omega) _).trans hR8)
   have HB9:Hid (Below w.heap.size w (w8.setCell ⟨X,2,none⟩ (.slice A2 (cc+1) c2))):=Lib.hid (hB8.setCell (p:=⟨X,2,none⟩) (by simp;omega) _)
   have HO9:=Lib.hid (own_setOther (g:=X) (i:=2) hown1 (by omega) (.slice A2 (cc+1) c2))
   have HP9:Hid (RepN (RowS (X+1) (.slice A2 (cc+1) c2)) (w8.setCell ⟨X,2,none⟩ (.slice A2 (cc+1) c2)) 3 (itemsD ((List.range (cc+1)).map fun c=>toldP N (cutK l c))) (ys ++ [.bool y.l,.string (bs y.b),.slice Ay y.ks.length cy])):=Lib.hid (RepN.mono hrep8 fun b _ hb=>⟨hb,heap_set_ne (by have:=hb.1;omega) _⟩)
   clear hX8 hR8 hB8 hown1 hrep8
   go_simp
   refine hK.out _ _ (Meets.past (by kernel_rfl) Meets.nil) (fun hMeets=>?_)
   clear hK K hMeets
   refine lay_R ?_
   refine R_done (by kernel_rfl) ?_ _
   go_wp2_with fail
   go_roundw
   case rel=>exact ⟨cc+1,ys ++ [.bool y.l,.string (bs y.b),.slice Ay y.ks.length cy],.slice A2 (cc+1) c2,by go_num,by omega,HX9.out,HR9.out,HO9.out,HP9.out,HB9.out⟩
   case measure=>simp [intOf];omega
  ·obtain rfl:cc=16:=by omega
   have HG:=Lib.hid (refGet_any l hlle [] _ _ wr (HV.out.keep hB))
   have HX:=Lib.hid hX
   have HR:=Lib.hid hR
   have HW:=Lib.hid hown
   have HP:=Lib.hid hrep
   have HB:=Lib.hid hB
   clear hX hR hown hrep hB
   go_wp2_with fail
   refine HG.out.mono ?_
   clear HG
   rintro e w5 ⟨b5,rfl,hb5⟩
   rw [HTV.out]
   have hX5:=(hb5.block _ (Array.getElem?_eq_some_iff.1 HX.out).1).trans HX.out
   have hR5:=(hb5.block _ (Array.getElem?_eq_some_iff.1 HR.out).1).trans HR.out
   have hown5:=own_keep HW.out hb5
   have hrep5:=HP.out.keep hb5
   have hB5:=below_call HB.out HB.out.size hb5
   have hXl5:=Nat.lt_of_lt_of_le hXl hb5.size
   have x2:w5.cell? ⟨X,2,none⟩=some (.slice A' 16 c'):=rc2 hX5
   have HX5:=Lib.hid hX5
   have HR5:=Lib.hid hR5
   have HB5:=Lib.hid hB5
   have HW5:=Lib.hid hown5
   have HP5:=Lib.hid hrep5
   obtain ⟨tv,htv⟩:∃ tv,topV l=tv:=⟨_,rfl⟩
   rw [htv] at HIT ⊢
   clear hX5 hR5 hown5 hrep5 hB5 hb5 HX HR HW HP HB htv HTV
   go_wp2_with (at_builtin;refine wpl_append elItem rfl rfl (X+1) (HW5.out.alloc _) rfl (m:=1) (itemC (leafIt tv) none 0) rfl rfl ?_ ?_ ?_ ?_ ?_ ?_;exact (lies_new w5 #[.bool false,.string (bs tv),.slice none 0 0] _);exact (itemC_one _ _ _);(simp only [maxLen];omega);omega;(simp;omega);intro v1 w8 hown1 hg1 hat1;obtain ⟨A2,c2,rfl⟩:=own_form hown1;have hX8:=(hg1.block X (by simp;omega) (fun e=>by have:=(HW5.out.lt _ e.symm).1;omega)).trans ((heap_alloc_old w5 _ hXl5).trans HX5.out);have d2:=rc2 hX8;have df:=rf hX8 2;have d0:=rc0 hX8;have d1:=rc1 hX8;have hR8:=(hg1.block w.heap.size (by simp;omega) (fun e=>by have:=(HW5.out.lt _ e.symm).1;omega)).trans ((heap_alloc_old w5 _ (by omega)).trans HR5.out);have e0:=rc0 hR8;have e1:=rc1 hR8;have e2:=rc2 hR8;have f0:=rf hR8 0;have f1:=rf hR8 1;have f2:=rf hR8 2;have HX8:=Lib.hid hX8;have HR8:=Lib.hid hR8;clear hX8 hR8)
   have hba:Below w5.heap.size w5 (w5.alloc (.cells #[.bool false,.string (bs tv),.slice none 0 0] 86)):=(Below.refl _ _).alloc (Nat.le_refl _) _
   have hP8:RepN (RowS (X+1) (.slice A2 (16+1) c2)) w8 3 (itemsD ((List.range 16).map (fun c=>toldP N (cutK l c)) ++ [leafIt tv])) (ys ++ itemC (leafIt tv) none 0):=by
    rw [itemsD_append];exact repN_app (RepN.snoc (ItemV.leaf tv false) rfl (HP5.out.keep hba)) hg1 hat1
   have hB8:=below_app (below_call HB5.out HB5.out.size hba) (HW5.out.alloc _) hg1 (by simp;omega) (by omega)
   have hO8:(w8.setCell ⟨X,2,none⟩ (.slice A2 17 c2)).ownsRow (X+1) 86 3 (.slice A2 17 c2) 17 (ys ++ itemC (leafIt tv) none 0):=own_setOther hown1 (by omega) _
   have hO:=own_setOther (g:=w.heap.size) (i:=2) (own_setOther (g:=w.heap.size) (i:=1) (own_setOther (g:=w.heap.size) (i:=0) hO8 (by omega) (.bool true)) (by omega) (.string ⟨#[]⟩)) (by omega) (.slice A2 17 c2)
   have hBB:=(((hB8.setCell (p:=⟨X,2,none⟩) (by simp;omega) (.slice A2 17 c2)).setCell (p:=⟨w.heap.size,0,none⟩) (Nat.le_refl _) (.bool true)).setCell (p:=⟨w.heap.size,1,none⟩) (Nat.le_refl _) (.string ⟨#[]⟩)).setCell (p:=⟨w.heap.size,2,none⟩) (Nat.le_refl _) (.slice A2 17 c2)
   have hR9:=(heap_set_ne (b:=X) (i:=2) (by omega) (.slice A2 17 c2)).trans HR8.out
   have hfin:=heap_setCell_here (heap_setCell_here (heap_setCell_here hR9 (i:=0) (.bool true)) (i:=1) (.string ⟨#[]⟩)) (i:=2) (.slice A2 17 c2)
   refine bodyPost_ret (v:=.agg #[.bool true,.string ⟨#[]⟩,.slice A2 17 c2]) (results_cell_row rfl _ _ w.heap.size _ _ _ _ rfl hfin Tryz.underlying86 rfl infoI) rfl ?_
   have hkl:((List.range 16).map (fun c=>toldP N (cutK l c)) ++ [leafIt tv]).length=17:=by simp
   rw [HIT.out]
   have hq:ItemV (From w.heap.size) ((((w8.setCell ⟨X,2,none⟩ (.slice A2 17 c2)).setCell ⟨w.heap.size,0,none⟩ (.bool true)).setCell ⟨w.heap.size,1,none⟩ (.string ⟨#[]⟩)).setCell ⟨w.heap.size,2,none⟩ (.slice A2 17 c2)) (listIt ((List.range 16).map (fun c=>toldP N (cutK l c)) ++ [leafIt tv])) A2 c2:=by
    refine itemV_mk ?_
    show Rep _ _ (.sl 3 (itemsD ((List.range 16).map (fun c=>toldP N (cutK l c)) ++ [leafIt tv]))) [.slice A2 ((List.range 16).map (fun c=>toldP N (cutK l c)) ++ [leafIt tv]).length c2]
    rw [hkl]
    refine rep_own hO (RepN.mono hP8 fun b _ hb=>⟨?_,?_⟩) (by rw [itemsD_len,hkl]) (fun b h1 _=>?_)
    ·have:=hb.1;show w.heap.size≤b;omega
    ·have:=hb.1;rw [heap_set_ne (by omega),heap_set_ne (by omega),heap_set_ne (by omega),heap_set_ne (by omega)]
    ·show w.heap.size≤b;omega
   exact ⟨A2,c2,rfl,hq,hBB⟩
end Go.Proofs.YtdfmheademcbkaaGreat
