/- The walk of the reference's item: a leaf. -/
import Derived.Test.YtdfmheademcbkaaGreatZ36
import Derived.Test.YtdfmheademcbkaaGreatZ03
namespace Go.Proofs.YtdfmheademcbkaaGreat
set_option linter.unusedVariables false
set_option linter.unusedSimpArgs false
open Go.RowKit
set_option maxHeartbeats 4000000
set_option maxRecDepth 100000
theorem below_nil {w w':World} {n c:Nat} (h:w.grownBy w' (Value.slice none n c).ownBlock):Below w.heap.size w w':=⟨h.os,h.tape,h.output,h.size,fun k hk=>h.block k hk (by intro e;cases e)⟩
theorem item_leaf (N:Nat) (hN:N+1≤66) (p:KV) (A:Option Addr) (c:Nat) (w:World) (hin:ItIn (N+1) [p]) (hv:KVs Any w [p] A c) :
  Calls Tryz.prog 100 #[.slice A 1 c] w (ItPost (itemP (N+1) [p]) w):=by
 have hit:itemP (N+1) [p]=listIt [leafIt (packP p.1 true),leafIt p.2]:=rfl
 rw [hit]
 obtain ⟨r,hrr⟩:∃ r:List KV,r = []:=⟨_,rfl⟩
 rw [← hrr] at hin hv
 have hl1:(p :: r).length=1:=by rw [hrr];rfl
 rw [← hl1]
 clear hit hrr
 have hb:Below w.heap.size w (w.alloc (.cells #[.bool false,.string ⟨#[]⟩,.slice none 0 0] 86)):=(Below.refl _ _).alloc (Nat.le_refl _) _
 have hr:(w.alloc (.cells #[.bool false,.string ⟨#[]⟩,.slice none 0 0] 86)).heap[w.heap.size]? = some (.cells #[.bool false,.string ⟨#[]⟩,.slice none 0 0] 86 (0,0)):=heap_alloc_new w _
 have HC:=Lib.hid (refCommon_any p r (by have:=hin.le;omega) (fun q hq=>by have:=hin.short q hq;omega) A c _ (hv.keep hb))
 rw [com_ref hin.rise] at HC
 obtain ⟨l,hl⟩:∃ l,p :: r=l:=⟨_,rfl⟩
 have hp0:l[0]? = some p:=by rw [← hl];rfl
 obtain ⟨p1,p2⟩:=p
 have hps:=hin.short (p1,p2) (by simp)
 have hpv:=hin.small (p1,p2) (by simp)
 have hph:=hin.half (p1,p2) (by simp)
 simp only [] at hps hpv hph
 obtain ⟨g,o,rfl,_,k0,k1⟩:=hv.at_ (i:=0) (p:=(p1,p2)) rfl
 simp only [Nat.zero_mul,Nat.add_zero] at k0 k1
 rw [hl] at HC hin hv hl1 ⊢
 have hgw:=lt_of_cell k0
 have hlle:=hin.le
 have HL1:=Lib.hid hl1
 clear hl1
 have HIN:=Lib.hid hin
 have HV:=Lib.hid hv
 have HB:=Lib.hid hb
 have HR:=Lib.hid hr
 have HK0:=Lib.hid k0
 have HK1:=Lib.hid k1
 have HP0:=Lib.hid hp0
 have HPH:=Lib.hid hph
 have HL:=Lib.hid hl
 clear hin hv hb hr k0 k1 hp0 hph hl
 go_enter Tryz.func100,Tryz.ntmps100
 go_wp2_with fail
 refine HC.out.mono ?_
 clear HC
 rintro e w1 ⟨rfl,hb1⟩
 have hr1:=(hb1.block _ (Array.getElem?_eq_some_iff.1 HR.out).1).trans HR.out
 have hB1:=below_call HB.out HB.out.size hb1
 have hba:Below w1.heap.size w1 (w1.alloc (.cells #[.bool true,.string ⟨#[]⟩,.slice none 0 0] 86)):=(Below.refl _ _).alloc (Nat.le_refl _) _
 have hR:=(hba.block _ (Array.getElem?_eq_some_iff.1 hr1).1).trans hr1
 have hB:=below_call hB1 hB1.size hba
 have hX:=heap_alloc_new w1 (.cells #[.bool true,.string ⟨#[]⟩,.slice none 0 0] 86)
 have hRX:w.heap.size < w1.heap.size:=(Array.getElem?_eq_some_iff.1 hr1).1
 have HR2:=Lib.hid hR
 have HB2:=Lib.hid hB
 have HX2:=Lib.hid hX
 clear hr1 hB1 hba hR hB hX hb1 HB HR
 have hl1I:((l.length:Int) == 1)=true:=by rw [HL1.out];rfl
 have hposI:(0:Int) < l.length:=by have:=HL1.out;omega
 have hnil:¬ l = []:=fun e=>by have:=HL1.out;rw [e] at this;cases this
 go_wp2_with fail
 obtain ⟨X,hXe⟩:∃ X,w1.heap.size=X:=⟨_,rfl⟩
 have hbd:Below (w1.alloc (.cells #[.bool true,.string ⟨#[]⟩,.slice none 0 0] 86)).heap.size (w1.alloc (.cells #[.bool true,.string ⟨#[]⟩,.slice none 0 0] 86)) (w1.alloc (.cells #[.bool true,.string ⟨#[]⟩,.slice none 0 0] 86)).drew:=(Below.refl _ _).drew
 have hR:=(hbd.block _ (Array.getElem?_eq_some_iff.1 HR2.out).1).trans HR2.out
 have hX:=(hbd.block _ (Array.getElem?_eq_some_iff.1 HX2.out).1).trans HX2.out
 have hB:=below_call HB2.out HB2.out.size hbd
 have k0:=(hB.cell hgw).trans HK0.out
 have k1:=(hB.cell hgw).trans HK1.out
 have hXl:=(Array.getElem?_eq_some_iff.1 hX).1
 rw [hXe] at hX hXl hRX ⊢
 refine wp_region_R [(14,fun w'=>w'.cell? ⟨X,2,none⟩=some (.slice none 0 0)),(99,fun w'=>w'.cell? ⟨g,o,none⟩=some (.string (bs p1))∧w'.cell? ⟨g,o+1,none⟩=some (.string (bs p2)))] (by kernel_rfl) ?_
 generalize (w1.alloc (.cells #[.bool true,.string ⟨#[]⟩,.slice none 0 0] 86)).drew=w3 at hR hX hB k0 k1 hXl ⊢
 clear hbd HR2 HX2 HB2
 refine R_p (i:=0) (v:=.pointer (some ⟨X,2,none⟩)) (Meets.here (rc2 hX) (Meets.here ⟨k0,k1⟩ Meets.nil)) ?_
 refine R_l (i:=1) (v:=.slice none 0 0) 14 _ List.mem_cons_self rfl (yieldsIf_load_cell rfl rfl rfl (fun w' hS=>hS) Tryz.underlying84 rfl) (Meets.here (rc2 hX) (Meets.here ⟨k0,k1⟩ Meets.nil)) ?_
 refine R_p (i:=2) (v:=.slice (some ⟨g,o,none⟩) l.length c) (Meets.here (rc2 hX) (Meets.here ⟨k0,k1⟩ Meets.nil)) ?_
 refine R_p (i:=3) (v:=.pointer (some ⟨g,o,none⟩)) (Meets.here (rc2 hX) (Meets.here ⟨k0,k1⟩ Meets.nil)) ?_
 refine R_p (i:=4) (v:=.pointer (some ⟨g,o,none⟩)) (Meets.here (rc2 hX) (Meets.here ⟨k0,k1⟩ Meets.nil)) ?_
 refine R_l (i:=5) (v:=.string (bs p1)) 99 _ (List.mem_cons_of_mem _ List.mem_cons_self) rfl (yieldsIf_load_cell rfl rfl rfl (fun w' hS=>hS.1) Tryz.underlying9 rfl) (Meets.here (rc2 hX) (Meets.here ⟨k0,k1⟩ Meets.nil)) ?_
 refine R_p (i:=8) (v:=.slice (some ⟨g,o,none⟩) l.length c) (Meets.here (rc2 hX) (Meets.here ⟨k0,k1⟩ Meets.nil)) ?_
 refine R_p (i:=9) (v:=.pointer (some ⟨g,o,none⟩)) (Meets.here (rc2 hX) (Meets.here ⟨k0,k1⟩ Meets.nil)) ?_
 refine R_p (i:=10) (v:=.pointer (some ⟨g,o+1,none⟩)) (Meets.here (rc2 hX) (Meets.here ⟨k0,k1⟩ Meets.nil)) ?_
 refine R_l (i:=11) (v:=.string (bs p2)) 99 _ (List.mem_cons_of_mem _ List.mem_cons_self) rfl (yieldsIf_load_cell rfl rfl rfl (fun w' hS=>hS.2) Tryz.underlying9 rfl) (Meets.here (rc2 hX) (Meets.here ⟨k0,k1⟩ Meets.nil)) ?_
 refine R_p (i:=12) (v:=.agg #[.bool false,.string (bs (p2)),.slice none 0 0]) (Meets.here (rc2 hX) (Meets.here ⟨k0,k1⟩ Meets.nil)) ?_
 refine R_now 6 fun K hK=>?_
 go_simp
 refine (refPack_any p1 (by omega) true _).mono ?_
 rintro e w4 ⟨rfl,hb4⟩
 replace hR:=(hb4.block _ (Array.getElem?_eq_some_iff.1 hR).1).trans hR
 replace hX:=(hb4.block _ (Array.getElem?_eq_some_iff.1 hX).1).trans hX
 replace hB:=below_call hB hB.size hb4
 replace k0:=(hb4.cell (lt_of_cell k0)).trans k0
 replace k1:=(hb4.cell (lt_of_cell k1)).trans k1
 replace hXl:=Nat.lt_of_lt_of_le hXl hb4.size
 clear hb4
 refine hK.out _ _ (Meets.here (rc2 hX) (Meets.here ⟨k0,k1⟩ Meets.nil)) (fun hMeets=>?_)
 clear hK K hMeets
 refine lay_R ?_
 refine R_p (i:=7) (v:=.agg #[.bool false,.string (bs (packP p1 true)),.slice none 0 0]) (Meets.here (rc2 hX) (Meets.here ⟨k0,k1⟩ Meets.nil)) ?_
 refine R_now 13 fun K hK=>?_
 have hbb:Below w4.heap.size w4 (w4.alloc (.cells #[.bool false,.string (bs (packP p1 true)),.slice none 0 0,.bool false,.string (bs (p2)),.slice none 0 0] 86)):=(Below.refl _ _).alloc (Nat.le_refl _) _
 replace hR:=(hbb.block _ (Array.getElem?_eq_some_iff.1 hR).1).trans hR
 replace hX:=(hbb.block _ (Array.getElem?_eq_some_iff.1 hX).1).trans hX
 replace hB:=below_call hB hB.size hbb
 replace k0:=(hbb.cell (lt_of_cell k0)).trans k0
 replace k1:=(hbb.cell (lt_of_cell k1)).trans k1
 replace hXl:=Nat.lt_of_lt_of_le hXl hbb.size
 have hL:=lies_new w4 #[.bool false,.string (bs (packP p1 true)),.slice none 0 0,.bool false,.string (bs (p2)),.slice none 0 0] 86
 clear hbb
 go_simp
 refine hK.out _ _ (Meets.here (rc2 hX) (Meets.here ⟨k0,k1⟩ Meets.nil)) (fun hMeets=>?_)
 clear hK K hMeets
 refine lay_R ?_
 refine R_now 14 fun K hK=>?_
 refine stl_append elItem rfl rfl (X+1) (World.ownsRow_nil _ _ _ _) rfl (m:=2) [.bool false,.string (bs (packP p1 true)),.slice none 0 0,.bool false,.string (bs (p2)),.slice none 0 0] rfl rfl hL (by intro u hu;simp at hu;rcases hu with rfl | rfl | rfl | rfl | rfl | rfl <;> rfl) (by simp [maxLen]) (by omega) (by omega) ?_
 intro v1 w8 hown1 hg1 hat1
 obtain ⟨A2,c2,rfl⟩:=own_form hown1
 have hb8:Below _ _ w8:=below_nil hg1
 replace hR:=(hb8.block _ (Array.getElem?_eq_some_iff.1 hR).1).trans hR
 replace hX:=(hb8.block _ (Array.getElem?_eq_some_iff.1 hX).1).trans hX
 replace hB:=below_call hB hB.size hb8
 replace k0:=(hb8.cell (lt_of_cell k0)).trans k0
 replace k1:=(hb8.cell (lt_of_cell k1)).trans k1
 replace hXl:=Nat.lt_of_lt_of_le hXl hb8.size
 clear hb8 hg1 hat1 hL
 try simp only [Act.put,List.setIfInBounds_toArray,List.set_cons_zero,List.set_cons_succ,List.getElem_toArray,List.getElem_cons_zero,List.getElem_cons_succ]
 refine hK.out _ _ (Meets.past (by kernel_rfl) (Meets.here ⟨k0,k1⟩ Meets.nil)) (fun hMeets=>?_)
 clear hK K hMeets
 refine lay_R ?_
 refine R_p (i:=15) (v:=.pointer (some ⟨X,2,none⟩)) (Meets.past (by kernel_rfl) (Meets.here ⟨k0,k1⟩ Meets.nil)) ?_
 have d2:w8.cell? ⟨X,2,none⟩=some (.slice none 0 0):=rc2 hX
 have df:=rf hX 2
 refine R_now 16 fun K hK=>?_
 obtain ⟨W9,hW9⟩:∃ W9,W9=w8.setCell ⟨X,2,none⟩ (.slice A2 2 c2):=⟨_,rfl⟩
 have hX9:W9.heap[X]? = some (.cells #[.bool true,.string ⟨#[]⟩,.slice A2 2 c2] 86 (0,0)):=by rw [hW9];exact heap_setCell_here hX _
 have hR9:W9.heap[w.heap.size]? = some (.cells #[.bool false,.string ⟨#[]⟩,.slice none 0 0] 86 (0,0)):=by rw [hW9];exact (heap_set_ne (by omega) _).trans hR
 have hB9:Below w.heap.size w W9:=by rw [hW9];exact hB.setCell (p:=⟨X,_,_⟩) (by simp;omega) _
 have hO9:W9.ownsRow (X+1) 86 3 (.slice A2 2 c2) 2 [.bool false,.string (bs (packP p1 true)),.slice none 0 0,.bool false,.string (bs (p2)),.slice none 0 0]:=by rw [hW9];exact own_setOther hown1 (by omega) _
 have k09:W9.cell? ⟨g,o,none⟩=some (.string (bs p1)):=(hB9.cell (p:=⟨g,o,none⟩) hgw).trans HK0.out
 have k19:W9.cell? ⟨g,o+1,none⟩=some (.string (bs p2)):=(hB9.cell (p:=⟨g,o+1,none⟩) hgw).trans HK1.out
 go_simp
 rw [← hW9]
 refine hK.out _ _ (Meets.past (by kernel_rfl) (Meets.here ⟨k09,k19⟩ Meets.nil)) (fun hMeets=>?_)
 clear hK K hMeets
 refine lay_R ?_
 refine R_done (by kernel_rfl) ?_ _
 have c0:W9.cell? ⟨w.heap.size,0,none⟩=some (.bool false):=rc0 hR9
 have c1:W9.cell? ⟨w.heap.size,1,none⟩=some (.string ⟨#[]⟩):=rc1 hR9
 have c22:W9.cell? ⟨w.heap.size,2,none⟩=some (.slice none 0 0):=rc2 hR9
 have f0:=rf hR9 0
 have f1:=rf hR9 1
 have f2:=rf hR9 2
 have x0:W9.cell? ⟨X,0,none⟩=some (.bool true):=rc0 hX9
 have x1:W9.cell? ⟨X,1,none⟩=some (.string ⟨#[]⟩):=rc1 hX9
 have x2:W9.cell? ⟨X,2,none⟩=some (.slice A2 2 c2):=rc2 hX9
 have HR9:=Lib.hid hR9
 have HB9:=Lib.hid hB9
 have HO9:=Lib.hid hO9
 clear hR9 hB9 hO9 hX9 k09 k19 hX hR hB k0 k1 hXl hown1 hW9 d2 df
 go_wp2_with fail
 have hfin:=heap_setCell_here (heap_setCell_here (heap_setCell_here HR9.out (i:=0) (.bool true)) (i:=1) (.string ⟨#[]⟩)) (i:=2) (.slice A2 2 c2)
 refine bodyPost_ret (v:=.agg #[.bool true,.string ⟨#[]⟩,.slice A2 2 c2]) (results_cell_row rfl _ _ w.heap.size _ _ _ _ rfl hfin Tryz.underlying86 rfl infoI) rfl ?_
 have hO:=own_setOther (g:=w.heap.size) (i:=2) (own_setOther (g:=w.heap.size) (i:=1) (own_setOther (g:=w.heap.size) (i:=0) HO9.out (by omega) (.bool true)) (by omega) (.string ⟨#[]⟩)) (by omega) (.slice A2 2 c2)
 have hBB:=((HB9.out.setCell (p:=⟨w.heap.size,0,none⟩) (Nat.le_refl _) (.bool true)).setCell (p:=⟨w.heap.size,1,none⟩) (Nat.le_refl _) (.string ⟨#[]⟩)).setCell (p:=⟨w.heap.size,2,none⟩) (Nat.le_refl _) (.slice A2 2 c2)
 refine ⟨A2,c2,rfl,itemV_mk (rep_own hO (.cons (ItemV.leaf (packP p1 true) false) rfl (.cons (ItemV.leaf p2 false) rfl .nil)) rfl (fun b h1 _=>?_)),hBB⟩
 show w.heap.size≤b
 omega
/- The walk of the reference's item: a joint. -/
theorem item_joint (N:Nat) (hT:ToldSaid N) (hN:N+1≤66) (p q:KV) (r0:List KV) (hk0:0 < comP (p :: q :: r0)) (A:Option Addr) (c:Nat) (w:World) (hin:ItIn (N+1) (p :: q :: r0)) (hv:KVs Any w (p :: q :: r0) A c) :
  Calls Tryz.prog 100 #[.slice A (p :: q :: r0).length c] w (ItPost (itemP (N+1) (p :: q :: r0)) w):=by
 have hit:=itemP_joint N p q r0 hk0
 have hil:ItIn N (lessP (p :: q :: r0) (comP (p :: q :: r0))):=⟨short_less hin.short hk0 (comP_len hin.rise),rise_less hin.rise (comP_take hin.rise),half_less hin.half _,small_less hin.small _,by rw [lessP_len];exact hin.le⟩
 have hcl:∀ x∈p :: q :: r0,comP (p :: q :: r0)≤x.1.length∧x.1.length≤1000:=fun x hx=>⟨comP_len hin.rise x hx,by have:=hin.short x hx;omega⟩
 have hphh:=fun x (hx:x∈p.1.take (comP (p :: q :: r0)))=>hin.half p (by simp) x (List.mem_of_mem_take hx)
 obtain ⟨r,hrr⟩:∃ r:List KV,r=q :: r0:=⟨_,rfl⟩
 have hr1:1≤r.length:=by rw [hrr];simp
 rw [← hrr] at hin hv hit hil hcl hphh hk0 ⊢
 clear hrr
 have hb:Below w.heap.size w (w.alloc (.cells #[.bool false,.string ⟨#[]⟩,.slice none 0 0] 86)):=(Below.refl _ _).alloc (Nat.le_refl _) _
 have hr:(w.alloc (.cells #[.bool false,.string ⟨#[]⟩,.slice none 0 0] 86)).heap[w.heap.size]? = some (.cells #[.bool false,.string ⟨#[]⟩,.slice none 0 0] 86 (0,0)):=heap_alloc_new w _
 have HC:=Lib.hid (refCommon_any p r (by have:=hin.le;omega) (fun q hq=>by have:=hin.short q hq;omega) A c _ (hv.keep hb))
 rw [com_ref hin.rise] at HC
 obtain ⟨l,hl⟩:∃ l,p :: r=l:=⟨_,rfl⟩
 have hp0:l[0]? = some p:=by rw [← hl];rfl
 obtain ⟨p1,p2⟩:=p
 clear hphh
 have hps:=hin.short (p1,p2) (by simp)
 have hpv:=hin.small (p1,p2) (by simp)
 have hph:=hin.half (p1,p2) (by simp)
 simp only [] at hps hpv hph
 obtain ⟨g,o,rfl,_,k0,k1⟩:=hv.at_ (i:=0) (p:=(p1,p2)) rfl
 simp only [Nat.zero_mul,Nat.add_zero] at k0 k1
 rw [hl] at HC hin hv hit hil hcl hk0 ⊢
 have hlen2:2≤l.length:=by rw [← hl];simp;omega
 obtain ⟨k,hke⟩:∃ k,comP l=k:=⟨_,rfl⟩
 rw [hke] at HC hit hil hcl hk0
 have hkp:k≤p1.length:=by rw [← hke,← hl];exact comP_len (by rw [hl];exact hin.rise) (p1,p2) (by simp)
 have HKE:=Lib.hid hke
 have HIT:=Lib.hid hit
 have HIL:=Lib.hid hil
 have HCL:=Lib.hid hcl
 have hk0I:(0:Int) < k:=by omega
 have hkI:(k:Int)≤p1.length:=by omega
 clear hit hil hcl
 clear hke
 have hgw:=lt_of_cell k0
 have hlle:=hin.le
 have HIN:=Lib.hid hin
 have HV:=Lib.hid hv
 have HB:=Lib.hid hb
 have HR:=Lib.hid hr
 have HK0:=Lib.hid k0
 have HK1:=Lib.hid k1
 have HP0:=Lib.hid hp0
 have HPH:=Lib.hid hph
 have HL:=Lib.hid hl
 clear hin hv hb hr k0 k1 hp0 hph hl
 go_enter Tryz.func100,Tryz.ntmps100
 go_wp2_with fail
 refine HC.out.mono ?_
 clear HC
 rintro e w1 ⟨rfl,hb1⟩
 have hr1:=(hb1.block _ (Array.getElem?_eq_some_iff.1 HR.out).1).trans HR.out
 have hB1:=below_call HB.out HB.out.size hb1
 have hba:Below w1.heap.size w1 (w1.alloc (.cells #[.bool true,.string ⟨#[]⟩,.slice none 0 0] 86)):=(Below.refl _ _).alloc (Nat.le_refl _) _
 have hR:=(hba.block _ (Array.getElem?_eq_some_iff.1 hr1).1).trans hr1
 have hB:=below_call hB1 hB1.size hba
 have hX:=heap_alloc_new w1 (.cells #[.bool true,.string ⟨#[]⟩,.slice none 0 0] 86)
 have hRX:w.heap.size < w1.heap.size:=(Array.getElem?_eq_some_iff.1 hr1).1
 have HR2:=Lib.hid hR
 have HB2:=Lib.hid hB
 have HX2:=Lib.hid hX
 clear hr1 hB1 hba hR hB hX hb1 HB HR
 have hl1I:((l.length:Int) == 1)=false:=by rw [beq_eq_false_iff_ne];omega
 have hnil:¬ l = []:=fun e=>by rw [e] at hlen2;simp at hlen2
 have hposI:(0:Int) < l.length:=by omega
 go_wp2_with fail
 obtain ⟨X,hXe⟩:∃ X,w1.heap.size=X:=⟨_,rfl⟩
 have hbd:Below (w1.alloc (.cells #[.bool true,.string ⟨#[]⟩,.slice none 0 0] 86)).heap.size (w1.alloc (.cells #[.bool true,.string ⟨#[]⟩,.slice none 0 0] 86)) (w1.alloc (.cells #[.bool true,.string ⟨#[]⟩,.slice none 0 0] 86)).drew:=(Below.refl _ _).drew
 have hR:=(hbd.block _ (Array.getElem?_eq_some_iff.1 HR2.out).1).trans HR2.out
 have hX:=(hbd.block _ (Array.getElem?_eq_some_iff.1 HX2.out).1).trans HX2.out
 have hB:=below_call HB2.out HB2.out.size hbd
 have k0:=(hB.cell hgw).trans HK0.out
 have k1:=(hB.cell hgw).trans HK1.out
 have hXl:=(Array.getElem?_eq_some_iff.1 hX).1
 rw [hXe] at hX hXl hRX ⊢
 refine wp_region_R [(15,fun w'=>w'.cell? ⟨X,2,none⟩=some (.slice none 0 0)),(99,fun w'=>w'.cell? ⟨g,o,none⟩=some (.string (bs p1)))] (by kernel_rfl) ?_
 generalize (w1.alloc (.cells #[.bool true,.string ⟨#[]⟩,.slice none 0 0] 86)).drew=w3 at hR hX hB k0 k1 hXl ⊢
 clear hbd HR2 HX2 HB2
 refine R_p (i:=0) (v:=.pointer (some ⟨X,2,none⟩)) (Meets.here (rc2 hX) (Meets.here k0 Meets.nil)) ?_
 refine R_l (i:=1) (v:=.slice none 0 0) 15 _ List.mem_cons_self rfl (yieldsIf_load_cell rfl rfl rfl (fun w' hS=>hS) Tryz.underlying84 rfl) (Meets.here (rc2 hX) (Meets.here k0 Meets.nil)) ?_
 refine R_p (i:=2) (v:=.slice (some ⟨g,o,none⟩) l.length c) (Meets.here (rc2 hX) (Meets.here k0 Meets.nil)) ?_
 refine R_p (i:=3) (v:=.pointer (some ⟨g,o,none⟩)) (Meets.here (rc2 hX) (Meets.here k0 Meets.nil)) ?_
 refine R_p (i:=4) (v:=.pointer (some ⟨g,o,none⟩)) (Meets.here (rc2 hX) (Meets.here k0 Meets.nil)) ?_
 refine R_l (i:=5) (v:=.string (bs p1)) 99 _ (List.mem_cons_of_mem _ List.mem_cons_self) rfl (yieldsIf_load_cell rfl rfl rfl (fun w' hS=>hS) Tryz.underlying9 rfl) (Meets.here (rc2 hX) (Meets.here k0 Meets.nil)) ?_
 refine R_p (i:=6) (v:=.int .i64 (k:Int)) (Meets.here (rc2 hX) (Meets.here k0 Meets.nil)) ?_
 refine R_p (i:=7) (v:=.string (bs (p1.take k))) (Meets.here (rc2 hX) (Meets.here k0 Meets.nil)) ?_
 refine R_p (i:=10) (v:=.slice (some ⟨g,o,none⟩) l.length c) (Meets.here (rc2 hX) (Meets.here k0 Meets.nil)) ?_
 refine R_p (i:=11) (v:=.int .i64 (k:Int)) (Meets.here (rc2 hX) (Meets.here k0 Meets.nil)) ?_
 refine R_now 8 fun K hK=>?_
 go_simp
 refine (refPack_any (p1.take k) (by rw [List.length_take];omega) false _).mono ?_
 rintro e w4 ⟨rfl,hb4⟩
 replace hR:=(hb4.block _ (Array.getElem?_eq_some_iff.1 hR).1).trans hR
 replace hX:=(hb4.block _ (Array.getElem?_eq_some_iff.1 hX).1).trans hX
 replace hB:=below_call hB hB.size hb4
 replace k0:=(hb4.cell (lt_of_cell k0)).trans k0
 replace hXl:=Nat.lt_of_lt_of_le hXl hb4.size
 clear hb4
 refine hK.out _ _ (Meets.here (rc2 hX) (Meets.here k0 Meets.nil)) (fun hMeets=>?_)
 clear hK K hMeets
 refine lay_R ?_
 refine R_p (i:=9) (v:=.agg #[.bool false,.string (bs (packP (p1.take k) false)),.slice none 0 0]) (Meets.here (rc2 hX) (Meets.here k0 Meets.nil)) ?_
 refine R_now 12 fun K hK=>?_
 go_simp
 refine (refCutAll_any l hlle k HCL.out _ _ _ (HV.out.keep hB)).mono ?_
 rintro e w5 ⟨Ac,cc,rfl,hcv,hb5⟩
 replace hR:=(hb5.block _ (Array.getElem?_eq_some_iff.1 hR).1).trans hR
 replace hX:=(hb5.block _ (Array.getElem?_eq_some_iff.1 hX).1).trans hX
 replace hB:=below_call hB hB.size hb5
 replace k0:=(hb5.cell (lt_of_cell k0)).trans k0
 replace hXl:=Nat.lt_of_lt_of_le hXl hb5.size
 clear hb5
 refine hK.out _ _ (Meets.here (rc2 hX) (Meets.here k0 Meets.nil)) (fun hMeets=>?_)
 clear hK K hMeets
 refine lay_R ?_
 have hX5:=hXl
 obtain ⟨y,hye⟩:∃ y,toldP N (lessP l k)=y:=⟨_,rfl⟩
 have hTC:=hT (lessP l k) Ac cc w5 (by omega) HIL.out hcv
 rw [hye] at hTC
 have HYE:=Lib.hid hye
 clear hye hcv
 refine R_now 13 fun K hK=>?_
 go_simp
 refine hTC.mono ?_
 clear hTC
 rintro e w6 ⟨Ay,cy,rfl,hy6,hb6⟩
 have hY:ItemV (From (X+1)) w6 y Ay cy:=hy6.mono fun b _ hb=>⟨Nat.le_trans hX5 hb,rfl⟩
 clear hy6
 replace hR:=(hb6.block _ (Array.getElem?_eq_some_iff.1 hR).1).trans hR
 replace hX:=(hb6.block _ (Array.getElem?_eq_some_iff.1 hX).1).trans hX
 replace hB:=below_call hB hB.size hb6
 replace k0:=(hb6.cell (lt_of_cell k0)).trans k0
 replace hXl:=Nat.lt_of_lt_of_le hXl hb6.size
 clear hb6
 refine hK.out _ _ (Meets.here (rc2 hX) (Meets.here k0 Meets.nil)) (fun hMeets=>?_)
 clear hK K hMeets
 refine lay_R ?_
 refine R_now 14 fun K hK=>?_
 have hbb:Below w6.heap.size w6 (w6.alloc (.cells #[.bool false,.string (bs (packP (p1.take k) false)),.slice none 0 0,.bool y.l,.string (bs y.b),.slice Ay y.ks.length cy] 86)):=(Below.refl _ _).alloc (Nat.le_refl _) _
 replace hR:=(hbb.block _ (Array.getElem?_eq_some_iff.1 hR).1).trans hR
 replace hX:=(hbb.block _ (Array.getElem?_eq_some_iff.1 hX).1).trans hX
 replace hB:=below_call hB hB.size hbb
 replace k0:=(hbb.cell (lt_of_cell k0)).trans k0
 replace hXl:=Nat.lt_of_lt_of_le hXl hbb.size
 replace hY:=hY.keep hbb
 have hL:=lies_new w6 #[.bool false,.string (bs (packP (p1.take k) false)),.slice none 0 0,.bool y.l,.string (bs y.b),.slice Ay y.ks.length cy] 86
 clear hbb
 go_simp
 refine hK.out _ _ (Meets.here (rc2 hX) (Meets.here k0 Meets.nil)) (fun hMeets=>?_)
 clear hK K hMeets
 refine lay_R ?_
 refine R_now 15 fun K hK=>?_
 refine stl_append elItem rfl rfl (X+1) (World.ownsRow_nil _ _ _ _) rfl (m:=2) [.bool false,.string (bs (packP (p1.take k) false)),.slice none 0 0,.bool y.l,.string (bs y.b),.slice Ay y.ks.length cy] rfl rfl hL (by intro u hu;simp at hu;rcases hu with rfl | rfl | rfl | rfl | rfl | rfl <;> rfl) (by simp [maxLen]) (by omega) (by omega) ?_
 intro v1 w8 hown1 hg1 hat1
 obtain ⟨A2,c2,rfl⟩:=own_form hown1
 have hb8:Below _ _ w8:=below_nil hg1
 replace hR:=(hb8.block _ (Array.getElem?_eq_some_iff.1 hR).1).trans hR
 replace hX:=(hb8.block _ (Array.getElem?_eq_some_iff.1 hX).1).trans hX
 replace hB:=below_call hB hB.size hb8
 replace k0:=(hb8.cell (lt_of_cell k0)).trans k0
 replace hXl:=Nat.lt_of_lt_of_le hXl hb8.size
 replace hY:=hY.keep hb8
 clear hb8 hg1 hat1 hL
 try simp only [Act.put,List.setIfInBounds_toArray,List.set_cons_zero,List.set_cons_succ,List.getElem_toArray,List.getElem_cons_zero,List.getElem_cons_succ]
 refine hK.out _ _ (Meets.past (by kernel_rfl) (Meets.here k0 Meets.nil)) (fun hMeets=>?_)
 clear hK K hMeets
 refine lay_R ?_
 refine R_p (i:=16) (v:=.pointer (some ⟨X,2,none⟩)) (Meets.past (by kernel_rfl) (Meets.here k0 Meets.nil)) ?_
 have d2:w8.cell? ⟨X,2,none⟩=some (.slice none 0 0):=rc2 hX
 have df:=rf hX 2
 refine R_now 17 fun K hK=>?_
 obtain ⟨W9,hW9⟩:∃ W9,W9=w8.setCell ⟨X,2,none⟩ (.slice A2 2 c2):=⟨_,rfl⟩
 have hX9:W9.heap[X]? = some (.cells #[.bool true,.string ⟨#[]⟩,.slice A2 2 c2] 86 (0,0)):=by rw [hW9];exact heap_setCell_here hX _
 have hR9:W9.heap[w.heap.size]? = some (.cells #[.bool false,.string ⟨#[]⟩,.slice none 0 0] 86 (0,0)):=by rw [hW9];exact (heap_set_ne (by omega) _).trans hR
 have hB9:Below w.heap.size w W9:=by rw [hW9];exact hB.setCell (p:=⟨X,_,_⟩) (by simp;omega) _
 have hO9:W9.ownsRow (X+1) 86 3 (.slice A2 2 c2) 2 [.bool false,.string (bs (packP (p1.take k) false)),.slice none 0 0,.bool y.l,.string (bs y.b),.slice Ay y.ks.length cy]:=by rw [hW9];exact own_setOther hown1 (by omega) _
 have k09:W9.cell? ⟨g,o,none⟩=some (.string (bs p1)):=(hB9.cell (p:=⟨g,o,none⟩) hgw).trans HK0.out
 have hY9:ItemV (From (X+1)) W9 y Ay cy:=by rw [hW9];exact hY.mono fun b _ hb=>⟨hb,heap_set_ne (by have:X+1≤b:=hb;omega) _⟩
 have HY9:=Lib.hid hY9
 clear hY hY9
 go_simp
 rw [← hW9]
 refine hK.out _ _ (Meets.past (by kernel_rfl) (Meets.here k09 Meets.nil)) (fun hMeets=>?_)
 clear hK K hMeets
 refine lay_R ?_
 refine R_done (by kernel_rfl) ?_ _
 have c0:W9.cell? ⟨w.heap.size,0,none⟩=some (.bool false):=rc0 hR9
 have c1:W9.cell? ⟨w.heap.size,1,none⟩=some (.string ⟨#[]⟩):=rc1 hR9
 have c22:W9.cell? ⟨w.heap.size,2,none⟩=some (.slice none 0 0):=rc2 hR9
 have f0:=rf hR9 0
 have f1:=rf hR9 1
 have f2:=rf hR9 2
 have x0:W9.cell? ⟨X,0,none⟩=some (.bool true):=rc0 hX9
 have x1:W9.cell? ⟨X,1,none⟩=some (.string ⟨#[]⟩):=rc1 hX9
 have x2:W9.cell? ⟨X,2,none⟩=some (.slice A2 2 c2):=rc2 hX9
 have HR9:=Lib.hid hR9
 have HB9:=Lib.hid hB9
 have HO9:=Lib.hid hO9
 clear hR9 hB9 hO9 hX9 k09 hX hR hB k0 hXl hown1 hW9 d2 df
 go_wp2_with fail
 have hfin:=heap_setCell_here (heap_setCell_here (heap_setCell_here HR9.out (i:=0) (.bool true)) (i:=1) (.string ⟨#[]⟩)) (i:=2) (.slice A2 2 c2)
 refine bodyPost_ret (v:=.agg #[.bool true,.string ⟨#[]⟩,.slice A2 2 c2]) (results_cell_row rfl _ _ w.heap.size _ _ _ _ rfl hfin Tryz.underlying86 rfl infoI) rfl ?_
 have hO:=own_setOther (g:=w.heap.size) (i:=2) (own_setOther (g:=w.heap.size) (i:=1) (own_setOther (g:=w.heap.size) (i:=0) HO9.out (by omega) (.bool true)) (by omega) (.string ⟨#[]⟩)) (by omega) (.slice A2 2 c2)
 have hBB:=((HB9.out.setCell (p:=⟨w.heap.size,0,none⟩) (Nat.le_refl _) (.bool true)).setCell (p:=⟨w.heap.size,1,none⟩) (Nat.le_refl _) (.string ⟨#[]⟩)).setCell (p:=⟨w.heap.size,2,none⟩) (Nat.le_refl _) (.slice A2 2 c2)
 have hYf:ItemV (From w.heap.size) (((W9.setCell ⟨w.heap.size,0,none⟩ (.bool true)).setCell ⟨w.heap.size,1,none⟩ (.string ⟨#[]⟩)).setCell ⟨w.heap.size,2,none⟩ (.slice A2 2 c2)) y Ay cy :=
  HY9.out.mono fun b _ hb=>⟨by have:X+1≤b:=hb;show w.heap.size≤b;omega,by have:X+1≤b:=hb;rw [heap_set_ne (by omega),heap_set_ne (by omega),heap_set_ne (by omega)]⟩
 rw [HIT.out,HYE.out]
 refine ⟨A2,c2,rfl,itemV_mk (rep_own hO (.cons (ItemV.leaf (packP (p1.take k) false) false) rfl (.cons hYf rfl .nil)) rfl (fun b h1 _=>?_)),hBB⟩
 show w.heap.size≤b
 omega
end Go.Proofs.YtdfmheademcbkaaGreat
