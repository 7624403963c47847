/- The walks of the reference's Right, Bytes of a block. -/
import Derived.Test.YtjanaholcjkceaaGreatZ51
import Derived.Test.YtjanaholcjkceaaGreatZ52
import Derived.Test.YtjanaholcjkceaaGreatZ41
import Derived.Test.YtjanaholcjkceaaGreatZ19
namespace Go.Proofs.YtjanaholcjkceaaGreat
set_option linter.unusedVariables false
set_option linter.unusedSimpArgs false
open Go.RowKit
set_option maxHeartbeats 4000000
set_option maxRecDepth 100000
theorem hd_at {w:World} {X0:Nat} {b:Bk} {Av As At:Option Addr} {cv cs ct:Nat} (h:w.heap[X0]? = some (.cells (bkR b Av cv As cs At ct) 29 (0,0))):∀ j u,([.string (bs b.hd.parent),.int .u64 (b.hd.height:Int),.string (bs b.hd.root),.string (bs b.hd.txs),.string (bs b.hd.prop),.string (bs b.hd.van),.slice Av b.hd.vals.length cv,.string (bs b.hd.vote),.bool b.hd.add,.int .u64 (b.hd.round:Int),.slice As b.hd.seals.length cs]:List Value)[j]? = some u→w.cell? ⟨X0,0+j,none⟩=some u
 | 0,_,hj=>rc h 0 hj
 | 1,_,hj=>rc h 1 hj
 | 2,_,hj=>rc h 2 hj
 | 3,_,hj=>rc h 3 hj
 | 4,_,hj=>rc h 4 hj
 | 5,_,hj=>rc h 5 hj
 | 6,_,hj=>rc h 6 hj
 | 7,_,hj=>rc h 7 hj
 | 8,_,hj=>rc h 8 hj
 | 9,_,hj=>rc h 9 hj
 | 10,_,hj=>rc h 10 hj
 | (n+11),_,hj=>by cases hj
theorem rright18_any (b:Bk) (hf:b.Fine) (Av As At:Option Addr) (cv cs ct:Nat) (w:World) (hv:BkV Any w b Av cv As cs At ct) :
  Calls Tryz.prog 11 #[.agg (bkR b Av cv As cs At ct)] w fun e w'=>e=.returned (.bool (okBk b))∧Below w.heap.size w w':=by
 have hp:=okBk_eq b
 obtain ⟨R,hR⟩:∃ R,okBk b=R:=⟨_,rfl⟩
 rw [hR] at hp ⊢
 have h0:=heap_alloc_new w (.cells (bkR b Av cv As cs At ct) 29)
 have hb:=(Below.refl w.heap.size w).alloc qn (.cells (bkR b Av cv As cs At ct) 29)
 have hH:=fun (W:World) (hb:Below w.heap.size w W)=>rhright_any b.hd hf.hd Av As cv cs W (hv.hd.keep hb)
 have hA:=fun (W:World) (hb:Below w.heap.size w W)=>rall_any b.txs hf.len hf.txs At ct W (PlV.keep hv.txs hb)
 have hS:=fun (hk:∀ t∈b.txs,okTr t=true) (W:World) (hb:Below w.heap.size w W)=>rsum18_any b.txs hf.len (fun t ht=>(hf.txs t ht).wf) hk At ct W (PlV.keep hv.txs hb)
 obtain ⟨hk,hhk⟩:∃ hk,okHd b.hd=hk:=⟨_,rfl⟩
 obtain ⟨ak,hak⟩:∃ ak,b.txs.all okTr=ak:=⟨_,rfl⟩
 rw [hhk] at hH hp
 rw [hak] at hA hp
 have hlI:(b.txs.length:Int)≤10000:=by have:=hf.len;omega
 have HOK:=qh hp
 have HX:=qh h0
 have HB:=qh hb
 have HH:=qh hH
 have HA:=qh hA
 have HS:=qh hS
 have HAK:=qh hak
 clear hp hR h0 hb hH hS hA hhk hak hv hf
 cases hk with
 | false =>
  have hR:R=false:=by rw [HOK.out];rfl
  have HR:=qh hR
  clear hR
  go_enter Tryz.func11,Tryz.ntmps11
  go_wp2_with fail
  obtain ⟨X0,hX0⟩:∃ X0,w.heap.size=X0:=⟨_,rfl⟩
  have hX:(w.alloc (.cells (bkR b Av cv As cs At ct) 29)).drew.heap[X0]? = some (.cells (bkR b Av cv As cs At ct) 29 (0,0)):=by rw [← hX0];exact HX.out
  have hB:=HB.out.drew
  clear HX HB
  refine wp_region_R [(99,fun w'=>w'.heap[X0]? = some (.cells (bkR b Av cv As cs At ct) 29 (0,0)))] (by kernel_rfl) ?_
  generalize (w.alloc (.cells (bkR b Av cv As cs At ct) 29)).drew=WD at hX hB ⊢
  rw [hX0]
  refine R_p (i:=0) (v:=.pointer (some ⟨X0,0,none⟩)) (Meets.here hX Meets.nil) ?_
  refine R_l (i:=1) (v:=.agg (hdR b.hd Av cv As cs)) 99 _ List.mem_cons_self rfl (yieldsIf_load_at rfl rfl (g:=X0) (o:=0) rfl [.string (bs b.hd.parent),.int .u64 (b.hd.height:Int),.string (bs b.hd.root),.string (bs b.hd.txs),.string (bs b.hd.prop),.string (bs b.hd.van),.slice Av b.hd.vals.length cv,.string (bs b.hd.vote),.bool b.hd.add,.int .u64 (b.hd.round:Int),.slice As b.hd.seals.length cs] (fun w' hS=>hd_at hS) Tryz.underlying26 rfl infoHd) (Meets.here hX Meets.nil) ?_
  refine R_now 2 fun K hK=>?_
  go_simp
  refine (HH.out _ hB).mono ?_
  rintro e w2 ⟨rfl,hb2⟩
  replace hX:=(hb2.block _ (qg hX)).trans hX
  replace hB:=below_call hB hB.size hb2
  clear hb2
  refine hK.out _ _ (Meets.here hX Meets.nil) (fun hMeets=>?_)
  clear hK K hMeets
  refine lay_R ?_
  refine R_p (i:=3) (v:=.bool false) (Meets.here hX Meets.nil) ?_
  refine R_s (i:=4) (Meets.here hX Meets.nil) ?_
  refine R_s (i:=5) (Meets.here hX Meets.nil) ?_
  refine R_s (i:=6) (Meets.here hX Meets.nil) ?_
  refine R_s (i:=7) (Meets.here hX Meets.nil) ?_
  refine R_p (i:=8) (v:=.bool false) (Meets.here hX Meets.nil) ?_
  refine R_p (i:=9) (v:=.bool false) (Meets.here hX Meets.nil) ?_
  refine R_s (i:=10) (Meets.here hX Meets.nil) ?_
  refine R_s (i:=11) (Meets.here hX Meets.nil) ?_
  refine R_s (i:=12) (Meets.here hX Meets.nil) ?_
  refine R_p (i:=13) (v:=.bool false) (Meets.here hX Meets.nil) ?_
  refine R_p (i:=14) (v:=.bool false) (Meets.here hX Meets.nil) ?_
  refine R_s (i:=15) (Meets.here hX Meets.nil) ?_
  refine R_s (i:=18) (Meets.here hX Meets.nil) ?_
  refine R_s (i:=16) (Meets.here hX Meets.nil) ?_
  refine R_s (i:=19) (Meets.here hX Meets.nil) ?_
  refine R_s (i:=17) (Meets.here hX Meets.nil) ?_
  refine R_s (i:=20) (Meets.here hX Meets.nil) ?_
  refine R_s (i:=21) (Meets.here hX Meets.nil) ?_
  refine R_p (i:=22) (v:=.bool false) (Meets.here hX Meets.nil) ?_
  refine R_p (i:=23) (v:=.bool false) (Meets.here hX Meets.nil) ?_
  refine R_done (by kernel_rfl) ?_ _
  have HB:=qh hB
  clear hB hX
  go_wp2_with fail
  go_ret
  exact ⟨by rw [HR.out];rfl,HB.out⟩
 | true =>
  by_cases h4:b.txs.length≤4
  case neg =>
   have hR:R=false:=by rw [HOK.out,decide_eq_false h4];rfl
   have h4I:decide ((b.txs.length:Int)≤4)=false:=by rw [decide_eq_false_iff_not];omega
   have HR:=qh hR
   clear hR
   go_enter Tryz.func11,Tryz.ntmps11
   go_wp2_with fail
   obtain ⟨X0,hX0⟩:∃ X0,w.heap.size=X0:=⟨_,rfl⟩
   have hX:(w.alloc (.cells (bkR b Av cv As cs At ct) 29)).drew.heap[X0]? = some (.cells (bkR b Av cv As cs At ct) 29 (0,0)):=by rw [← hX0];exact HX.out
   have hB:=HB.out.drew
   clear HX HB
   refine wp_region_R [(99,fun w'=>w'.heap[X0]? = some (.cells (bkR b Av cv As cs At ct) 29 (0,0)))] (by kernel_rfl) ?_
   generalize (w.alloc (.cells (bkR b Av cv As cs At ct) 29)).drew=WD at hX hB ⊢
   rw [hX0]
   refine R_p (i:=0) (v:=.pointer (some ⟨X0,0,none⟩)) (Meets.here hX Meets.nil) ?_
   refine R_l (i:=1) (v:=.agg (hdR b.hd Av cv As cs)) 99 _ List.mem_cons_self rfl (yieldsIf_load_at rfl rfl (g:=X0) (o:=0) rfl [.string (bs b.hd.parent),.int .u64 (b.hd.height:Int),.string (bs b.hd.root),.string (bs b.hd.txs),.string (bs b.hd.prop),.string (bs b.hd.van),.slice Av b.hd.vals.length cv,.string (bs b.hd.vote),.bool b.hd.add,.int .u64 (b.hd.round:Int),.slice As b.hd.seals.length cs] (fun w' hS=>hd_at hS) Tryz.underlying26 rfl infoHd) (Meets.here hX Meets.nil) ?_
   refine R_now 2 fun K hK=>?_
   go_simp
   refine (HH.out _ hB).mono ?_
   rintro e w2 ⟨rfl,hb2⟩
   replace hX:=(hb2.block _ (qg hX)).trans hX
   replace hB:=below_call hB hB.size hb2
   clear hb2
   refine hK.out _ _ (Meets.here hX Meets.nil) (fun hMeets=>?_)
   clear hK K hMeets
   refine lay_R ?_
   refine R_p (i:=3) (v:=.bool true) (Meets.here hX Meets.nil) ?_
   refine R_p (i:=4) (v:=.pointer (some ⟨X0,11,none⟩)) (Meets.here hX Meets.nil) ?_
   refine R_l (i:=5) (v:=.slice At b.txs.length ct) 99 _ List.mem_cons_self rfl (yieldsIf_load_cell rfl rfl rfl (fun w' hS=>rc hS 11 rfl) Tryz.underlying27 rfl) (Meets.here hX Meets.nil) ?_
   refine R_p (i:=6) (v:=.int .i64 (b.txs.length:Int)) (Meets.here hX Meets.nil) ?_
   refine R_p (i:=7) (v:=.bool false) (Meets.here hX Meets.nil) ?_
   refine R_p (i:=8) (v:=.bool false) (Meets.here hX Meets.nil) ?_
   refine R_p (i:=9) (v:=.bool false) (Meets.here hX Meets.nil) ?_
   refine R_s (i:=10) (Meets.here hX Meets.nil) ?_
   refine R_s (i:=11) (Meets.here hX Meets.nil) ?_
   refine R_s (i:=12) (Meets.here hX Meets.nil) ?_
   refine R_p (i:=13) (v:=.bool false) (Meets.here hX Meets.nil) ?_
   refine R_p (i:=14) (v:=.bool false) (Meets.here hX Meets.nil) ?_
   refine R_s (i:=15) (Meets.here hX Meets.nil) ?_
   refine R_s (i:=18) (Meets.here hX Meets.nil) ?_
   refine R_s (i:=16) (Meets.here hX Meets.nil) ?_
   refine R_s (i:=19) (Meets.here hX Meets.nil) ?_
   refine R_s (i:=17) (Meets.here hX Meets.nil) ?_
   refine R_s (i:=20) (Meets.here hX Meets.nil) ?_
   refine R_s (i:=21) (Meets.here hX Meets.nil) ?_
   refine R_p (i:=22) (v:=.bool false) (Meets.here hX Meets.nil) ?_
   refine R_p (i:=23) (v:=.bool false) (Meets.here hX Meets.nil) ?_
   refine R_done (by kernel_rfl) ?_ _
   have HB:=qh hB
   clear hB hX
   go_wp2_with fail
   go_ret
   exact ⟨by rw [HR.out];rfl,HB.out⟩
  have h4I:decide ((b.txs.length:Int)≤4)=true:=by rw [decide_eq_true_iff];omega
  have hp:=HOK.out
  rw [decide_eq_true h4,Bool.true_and,Bool.true_and] at hp
  have HOK:=qh hp
  clear hp h4
  cases ak with
  | false =>
   have hR:R=false:=by rw [HOK.out];rfl
   have HR:=qh hR
   clear hR
   go_enter Tryz.func11,Tryz.ntmps11
   go_wp2_with fail
   obtain ⟨X0,hX0⟩:∃ X0,w.heap.size=X0:=⟨_,rfl⟩
   have hX:(w.alloc (.cells (bkR b Av cv As cs At ct) 29)).drew.heap[X0]? = some (.cells (bkR b Av cv As cs At ct) 29 (0,0)):=by rw [← hX0];exact HX.out
   have hB:=HB.out.drew
   clear HX HB
   refine wp_region_R [(99,fun w'=>w'.heap[X0]? = some (.cells (bkR b Av cv As cs At ct) 29 (0,0)))] (by kernel_rfl) ?_
   generalize (w.alloc (.cells (bkR b Av cv As cs At ct) 29)).drew=WD at hX hB ⊢
   rw [hX0]
   refine R_p (i:=0) (v:=.pointer (some ⟨X0,0,none⟩)) (Meets.here hX Meets.nil) ?_
   refine R_l (i:=1) (v:=.agg (hdR b.hd Av cv As cs)) 99 _ List.mem_cons_self rfl (yieldsIf_load_at rfl rfl (g:=X0) (o:=0) rfl [.string (bs b.hd.parent),.int .u64 (b.hd.height:Int),.string (bs b.hd.root),.string (bs b.hd.txs),.string (bs b.hd.prop),.string (bs b.hd.van),.slice Av b.hd.vals.length cv,.string (bs b.hd.vote),.bool b.hd.add,.int .u64 (b.hd.round:Int),.slice As b.hd.seals.length cs] (fun w' hS=>hd_at hS) Tryz.underlying26 rfl infoHd) (Meets.here hX Meets.nil) ?_
   refine R_now 2 fun K hK=>?_
   go_simp
   refine (HH.out _ hB).mono ?_
   rintro e w2 ⟨rfl,hb2⟩
   replace hX:=(hb2.block _ (qg hX)).trans hX
   replace hB:=below_call hB hB.size hb2
   clear hb2
   refine hK.out _ _ (Meets.here hX Meets.nil) (fun hMeets=>?_)
   clear hK K hMeets
   refine lay_R ?_
   refine R_p (i:=3) (v:=.bool true) (Meets.here hX Meets.nil) ?_
   refine R_p (i:=4) (v:=.pointer (some ⟨X0,11,none⟩)) (Meets.here hX Meets.nil) ?_
   refine R_l (i:=5) (v:=.slice At b.txs.length ct) 99 _ List.mem_cons_self rfl (yieldsIf_load_cell rfl rfl rfl (fun w' hS=>rc hS 11 rfl) Tryz.underlying27 rfl) (Meets.here hX Meets.nil) ?_
   refine R_p (i:=6) (v:=.int .i64 (b.txs.length:Int)) (Meets.here hX Meets.nil) ?_
   refine R_p (i:=7) (v:=.bool true) (Meets.here hX Meets.nil) ?_
   refine R_p (i:=8) (v:=.bool true) (Meets.here hX Meets.nil) ?_
   refine R_p (i:=9) (v:=.bool true) (Meets.here hX Meets.nil) ?_
   refine R_p (i:=10) (v:=.pointer (some ⟨X0,11,none⟩)) (Meets.here hX Meets.nil) ?_
   refine R_l (i:=11) (v:=.slice At b.txs.length ct) 99 _ List.mem_cons_self rfl (yieldsIf_load_cell rfl rfl rfl (fun w' hS=>rc hS 11 rfl) Tryz.underlying27 rfl) (Meets.here hX Meets.nil) ?_
   refine R_now 12 fun K hK=>?_
   go_simp
   refine (HA.out _ hB).mono ?_
   rintro e w12 ⟨rfl,hb12⟩
   replace hX:=(hb12.block _ (qg hX)).trans hX
   replace hB:=below_call hB hB.size hb12
   clear hb12
   refine hK.out _ _ (Meets.here hX Meets.nil) (fun hMeets=>?_)
   clear hK K hMeets
   refine lay_R ?_
   refine R_p (i:=13) (v:=.bool false) (Meets.here hX Meets.nil) ?_
   refine R_p (i:=14) (v:=.bool false) (Meets.here hX Meets.nil) ?_
   refine R_s (i:=15) (Meets.here hX Meets.nil) ?_
   refine R_s (i:=18) (Meets.here hX Meets.nil) ?_
   refine R_s (i:=16) (Meets.here hX Meets.nil) ?_
   refine R_s (i:=19) (Meets.here hX Meets.nil) ?_
   refine R_s (i:=17) (Meets.here hX Meets.nil) ?_
   refine R_s (i:=20) (Meets.here hX Meets.nil) ?_
   refine R_s (i:=21) (Meets.here hX Meets.nil) ?_
   refine R_p (i:=22) (v:=.bool false) (Meets.here hX Meets.nil) ?_
   refine R_p (i:=23) (v:=.bool false) (Meets.here hX Meets.nil) ?_
   refine R_done (by kernel_rfl) ?_ _
   have HB:=qh hB
   clear hB hX
   go_wp2_with fail
   go_ret
   exact ⟨by rw [HR.out];rfl,HB.out⟩
  | true =>
   have hall:=List.all_eq_true.1 HAK.out
   have hS:=HS.out hall
   have hp:=HOK.out
   obtain ⟨q,hq⟩:∃ q,(sumsT b.txs == b.hd.txs)=q:=⟨_,rfl⟩
   rw [hq,Bool.true_and] at hp
   obtain ⟨st,hst⟩:∃ st,sumsT b.txs=st:=⟨_,rfl⟩
   rw [hst] at hS
   rw [hst] at hq
   have HS:=qh hS
   have hR:R=q:=hp
   clear hS hall hp hst
   have HR:=qh hR
   clear hR
   go_enter Tryz.func11,Tryz.ntmps11
   go_wp2_with fail
   obtain ⟨X0,hX0⟩:∃ X0,w.heap.size=X0:=⟨_,rfl⟩
   have hX:(w.alloc (.cells (bkR b Av cv As cs At ct) 29)).drew.heap[X0]? = some (.cells (bkR b Av cv As cs At ct) 29 (0,0)):=by rw [← hX0];exact HX.out
   have hB:=HB.out.drew
   clear HX HB
   refine wp_region_R [(99,fun w'=>w'.heap[X0]? = some (.cells (bkR b Av cv As cs At ct) 29 (0,0)))] (by kernel_rfl) ?_
   generalize (w.alloc (.cells (bkR b Av cv As cs At ct) 29)).drew=WD at hX hB ⊢
   rw [hX0]
   refine R_p (i:=0) (v:=.pointer (some ⟨X0,0,none⟩)) (Meets.here hX Meets.nil) ?_
   refine R_l (i:=1) (v:=.agg (hdR b.hd Av cv As cs)) 99 _ List.mem_cons_self rfl (yieldsIf_load_at rfl rfl (g:=X0) (o:=0) rfl [.string (bs b.hd.parent),.int .u64 (b.hd.height:Int),.string (bs b.hd.root),.string (bs b.hd.txs),.string (bs b.hd.prop),.string (bs b.hd.van),.slice Av b.hd.vals.length cv,.string (bs b.hd.vote),.bool b.hd.add,.int .u64 (b.hd.round:Int),.slice As b.hd.seals.length cs] (fun w' hS=>hd_at hS) Tryz.underlying26 rfl infoHd) (Meets.here hX Meets.nil) ?_
   refine R_now 2 fun K hK=>?_
   go_simp
   refine (HH.out _ hB).mono ?_
   rintro e w2 ⟨rfl,hb2⟩
   replace hX:=(hb2.block _ (qg hX)).trans hX
   replace hB:=below_call hB hB.size hb2
   clear hb2
   refine hK.out _ _ (Meets.here hX Meets.nil) (fun hMeets=>?_)
   clear hK K hMeets
   refine lay_R ?_
   refine R_p (i:=3) (v:=.bool true) (Meets.here hX Meets.nil) ?_
   refine R_p (i:=4) (v:=.pointer (some ⟨X0,11,none⟩)) (Meets.here hX Meets.nil) ?_
   refine R_l (i:=5) (v:=.slice At b.txs.length ct) 99 _ List.mem_cons_self rfl (yieldsIf_load_cell rfl rfl rfl (fun w' hS=>rc hS 11 rfl) Tryz.underlying27 rfl) (Meets.here hX Meets.nil) ?_
   refine R_p (i:=6) (v:=.int .i64 (b.txs.length:Int)) (Meets.here hX Meets.nil) ?_
   refine R_p (i:=7) (v:=.bool true) (Meets.here hX Meets.nil) ?_
   refine R_p (i:=8) (v:=.bool true) (Meets.here hX Meets.nil) ?_
   refine R_p (i:=9) (v:=.bool true) (Meets.here hX Meets.nil) ?_
   refine R_p (i:=10) (v:=.pointer (some ⟨X0,11,none⟩)) (Meets.here hX Meets.nil) ?_
   refine R_l (i:=11) (v:=.slice At b.txs.length ct) 99 _ List.mem_cons_self rfl (yieldsIf_load_cell rfl rfl rfl (fun w' hS=>rc hS 11 rfl) Tryz.underlying27 rfl) (Meets.here hX Meets.nil) ?_
   refine R_now 12 fun K hK=>?_
   go_simp
   refine (HA.out _ hB).mono ?_
   rintro e w12 ⟨rfl,hb12⟩
   replace hX:=(hb12.block _ (qg hX)).trans hX
   replace hB:=below_call hB hB.size hb12
   clear hb12
   refine hK.out _ _ (Meets.here hX Meets.nil) (fun hMeets=>?_)
   clear hK K hMeets
   refine lay_R ?_
   refine R_p (i:=13) (v:=.bool true) (Meets.here hX Meets.nil) ?_
   refine R_p (i:=14) (v:=.bool true) (Meets.here hX Meets.nil) ?_
   refine R_p (i:=15) (v:=.pointer (some ⟨X0,11,none⟩)) (Meets.here hX Meets.nil) ?_
   refine R_p (i:=18) (v:=.pointer (some ⟨X0,0,none⟩)) (Meets.here hX Meets.nil) ?_
   refine R_l (i:=16) (v:=.slice At b.txs.length ct) 99 _ List.mem_cons_self rfl (yieldsIf_load_cell rfl rfl rfl (fun w' hS=>rc hS 11 rfl) Tryz.underlying27 rfl) (Meets.here hX Meets.nil) ?_
   refine R_p (i:=19) (v:=.pointer (some ⟨X0,3,none⟩)) (Meets.here hX Meets.nil) ?_
   refine R_l (i:=20) (v:=.string (bs b.hd.txs)) 99 _ List.mem_cons_self rfl (yieldsIf_load_cell rfl rfl rfl (fun w' hS=>rc hS 3 rfl) Tryz.underlying9 rfl) (Meets.here hX Meets.nil) ?_
   refine R_now 17 fun K hK=>?_
   go_simp
   refine (HS.out _ hB).mono ?_
   rintro e w17 ⟨rfl,hb17⟩
   replace hX:=(hb17.block _ (qg hX)).trans hX
   replace hB:=below_call hB hB.size hb17
   clear hb17
   refine hK.out _ _ (Meets.here hX Meets.nil) (fun hMeets=>?_)
   clear hK K hMeets
   refine lay_R ?_
   refine R_p (i:=21) (v:=.bool q) (Meets.here hX Meets.nil) ?_
   refine R_p (i:=22) (v:=.bool q) (Meets.here hX Meets.nil) ?_
   refine R_p (i:=23) (v:=.bool q) (Meets.here hX Meets.nil) ?_
   refine R_done (by kernel_rfl) ?_ _
   have HB:=qh hB
   clear hB hX
   go_wp2_with fail
   go_ret
   exact ⟨by rw [HR.out];rfl,HB.out⟩
theorem rbytes18_any (b:Bk) (hf:b.Fine) (hk:OkBk b) (Av As At:Option Addr) (cv cs ct:Nat) (w:World) (hv:BkV Any w b Av cv As cs At ct) :
  Calls Tryz.prog 15 #[.agg (bkR b Av cv As cs At ct)] w fun e w'=>e=.returned (.string (bs (bkB b)))∧Below w.heap.size w w':=by
 have hwf:b.Wf:=⟨hf.hd.wf,fun t ht=>(hf.txs t ht).wf⟩
 have h0:=heap_alloc_new w (.cells (bkR b Av cv As cs At ct) 29)
 have hb:=(Below.refl w.heap.size w).alloc qn (.cells (bkR b Av cv As cs At ct) 29)
 have hlen:=bkB_len hk hwf
 have hH:=fun (W:World) (hb:Below w.heap.size w W)=>rrecord_any b.hd hf.hd.wf hk.hd Av As cv cs W (hv.hd.keep hb)
 obtain ⟨hs,hhs⟩:∃ hs,hdB b.hd=hs:=⟨_,rfl⟩
 rw [hhs] at hH
 have HH:=qh hH
 have HHS:=qh hhs
 have HT:=qh (fun t ht (W:World)=>rtbytes_any t (hf.txs t ht).wf (hk.each t ht) W)
 have HE:=qh (fun A c (W:World) hv=>Write_any 6 (bkI b) A c W hlen.2 (by omega) (by have:=hlen.1;unfold bkB at this;omega) hv)
 have HV:=qh hv
 have HX:=qh h0
 have HB:=qh hb
 have h4:=hk.len
 have h4I:(b.txs.length:Int)≤4:=by omega
 have y0:=rc (u:=.string (bs b.hd.parent)) h0 0 rfl
 have y1:=rc (u:=.int .u64 (b.hd.height:Int)) h0 1 rfl
 have y2:=rc (u:=.string (bs b.hd.root)) h0 2 rfl
 have y3:=rc (u:=.string (bs b.hd.txs)) h0 3 rfl
 have y4:=rc (u:=.string (bs b.hd.prop)) h0 4 rfl
 have y5:=rc (u:=.string (bs b.hd.van)) h0 5 rfl
 have y6:=rc (u:=.slice Av b.hd.vals.length cv) h0 6 rfl
 have y7:=rc (u:=.string (bs b.hd.vote)) h0 7 rfl
 have y8:=rc (u:=.bool b.hd.add) h0 8 rfl
 have y9:=rc (u:=.int .u64 (b.hd.round:Int)) h0 9 rfl
 have y10:=rc (u:=.slice As b.hd.seals.length cs) h0 10 rfl
 have y11:=rc (u:=.slice At b.txs.length ct) h0 11 rfl
 clear hlen hH hhs h0 hb hv hf hk hwf
 go_enter Tryz.func15,Tryz.ntmps15
 go_wp2_with fail
 refine (HH.out _ HB.out).mono ?_
 rintro e w2 ⟨rfl,hb2⟩
 have hX2:=(hb2.block _ (qg HX.out)).trans HX.out
 have HB2:=qh (below_call HB.out HB.out.size hb2)
 have hI1:=heap_alloc_new w2 (.cells #[.bool false,.string (bs hs),.slice none 0 0] 49)
 have hI2:=heap_alloc_new (w2.alloc (.cells #[.bool false,.string (bs hs),.slice none 0 0] 49)) (.cells #[.bool true,.string ⟨#[]⟩,.slice (some ⟨w2.heap.size,0,none⟩) 1 1] 49)
 rw [show (w2.alloc (.cells #[.bool false,.string (bs hs),.slice none 0 0] 49)).heap.size=w2.heap.size+1 by simp] at hI2
 have hX4:=(heap_alloc_old (w2.alloc (.cells #[.bool false,.string (bs hs),.slice none 0 0] 49)) (.cells #[.bool true,.string ⟨#[]⟩,.slice (some ⟨w2.heap.size,0,none⟩) 1 1] 49) (by have:=(qg hX2);simp;omega)).trans ((heap_alloc_old w2 (.cells #[.bool false,.string (bs hs),.slice none 0 0] 49) (qg hX2)).trans hX2)
 have z11:=rc (u:=.slice At b.txs.length ct) hX4 11 rfl
 have HI2:=qh hI2
 have HO0:=qh ((World.ownsRow_lit (base:=w2.heap.size) (e:=49) (size:=3) w2 #[.bool false,.string (bs hs),.slice none 0 0] 1 qn (by simp [maxLen]) rfl).alloc (.cells #[.bool true,.string ⟨#[]⟩,.slice (some ⟨w2.heap.size,0,none⟩) 1 1] 49))
 have HB4:=qh ((HB2.out.alloc HB2.out.size (.cells #[.bool false,.string (bs hs),.slice none 0 0] 49)).alloc (Nat.le_trans HB2.out.size (by simp)) (.cells #[.bool true,.string ⟨#[]⟩,.slice (some ⟨w2.heap.size,0,none⟩) 1 1] 49))
 have hwM:w.heap.size≤w2.heap.size:=HB2.out.size
 clear hb2 hX2 hX4 hI1 hI2 HX HB HB2 y0 y1 y2 y3 y4 y5 y6 y7 y8 y9 y10 y11
 go_wp2_with fail
 obtain ⟨M,hM⟩:∃ M,w2.heap.size=M:=⟨_,rfl⟩
 obtain ⟨Z,hZe⟩:∃ Z,Z=M+1:=⟨_,rfl⟩
 have HN0:Hid (M≠Z):=qh (by omega)
 have hMZ:M < Z:=by omega
 generalize hW4:(w2.alloc (.cells #[.bool false,.string (bs hs),.slice none 0 0] 49)).alloc (.cells #[.bool true,.string ⟨#[]⟩,.slice (some ⟨w2.heap.size,0,none⟩) 1 1] 49)=W4 at HI2 HO0 HB4 z11 ⊢
 clear hW4
 have hI2:=HI2.out
 have hO0:=HO0.out
 rw [hM] at hI2 hO0 hwM ⊢
 rw [← hZe] at hI2 ⊢
 clear hZe
 have HI2:=qh hI2
 have HO0:=qh hO0
 clear hI2 hO0 hM
 go_loopw [15] (fun a wr=>∃ (i:Nat) (u:Value),a=.int .i64 (i:Int)∧i≤b.txs.length∧wr.heap[Z]? = some (.cells #[.bool true,.string ⟨#[]⟩,u] 49 (0,0))∧wr.ownsRow M 49 3 u (i+1) (itsC ((bkTs b).take (i+1)))∧Hid (u.ownBlock≠some Z)∧Below w.heap.size w wr) (fun a _=>b.txs.length - (intOf a).toNat)
 case atStart=>exact ⟨0,_,rfl,Nat.zero_le _,HI2.out,(by rw [show (bkTs b).take (0+1) = [hs] by unfold bkTs;rw [HHS.out];rfl];exact HO0.out),qh (fun e=>HN0.out (Option.some.inj e)),HB4.out⟩
 case round =>
  clear HI2 HO0 HB4 z11 HN0
  obtain ⟨i,u,rfl,hi,hZ,hown,hnz,hB⟩:=hrel
  obtain ⟨A',c',rfl⟩:=own_form hown
  have HNZ:=hnz
  clear hnz
  by_cases hlt:i < b.txs.length
  ·obtain ⟨t,ht⟩:=getElem_ex hlt
   obtain ⟨g,o,rfl,kc⟩:=trs_at (PlV.keep HV.out.txs hB) ht
   have hltI:(i:Int) < b.txs.length:=by omega
   have q0:=kc 0 (.string (bs t.to)) rfl
   have q1:=kc 1 (.int .u64 (t.am:Int)) rfl
   have q2:=kc 2 (.int .u64 (t.no:Int)) rfl
   have q3:=kc 3 (.int .u64 (t.sg.r.a:Int)) rfl
   have q4:=kc 4 (.int .u64 (t.sg.r.b:Int)) rfl
   have q5:=kc 5 (.int .u64 (t.sg.r.c:Int)) rfl
   have q6:=kc 6 (.int .u64 (t.sg.r.d:Int)) rfl
   have q7:=kc 7 (.int .u64 (t.sg.s.a:Int)) rfl
   have q8:=kc 8 (.int .u64 (t.sg.s.b:Int)) rfl
   have q9:=kc 9 (.int .u64 (t.sg.s.c:Int)) rfl
   have q10:=kc 10 (.int .u64 (t.sg.s.d:Int)) rfl
   have q11:=kc 11 (.int .i64 t.sg.v) rfl
   simp only [Nat.add_zero] at q0
   have hC:=HT.out t (List.mem_of_getElem? ht)
   obtain ⟨s,hs1⟩:∃ s,trB t=s:=⟨_,rfl⟩
   rw [hs1] at hC
   have HC:=qh hC
   have HA:Hid ((bkTs b).take (i+1+1)=(bkTs b).take (i+1) ++ [s]):=qh (by rw [← hs1];exact take_snoc (by unfold bkTs;rw [List.getElem?_cons_succ,List.getElem?_map,ht];rfl))
   have HZ:=qh hZ
   have HO:=qh hown
   have HB:=qh hB
   clear hZ hown hB kc ht hC hs1
   go_wp2_with fail
   clear q0 q1 q2 q3 q4 q5 q6 q7 q8 q9 q10 q11
   have hZ:(wr.alloc (.cells (trR t) 55)).drew.heap[Z]? = some (.cells #[.bool true,.string ⟨#[]⟩,.slice A' (i+1) c'] 49 (0,0)):=(heap_alloc_old wr (.cells (trR t) 55) (qg HZ.out)).trans HZ.out
   have hY:(wr.alloc (.cells (trR t) 55)).drew.heap[wr.heap.size]? = some (.cells (trR t) 55 (0,0)):=heap_alloc_new wr (.cells (trR t) 55)
   have hB:Below w.heap.size w (wr.alloc (.cells (trR t) 55)).drew:=(HB.out.alloc HB.out.size (.cells (trR t) 55)).drew
   have hown:=own_keep HO.out ((Below.refl wr.heap.size wr).alloc qn (.cells (trR t) 55)).drew
   have hob:=fun k e=>(HO.out.lt k e).2
   clear HZ HB HO
   refine wp_region_R [(8,fun w'=>w'.heap[Z]? = some (.cells #[.bool true,.string ⟨#[]⟩,.slice A' (i+1) c'] 49 (0,0))∧w'.heap[wr.heap.size]? = some (.cells (trR t) 55 (0,0)))] (by kernel_rfl) ?_
   generalize (wr.alloc (.cells (trR t) 55)).drew=W3 at hZ hY hB hown ⊢
   refine R_p (i:=0) (v:=.pointer (some ⟨Z,2,none⟩)) (Meets.here ⟨hZ,hY⟩ Meets.nil) ?_
   refine R_l (i:=2) (v:=.agg (trR t)) 8 _ List.mem_cons_self rfl (yieldsIf_load_row rfl rfl rfl (fun w' hS=>hS.2) Tryz.underlying55 rfl infoTr) (Meets.here ⟨hZ,hY⟩ Meets.nil) ?_
   refine R_l (i:=1) (v:=.slice A' (i+1) c') 8 _ List.mem_cons_self rfl (yieldsIf_load_cell rfl rfl rfl (fun w' hS=>rc hS.1 2 rfl) Tryz.underlying47 rfl) (Meets.here ⟨hZ,hY⟩ Meets.nil) ?_
   refine R_now 3 fun K hK=>?_
   go_simp
   refine (HC.out _).mono ?_
   rintro e w3 ⟨rfl,hb3⟩
   replace hZ:=(hb3.block _ (qg hZ)).trans hZ
   replace hY:=(hb3.block _ (qg hY)).trans hY
   replace hB:=below_call hB hB.size hb3
   replace hown:=own_keep hown hb3
   clear hb3
   refine hK.out _ _ (Meets.here ⟨hZ,hY⟩ Meets.nil) (fun hMeets=>?_)
   clear hK K hMeets
   refine lay_R ?_
   refine R_p (i:=4) (v:=.agg #[.bool false,.string (bs s),.slice none 0 0]) (Meets.here ⟨hZ,hY⟩ Meets.nil) ?_
   refine R_now 5 fun K hK=>?_
   have hbb:Below w3.heap.size w3 (w3.alloc (.cells #[.bool false,.string (bs s),.slice none 0 0] 49)):=(Below.refl _ _).alloc qn _
   have hlies:=lies_new w3 #[.bool false,.string (bs s),.slice none 0 0] 49
   replace hZ:=(hbb.block _ (qg hZ)).trans hZ
   replace hY:=(hbb.block _ (qg hY)).trans hY
   replace hB:=below_call hB hB.size hbb
   replace hown:=own_keep hown hbb
   go_simp
   obtain ⟨N,hN⟩:∃ N,w3.heap.size=N:=⟨_,rfl⟩
   rw [hN] at hlies ⊢
   generalize w3.alloc (.cells #[.bool false,.string (bs s),.slice none 0 0] 49)=w5 at hlies hZ hY hB hown ⊢
   clear hbb hN
   refine hK.out _ _ (Meets.here ⟨hZ,hY⟩ Meets.nil) (fun hMeets=>?_)
   clear hK K hMeets
   refine lay_R ?_
   refine R_now 6 fun K hK=>?_
   have hlZ:=(qg hZ)
   have hle:M≤w5.heap.size:=by omega
   have hlY:=(qg hY)
   refine stl_append elItem rfl rfl M hown rfl (m:=1) [.bool false,.string (bs s),.slice none 0 0] rfl rfl hlies ?_ ?_ ?_ hle ?_
   ·(intro u hu;simp at hu;rcases hu with rfl | rfl | rfl <;> rfl)
   ·simp only [maxLen];omega
   ·omega
   intro v1 w6 hown1 hg1 hat1
   obtain ⟨A3,c3,rfl⟩:=own_form hown1
   have hbp:=below_app (Below.refl M _) hown hg1 hle qn
   have hNZ1:(Value.slice A3 (i+1+1) c3).ownBlock≠some Z:=by
    rcases hat1 with h | h
    ·rw [h];exact HNZ.out
    ·rw [h];intro e;have e:=Option.some.inj e;omega
   replace hZ:=(hg1.block Z hlZ (fun e=>HNZ.out e.symm)).trans hZ
   replace hB:=hB.trans (hbp.mono hwM)
   replace hY:=(hg1.block wr.heap.size hlY (fun e=>by have:=hob _ e.symm;omega)).trans hY
   clear hown hlies hbp hg1 hat1
   have hown:=hown1
   clear hown1
   refine hK.out _ _ (Meets.here ⟨hZ,hY⟩ Meets.nil) (fun hMeets=>?_)
   clear hK K hMeets
   refine lay_R ?_
   refine R_p (i:=7) (v:=.pointer (some ⟨Z,2,none⟩)) (Meets.here ⟨hZ,hY⟩ Meets.nil) ?_
   refine R_now 8 fun K hK=>?_
   have d:=rc (u:=.slice A' (i+1) c') hZ 2 rfl
   have df:=rf hZ 2
   go_simp
   have hZn:(w6.setCell ⟨Z,2,none⟩ (.slice A3 (i+1+1) c3)).heap[Z]? = some (.cells #[.bool true,.string ⟨#[]⟩,.slice A3 (i+1+1) c3] 49 (0,0)):=heap_setCell_here hZ (i:=2) _
   replace hB:=hB.setCell (p:=⟨Z,2,none⟩) (show w.heap.size≤Z by omega) (.slice A3 (i+1+1) c3)
   replace hown:=ownsRow_setCell_other hown (a:=⟨Z,2,none⟩) hNZ1 (.slice A3 (i+1+1) c3)
   have hsz9:M≤(w6.setCell ⟨Z,2,none⟩ (.slice A3 (i+1+1) c3)).heap.size:=by rw [show (w6.setCell ⟨Z,2,none⟩ (.slice A3 (i+1+1) c3)).heap.size=w6.heap.size by simp [World.setCell]];have:=(qg hZ);omega
   generalize w6.setCell ⟨Z,2,none⟩ (.slice A3 (i+1+1) c3)=w8 at hZn hB hown hsz9 ⊢
   clear hZ d df
   refine hK.out _ _ (Meets.past (by kernel_rfl) Meets.nil) (fun hMeets=>?_)
   clear hK K hMeets
   refine lay_R ?_
   refine R_done (by kernel_rfl) ?_ _
   rw [show itsC ((bkTs b).take (i+1)) ++ [.bool false,.string (bs s),.slice none 0 0]=itsC ((bkTs b).take (i+1+1)) by rw [HA.out,itsC_snoc];rfl] at hown
   have HZ:=qh hZn
   have HB:=qh hB
   have HO:=qh hown
   have HN1:=qh hNZ1
   clear hZn hB hown hNZ1
   go_wp2_with fail
   go_roundw
   case rel=>exact ⟨i+1,_,by go_num,hlt,HZ.out,HO.out,HN1,HB.out⟩
   case measure=>simp [intOf];omega
  ·obtain rfl:i=b.txs.length:=by omega
   have hln:(bkTs b).length=b.txs.length+1:=by unfold bkTs;simp
   rw [List.take_of_length_le (by omega)] at hown
   have hiv:ItemV Any wr (bkI b) A' c':=by
    have h1:=rep_own (S:=Any) (es:=itemsD ((bkTs b).map leafIt)) hown (repN_itsC _) (by rw [itemsD_len,List.length_map,hln]) (fun _ _ _=>trivial)
    rw [← bkL_ts] at h1
    refine itemV_mk ?_
    show Rep Any wr (.sl 3 (itemsD (bkL b))) [.slice A' (bkL b).length c']
    rw [show (bkL b).length=b.txs.length+1 by unfold bkL;simp]
    exact h1
   have hkl:(bkI b).ks.length=b.txs.length+1:=by show (bkL b).length=_;unfold bkL;simp
   have hE:=HE.out A' c' wr hiv
   rw [hkl] at hE
   have hE:Calls Tryz.prog 40 #[.agg #[.bool true,.string ⟨#[]⟩,.slice A' (b.txs.length+1) c']] wr fun e w'=>e=.returned (.string (bs (bkB b)))∧Below wr.heap.size wr w':=hE
   have x0:=rc (u:=.bool true) hZ 0 rfl
   have x1:=rc (u:=.string ⟨#[]⟩) hZ 1 rfl
   have x2:=rc (u:=.slice A' (b.txs.length+1) c') hZ 2 rfl
   have HE:=qh hE
   have HB:=qh hB
   clear hiv hB hown hE hkl hln hZ
   go_wp2_with fail
   refine HE.out.mono ?_
   rintro e w5 ⟨rfl,hb5⟩
   have HB5:=qh (below_call HB.out HB.out.size hb5)
   clear hb5
   go_wp2_with fail
   go_ret
   exact ⟨rfl,HB5.out⟩
end Go.Proofs.YtjanaholcjkceaaGreat
