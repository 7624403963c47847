/- The walks of frame.sizes, and of frame.item at plain kinds, at numbers. -/
import Derived.Test.YteoednifdpdbnaaGreatZ27
import Derived.Test.YteoednifdpdbnaaGreatZ11
namespace Go.Proofs.YteoednifdpdbnaaGreat
set_option linter.unusedVariables false
set_option linter.unusedSimpArgs false
open Go.RowKit
set_option maxHeartbeats 4000000
set_option maxRecDepth 100000
theorem qr0 (c:UInt8) (hc:c=104∨c=97∨c=115) (w:World):Calls Tryz.prog 201 #[.int .u8 (c.toNat:Int)] w fun e w'=>e=.returned (.int .i64 (sizeC c:Nat))∧w'=w:=by
 rcases hc with rfl | rfl | rfl
 all_goals
  go_enter Tryz.func201,Tryz.ntmps201
  go_wp2_with fail
  go_ret
  exact ⟨rfl,rfl⟩
theorem quz (n:Int) (b:Bytes) (A:Option Addr) (m c:Nat) (h0:0≤n) (h64:n < 18446744073709551616) (hn:(n == 0)=true) (hm:((m:Int) == 0)=true) (hb:(b == [])=true) (w:World) :
  Calls Tryz.prog 147 #[.agg #[.int .u8 110,.slice none 0 0],.agg #[.int .u64 n,.string (bs b),.slice A m c]] w fun e w'=>e=.returned (.tuple #[.agg #[.bool false,.string (bs (digs n.toNat)),.slice none 0 0],.bool true])∧Below w.heap.size w w':=by
 have hB:Below w.heap.size w (((w.alloc (.cells #[.int .u8 110,.slice none 0 0] 153)).alloc (.cells #[.int .u64 n,.string (bs b),.slice A m c] 81)).alloc (.cells #[.bool false,.string ⟨#[]⟩,.slice none 0 0] 53)):=(((Below.refl _ _).alloc qn _).alloc (by simp) _).alloc (by simp;omega) _
 have hI:=heap_alloc_new ((w.alloc (.cells #[.int .u8 110,.slice none 0 0] 153)).alloc (.cells #[.int .u64 n,.string (bs b),.slice A m c] 81)) (.cells #[.bool false,.string ⟨#[]⟩,.slice none 0 0] 53)
 have hF:=(heap_alloc_old ((w.alloc (.cells #[.int .u8 110,.slice none 0 0] 153)).alloc (.cells #[.int .u64 n,.string (bs b),.slice A m c] 81)) (.cells #[.bool false,.string ⟨#[]⟩,.slice none 0 0] 53) (by simp)).trans (heap_alloc_new (w.alloc (.cells #[.int .u8 110,.slice none 0 0] 153)) (.cells #[.int .u64 n,.string (bs b),.slice A m c] 81))
 have hKd:=(heap_alloc_old ((w.alloc (.cells #[.int .u8 110,.slice none 0 0] 153)).alloc (.cells #[.int .u64 n,.string (bs b),.slice A m c] 81)) (.cells #[.bool false,.string ⟨#[]⟩,.slice none 0 0] 53) (by simp;omega)).trans ((heap_alloc_old (w.alloc (.cells #[.int .u8 110,.slice none 0 0] 153)) (.cells #[.int .u64 n,.string (bs b),.slice A m c] 81) (by simp)).trans (heap_alloc_new w _))
 simp only [World.size_alloc] at hI hF hKd
 have HB:=qh hB
 have HI:=qh hI
 have HF:=qh hF
 have HK:=qh hKd
 clear hB hI hF hKd
 go_enter Tryz.func147,Tryz.ntmps147
 go_wp2_with fail
 have hbd:Below (((w.alloc (.cells #[.int .u8 110,.slice none 0 0] 153)).alloc (.cells #[.int .u64 n,.string (bs b),.slice A m c] 81)).alloc (.cells #[.bool false,.string ⟨#[]⟩,.slice none 0 0] 53)).heap.size (((w.alloc (.cells #[.int .u8 110,.slice none 0 0] 153)).alloc (.cells #[.int .u64 n,.string (bs b),.slice A m c] 81)).alloc (.cells #[.bool false,.string ⟨#[]⟩,.slice none 0 0] 53)) (((w.alloc (.cells #[.int .u8 110,.slice none 0 0] 153)).alloc (.cells #[.int .u64 n,.string (bs b),.slice A m c] 81)).alloc (.cells #[.bool false,.string ⟨#[]⟩,.slice none 0 0] 53)).drew:=(Below.refl _ _).drew
 have hKd:=(hbd.block _ (qg HK.out)).trans HK.out
 have hF:=(hbd.block _ (qg HF.out)).trans HF.out
 have hI:=(hbd.block _ (qg HI.out)).trans HI.out
 have hB:=qab HB.out HB.out.size hbd
 refine qao [(99,fun w'=>w'.heap[w.heap.size]? = some (.cells #[.int .u8 110,.slice none 0 0] 153 (0,0))∧w'.heap[w.heap.size+1]? = some (.cells #[.int .u64 n,.string (bs b),.slice A m c] 81 (0,0)))] (by kernel_rfl) ?_
 generalize (((w.alloc (.cells #[.int .u8 110,.slice none 0 0] 153)).alloc (.cells #[.int .u64 n,.string (bs b),.slice A m c] 81)).alloc (.cells #[.bool false,.string ⟨#[]⟩,.slice none 0 0] 53)).drew=w3 at hKd hF hI hB ⊢
 clear hbd HK HF HI HB
 refine R_p (i:=0) (v:=.pointer (some ⟨w.heap.size+1,0,none⟩)) (Mh ⟨hKd,hF⟩ Mn) ?_
 refine R_l (i:=1) (v:=.int .u64 n) 99 _ List.mem_cons_self rfl (qae rfl rfl rfl (fun w' hS=>rc hS.2 0 rfl) Tryz.underlying22 rfl) (Mh ⟨hKd,hF⟩ Mn) ?_
 refine R_p (i:=3) (v:=.pointer (some ⟨w.heap.size+1,1,none⟩)) (Mh ⟨hKd,hF⟩ Mn) ?_
 refine R_l (i:=4) (v:=.string (bs b)) 99 _ List.mem_cons_self rfl (qae rfl rfl rfl (fun w' hS=>rc hS.2 1 rfl) Tryz.underlying9 rfl) (Mh ⟨hKd,hF⟩ Mn) ?_
 refine R_p (i:=5) (v:=.bool true) (Mh ⟨hKd,hF⟩ Mn) ?_
 refine R_now 2 fun K hK=>?_
 go_simp
 refine (qcd n h0 h64 _).mono ?_
 rintro e w4 ⟨rfl,hb4⟩
 replace hKd:=(hb4.block _ (qg hKd)).trans hKd
 replace hF:=(hb4.block _ (qg hF)).trans hF
 replace hI:=(hb4.block _ (qg hI)).trans hI
 replace hB:=qab hB hB.size hb4
 clear hb4
 refine hK.out _ _ (Mh ⟨hKd,hF⟩ Mn) (fun hMeets=>?_)
 clear hK K hMeets
 refine lay_R ?_
 refine R_p (i:=6) (v:=.bool true) (Mh ⟨hKd,hF⟩ Mn) ?_
 refine R_p (i:=7) (v:=.pointer (some ⟨w.heap.size+1,2,none⟩)) (Mh ⟨hKd,hF⟩ Mn) ?_
 refine R_l (i:=8) (v:=.slice A m c) 99 _ List.mem_cons_self rfl (qae rfl rfl rfl (fun w' hS=>rc hS.2 2 rfl) Tryz.underlying78 rfl) (Mh ⟨hKd,hF⟩ Mn) ?_
 refine R_p (i:=9) (v:=.int .i64 (m:Int)) (Mh ⟨hKd,hF⟩ Mn) ?_
 refine R_p (i:=10) (v:=.bool true) (Mh ⟨hKd,hF⟩ Mn) ?_
 refine R_p (i:=11) (v:=.bool true) (Mh ⟨hKd,hF⟩ Mn) ?_
 have d0:w4.cell? ⟨w.heap.size+1+1,0,none⟩=some (.bool false):=rc0 hI
 have d1:w4.cell? ⟨w.heap.size+1+1,1,none⟩=some (.string ⟨#[]⟩):=rc1 hI
 have d2:w4.cell? ⟨w.heap.size+1+1,2,none⟩=some (.slice none 0 0):=rc2 hI
 have f0:=rf hI 0
 have f1:=rf hI 1
 have f2:=rf hI 2
 refine R_now 12 fun K hK=>?_
 obtain ⟨W9,hW9⟩:∃ W9,W9=(((w4.setCell ⟨w.heap.size+1+1,0,none⟩ (.bool false)).setCell ⟨w.heap.size+1+1,1,none⟩ (.string (bs (digs n.toNat)))).setCell ⟨w.heap.size+1+1,2,none⟩ (.slice none 0 0)):=⟨_,rfl⟩
 have hI9:W9.heap[w.heap.size+1+1]? = some (.cells #[.bool false,.string (bs (digs n.toNat)),.slice none 0 0] 53 (0,0)):=by rw [hW9];exact qaa (qaa (qaa hI _) _) _
 have hF9:W9.heap[w.heap.size+1]? = some (.cells #[.int .u64 n,.string (bs b),.slice A m c] 81 (0,0)):=by rw [hW9];exact (qac (by omega) _).trans ((qac (by omega) _).trans ((qac (by omega) _).trans hF))
 have hKd9:W9.heap[w.heap.size]? = some (.cells #[.int .u8 110,.slice none 0 0] 153 (0,0)):=by rw [hW9];exact (qac (by omega) _).trans ((qac (by omega) _).trans ((qac (by omega) _).trans hKd))
 have hB9:Below w.heap.size w W9:=by rw [hW9];exact ((hB.setCell (p:=⟨w.heap.size+1+1,_,_⟩) (by simp;omega) _).setCell (p:=⟨w.heap.size+1+1,_,_⟩) (by simp;omega) _).setCell (p:=⟨w.heap.size+1+1,_,_⟩) (by simp;omega) _
 have HI9:=qh hI9
 have HB9:=qh hB9
 clear hI9 hB9
 go_simp
 rw [← hW9]
 clear hW9 d0 d1 d2 f0 f1 f2
 refine hK.out _ _ (Mh ⟨hKd9,hF9⟩ Mn) (fun hMeets=>?_)
 clear hK K hMeets
 refine lay_R ?_
 refine R_p (i:=13) (v:=.bool true) (Mh ⟨hKd9,hF9⟩ Mn) ?_
 refine qa7 (by kernel_rfl) ?_ _
 go_wp2_with fail
 exact bodyPost_ret (v:=.tuple #[.agg #[.bool false,.string (bs (digs n.toNat)),.slice none 0 0],.bool true]) (qah rfl _ _ (w.heap.size+1+1) _ _ _ _ rfl HI9.out _ rfl Tryz.underlying53 rfl infoI) rfl ⟨rfl,HB9.out⟩
theorem qu8 (n:Int) (b:Bytes) (A:Option Addr) (m c:Nat) (h0:0≤n) (h64:n < 18446744073709551616) (hn:(n == 0)=true) (hm:((m:Int) == 0)=true) (hb:(b == [])=false) (w:World) :
  Calls Tryz.prog 147 #[.agg #[.int .u8 110,.slice none 0 0],.agg #[.int .u64 n,.string (bs b),.slice A m c]] w fun e w'=>e=.returned (.tuple #[.agg #[.bool false,.string (bs (digs n.toNat)),.slice none 0 0],.bool false])∧Below w.heap.size w w':=by
 have hB:Below w.heap.size w (((w.alloc (.cells #[.int .u8 110,.slice none 0 0] 153)).alloc (.cells #[.int .u64 n,.string (bs b),.slice A m c] 81)).alloc (.cells #[.bool false,.string ⟨#[]⟩,.slice none 0 0] 53)):=(((Below.refl _ _).alloc qn _).alloc (by simp) _).alloc (by simp;omega) _
 have hI:=heap_alloc_new ((w.alloc (.cells #[.int .u8 110,.slice none 0 0] 153)).alloc (.cells #[.int .u64 n,.string (bs b),.slice A m c] 81)) (.cells #[.bool false,.string ⟨#[]⟩,.slice none 0 0] 53)
 have hF:=(heap_alloc_old ((w.alloc (.cells #[.int .u8 110,.slice none 0 0] 153)).alloc (.cells #[.int .u64 n,.string (bs b),.slice A m c] 81)) (.cells #[.bool false,.string ⟨#[]⟩,.slice none 0 0] 53) (by simp)).trans (heap_alloc_new (w.alloc (.cells #[.int .u8 110,.slice none 0 0] 153)) (.cells #[.int .u64 n,.string (bs b),.slice A m c] 81))
 have hKd:=(heap_alloc_old ((w.alloc (.cells #[.int .u8 110,.slice none 0 0] 153)).alloc (.cells #[.int .u64 n,.string (bs b),.slice A m c] 81)) (.cells #[.bool false,.string ⟨#[]⟩,.slice none 0 0] 53) (by simp;omega)).trans ((heap_alloc_old (w.alloc (.cells #[.int .u8 110,.slice none 0 0] 153)) (.cells #[.int .u64 n,.string (bs b),.slice A m c] 81) (by simp)).trans (heap_alloc_new w _))
 simp only [World.size_alloc] at hI hF hKd
 have HB:=qh hB
 have HI:=qh hI
 have HF:=qh hF
 have HK:=qh hKd
 clear hB hI hF hKd
 go_enter Tryz.func147,Tryz.ntmps147
 go_wp2_with fail
 have hbd:Below (((w.alloc (.cells #[.int .u8 110,.slice none 0 0] 153)).alloc (.cells #[.int .u64 n,.string (bs b),.slice A m c] 81)).alloc (.cells #[.bool false,.string ⟨#[]⟩,.slice none 0 0] 53)).heap.size (((w.alloc (.cells #[.int .u8 110,.slice none 0 0] 153)).alloc (.cells #[.int .u64 n,.string (bs b),.slice A m c] 81)).alloc (.cells #[.bool false,.string ⟨#[]⟩,.slice none 0 0] 53)) (((w.alloc (.cells #[.int .u8 110,.slice none 0 0] 153)).alloc (.cells #[.int .u64 n,.string (bs b),.slice A m c] 81)).alloc (.cells #[.bool false,.string ⟨#[]⟩,.slice none 0 0] 53)).drew:=(Below.refl _ _).drew
 have hKd:=(hbd.block _ (qg HK.out)).trans HK.out
 have hF:=(hbd.block _ (qg HF.out)).trans HF.out
 have hI:=(hbd.block _ (qg HI.out)).trans HI.out
 have hB:=qab HB.out HB.out.size hbd
 refine qao [(99,fun w'=>w'.heap[w.heap.size]? = some (.cells #[.int .u8 110,.slice none 0 0] 153 (0,0))∧w'.heap[w.heap.size+1]? = some (.cells #[.int .u64 n,.string (bs b),.slice A m c] 81 (0,0)))] (by kernel_rfl) ?_
 generalize (((w.alloc (.cells #[.int .u8 110,.slice none 0 0] 153)).alloc (.cells #[.int .u64 n,.string (bs b),.slice A m c] 81)).alloc (.cells #[.bool false,.string ⟨#[]⟩,.slice none 0 0] 53)).drew=w3 at hKd hF hI hB ⊢
 clear hbd HK HF HI HB
 refine R_p (i:=0) (v:=.pointer (some ⟨w.heap.size+1,0,none⟩)) (Mh ⟨hKd,hF⟩ Mn) ?_
 refine R_l (i:=1) (v:=.int .u64 n) 99 _ List.mem_cons_self rfl (qae rfl rfl rfl (fun w' hS=>rc hS.2 0 rfl) Tryz.underlying22 rfl) (Mh ⟨hKd,hF⟩ Mn) ?_
 refine R_p (i:=3) (v:=.pointer (some ⟨w.heap.size+1,1,none⟩)) (Mh ⟨hKd,hF⟩ Mn) ?_
 refine R_l (i:=4) (v:=.string (bs b)) 99 _ List.mem_cons_self rfl (qae rfl rfl rfl (fun w' hS=>rc hS.2 1 rfl) Tryz.underlying9 rfl) (Mh ⟨hKd,hF⟩ Mn) ?_
 refine R_p (i:=5) (v:=.bool false) (Mh ⟨hKd,hF⟩ Mn) ?_
 refine R_now 2 fun K hK=>?_
 go_simp
 refine (qcd n h0 h64 _).mono ?_
 rintro e w4 ⟨rfl,hb4⟩
 replace hKd:=(hb4.block _ (qg hKd)).trans hKd
 replace hF:=(hb4.block _ (qg hF)).trans hF
 replace hI:=(hb4.block _ (qg hI)).trans hI
 replace hB:=qab hB hB.size hb4
 clear hb4
 refine hK.out _ _ (Mh ⟨hKd,hF⟩ Mn) (fun hMeets=>?_)
 clear hK K hMeets
 refine lay_R ?_
 refine R_p (i:=6) (v:=.bool false) (Mh ⟨hKd,hF⟩ Mn) ?_
 refine R_s (i:=7) (Mh ⟨hKd,hF⟩ Mn) ?_
 refine R_s (i:=8) (Mh ⟨hKd,hF⟩ Mn) ?_
 refine R_s (i:=9) (Mh ⟨hKd,hF⟩ Mn) ?_
 refine R_s (i:=10) (Mh ⟨hKd,hF⟩ Mn) ?_
 refine R_p (i:=11) (v:=.bool false) (Mh ⟨hKd,hF⟩ Mn) ?_
 have d0:w4.cell? ⟨w.heap.size+1+1,0,none⟩=some (.bool false):=rc0 hI
 have d1:w4.cell? ⟨w.heap.size+1+1,1,none⟩=some (.string ⟨#[]⟩):=rc1 hI
 have d2:w4.cell? ⟨w.heap.size+1+1,2,none⟩=some (.slice none 0 0):=rc2 hI
 have f0:=rf hI 0
 have f1:=rf hI 1
 have f2:=rf hI 2
 refine R_now 12 fun K hK=>?_
 obtain ⟨W9,hW9⟩:∃ W9,W9=(((w4.setCell ⟨w.heap.size+1+1,0,none⟩ (.bool false)).setCell ⟨w.heap.size+1+1,1,none⟩ (.string (bs (digs n.toNat)))).setCell ⟨w.heap.size+1+1,2,none⟩ (.slice none 0 0)):=⟨_,rfl⟩
 have hI9:W9.heap[w.heap.size+1+1]? = some (.cells #[.bool false,.string (bs (digs n.toNat)),.slice none 0 0] 53 (0,0)):=by rw [hW9];exact qaa (qaa (qaa hI _) _) _
 have hF9:W9.heap[w.heap.size+1]? = some (.cells #[.int .u64 n,.string (bs b),.slice A m c] 81 (0,0)):=by rw [hW9];exact (qac (by omega) _).trans ((qac (by omega) _).trans ((qac (by omega) _).trans hF))
 have hKd9:W9.heap[w.heap.size]? = some (.cells #[.int .u8 110,.slice none 0 0] 153 (0,0)):=by rw [hW9];exact (qac (by omega) _).trans ((qac (by omega) _).trans ((qac (by omega) _).trans hKd))
 have hB9:Below w.heap.size w W9:=by rw [hW9];exact ((hB.setCell (p:=⟨w.heap.size+1+1,_,_⟩) (by simp;omega) _).setCell (p:=⟨w.heap.size+1+1,_,_⟩) (by simp;omega) _).setCell (p:=⟨w.heap.size+1+1,_,_⟩) (by simp;omega) _
 have HI9:=qh hI9
 have HB9:=qh hB9
 clear hI9 hB9
 go_simp
 rw [← hW9]
 clear hW9 d0 d1 d2 f0 f1 f2
 refine hK.out _ _ (Mh ⟨hKd9,hF9⟩ Mn) (fun hMeets=>?_)
 clear hK K hMeets
 refine lay_R ?_
 refine R_p (i:=13) (v:=.bool false) (Mh ⟨hKd9,hF9⟩ Mn) ?_
 refine qa7 (by kernel_rfl) ?_ _
 go_wp2_with fail
 exact bodyPost_ret (v:=.tuple #[.agg #[.bool false,.string (bs (digs n.toNat)),.slice none 0 0],.bool false]) (qah rfl _ _ (w.heap.size+1+1) _ _ _ _ rfl HI9.out _ rfl Tryz.underlying53 rfl infoI) rfl ⟨rfl,HB9.out⟩
theorem quf (n:Int) (b:Bytes) (A:Option Addr) (m c:Nat) (h0:0≤n) (h64:n < 18446744073709551616) (hn:(n == 0)=true) (hm:((m:Int) == 0)=false) (hb:(b == [])=true) (w:World) :
  Calls Tryz.prog 147 #[.agg #[.int .u8 110,.slice none 0 0],.agg #[.int .u64 n,.string (bs b),.slice A m c]] w fun e w'=>e=.returned (.tuple #[.agg #[.bool false,.string (bs (digs n.toNat)),.slice none 0 0],.bool false])∧Below w.heap.size w w':=by
 have hB:Below w.heap.size w (((w.alloc (.cells #[.int .u8 110,.slice none 0 0] 153)).alloc (.cells #[.int .u64 n,.string (bs b),.slice A m c] 81)).alloc (.cells #[.bool false,.string ⟨#[]⟩,.slice none 0 0] 53)):=(((Below.refl _ _).alloc qn _).alloc (by simp) _).alloc (by simp;omega) _
 have hI:=heap_alloc_new ((w.alloc (.cells #[.int .u8 110,.slice none 0 0] 153)).alloc (.cells #[.int .u64 n,.string (bs b),.slice A m c] 81)) (.cells #[.bool false,.string ⟨#[]⟩,.slice none 0 0] 53)
 have hF:=(heap_alloc_old ((w.alloc (.cells #[.int .u8 110,.slice none 0 0] 153)).alloc (.cells #[.int .u64 n,.string (bs b),.slice A m c] 81)) (.cells #[.bool false,.string ⟨#[]⟩,.slice none 0 0] 53) (by simp)).trans (heap_alloc_new (w.alloc (.cells #[.int .u8 110,.slice none 0 0] 153)) (.cells #[.int .u64 n,.string (bs b),.slice A m c] 81))
 have hKd:=(heap_alloc_old ((w.alloc (.cells #[.int .u8 110,.slice none 0 0] 153)).alloc (.cells #[.int .u64 n,.string (bs b),.slice A m c] 81)) (.cells #[.bool false,.string ⟨#[]⟩,.slice none 0 0] 53) (by simp;omega)).trans ((heap_alloc_old (w.alloc (.cells #[.int .u8 110,.slice none 0 0] 153)) (.cells #[.int .u64 n,.string (bs b),.slice A m c] 81) (by simp)).trans (heap_alloc_new w _))
 simp only [World.size_alloc] at hI hF hKd
 have HB:=qh hB
 have HI:=qh hI
 have HF:=qh hF
 have HK:=qh hKd
 clear hB hI hF hKd
 go_enter Tryz.func147,Tryz.ntmps147
 go_wp2_with fail
 have hbd:Below (((w.alloc (.cells #[.int .u8 110,.slice none 0 0] 153)).alloc (.cells #[.int .u64 n,.string (bs b),.slice A m c] 81)).alloc (.cells #[.bool false,.string ⟨#[]⟩,.slice none 0 0] 53)).heap.size (((w.alloc (.cells #[.int .u8 110,.slice none 0 0] 153)).alloc (.cells #[.int .u64 n,.string (bs b),.slice A m c] 81)).alloc (.cells #[.bool false,.string ⟨#[]⟩,.slice none 0 0] 53)) (((w.alloc (.cells #[.int .u8 110,.slice none 0 0] 153)).alloc (.cells #[.int .u64 n,.string (bs b),.slice A m c] 81)).alloc (.cells #[.bool false,.string ⟨#[]⟩,.slice none 0 0] 53)).drew:=(Below.refl _ _).drew
 have hKd:=(hbd.block _ (qg HK.out)).trans HK.out
 have hF:=(hbd.block _ (qg HF.out)).trans HF.out
 have hI:=(hbd.block _ (qg HI.out)).trans HI.out
 have hB:=qab HB.out HB.out.size hbd
 refine qao [(99,fun w'=>w'.heap[w.heap.size]? = some (.cells #[.int .u8 110,.slice none 0 0] 153 (0,0))∧w'.heap[w.heap.size+1]? = some (.cells #[.int .u64 n,.string (bs b),.slice A m c] 81 (0,0)))] (by kernel_rfl) ?_
 generalize (((w.alloc (.cells #[.int .u8 110,.slice none 0 0] 153)).alloc (.cells #[.int .u64 n,.string (bs b),.slice A m c] 81)).alloc (.cells #[.bool false,.string ⟨#[]⟩,.slice none 0 0] 53)).drew=w3 at hKd hF hI hB ⊢
 clear hbd HK HF HI HB
 refine R_p (i:=0) (v:=.pointer (some ⟨w.heap.size+1,0,none⟩)) (Mh ⟨hKd,hF⟩ Mn) ?_
 refine R_l (i:=1) (v:=.int .u64 n) 99 _ List.mem_cons_self rfl (qae rfl rfl rfl (fun w' hS=>rc hS.2 0 rfl) Tryz.underlying22 rfl) (Mh ⟨hKd,hF⟩ Mn) ?_
 refine R_p (i:=3) (v:=.pointer (some ⟨w.heap.size+1,1,none⟩)) (Mh ⟨hKd,hF⟩ Mn) ?_
 refine R_l (i:=4) (v:=.string (bs b)) 99 _ List.mem_cons_self rfl (qae rfl rfl rfl (fun w' hS=>rc hS.2 1 rfl) Tryz.underlying9 rfl) (Mh ⟨hKd,hF⟩ Mn) ?_
 refine R_p (i:=5) (v:=.bool true) (Mh ⟨hKd,hF⟩ Mn) ?_
 refine R_now 2 fun K hK=>?_
 go_simp
 refine (qcd n h0 h64 _).mono ?_
 rintro e w4 ⟨rfl,hb4⟩
 replace hKd:=(hb4.block _ (qg hKd)).trans hKd
 replace hF:=(hb4.block _ (qg hF)).trans hF
 replace hI:=(hb4.block _ (qg hI)).trans hI
 replace hB:=qab hB hB.size hb4
 clear hb4
 refine hK.out _ _ (Mh ⟨hKd,hF⟩ Mn) (fun hMeets=>?_)
 clear hK K hMeets
 refine lay_R ?_
 refine R_p (i:=6) (v:=.bool true) (Mh ⟨hKd,hF⟩ Mn) ?_
 refine R_p (i:=7) (v:=.pointer (some ⟨w.heap.size+1,2,none⟩)) (Mh ⟨hKd,hF⟩ Mn) ?_
 refine R_l (i:=8) (v:=.slice A m c) 99 _ List.mem_cons_self rfl (qae rfl rfl rfl (fun w' hS=>rc hS.2 2 rfl) Tryz.underlying78 rfl) (Mh ⟨hKd,hF⟩ Mn) ?_
 refine R_p (i:=9) (v:=.int .i64 (m:Int)) (Mh ⟨hKd,hF⟩ Mn) ?_
 refine R_p (i:=10) (v:=.bool false) (Mh ⟨hKd,hF⟩ Mn) ?_
 refine R_p (i:=11) (v:=.bool false) (Mh ⟨hKd,hF⟩ Mn) ?_
 have d0:w4.cell? ⟨w.heap.size+1+1,0,none⟩=some (.bool false):=rc0 hI
 have d1:w4.cell? ⟨w.heap.size+1+1,1,none⟩=some (.string ⟨#[]⟩):=rc1 hI
 have d2:w4.cell? ⟨w.heap.size+1+1,2,none⟩=some (.slice none 0 0):=rc2 hI
 have f0:=rf hI 0
 have f1:=rf hI 1
 have f2:=rf hI 2
 refine R_now 12 fun K hK=>?_
 obtain ⟨W9,hW9⟩:∃ W9,W9=(((w4.setCell ⟨w.heap.size+1+1,0,none⟩ (.bool false)).setCell ⟨w.heap.size+1+1,1,none⟩ (.string (bs (digs n.toNat)))).setCell ⟨w.heap.size+1+1,2,none⟩ (.slice none 0 0)):=⟨_,rfl⟩
 have hI9:W9.heap[w.heap.size+1+1]? = some (.cells #[.bool false,.string (bs (digs n.toNat)),.slice none 0 0] 53 (0,0)):=by rw [hW9];exact qaa (qaa (qaa hI _) _) _
 have hF9:W9.heap[w.heap.size+1]? = some (.cells #[.int .u64 n,.string (bs b),.slice A m c] 81 (0,0)):=by rw [hW9];exact (qac (by omega) _).trans ((qac (by omega) _).trans ((qac (by omega) _).trans hF))
 have hKd9:W9.heap[w.heap.size]? = some (.cells #[.int .u8 110,.slice none 0 0] 153 (0,0)):=by rw [hW9];exact (qac (by omega) _).trans ((qac (by omega) _).trans ((qac (by omega) _).trans hKd))
 have hB9:Below w.heap.size w W9:=by rw [hW9];exact ((hB.setCell (p:=⟨w.heap.size+1+1,_,_⟩) (by simp;omega) _).setCell (p:=⟨w.heap.size+1+1,_,_⟩) (by simp;omega) _).setCell (p:=⟨w.heap.size+1+1,_,_⟩) (by simp;omega) _
 have HI9:=qh hI9
 have HB9:=qh hB9
 clear hI9 hB9
 go_simp
 rw [← hW9]
 clear hW9 d0 d1 d2 f0 f1 f2
 refine hK.out _ _ (Mh ⟨hKd9,hF9⟩ Mn) (fun hMeets=>?_)
 clear hK K hMeets
 refine lay_R ?_
 refine R_p (i:=13) (v:=.bool false) (Mh ⟨hKd9,hF9⟩ Mn) ?_
 refine qa7 (by kernel_rfl) ?_ _
 go_wp2_with fail
 exact bodyPost_ret (v:=.tuple #[.agg #[.bool false,.string (bs (digs n.toNat)),.slice none 0 0],.bool false]) (qah rfl _ _ (w.heap.size+1+1) _ _ _ _ rfl HI9.out _ rfl Tryz.underlying53 rfl infoI) rfl ⟨rfl,HB9.out⟩
theorem qrp (n:Int) (b:Bytes) (A:Option Addr) (m c:Nat) (h0:0≤n) (h64:n < 18446744073709551616) (hn:(n == 0)=true) (hm:((m:Int) == 0)=false) (hb:(b == [])=false) (w:World) :
  Calls Tryz.prog 147 #[.agg #[.int .u8 110,.slice none 0 0],.agg #[.int .u64 n,.string (bs b),.slice A m c]] w fun e w'=>e=.returned (.tuple #[.agg #[.bool false,.string (bs (digs n.toNat)),.slice none 0 0],.bool false])∧Below w.heap.size w w':=by
 have hB:Below w.heap.size w (((w.alloc (.cells #[.int .u8 110,.slice none 0 0] 153)).alloc (.cells #[.int .u64 n,.string (bs b),.slice A m c] 81)).alloc (.cells #[.bool false,.string ⟨#[]⟩,.slice none 0 0] 53)):=(((Below.refl _ _).alloc qn _).alloc (by simp) _).alloc (by simp;omega) _
 have hI:=heap_alloc_new ((w.alloc (.cells #[.int .u8 110,.slice none 0 0] 153)).alloc (.cells #[.int .u64 n,.string (bs b),.slice A m c] 81)) (.cells #[.bool false,.string ⟨#[]⟩,.slice none 0 0] 53)
 have hF:=(heap_alloc_old ((w.alloc (.cells #[.int .u8 110,.slice none 0 0] 153)).alloc (.cells #[.int .u64 n,.string (bs b),.slice A m c] 81)) (.cells #[.bool false,.string ⟨#[]⟩,.slice none 0 0] 53) (by simp)).trans (heap_alloc_new (w.alloc (.cells #[.int .u8 110,.slice none 0 0] 153)) (.cells #[.int .u64 n,.string (bs b),.slice A m c] 81))
 have hKd:=(heap_alloc_old ((w.alloc (.cells #[.int .u8 110,.slice none 0 0] 153)).alloc (.cells #[.int .u64 n,.string (bs b),.slice A m c] 81)) (.cells #[.bool false,.string ⟨#[]⟩,.slice none 0 0] 53) (by simp;omega)).trans ((heap_alloc_old (w.alloc (.cells #[.int .u8 110,.slice none 0 0] 153)) (.cells #[.int .u64 n,.string (bs b),.slice A m c] 81) (by simp)).trans (heap_alloc_new w _))
 simp only [World.size_alloc] at hI hF hKd
 have HB:=qh hB
 have HI:=qh hI
 have HF:=qh hF
 have HK:=qh hKd
 clear hB hI hF hKd
 go_enter Tryz.func147,Tryz.ntmps147
 go_wp2_with fail
 have hbd:Below (((w.alloc (.cells #[.int .u8 110,.slice none 0 0] 153)).alloc (.cells #[.int .u64 n,.string (bs b),.slice A m c] 81)).alloc (.cells #[.bool false,.string ⟨#[]⟩,.slice none 0 0] 53)).heap.size (((w.alloc (.cells #[.int .u8 110,.slice none 0 0] 153)).alloc (.cells #[.int .u64 n,.string (bs b),.slice A m c] 81)).alloc (.cells #[.bool false,.string ⟨#[]⟩,.slice none 0 0] 53)) (((w.alloc (.cells #[.int .u8 110,.slice none 0 0] 153)).alloc (.cells #[.int .u64 n,.string (bs b),.slice A m c] 81)).alloc (.cells #[.bool false,.string ⟨#[]⟩,.slice none 0 0] 53)).drew:=(Below.refl _ _).drew
 have hKd:=(hbd.block _ (qg HK.out)).trans HK.out
 have hF:=(hbd.block _ (qg HF.out)).trans HF.out
 have hI:=(hbd.block _ (qg HI.out)).trans HI.out
 have hB:=qab HB.out HB.out.size hbd
 refine qao [(99,fun w'=>w'.heap[w.heap.size]? = some (.cells #[.int .u8 110,.slice none 0 0] 153 (0,0))∧w'.heap[w.heap.size+1]? = some (.cells #[.int .u64 n,.string (bs b),.slice A m c] 81 (0,0)))] (by kernel_rfl) ?_
 generalize (((w.alloc (.cells #[.int .u8 110,.slice none 0 0] 153)).alloc (.cells #[.int .u64 n,.string (bs b),.slice A m c] 81)).alloc (.cells #[.bool false,.string ⟨#[]⟩,.slice none 0 0] 53)).drew=w3 at hKd hF hI hB ⊢
 clear hbd HK HF HI HB
 refine R_p (i:=0) (v:=.pointer (some ⟨w.heap.size+1,0,none⟩)) (Mh ⟨hKd,hF⟩ Mn) ?_
 refine R_l (i:=1) (v:=.int .u64 n) 99 _ List.mem_cons_self rfl (qae rfl rfl rfl (fun w' hS=>rc hS.2 0 rfl) Tryz.underlying22 rfl) (Mh ⟨hKd,hF⟩ Mn) ?_
 refine R_p (i:=3) (v:=.pointer (some ⟨w.heap.size+1,1,none⟩)) (Mh ⟨hKd,hF⟩ Mn) ?_
 refine R_l (i:=4) (v:=.string (bs b)) 99 _ List.mem_cons_self rfl (qae rfl rfl rfl (fun w' hS=>rc hS.2 1 rfl) Tryz.underlying9 rfl) (Mh ⟨hKd,hF⟩ Mn) ?_
 refine R_p (i:=5) (v:=.bool false) (Mh ⟨hKd,hF⟩ Mn) ?_
 refine R_now 2 fun K hK=>?_
 go_simp
 refine (qcd n h0 h64 _).mono ?_
 rintro e w4 ⟨rfl,hb4⟩
 replace hKd:=(hb4.block _ (qg hKd)).trans hKd
 replace hF:=(hb4.block _ (qg hF)).trans hF
 replace hI:=(hb4.block _ (qg hI)).trans hI
 replace hB:=qab hB hB.size hb4
 clear hb4
 refine hK.out _ _ (Mh ⟨hKd,hF⟩ Mn) (fun hMeets=>?_)
 clear hK K hMeets
 refine lay_R ?_
 refine R_p (i:=6) (v:=.bool false) (Mh ⟨hKd,hF⟩ Mn) ?_
 refine R_s (i:=7) (Mh ⟨hKd,hF⟩ Mn) ?_
 refine R_s (i:=8) (Mh ⟨hKd,hF⟩ Mn) ?_
 refine R_s (i:=9) (Mh ⟨hKd,hF⟩ Mn) ?_
 refine R_s (i:=10) (Mh ⟨hKd,hF⟩ Mn) ?_
 refine R_p (i:=11) (v:=.bool false) (Mh ⟨hKd,hF⟩ Mn) ?_
 have d0:w4.cell? ⟨w.heap.size+1+1,0,none⟩=some (.bool false):=rc0 hI
 have d1:w4.cell? ⟨w.heap.size+1+1,1,none⟩=some (.string ⟨#[]⟩):=rc1 hI
 have d2:w4.cell? ⟨w.heap.size+1+1,2,none⟩=some (.slice none 0 0):=rc2 hI
 have f0:=rf hI 0
 have f1:=rf hI 1
 have f2:=rf hI 2
 refine R_now 12 fun K hK=>?_
 obtain ⟨W9,hW9⟩:∃ W9,W9=(((w4.setCell ⟨w.heap.size+1+1,0,none⟩ (.bool false)).setCell ⟨w.heap.size+1+1,1,none⟩ (.string (bs (digs n.toNat)))).setCell ⟨w.heap.size+1+1,2,none⟩ (.slice none 0 0)):=⟨_,rfl⟩
 have hI9:W9.heap[w.heap.size+1+1]? = some (.cells #[.bool false,.string (bs (digs n.toNat)),.slice none 0 0] 53 (0,0)):=by rw [hW9];exact qaa (qaa (qaa hI _) _) _
 have hF9:W9.heap[w.heap.size+1]? = some (.cells #[.int .u64 n,.string (bs b),.slice A m c] 81 (0,0)):=by rw [hW9];exact (qac (by omega) _).trans ((qac (by omega) _).trans ((qac (by omega) _).trans hF))
 have hKd9:W9.heap[w.heap.size]? = some (.cells #[.int .u8 110,.slice none 0 0] 153 (0,0)):=by rw [hW9];exact (qac (by omega) _).trans ((qac (by omega) _).trans ((qac (by omega) _).trans hKd))
 have hB9:Below w.heap.size w W9:=by rw [hW9];exact ((hB.setCell (p:=⟨w.heap.size+1+1,_,_⟩) (by simp;omega) _).setCell (p:=⟨w.heap.size+1+1,_,_⟩) (by simp;omega) _).setCell (p:=⟨w.heap.size+1+1,_,_⟩) (by simp;omega) _
 have HI9:=qh hI9
 have HB9:=qh hB9
 clear hI9 hB9
 go_simp
 rw [← hW9]
 clear hW9 d0 d1 d2 f0 f1 f2
 refine hK.out _ _ (Mh ⟨hKd9,hF9⟩ Mn) (fun hMeets=>?_)
 clear hK K hMeets
 refine lay_R ?_
 refine R_p (i:=13) (v:=.bool false) (Mh ⟨hKd9,hF9⟩ Mn) ?_
 refine qa7 (by kernel_rfl) ?_ _
 go_wp2_with fail
 exact bodyPost_ret (v:=.tuple #[.agg #[.bool false,.string (bs (digs n.toNat)),.slice none 0 0],.bool false]) (qah rfl _ _ (w.heap.size+1+1) _ _ _ _ rfl HI9.out _ rfl Tryz.underlying53 rfl infoI) rfl ⟨rfl,HB9.out⟩
theorem qu5 (n:Int) (b:Bytes) (A:Option Addr) (m c:Nat) (h0:0≤n) (h64:n < 18446744073709551616) (hn:(n == 0)=false) (hm:((m:Int) == 0)=true) (hb:(b == [])=true) (w:World) :
  Calls Tryz.prog 147 #[.agg #[.int .u8 110,.slice none 0 0],.agg #[.int .u64 n,.string (bs b),.slice A m c]] w fun e w'=>e=.returned (.tuple #[.agg #[.bool false,.string (bs (digs n.toNat)),.slice none 0 0],.bool true])∧Below w.heap.size w w':=by
 have hB:Below w.heap.size w (((w.alloc (.cells #[.int .u8 110,.slice none 0 0] 153)).alloc (.cells #[.int .u64 n,.string (bs b),.slice A m c] 81)).alloc (.cells #[.bool false,.string ⟨#[]⟩,.slice none 0 0] 53)):=(((Below.refl _ _).alloc qn _).alloc (by simp) _).alloc (by simp;omega) _
 have hI:=heap_alloc_new ((w.alloc (.cells #[.int .u8 110,.slice none 0 0] 153)).alloc (.cells #[.int .u64 n,.string (bs b),.slice A m c] 81)) (.cells #[.bool false,.string ⟨#[]⟩,.slice none 0 0] 53)
 have hF:=(heap_alloc_old ((w.alloc (.cells #[.int .u8 110,.slice none 0 0] 153)).alloc (.cells #[.int .u64 n,.string (bs b),.slice A m c] 81)) (.cells #[.bool false,.string ⟨#[]⟩,.slice none 0 0] 53) (by simp)).trans (heap_alloc_new (w.alloc (.cells #[.int .u8 110,.slice none 0 0] 153)) (.cells #[.int .u64 n,.string (bs b),.slice A m c] 81))
 have hKd:=(heap_alloc_old ((w.alloc (.cells #[.int .u8 110,.slice none 0 0] 153)).alloc (.cells #[.int .u64 n,.string (bs b),.slice A m c] 81)) (.cells #[.bool false,.string ⟨#[]⟩,.slice none 0 0] 53) (by simp;omega)).trans ((heap_alloc_old (w.alloc (.cells #[.int .u8 110,.slice none 0 0] 153)) (.cells #[.int .u64 n,.string (bs b),.slice A m c] 81) (by simp)).trans (heap_alloc_new w _))
 simp only [World.size_alloc] at hI hF hKd
 have HB:=qh hB
 have HI:=qh hI
 have HF:=qh hF
 have HK:=qh hKd
 clear hB hI hF hKd
 go_enter Tryz.func147,Tryz.ntmps147
 go_wp2_with fail
 have hbd:Below (((w.alloc (.cells #[.int .u8 110,.slice none 0 0] 153)).alloc (.cells #[.int .u64 n,.string (bs b),.slice A m c] 81)).alloc (.cells #[.bool false,.string ⟨#[]⟩,.slice none 0 0] 53)).heap.size (((w.alloc (.cells #[.int .u8 110,.slice none 0 0] 153)).alloc (.cells #[.int .u64 n,.string (bs b),.slice A m c] 81)).alloc (.cells #[.bool false,.string ⟨#[]⟩,.slice none 0 0] 53)) (((w.alloc (.cells #[.int .u8 110,.slice none 0 0] 153)).alloc (.cells #[.int .u64 n,.string (bs b),.slice A m c] 81)).alloc (.cells #[.bool false,.string ⟨#[]⟩,.slice none 0 0] 53)).drew:=(Below.refl _ _).drew
 have hKd:=(hbd.block _ (qg HK.out)).trans HK.out
 have hF:=(hbd.block _ (qg HF.out)).trans HF.out
 have hI:=(hbd.block _ (qg HI.out)).trans HI.out
 have hB:=qab HB.out HB.out.size hbd
 refine qao [(99,fun w'=>w'.heap[w.heap.size]? = some (.cells #[.int .u8 110,.slice none 0 0] 153 (0,0))∧w'.heap[w.heap.size+1]? = some (.cells #[.int .u64 n,.string (bs b),.slice A m c] 81 (0,0)))] (by kernel_rfl) ?_
 generalize (((w.alloc (.cells #[.int .u8 110,.slice none 0 0] 153)).alloc (.cells #[.int .u64 n,.string (bs b),.slice A m c] 81)).alloc (.cells #[.bool false,.string ⟨#[]⟩,.slice none 0 0] 53)).drew=w3 at hKd hF hI hB ⊢
 clear hbd HK HF HI HB
 refine R_p (i:=0) (v:=.pointer (some ⟨w.heap.size+1,0,none⟩)) (Mh ⟨hKd,hF⟩ Mn) ?_
 refine R_l (i:=1) (v:=.int .u64 n) 99 _ List.mem_cons_self rfl (qae rfl rfl rfl (fun w' hS=>rc hS.2 0 rfl) Tryz.underlying22 rfl) (Mh ⟨hKd,hF⟩ Mn) ?_
 refine R_p (i:=3) (v:=.pointer (some ⟨w.heap.size+1,1,none⟩)) (Mh ⟨hKd,hF⟩ Mn) ?_
 refine R_l (i:=4) (v:=.string (bs b)) 99 _ List.mem_cons_self rfl (qae rfl rfl rfl (fun w' hS=>rc hS.2 1 rfl) Tryz.underlying9 rfl) (Mh ⟨hKd,hF⟩ Mn) ?_
 refine R_p (i:=5) (v:=.bool true) (Mh ⟨hKd,hF⟩ Mn) ?_
 refine R_now 2 fun K hK=>?_
 go_simp
 refine (qcd n h0 h64 _).mono ?_
 rintro e w4 ⟨rfl,hb4⟩
 replace hKd:=(hb4.block _ (qg hKd)).trans hKd
 replace hF:=(hb4.block _ (qg hF)).trans hF
 replace hI:=(hb4.block _ (qg hI)).trans hI
 replace hB:=qab hB hB.size hb4
 clear hb4
 refine hK.out _ _ (Mh ⟨hKd,hF⟩ Mn) (fun hMeets=>?_)
 clear hK K hMeets
 refine lay_R ?_
 refine R_p (i:=6) (v:=.bool true) (Mh ⟨hKd,hF⟩ Mn) ?_
 refine R_p (i:=7) (v:=.pointer (some ⟨w.heap.size+1,2,none⟩)) (Mh ⟨hKd,hF⟩ Mn) ?_
 refine R_l (i:=8) (v:=.slice A m c) 99 _ List.mem_cons_self rfl (qae rfl rfl rfl (fun w' hS=>rc hS.2 2 rfl) Tryz.underlying78 rfl) (Mh ⟨hKd,hF⟩ Mn) ?_
 refine R_p (i:=9) (v:=.int .i64 (m:Int)) (Mh ⟨hKd,hF⟩ Mn) ?_
 refine R_p (i:=10) (v:=.bool true) (Mh ⟨hKd,hF⟩ Mn) ?_
 refine R_p (i:=11) (v:=.bool true) (Mh ⟨hKd,hF⟩ Mn) ?_
 have d0:w4.cell? ⟨w.heap.size+1+1,0,none⟩=some (.bool false):=rc0 hI
 have d1:w4.cell? ⟨w.heap.size+1+1,1,none⟩=some (.string ⟨#[]⟩):=rc1 hI
 have d2:w4.cell? ⟨w.heap.size+1+1,2,none⟩=some (.slice none 0 0):=rc2 hI
 have f0:=rf hI 0
 have f1:=rf hI 1
 have f2:=rf hI 2
 refine R_now 12 fun K hK=>?_
 obtain ⟨W9,hW9⟩:∃ W9,W9=(((w4.setCell ⟨w.heap.size+1+1,0,none⟩ (.bool false)).setCell ⟨w.heap.size+1+1,1,none⟩ (.string (bs (digs n.toNat)))).setCell ⟨w.heap.size+1+1,2,none⟩ (.slice none 0 0)):=⟨_,rfl⟩
 have hI9:W9.heap[w.heap.size+1+1]? = some (.cells #[.bool false,.string (bs (digs n.toNat)),.slice none 0 0] 53 (0,0)):=by rw [hW9];exact qaa (qaa (qaa hI _) _) _
 have hF9:W9.heap[w.heap.size+1]? = some (.cells #[.int .u64 n,.string (bs b),.slice A m c] 81 (0,0)):=by rw [hW9];exact (qac (by omega) _).trans ((qac (by omega) _).trans ((qac (by omega) _).trans hF))
 have hKd9:W9.heap[w.heap.size]? = some (.cells #[.int .u8 110,.slice none 0 0] 153 (0,0)):=by rw [hW9];exact (qac (by omega) _).trans ((qac (by omega) _).trans ((qac (by omega) _).trans hKd))
 have hB9:Below w.heap.size w W9:=by rw [hW9];exact ((hB.setCell (p:=⟨w.heap.size+1+1,_,_⟩) (by simp;omega) _).setCell (p:=⟨w.heap.size+1+1,_,_⟩) (by simp;omega) _).setCell (p:=⟨w.heap.size+1+1,_,_⟩) (by simp;omega) _
 have HI9:=qh hI9
 have HB9:=qh hB9
 clear hI9 hB9
 go_simp
 rw [← hW9]
 clear hW9 d0 d1 d2 f0 f1 f2
 refine hK.out _ _ (Mh ⟨hKd9,hF9⟩ Mn) (fun hMeets=>?_)
 clear hK K hMeets
 refine lay_R ?_
 refine R_p (i:=13) (v:=.bool true) (Mh ⟨hKd9,hF9⟩ Mn) ?_
 refine qa7 (by kernel_rfl) ?_ _
 go_wp2_with fail
 exact bodyPost_ret (v:=.tuple #[.agg #[.bool false,.string (bs (digs n.toNat)),.slice none 0 0],.bool true]) (qah rfl _ _ (w.heap.size+1+1) _ _ _ _ rfl HI9.out _ rfl Tryz.underlying53 rfl infoI) rfl ⟨rfl,HB9.out⟩
theorem qvq (n:Int) (b:Bytes) (A:Option Addr) (m c:Nat) (h0:0≤n) (h64:n < 18446744073709551616) (hn:(n == 0)=false) (hm:((m:Int) == 0)=true) (hb:(b == [])=false) (w:World) :
  Calls Tryz.prog 147 #[.agg #[.int .u8 110,.slice none 0 0],.agg #[.int .u64 n,.string (bs b),.slice A m c]] w fun e w'=>e=.returned (.tuple #[.agg #[.bool false,.string (bs (digs n.toNat)),.slice none 0 0],.bool false])∧Below w.heap.size w w':=by
 have hB:Below w.heap.size w (((w.alloc (.cells #[.int .u8 110,.slice none 0 0] 153)).alloc (.cells #[.int .u64 n,.string (bs b),.slice A m c] 81)).alloc (.cells #[.bool false,.string ⟨#[]⟩,.slice none 0 0] 53)):=(((Below.refl _ _).alloc qn _).alloc (by simp) _).alloc (by simp;omega) _
 have hI:=heap_alloc_new ((w.alloc (.cells #[.int .u8 110,.slice none 0 0] 153)).alloc (.cells #[.int .u64 n,.string (bs b),.slice A m c] 81)) (.cells #[.bool false,.string ⟨#[]⟩,.slice none 0 0] 53)
 have hF:=(heap_alloc_old ((w.alloc (.cells #[.int .u8 110,.slice none 0 0] 153)).alloc (.cells #[.int .u64 n,.string (bs b),.slice A m c] 81)) (.cells #[.bool false,.string ⟨#[]⟩,.slice none 0 0] 53) (by simp)).trans (heap_alloc_new (w.alloc (.cells #[.int .u8 110,.slice none 0 0] 153)) (.cells #[.int .u64 n,.string (bs b),.slice A m c] 81))
 have hKd:=(heap_alloc_old ((w.alloc (.cells #[.int .u8 110,.slice none 0 0] 153)).alloc (.cells #[.int .u64 n,.string (bs b),.slice A m c] 81)) (.cells #[.bool false,.string ⟨#[]⟩,.slice none 0 0] 53) (by simp;omega)).trans ((heap_alloc_old (w.alloc (.cells #[.int .u8 110,.slice none 0 0] 153)) (.cells #[.int .u64 n,.string (bs b),.slice A m c] 81) (by simp)).trans (heap_alloc_new w _))
 simp only [World.size_alloc] at hI hF hKd
 have HB:=qh hB
 have HI:=qh hI
 have HF:=qh hF
 have HK:=qh hKd
 clear hB hI hF hKd
 go_enter Tryz.func147,Tryz.ntmps147
 go_wp2_with fail
 have hbd:Below (((w.alloc (.cells #[.int .u8 110,.slice none 0 0] 153)).alloc (.cells #[.int .u64 n,.string (bs b),.slice A m c] 81)).alloc (.cells #[.bool false,.string ⟨#[]⟩,.slice none 0 0] 53)).heap.size (((w.alloc (.cells #[.int .u8 110,.slice none 0 0] 153)).alloc (.cells #[.int .u64 n,.string (bs b),.slice A m c] 81)).alloc (.cells #[.bool false,.string ⟨#[]⟩,.slice none 0 0] 53)) (((w.alloc (.cells #[.int .u8 110,.slice none 0 0] 153)).alloc (.cells #[.int .u64 n,.string (bs b),.slice A m c] 81)).alloc (.cells #[.bool false,.string ⟨#[]⟩,.slice none 0 0] 53)).drew:=(Below.refl _ _).drew
 have hKd:=(hbd.block _ (qg HK.out)).trans HK.out
 have hF:=(hbd.block _ (qg HF.out)).trans HF.out
 have hI:=(hbd.block _ (qg HI.out)).trans HI.out
 have hB:=qab HB.out HB.out.size hbd
 refine qao [(99,fun w'=>w'.heap[w.heap.size]? = some (.cells #[.int .u8 110,.slice none 0 0] 153 (0,0))∧w'.heap[w.heap.size+1]? = some (.cells #[.int .u64 n,.string (bs b),.slice A m c] 81 (0,0)))] (by kernel_rfl) ?_
 generalize (((w.alloc (.cells #[.int .u8 110,.slice none 0 0] 153)).alloc (.cells #[.int .u64 n,.string (bs b),.slice A m c] 81)).alloc (.cells #[.bool false,.string ⟨#[]⟩,.slice none 0 0] 53)).drew=w3 at hKd hF hI hB ⊢
 clear hbd HK HF HI HB
 refine R_p (i:=0) (v:=.pointer (some ⟨w.heap.size+1,0,none⟩)) (Mh ⟨hKd,hF⟩ Mn) ?_
 refine R_l (i:=1) (v:=.int .u64 n) 99 _ List.mem_cons_self rfl (qae rfl rfl rfl (fun w' hS=>rc hS.2 0 rfl) Tryz.underlying22 rfl) (Mh ⟨hKd,hF⟩ Mn) ?_
 refine R_p (i:=3) (v:=.pointer (some ⟨w.heap.size+1,1,none⟩)) (Mh ⟨hKd,hF⟩ Mn) ?_
 refine R_l (i:=4) (v:=.string (bs b)) 99 _ List.mem_cons_self rfl (qae rfl rfl rfl (fun w' hS=>rc hS.2 1 rfl) Tryz.underlying9 rfl) (Mh ⟨hKd,hF⟩ Mn) ?_
 refine R_p (i:=5) (v:=.bool false) (Mh ⟨hKd,hF⟩ Mn) ?_
 refine R_now 2 fun K hK=>?_
 go_simp
 refine (qcd n h0 h64 _).mono ?_
 rintro e w4 ⟨rfl,hb4⟩
 replace hKd:=(hb4.block _ (qg hKd)).trans hKd
 replace hF:=(hb4.block _ (qg hF)).trans hF
 replace hI:=(hb4.block _ (qg hI)).trans hI
 replace hB:=qab hB hB.size hb4
 clear hb4
 refine hK.out _ _ (Mh ⟨hKd,hF⟩ Mn) (fun hMeets=>?_)
 clear hK K hMeets
 refine lay_R ?_
 refine R_p (i:=6) (v:=.bool false) (Mh ⟨hKd,hF⟩ Mn) ?_
 refine R_s (i:=7) (Mh ⟨hKd,hF⟩ Mn) ?_
 refine R_s (i:=8) (Mh ⟨hKd,hF⟩ Mn) ?_
 refine R_s (i:=9) (Mh ⟨hKd,hF⟩ Mn) ?_
 refine R_s (i:=10) (Mh ⟨hKd,hF⟩ Mn) ?_
 refine R_p (i:=11) (v:=.bool false) (Mh ⟨hKd,hF⟩ Mn) ?_
 have d0:w4.cell? ⟨w.heap.size+1+1,0,none⟩=some (.bool false):=rc0 hI
 have d1:w4.cell? ⟨w.heap.size+1+1,1,none⟩=some (.string ⟨#[]⟩):=rc1 hI
 have d2:w4.cell? ⟨w.heap.size+1+1,2,none⟩=some (.slice none 0 0):=rc2 hI
 have f0:=rf hI 0
 have f1:=rf hI 1
 have f2:=rf hI 2
 refine R_now 12 fun K hK=>?_
 obtain ⟨W9,hW9⟩:∃ W9,W9=(((w4.setCell ⟨w.heap.size+1+1,0,none⟩ (.bool false)).setCell ⟨w.heap.size+1+1,1,none⟩ (.string (bs (digs n.toNat)))).setCell ⟨w.heap.size+1+1,2,none⟩ (.slice none 0 0)):=⟨_,rfl⟩
 have hI9:W9.heap[w.heap.size+1+1]? = some (.cells #[.bool false,.string (bs (digs n.toNat)),.slice none 0 0] 53 (0,0)):=by rw [hW9];exact qaa (qaa (qaa hI _) _) _
 have hF9:W9.heap[w.heap.size+1]? = some (.cells #[.int .u64 n,.string (bs b),.slice A m c] 81 (0,0)):=by rw [hW9];exact (qac (by omega) _).trans ((qac (by omega) _).trans ((qac (by omega) _).trans hF))
 have hKd9:W9.heap[w.heap.size]? = some (.cells #[.int .u8 110,.slice none 0 0] 153 (0,0)):=by rw [hW9];exact (qac (by omega) _).trans ((qac (by omega) _).trans ((qac (by omega) _).trans hKd))
 have hB9:Below w.heap.size w W9:=by rw [hW9];exact ((hB.setCell (p:=⟨w.heap.size+1+1,_,_⟩) (by simp;omega) _).setCell (p:=⟨w.heap.size+1+1,_,_⟩) (by simp;omega) _).setCell (p:=⟨w.heap.size+1+1,_,_⟩) (by simp;omega) _
 have HI9:=qh hI9
 have HB9:=qh hB9
 clear hI9 hB9
 go_simp
 rw [← hW9]
 clear hW9 d0 d1 d2 f0 f1 f2
 refine hK.out _ _ (Mh ⟨hKd9,hF9⟩ Mn) (fun hMeets=>?_)
 clear hK K hMeets
 refine lay_R ?_
 refine R_p (i:=13) (v:=.bool false) (Mh ⟨hKd9,hF9⟩ Mn) ?_
 refine qa7 (by kernel_rfl) ?_ _
 go_wp2_with fail
 exact bodyPost_ret (v:=.tuple #[.agg #[.bool false,.string (bs (digs n.toNat)),.slice none 0 0],.bool false]) (qah rfl _ _ (w.heap.size+1+1) _ _ _ _ rfl HI9.out _ rfl Tryz.underlying53 rfl infoI) rfl ⟨rfl,HB9.out⟩
theorem qq7 (n:Int) (b:Bytes) (A:Option Addr) (m c:Nat) (h0:0≤n) (h64:n < 18446744073709551616) (hn:(n == 0)=false) (hm:((m:Int) == 0)=false) (hb:(b == [])=true) (w:World) :
  Calls Tryz.prog 147 #[.agg #[.int .u8 110,.slice none 0 0],.agg #[.int .u64 n,.string (bs b),.slice A m c]] w fun e w'=>e=.returned (.tuple #[.agg #[.bool false,.string (bs (digs n.toNat)),.slice none 0 0],.bool false])∧Below w.heap.size w w':=by
 have hB:Below w.heap.size w (((w.alloc (.cells #[.int .u8 110,.slice none 0 0] 153)).alloc (.cells #[.int .u64 n,.string (bs b),.slice A m c] 81)).alloc (.cells #[.bool false,.string ⟨#[]⟩,.slice none 0 0] 53)):=(((Below.refl _ _).alloc qn _).alloc (by simp) _).alloc (by simp;omega) _
 have hI:=heap_alloc_new ((w.alloc (.cells #[.int .u8 110,.slice none 0 0] 153)).alloc (.cells #[.int .u64 n,.string (bs b),.slice A m c] 81)) (.cells #[.bool false,.string ⟨#[]⟩,.slice none 0 0] 53)
 have hF:=(heap_alloc_old ((w.alloc (.cells #[.int .u8 110,.slice none 0 0] 153)).alloc (.cells #[.int .u64 n,.string (bs b),.slice A m c] 81)) (.cells #[.bool false,.string ⟨#[]⟩,.slice none 0 0] 53) (by simp)).trans (heap_alloc_new (w.alloc (.cells #[.int .u8 110,.slice none 0 0] 153)) (.cells #[.int .u64 n,.string (bs b),.slice A m c] 81))
 have hKd:=(heap_alloc_old ((w.alloc (.cells #[.int .u8 110,.slice none 0 0] 153)).alloc (.cells #[.int .u64 n,.string (bs b),.slice A m c] 81)) (.cells #[.bool false,.string ⟨#[]⟩,.slice none 0 0] 53) (by simp;omega)).trans ((heap_alloc_old (w.alloc (.cells #[.int .u8 110,.slice none 0 0] 153)) (.cells #[.int .u64 n,.string (bs b),.slice A m c] 81) (by simp)).trans (heap_alloc_new w _))
 simp only [World.size_alloc] at hI hF hKd
 have HB:=qh hB
 have HI:=qh hI
 have HF:=qh hF
 have HK:=qh hKd
 clear hB hI hF hKd
 go_enter Tryz.func147,Tryz.ntmps147
 go_wp2_with fail
 have hbd:Below (((w.alloc (.cells #[.int .u8 110,.slice none 0 0] 153)).alloc (.cells #[.int .u64 n,.string (bs b),.slice A m c] 81)).alloc (.cells #[.bool false,.string ⟨#[]⟩,.slice none 0 0] 53)).heap.size (((w.alloc (.cells #[.int .u8 110,.slice none 0 0] 153)).alloc (.cells #[.int .u64 n,.string (bs b),.slice A m c] 81)).alloc (.cells #[.bool false,.string ⟨#[]⟩,.slice none 0 0] 53)) (((w.alloc (.cells #[.int .u8 110,.slice none 0 0] 153)).alloc (.cells #[.int .u64 n,.string (bs b),.slice A m c] 81)).alloc (.cells #[.bool false,.string ⟨#[]⟩,.slice none 0 0] 53)).drew:=(Below.refl _ _).drew
 have hKd:=(hbd.block _ (qg HK.out)).trans HK.out
 have hF:=(hbd.block _ (qg HF.out)).trans HF.out
 have hI:=(hbd.block _ (qg HI.out)).trans HI.out
 have hB:=qab HB.out HB.out.size hbd
 refine qao [(99,fun w'=>w'.heap[w.heap.size]? = some (.cells #[.int .u8 110,.slice none 0 0] 153 (0,0))∧w'.heap[w.heap.size+1]? = some (.cells #[.int .u64 n,.string (bs b),.slice A m c] 81 (0,0)))] (by kernel_rfl) ?_
 generalize (((w.alloc (.cells #[.int .u8 110,.slice none 0 0] 153)).alloc (.cells #[.int .u64 n,.string (bs b),.slice A m c] 81)).alloc (.cells #[.bool false,.string ⟨#[]⟩,.slice none 0 0] 53)).drew=w3 at hKd hF hI hB ⊢
 clear hbd HK HF HI HB
 refine R_p (i:=0) (v:=.pointer (some ⟨w.heap.size+1,0,none⟩)) (Mh ⟨hKd,hF⟩ Mn) ?_
 refine R_l (i:=1) (v:=.int .u64 n) 99 _ List.mem_cons_self rfl (qae rfl rfl rfl (fun w' hS=>rc hS.2 0 rfl) Tryz.underlying22 rfl) (Mh ⟨hKd,hF⟩ Mn) ?_
 refine R_p (i:=3) (v:=.pointer (some ⟨w.heap.size+1,1,none⟩)) (Mh ⟨hKd,hF⟩ Mn) ?_
 refine R_l (i:=4) (v:=.string (bs b)) 99 _ List.mem_cons_self rfl (qae rfl rfl rfl (fun w' hS=>rc hS.2 1 rfl) Tryz.underlying9 rfl) (Mh ⟨hKd,hF⟩ Mn) ?_
 refine R_p (i:=5) (v:=.bool true) (Mh ⟨hKd,hF⟩ Mn) ?_
 refine R_now 2 fun K hK=>?_
 go_simp
 refine (qcd n h0 h64 _).mono ?_
 rintro e w4 ⟨rfl,hb4⟩
 replace hKd:=(hb4.block _ (qg hKd)).trans hKd
 replace hF:=(hb4.block _ (qg hF)).trans hF
 replace hI:=(hb4.block _ (qg hI)).trans hI
 replace hB:=qab hB hB.size hb4
 clear hb4
 refine hK.out _ _ (Mh ⟨hKd,hF⟩ Mn) (fun hMeets=>?_)
 clear hK K hMeets
 refine lay_R ?_
 refine R_p (i:=6) (v:=.bool true) (Mh ⟨hKd,hF⟩ Mn) ?_
 refine R_p (i:=7) (v:=.pointer (some ⟨w.heap.size+1,2,none⟩)) (Mh ⟨hKd,hF⟩ Mn) ?_
 refine R_l (i:=8) (v:=.slice A m c) 99 _ List.mem_cons_self rfl (qae rfl rfl rfl (fun w' hS=>rc hS.2 2 rfl) Tryz.underlying78 rfl) (Mh ⟨hKd,hF⟩ Mn) ?_
 refine R_p (i:=9) (v:=.int .i64 (m:Int)) (Mh ⟨hKd,hF⟩ Mn) ?_
 refine R_p (i:=10) (v:=.bool false) (Mh ⟨hKd,hF⟩ Mn) ?_
 refine R_p (i:=11) (v:=.bool false) (Mh ⟨hKd,hF⟩ Mn) ?_
 have d0:w4.cell? ⟨w.heap.size+1+1,0,none⟩=some (.bool false):=rc0 hI
 have d1:w4.cell? ⟨w.heap.size+1+1,1,none⟩=some (.string ⟨#[]⟩):=rc1 hI
 have d2:w4.cell? ⟨w.heap.size+1+1,2,none⟩=some (.slice none 0 0):=rc2 hI
 have f0:=rf hI 0
 have f1:=rf hI 1
 have f2:=rf hI 2
 refine R_now 12 fun K hK=>?_
 obtain ⟨W9,hW9⟩:∃ W9,W9=(((w4.setCell ⟨w.heap.size+1+1,0,none⟩ (.bool false)).setCell ⟨w.heap.size+1+1,1,none⟩ (.string (bs (digs n.toNat)))).setCell ⟨w.heap.size+1+1,2,none⟩ (.slice none 0 0)):=⟨_,rfl⟩
 have hI9:W9.heap[w.heap.size+1+1]? = some (.cells #[.bool false,.string (bs (digs n.toNat)),.slice none 0 0] 53 (0,0)):=by rw [hW9];exact qaa (qaa (qaa hI _) _) _
 have hF9:W9.heap[w.heap.size+1]? = some (.cells #[.int .u64 n,.string (bs b),.slice A m c] 81 (0,0)):=by rw [hW9];exact (qac (by omega) _).trans ((qac (by omega) _).trans ((qac (by omega) _).trans hF))
 have hKd9:W9.heap[w.heap.size]? = some (.cells #[.int .u8 110,.slice none 0 0] 153 (0,0)):=by rw [hW9];exact (qac (by omega) _).trans ((qac (by omega) _).trans ((qac (by omega) _).trans hKd))
 have hB9:Below w.heap.size w W9:=by rw [hW9];exact ((hB.setCell (p:=⟨w.heap.size+1+1,_,_⟩) (by simp;omega) _).setCell (p:=⟨w.heap.size+1+1,_,_⟩) (by simp;omega) _).setCell (p:=⟨w.heap.size+1+1,_,_⟩) (by simp;omega) _
 have HI9:=qh hI9
 have HB9:=qh hB9
 clear hI9 hB9
 go_simp
 rw [← hW9]
 clear hW9 d0 d1 d2 f0 f1 f2
 refine hK.out _ _ (Mh ⟨hKd9,hF9⟩ Mn) (fun hMeets=>?_)
 clear hK K hMeets
 refine lay_R ?_
 refine R_p (i:=13) (v:=.bool false) (Mh ⟨hKd9,hF9⟩ Mn) ?_
 refine qa7 (by kernel_rfl) ?_ _
 go_wp2_with fail
 exact bodyPost_ret (v:=.tuple #[.agg #[.bool false,.string (bs (digs n.toNat)),.slice none 0 0],.bool false]) (qah rfl _ _ (w.heap.size+1+1) _ _ _ _ rfl HI9.out _ rfl Tryz.underlying53 rfl infoI) rfl ⟨rfl,HB9.out⟩
theorem qug (n:Int) (b:Bytes) (A:Option Addr) (m c:Nat) (h0:0≤n) (h64:n < 18446744073709551616) (hn:(n == 0)=false) (hm:((m:Int) == 0)=false) (hb:(b == [])=false) (w:World) :
  Calls Tryz.prog 147 #[.agg #[.int .u8 110,.slice none 0 0],.agg #[.int .u64 n,.string (bs b),.slice A m c]] w fun e w'=>e=.returned (.tuple #[.agg #[.bool false,.string (bs (digs n.toNat)),.slice none 0 0],.bool false])∧Below w.heap.size w w':=by
 have hB:Below w.heap.size w (((w.alloc (.cells #[.int .u8 110,.slice none 0 0] 153)).alloc (.cells #[.int .u64 n,.string (bs b),.slice A m c] 81)).alloc (.cells #[.bool false,.string ⟨#[]⟩,.slice none 0 0] 53)):=(((Below.refl _ _).alloc qn _).alloc (by simp) _).alloc (by simp;omega) _
 have hI:=heap_alloc_new ((w.alloc (.cells #[.int .u8 110,.slice none 0 0] 153)).alloc (.cells #[.int .u64 n,.string (bs b),.slice A m c] 81)) (.cells #[.bool false,.string ⟨#[]⟩,.slice none 0 0] 53)
 have hF:=(heap_alloc_old ((w.alloc (.cells #[.int .u8 110,.slice none 0 0] 153)).alloc (.cells #[.int .u64 n,.string (bs b),.slice A m c] 81)) (.cells #[.bool false,.string ⟨#[]⟩,.slice none 0 0] 53) (by simp)).trans (heap_alloc_new (w.alloc (.cells #[.int .u8 110,.slice none 0 0] 153)) (.cells #[.int .u64 n,.string (bs b),.slice A m c] 81))
 have hKd:=(heap_alloc_old ((w.alloc (.cells #[.int .u8 110,.slice none 0 0] 153)).alloc (.cells #[.int .u64 n,.string (bs b),.slice A m c] 81)) (.cells #[.bool false,.string ⟨#[]⟩,.slice none 0 0] 53) (by simp;omega)).trans ((heap_alloc_old (w.alloc (.cells #[.int .u8 110,.slice none 0 0] 153)) (.cells #[.int .u64 n,.string (bs b),.slice A m c] 81) (by simp)).trans (heap_alloc_new w _))
 simp only [World.size_alloc] at hI hF hKd
 have HB:=qh hB
 have HI:=qh hI
 have HF:=qh hF
 have HK:=qh hKd
 clear hB hI hF hKd
 go_enter Tryz.func147,Tryz.ntmps147
 go_wp2_with fail
 have hbd:Below (((w.alloc (.cells #[.int .u8 110,.slice none 0 0] 153)).alloc (.cells #[.int .u64 n,.string (bs b),.slice A m c] 81)).alloc (.cells #[.bool false,.string ⟨#[]⟩,.slice none 0 0] 53)).heap.size (((w.alloc (.cells #[.int .u8 110,.slice none 0 0] 153)).alloc (.cells #[.int .u64 n,.string (bs b),.slice A m c] 81)).alloc (.cells #[.bool false,.string ⟨#[]⟩,.slice none 0 0] 53)) (((w.alloc (.cells #[.int .u8 110,.slice none 0 0] 153)).alloc (.cells #[.int .u64 n,.string (bs b),.slice A m c] 81)).alloc (.cells #[.bool false,.string ⟨#[]⟩,.slice none 0 0] 53)).drew:=(Below.refl _ _).drew
 have hKd:=(hbd.block _ (qg HK.out)).trans HK.out
 have hF:=(hbd.block _ (qg HF.out)).trans HF.out
 have hI:=(hbd.block _ (qg HI.out)).trans HI.out
 have hB:=qab HB.out HB.out.size hbd
 refine qao [(99,fun w'=>w'.heap[w.heap.size]? = some (.cells #[.int .u8 110,.slice none 0 0] 153 (0,0))∧w'.heap[w.heap.size+1]? = some (.cells #[.int .u64 n,.string (bs b),.slice A m c] 81 (0,0)))] (by kernel_rfl) ?_
 generalize (((w.alloc (.cells #[.int .u8 110,.slice none 0 0] 153)).alloc (.cells #[.int .u64 n,.string (bs b),.slice A m c] 81)).alloc (.cells #[.bool false,.string ⟨#[]⟩,.slice none 0 0] 53)).drew=w3 at hKd hF hI hB ⊢
 clear hbd HK HF HI HB
 refine R_p (i:=0) (v:=.pointer (some ⟨w.heap.size+1,0,none⟩)) (Mh ⟨hKd,hF⟩ Mn) ?_
 refine R_l (i:=1) (v:=.int .u64 n) 99 _ List.mem_cons_self rfl (qae rfl rfl rfl (fun w' hS=>rc hS.2 0 rfl) Tryz.underlying22 rfl) (Mh ⟨hKd,hF⟩ Mn) ?_
 refine R_p (i:=3) (v:=.pointer (some ⟨w.heap.size+1,1,none⟩)) (Mh ⟨hKd,hF⟩ Mn) ?_
 refine R_l (i:=4) (v:=.string (bs b)) 99 _ List.mem_cons_self rfl (qae rfl rfl rfl (fun w' hS=>rc hS.2 1 rfl) Tryz.underlying9 rfl) (Mh ⟨hKd,hF⟩ Mn) ?_
 refine R_p (i:=5) (v:=.bool false) (Mh ⟨hKd,hF⟩ Mn) ?_
 refine R_now 2 fun K hK=>?_
 go_simp
 refine (qcd n h0 h64 _).mono ?_
 rintro e w4 ⟨rfl,hb4⟩
 replace hKd:=(hb4.block _ (qg hKd)).trans hKd
 replace hF:=(hb4.block _ (qg hF)).trans hF
 replace hI:=(hb4.block _ (qg hI)).trans hI
 replace hB:=qab hB hB.size hb4
 clear hb4
 refine hK.out _ _ (Mh ⟨hKd,hF⟩ Mn) (fun hMeets=>?_)
 clear hK K hMeets
 refine lay_R ?_
 refine R_p (i:=6) (v:=.bool false) (Mh ⟨hKd,hF⟩ Mn) ?_
 refine R_s (i:=7) (Mh ⟨hKd,hF⟩ Mn) ?_
 refine R_s (i:=8) (Mh ⟨hKd,hF⟩ Mn) ?_
 refine R_s (i:=9) (Mh ⟨hKd,hF⟩ Mn) ?_
 refine R_s (i:=10) (Mh ⟨hKd,hF⟩ Mn) ?_
 refine R_p (i:=11) (v:=.bool false) (Mh ⟨hKd,hF⟩ Mn) ?_
 have d0:w4.cell? ⟨w.heap.size+1+1,0,none⟩=some (.bool false):=rc0 hI
 have d1:w4.cell? ⟨w.heap.size+1+1,1,none⟩=some (.string ⟨#[]⟩):=rc1 hI
 have d2:w4.cell? ⟨w.heap.size+1+1,2,none⟩=some (.slice none 0 0):=rc2 hI
 have f0:=rf hI 0
 have f1:=rf hI 1
 have f2:=rf hI 2
 refine R_now 12 fun K hK=>?_
 obtain ⟨W9,hW9⟩:∃ W9,W9=(((w4.setCell ⟨w.heap.size+1+1,0,none⟩ (.bool false)).setCell ⟨w.heap.size+1+1,1,none⟩ (.string (bs (digs n.toNat)))).setCell ⟨w.heap.size+1+1,2,none⟩ (.slice none 0 0)):=⟨_,rfl⟩
 have hI9:W9.heap[w.heap.size+1+1]? = some (.cells #[.bool false,.string (bs (digs n.toNat)),.slice none 0 0] 53 (0,0)):=by rw [hW9];exact qaa (qaa (qaa hI _) _) _
 have hF9:W9.heap[w.heap.size+1]? = some (.cells #[.int .u64 n,.string (bs b),.slice A m c] 81 (0,0)):=by rw [hW9];exact (qac (by omega) _).trans ((qac (by omega) _).trans ((qac (by omega) _).trans hF))
 have hKd9:W9.heap[w.heap.size]? = some (.cells #[.int .u8 110,.slice none 0 0] 153 (0,0)):=by rw [hW9];exact (qac (by omega) _).trans ((qac (by omega) _).trans ((qac (by omega) _).trans hKd))
 have hB9:Below w.heap.size w W9:=by rw [hW9];exact ((hB.setCell (p:=⟨w.heap.size+1+1,_,_⟩) (by simp;omega) _).setCell (p:=⟨w.heap.size+1+1,_,_⟩) (by simp;omega) _).setCell (p:=⟨w.heap.size+1+1,_,_⟩) (by simp;omega) _
 have HI9:=qh hI9
 have HB9:=qh hB9
 clear hI9 hB9
 go_simp
 rw [← hW9]
 clear hW9 d0 d1 d2 f0 f1 f2
 refine hK.out _ _ (Mh ⟨hKd9,hF9⟩ Mn) (fun hMeets=>?_)
 clear hK K hMeets
 refine lay_R ?_
 refine R_p (i:=13) (v:=.bool false) (Mh ⟨hKd9,hF9⟩ Mn) ?_
 refine qa7 (by kernel_rfl) ?_ _
 go_wp2_with fail
 exact bodyPost_ret (v:=.tuple #[.agg #[.bool false,.string (bs (digs n.toNat)),.slice none 0 0],.bool false]) (qah rfl _ _ (w.heap.size+1+1) _ _ _ _ rfl HI9.out _ rfl Tryz.underlying53 rfl infoI) rfl ⟨rfl,HB9.out⟩
/- The walks of frame.sizes, and of frame.item at plain kinds, at bytes. -/
theorem qsi (n:Int) (b:Bytes) (A:Option Addr) (m c:Nat) (hn:(n == 0)=true) (hm:((m:Int) == 0)=true) (hl:(b.length:Int)≤64) (w:World) :
  Calls Tryz.prog 147 #[.agg #[.int .u8 98,.slice none 0 0],.agg #[.int .u64 n,.string (bs b),.slice A m c]] w fun e w'=>e=.returned (.tuple #[.agg #[.bool false,.string (bs b),.slice none 0 0],.bool true])∧Below w.heap.size w w':=by
 have hB:Below w.heap.size w (((w.alloc (.cells #[.int .u8 98,.slice none 0 0] 153)).alloc (.cells #[.int .u64 n,.string (bs b),.slice A m c] 81)).alloc (.cells #[.bool false,.string ⟨#[]⟩,.slice none 0 0] 53)):=(((Below.refl _ _).alloc qn _).alloc (by simp) _).alloc (by simp;omega) _
 have hI:=heap_alloc_new ((w.alloc (.cells #[.int .u8 98,.slice none 0 0] 153)).alloc (.cells #[.int .u64 n,.string (bs b),.slice A m c] 81)) (.cells #[.bool false,.string ⟨#[]⟩,.slice none 0 0] 53)
 have hF:=(heap_alloc_old ((w.alloc (.cells #[.int .u8 98,.slice none 0 0] 153)).alloc (.cells #[.int .u64 n,.string (bs b),.slice A m c] 81)) (.cells #[.bool false,.string ⟨#[]⟩,.slice none 0 0] 53) (by simp)).trans (heap_alloc_new (w.alloc (.cells #[.int .u8 98,.slice none 0 0] 153)) (.cells #[.int .u64 n,.string (bs b),.slice A m c] 81))
 have hKd:=(heap_alloc_old ((w.alloc (.cells #[.int .u8 98,.slice none 0 0] 153)).alloc (.cells #[.int .u64 n,.string (bs b),.slice A m c] 81)) (.cells #[.bool false,.string ⟨#[]⟩,.slice none 0 0] 53) (by simp;omega)).trans ((heap_alloc_old (w.alloc (.cells #[.int .u8 98,.slice none 0 0] 153)) (.cells #[.int .u64 n,.string (bs b),.slice A m c] 81) (by simp)).trans (heap_alloc_new w _))
 simp only [World.size_alloc] at hI hF hKd
 have HB:=qh hB
 have HI:=qh hI
 have HF:=qh hF
 have HK:=qh hKd
 clear hB hI hF hKd
 go_enter Tryz.func147,Tryz.ntmps147
 go_wp2_with fail
 have hbd:Below (((w.alloc (.cells #[.int .u8 98,.slice none 0 0] 153)).alloc (.cells #[.int .u64 n,.string (bs b),.slice A m c] 81)).alloc (.cells #[.bool false,.string ⟨#[]⟩,.slice none 0 0] 53)).heap.size (((w.alloc (.cells #[.int .u8 98,.slice none 0 0] 153)).alloc (.cells #[.int .u64 n,.string (bs b),.slice A m c] 81)).alloc (.cells #[.bool false,.string ⟨#[]⟩,.slice none 0 0] 53)) (((w.alloc (.cells #[.int .u8 98,.slice none 0 0] 153)).alloc (.cells #[.int .u64 n,.string (bs b),.slice A m c] 81)).alloc (.cells #[.bool false,.string ⟨#[]⟩,.slice none 0 0] 53)).drew:=(Below.refl _ _).drew
 have hKd:=(hbd.block _ (qg HK.out)).trans HK.out
 have hF:=(hbd.block _ (qg HF.out)).trans HF.out
 have hI:=(hbd.block _ (qg HI.out)).trans HI.out
 have hB:=qab HB.out HB.out.size hbd
 refine qao [(99,fun w'=>w'.heap[w.heap.size]? = some (.cells #[.int .u8 98,.slice none 0 0] 153 (0,0))∧w'.heap[w.heap.size+1]? = some (.cells #[.int .u64 n,.string (bs b),.slice A m c] 81 (0,0)))] (by kernel_rfl) ?_
 generalize (((w.alloc (.cells #[.int .u8 98,.slice none 0 0] 153)).alloc (.cells #[.int .u64 n,.string (bs b),.slice A m c] 81)).alloc (.cells #[.bool false,.string ⟨#[]⟩,.slice none 0 0] 53)).drew=w3 at hKd hF hI hB ⊢
 clear hbd HK HF HI HB
 refine R_p (i:=0) (v:=.pointer (some ⟨w.heap.size+1,1,none⟩)) (Mh ⟨hKd,hF⟩ Mn) ?_
 refine R_l (i:=1) (v:=.string (bs b)) 99 _ List.mem_cons_self rfl (qae rfl rfl rfl (fun w' hS=>rc hS.2 1 rfl) Tryz.underlying9 rfl) (Mh ⟨hKd,hF⟩ Mn) ?_
 refine R_p (i:=2) (v:=.agg #[.bool false,.string (bs b),.slice none 0 0]) (Mh ⟨hKd,hF⟩ Mn) ?_
 refine R_p (i:=3) (v:=.bool true) (Mh ⟨hKd,hF⟩ Mn) ?_
 refine R_p (i:=4) (v:=.bool true) (Mh ⟨hKd,hF⟩ Mn) ?_
 refine R_p (i:=5) (v:=.pointer (some ⟨w.heap.size+1,1,none⟩)) (Mh ⟨hKd,hF⟩ Mn) ?_
 refine R_l (i:=6) (v:=.string (bs b)) 99 _ List.mem_cons_self rfl (qae rfl rfl rfl (fun w' hS=>rc hS.2 1 rfl) Tryz.underlying9 rfl) (Mh ⟨hKd,hF⟩ Mn) ?_
 refine R_p (i:=7) (v:=.int .i64 (b.length:Int)) (Mh ⟨hKd,hF⟩ Mn) ?_
 refine R_p (i:=8) (v:=.bool true) (Mh ⟨hKd,hF⟩ Mn) ?_
 refine R_p (i:=9) (v:=.bool true) (Mh ⟨hKd,hF⟩ Mn) ?_
 have d0:w3.cell? ⟨w.heap.size+1+1,0,none⟩=some (.bool false):=rc0 hI
 have d1:w3.cell? ⟨w.heap.size+1+1,1,none⟩=some (.string ⟨#[]⟩):=rc1 hI
 have d2:w3.cell? ⟨w.heap.size+1+1,2,none⟩=some (.slice none 0 0):=rc2 hI
 have f0:=rf hI 0
 have f1:=rf hI 1
 have f2:=rf hI 2
 refine R_now 10 fun K hK=>?_
 obtain ⟨W9,hW9⟩:∃ W9,W9=(((w3.setCell ⟨w.heap.size+1+1,0,none⟩ (.bool false)).setCell ⟨w.heap.size+1+1,1,none⟩ (.string (bs b))).setCell ⟨w.heap.size+1+1,2,none⟩ (.slice none 0 0)):=⟨_,rfl⟩
 have hI9:W9.heap[w.heap.size+1+1]? = some (.cells #[.bool false,.string (bs b),.slice none 0 0] 53 (0,0)):=by rw [hW9];exact qaa (qaa (qaa hI _) _) _
 have hF9:W9.heap[w.heap.size+1]? = some (.cells #[.int .u64 n,.string (bs b),.slice A m c] 81 (0,0)):=by rw [hW9];exact (qac (by omega) _).trans ((qac (by omega) _).trans ((qac (by omega) _).trans hF))
 have hKd9:W9.heap[w.heap.size]? = some (.cells #[.int .u8 98,.slice none 0 0] 153 (0,0)):=by rw [hW9];exact (qac (by omega) _).trans ((qac (by omega) _).trans ((qac (by omega) _).trans hKd))
 have hB9:Below w.heap.size w W9:=by rw [hW9];exact ((hB.setCell (p:=⟨w.heap.size+1+1,_,_⟩) (by simp;omega) _).setCell (p:=⟨w.heap.size+1+1,_,_⟩) (by simp;omega) _).setCell (p:=⟨w.heap.size+1+1,_,_⟩) (by simp;omega) _
 have HI9:=qh hI9
 have HB9:=qh hB9
 clear hI9 hB9
 go_simp
 rw [← hW9]
 clear hW9 d0 d1 d2 f0 f1 f2
 refine hK.out _ _ (Mh ⟨hKd9,hF9⟩ Mn) (fun hMeets=>?_)
 clear hK K hMeets
 refine lay_R ?_
 refine R_p (i:=11) (v:=.bool true) (Mh ⟨hKd9,hF9⟩ Mn) ?_
 refine qa7 (by kernel_rfl) ?_ _
 go_wp2_with fail
 exact bodyPost_ret (v:=.tuple #[.agg #[.bool false,.string (bs b),.slice none 0 0],.bool true]) (qah rfl _ _ (w.heap.size+1+1) _ _ _ _ rfl HI9.out _ rfl Tryz.underlying53 rfl infoI) rfl ⟨rfl,HB9.out⟩
theorem qs7 (n:Int) (b:Bytes) (A:Option Addr) (m c:Nat) (hn:(n == 0)=true) (hm:((m:Int) == 0)=true) (hl:¬ (b.length:Int)≤64) (w:World) :
  Calls Tryz.prog 147 #[.agg #[.int .u8 98,.slice none 0 0],.agg #[.int .u64 n,.string (bs b),.slice A m c]] w fun e w'=>e=.returned (.tuple #[.agg #[.bool false,.string (bs b),.slice none 0 0],.bool false])∧Below w.heap.size w w':=by
 have hB:Below w.heap.size w (((w.alloc (.cells #[.int .u8 98,.slice none 0 0] 153)).alloc (.cells #[.int .u64 n,.string (bs b),.slice A m c] 81)).alloc (.cells #[.bool false,.string ⟨#[]⟩,.slice none 0 0] 53)):=(((Below.refl _ _).alloc qn _).alloc (by simp) _).alloc (by simp;omega) _
 have hI:=heap_alloc_new ((w.alloc (.cells #[.int .u8 98,.slice none 0 0] 153)).alloc (.cells #[.int .u64 n,.string (bs b),.slice A m c] 81)) (.cells #[.bool false,.string ⟨#[]⟩,.slice none 0 0] 53)
 have hF:=(heap_alloc_old ((w.alloc (.cells #[.int .u8 98,.slice none 0 0] 153)).alloc (.cells #[.int .u64 n,.string (bs b),.slice A m c] 81)) (.cells #[.bool false,.string ⟨#[]⟩,.slice none 0 0] 53) (by simp)).trans (heap_alloc_new (w.alloc (.cells #[.int .u8 98,.slice none 0 0] 153)) (.cells #[.int .u64 n,.string (bs b),.slice A m c] 81))
 have hKd:=(heap_alloc_old ((w.alloc (.cells #[.int .u8 98,.slice none 0 0] 153)).alloc (.cells #[.int .u64 n,.string (bs b),.slice A m c] 81)) (.cells #[.bool false,.string ⟨#[]⟩,.slice none 0 0] 53) (by simp;omega)).trans ((heap_alloc_old (w.alloc (.cells #[.int .u8 98,.slice none 0 0] 153)) (.cells #[.int .u64 n,.string (bs b),.slice A m c] 81) (by simp)).trans (heap_alloc_new w _))
 simp only [World.size_alloc] at hI hF hKd
 have HB:=qh hB
 have HI:=qh hI
 have HF:=qh hF
 have HK:=qh hKd
 clear hB hI hF hKd
 go_enter Tryz.func147,Tryz.ntmps147
 go_wp2_with fail
 have hbd:Below (((w.alloc (.cells #[.int .u8 98,.slice none 0 0] 153)).alloc (.cells #[.int .u64 n,.string (bs b),.slice A m c] 81)).alloc (.cells #[.bool false,.string ⟨#[]⟩,.slice none 0 0] 53)).heap.size (((w.alloc (.cells #[.int .u8 98,.slice none 0 0] 153)).alloc (.cells #[.int .u64 n,.string (bs b),.slice A m c] 81)).alloc (.cells #[.bool false,.string ⟨#[]⟩,.slice none 0 0] 53)) (((w.alloc (.cells #[.int .u8 98,.slice none 0 0] 153)).alloc (.cells #[.int .u64 n,.string (bs b),.slice A m c] 81)).alloc (.cells #[.bool false,.string ⟨#[]⟩,.slice none 0 0] 53)).drew:=(Below.refl _ _).drew
 have hKd:=(hbd.block _ (qg HK.out)).trans HK.out
 have hF:=(hbd.block _ (qg HF.out)).trans HF.out
 have hI:=(hbd.block _ (qg HI.out)).trans HI.out
 have hB:=qab HB.out HB.out.size hbd
 refine qao [(99,fun w'=>w'.heap[w.heap.size]? = some (.cells #[.int .u8 98,.slice none 0 0] 153 (0,0))∧w'.heap[w.heap.size+1]? = some (.cells #[.int .u64 n,.string (bs b),.slice A m c] 81 (0,0)))] (by kernel_rfl) ?_
 generalize (((w.alloc (.cells #[.int .u8 98,.slice none 0 0] 153)).alloc (.cells #[.int .u64 n,.string (bs b),.slice A m c] 81)).alloc (.cells #[.bool false,.string ⟨#[]⟩,.slice none 0 0] 53)).drew=w3 at hKd hF hI hB ⊢
 clear hbd HK HF HI HB
 refine R_p (i:=0) (v:=.pointer (some ⟨w.heap.size+1,1,none⟩)) (Mh ⟨hKd,hF⟩ Mn) ?_
 refine R_l (i:=1) (v:=.string (bs b)) 99 _ List.mem_cons_self rfl (qae rfl rfl rfl (fun w' hS=>rc hS.2 1 rfl) Tryz.underlying9 rfl) (Mh ⟨hKd,hF⟩ Mn) ?_
 refine R_p (i:=2) (v:=.agg #[.bool false,.string (bs b),.slice none 0 0]) (Mh ⟨hKd,hF⟩ Mn) ?_
 refine R_p (i:=3) (v:=.bool true) (Mh ⟨hKd,hF⟩ Mn) ?_
 refine R_p (i:=4) (v:=.bool true) (Mh ⟨hKd,hF⟩ Mn) ?_
 refine R_p (i:=5) (v:=.pointer (some ⟨w.heap.size+1,1,none⟩)) (Mh ⟨hKd,hF⟩ Mn) ?_
 refine R_l (i:=6) (v:=.string (bs b)) 99 _ List.mem_cons_self rfl (qae rfl rfl rfl (fun w' hS=>rc hS.2 1 rfl) Tryz.underlying9 rfl) (Mh ⟨hKd,hF⟩ Mn) ?_
 refine R_p (i:=7) (v:=.int .i64 (b.length:Int)) (Mh ⟨hKd,hF⟩ Mn) ?_
 refine R_p (i:=8) (v:=.bool false) (Mh ⟨hKd,hF⟩ Mn) ?_
 refine R_p (i:=9) (v:=.bool false) (Mh ⟨hKd,hF⟩ Mn) ?_
 have d0:w3.cell? ⟨w.heap.size+1+1,0,none⟩=some (.bool false):=rc0 hI
 have d1:w3.cell? ⟨w.heap.size+1+1,1,none⟩=some (.string ⟨#[]⟩):=rc1 hI
 have d2:w3.cell? ⟨w.heap.size+1+1,2,none⟩=some (.slice none 0 0):=rc2 hI
 have f0:=rf hI 0
 have f1:=rf hI 1
 have f2:=rf hI 2
 refine R_now 10 fun K hK=>?_
 obtain ⟨W9,hW9⟩:∃ W9,W9=(((w3.setCell ⟨w.heap.size+1+1,0,none⟩ (.bool false)).setCell ⟨w.heap.size+1+1,1,none⟩ (.string (bs b))).setCell ⟨w.heap.size+1+1,2,none⟩ (.slice none 0 0)):=⟨_,rfl⟩
 have hI9:W9.heap[w.heap.size+1+1]? = some (.cells #[.bool false,.string (bs b),.slice none 0 0] 53 (0,0)):=by rw [hW9];exact qaa (qaa (qaa hI _) _) _
 have hF9:W9.heap[w.heap.size+1]? = some (.cells #[.int .u64 n,.string (bs b),.slice A m c] 81 (0,0)):=by rw [hW9];exact (qac (by omega) _).trans ((qac (by omega) _).trans ((qac (by omega) _).trans hF))
 have hKd9:W9.heap[w.heap.size]? = some (.cells #[.int .u8 98,.slice none 0 0] 153 (0,0)):=by rw [hW9];exact (qac (by omega) _).trans ((qac (by omega) _).trans ((qac (by omega) _).trans hKd))
 have hB9:Below w.heap.size w W9:=by rw [hW9];exact ((hB.setCell (p:=⟨w.heap.size+1+1,_,_⟩) (by simp;omega) _).setCell (p:=⟨w.heap.size+1+1,_,_⟩) (by simp;omega) _).setCell (p:=⟨w.heap.size+1+1,_,_⟩) (by simp;omega) _
 have HI9:=qh hI9
 have HB9:=qh hB9
 clear hI9 hB9
 go_simp
 rw [← hW9]
 clear hW9 d0 d1 d2 f0 f1 f2
 refine hK.out _ _ (Mh ⟨hKd9,hF9⟩ Mn) (fun hMeets=>?_)
 clear hK K hMeets
 refine lay_R ?_
 refine R_p (i:=11) (v:=.bool false) (Mh ⟨hKd9,hF9⟩ Mn) ?_
 refine qa7 (by kernel_rfl) ?_ _
 go_wp2_with fail
 exact bodyPost_ret (v:=.tuple #[.agg #[.bool false,.string (bs b),.slice none 0 0],.bool false]) (qah rfl _ _ (w.heap.size+1+1) _ _ _ _ rfl HI9.out _ rfl Tryz.underlying53 rfl infoI) rfl ⟨rfl,HB9.out⟩
theorem qri (n:Int) (b:Bytes) (A:Option Addr) (m c:Nat) (hn:(n == 0)=true) (hm:((m:Int) == 0)=false) (w:World) :
  Calls Tryz.prog 147 #[.agg #[.int .u8 98,.slice none 0 0],.agg #[.int .u64 n,.string (bs b),.slice A m c]] w fun e w'=>e=.returned (.tuple #[.agg #[.bool false,.string (bs b),.slice none 0 0],.bool false])∧Below w.heap.size w w':=by
 have hB:Below w.heap.size w (((w.alloc (.cells #[.int .u8 98,.slice none 0 0] 153)).alloc (.cells #[.int .u64 n,.string (bs b),.slice A m c] 81)).alloc (.cells #[.bool false,.string ⟨#[]⟩,.slice none 0 0] 53)):=(((Below.refl _ _).alloc qn _).alloc (by simp) _).alloc (by simp;omega) _
 have hI:=heap_alloc_new ((w.alloc (.cells #[.int .u8 98,.slice none 0 0] 153)).alloc (.cells #[.int .u64 n,.string (bs b),.slice A m c] 81)) (.cells #[.bool false,.string ⟨#[]⟩,.slice none 0 0] 53)
 have hF:=(heap_alloc_old ((w.alloc (.cells #[.int .u8 98,.slice none 0 0] 153)).alloc (.cells #[.int .u64 n,.string (bs b),.slice A m c] 81)) (.cells #[.bool false,.string ⟨#[]⟩,.slice none 0 0] 53) (by simp)).trans (heap_alloc_new (w.alloc (.cells #[.int .u8 98,.slice none 0 0] 153)) (.cells #[.int .u64 n,.string (bs b),.slice A m c] 81))
 have hKd:=(heap_alloc_old ((w.alloc (.cells #[.int .u8 98,.slice none 0 0] 153)).alloc (.cells #[.int .u64 n,.string (bs b),.slice A m c] 81)) (.cells #[.bool false,.string ⟨#[]⟩,.slice none 0 0] 53) (by simp;omega)).trans ((heap_alloc_old (w.alloc (.cells #[.int .u8 98,.slice none 0 0] 153)) (.cells #[.int .u64 n,.string (bs b),.slice A m c] 81) (by simp)).trans (heap_alloc_new w _))
 simp only [World.size_alloc] at hI hF hKd
 have HB:=qh hB
 have HI:=qh hI
 have HF:=qh hF
 have HK:=qh hKd
 clear hB hI hF hKd
 go_enter Tryz.func147,Tryz.ntmps147
 go_wp2_with fail
 have hbd:Below (((w.alloc (.cells #[.int .u8 98,.slice none 0 0] 153)).alloc (.cells #[.int .u64 n,.string (bs b),.slice A m c] 81)).alloc (.cells #[.bool false,.string ⟨#[]⟩,.slice none 0 0] 53)).heap.size (((w.alloc (.cells #[.int .u8 98,.slice none 0 0] 153)).alloc (.cells #[.int .u64 n,.string (bs b),.slice A m c] 81)).alloc (.cells #[.bool false,.string ⟨#[]⟩,.slice none 0 0] 53)) (((w.alloc (.cells #[.int .u8 98,.slice none 0 0] 153)).alloc (.cells #[.int .u64 n,.string (bs b),.slice A m c] 81)).alloc (.cells #[.bool false,.string ⟨#[]⟩,.slice none 0 0] 53)).drew:=(Below.refl _ _).drew
 have hKd:=(hbd.block _ (qg HK.out)).trans HK.out
 have hF:=(hbd.block _ (qg HF.out)).trans HF.out
 have hI:=(hbd.block _ (qg HI.out)).trans HI.out
 have hB:=qab HB.out HB.out.size hbd
 refine qao [(99,fun w'=>w'.heap[w.heap.size]? = some (.cells #[.int .u8 98,.slice none 0 0] 153 (0,0))∧w'.heap[w.heap.size+1]? = some (.cells #[.int .u64 n,.string (bs b),.slice A m c] 81 (0,0)))] (by kernel_rfl) ?_
 generalize (((w.alloc (.cells #[.int .u8 98,.slice none 0 0] 153)).alloc (.cells #[.int .u64 n,.string (bs b),.slice A m c] 81)).alloc (.cells #[.bool false,.string ⟨#[]⟩,.slice none 0 0] 53)).drew=w3 at hKd hF hI hB ⊢
 clear hbd HK HF HI HB
 refine R_p (i:=0) (v:=.pointer (some ⟨w.heap.size+1,1,none⟩)) (Mh ⟨hKd,hF⟩ Mn) ?_
 refine R_l (i:=1) (v:=.string (bs b)) 99 _ List.mem_cons_self rfl (qae rfl rfl rfl (fun w' hS=>rc hS.2 1 rfl) Tryz.underlying9 rfl) (Mh ⟨hKd,hF⟩ Mn) ?_
 refine R_p (i:=2) (v:=.agg #[.bool false,.string (bs b),.slice none 0 0]) (Mh ⟨hKd,hF⟩ Mn) ?_
 refine R_p (i:=3) (v:=.bool false) (Mh ⟨hKd,hF⟩ Mn) ?_
 refine R_p (i:=4) (v:=.bool false) (Mh ⟨hKd,hF⟩ Mn) ?_
 refine R_s (i:=5) (Mh ⟨hKd,hF⟩ Mn) ?_
 refine R_s (i:=6) (Mh ⟨hKd,hF⟩ Mn) ?_
 refine R_s (i:=7) (Mh ⟨hKd,hF⟩ Mn) ?_
 refine R_s (i:=8) (Mh ⟨hKd,hF⟩ Mn) ?_
 refine R_p (i:=9) (v:=.bool false) (Mh ⟨hKd,hF⟩ Mn) ?_
 have d0:w3.cell? ⟨w.heap.size+1+1,0,none⟩=some (.bool false):=rc0 hI
 have d1:w3.cell? ⟨w.heap.size+1+1,1,none⟩=some (.string ⟨#[]⟩):=rc1 hI
 have d2:w3.cell? ⟨w.heap.size+1+1,2,none⟩=some (.slice none 0 0):=rc2 hI
 have f0:=rf hI 0
 have f1:=rf hI 1
 have f2:=rf hI 2
 refine R_now 10 fun K hK=>?_
 obtain ⟨W9,hW9⟩:∃ W9,W9=(((w3.setCell ⟨w.heap.size+1+1,0,none⟩ (.bool false)).setCell ⟨w.heap.size+1+1,1,none⟩ (.string (bs b))).setCell ⟨w.heap.size+1+1,2,none⟩ (.slice none 0 0)):=⟨_,rfl⟩
 have hI9:W9.heap[w.heap.size+1+1]? = some (.cells #[.bool false,.string (bs b),.slice none 0 0] 53 (0,0)):=by rw [hW9];exact qaa (qaa (qaa hI _) _) _
 have hF9:W9.heap[w.heap.size+1]? = some (.cells #[.int .u64 n,.string (bs b),.slice A m c] 81 (0,0)):=by rw [hW9];exact (qac (by omega) _).trans ((qac (by omega) _).trans ((qac (by omega) _).trans hF))
 have hKd9:W9.heap[w.heap.size]? = some (.cells #[.int .u8 98,.slice none 0 0] 153 (0,0)):=by rw [hW9];exact (qac (by omega) _).trans ((qac (by omega) _).trans ((qac (by omega) _).trans hKd))
 have hB9:Below w.heap.size w W9:=by rw [hW9];exact ((hB.setCell (p:=⟨w.heap.size+1+1,_,_⟩) (by simp;omega) _).setCell (p:=⟨w.heap.size+1+1,_,_⟩) (by simp;omega) _).setCell (p:=⟨w.heap.size+1+1,_,_⟩) (by simp;omega) _
 have HI9:=qh hI9
 have HB9:=qh hB9
 clear hI9 hB9
 go_simp
 rw [← hW9]
 clear hW9 d0 d1 d2 f0 f1 f2
 refine hK.out _ _ (Mh ⟨hKd9,hF9⟩ Mn) (fun hMeets=>?_)
 clear hK K hMeets
 refine lay_R ?_
 refine R_p (i:=11) (v:=.bool false) (Mh ⟨hKd9,hF9⟩ Mn) ?_
 refine qa7 (by kernel_rfl) ?_ _
 go_wp2_with fail
 exact bodyPost_ret (v:=.tuple #[.agg #[.bool false,.string (bs b),.slice none 0 0],.bool false]) (qah rfl _ _ (w.heap.size+1+1) _ _ _ _ rfl HI9.out _ rfl Tryz.underlying53 rfl infoI) rfl ⟨rfl,HB9.out⟩
theorem qup (n:Int) (b:Bytes) (A:Option Addr) (m c:Nat) (hn:(n == 0)=false) (w:World) :
  Calls Tryz.prog 147 #[.agg #[.int .u8 98,.slice none 0 0],.agg #[.int .u64 n,.string (bs b),.slice A m c]] w fun e w'=>e=.returned (.tuple #[.agg #[.bool false,.string (bs b),.slice none 0 0],.bool false])∧Below w.heap.size w w':=by
 have hB:Below w.heap.size w (((w.alloc (.cells #[.int .u8 98,.slice none 0 0] 153)).alloc (.cells #[.int .u64 n,.string (bs b),.slice A m c] 81)).alloc (.cells #[.bool false,.string ⟨#[]⟩,.slice none 0 0] 53)):=(((Below.refl _ _).alloc qn _).alloc (by simp) _).alloc (by simp;omega) _
 have hI:=heap_alloc_new ((w.alloc (.cells #[.int .u8 98,.slice none 0 0] 153)).alloc (.cells #[.int .u64 n,.string (bs b),.slice A m c] 81)) (.cells #[.bool false,.string ⟨#[]⟩,.slice none 0 0] 53)
 have hF:=(heap_alloc_old ((w.alloc (.cells #[.int .u8 98,.slice none 0 0] 153)).alloc (.cells #[.int .u64 n,.string (bs b),.slice A m c] 81)) (.cells #[.bool false,.string ⟨#[]⟩,.slice none 0 0] 53) (by simp)).trans (heap_alloc_new (w.alloc (.cells #[.int .u8 98,.slice none 0 0] 153)) (.cells #[.int .u64 n,.string (bs b),.slice A m c] 81))
 have hKd:=(heap_alloc_old ((w.alloc (.cells #[.int .u8 98,.slice none 0 0] 153)).alloc (.cells #[.int .u64 n,.string (bs b),.slice A m c] 81)) (.cells #[.bool false,.string ⟨#[]⟩,.slice none 0 0] 53) (by simp;omega)).trans ((heap_alloc_old (w.alloc (.cells #[.int .u8 98,.slice none 0 0] 153)) (.cells #[.int .u64 n,.string (bs b),.slice A m c] 81) (by simp)).trans (heap_alloc_new w _))
 simp only [World.size_alloc] at hI hF hKd
 have HB:=qh hB
 have HI:=qh hI
 have HF:=qh hF
 have HK:=qh hKd
 clear hB hI hF hKd
 go_enter Tryz.func147,Tryz.ntmps147
 go_wp2_with fail
 have hbd:Below (((w.alloc (.cells #[.int .u8 98,.slice none 0 0] 153)).alloc (.cells #[.int .u64 n,.string (bs b),.slice A m c] 81)).alloc (.cells #[.bool false,.string ⟨#[]⟩,.slice none 0 0] 53)).heap.size (((w.alloc (.cells #[.int .u8 98,.slice none 0 0] 153)).alloc (.cells #[.int .u64 n,.string (bs b),.slice A m c] 81)).alloc (.cells #[.bool false,.string ⟨#[]⟩,.slice none 0 0] 53)) (((w.alloc (.cells #[.int .u8 98,.slice none 0 0] 153)).alloc (.cells #[.int .u64 n,.string (bs b),.slice A m c] 81)).alloc (.cells #[.bool false,.string ⟨#[]⟩,.slice none 0 0] 53)).drew:=(Below.refl _ _).drew
 have hKd:=(hbd.block _ (qg HK.out)).trans HK.out
 have hF:=(hbd.block _ (qg HF.out)).trans HF.out
 have hI:=(hbd.block _ (qg HI.out)).trans HI.out
 have hB:=qab HB.out HB.out.size hbd
 refine qao [(99,fun w'=>w'.heap[w.heap.size]? = some (.cells #[.int .u8 98,.slice none 0 0] 153 (0,0))∧w'.heap[w.heap.size+1]? = some (.cells #[.int .u64 n,.string (bs b),.slice A m c] 81 (0,0)))] (by kernel_rfl) ?_
 generalize (((w.alloc (.cells #[.int .u8 98,.slice none 0 0] 153)).alloc (.cells #[.int .u64 n,.string (bs b),.slice A m c] 81)).alloc (.cells #[.bool false,.string ⟨#[]⟩,.slice none 0 0] 53)).drew=w3 at hKd hF hI hB ⊢
 clear hbd HK HF HI HB
 refine R_p (i:=0) (v:=.pointer (some ⟨w.heap.size+1,1,none⟩)) (Mh ⟨hKd,hF⟩ Mn) ?_
 refine R_l (i:=1) (v:=.string (bs b)) 99 _ List.mem_cons_self rfl (qae rfl rfl rfl (fun w' hS=>rc hS.2 1 rfl) Tryz.underlying9 rfl) (Mh ⟨hKd,hF⟩ Mn) ?_
 refine R_p (i:=2) (v:=.agg #[.bool false,.string (bs b),.slice none 0 0]) (Mh ⟨hKd,hF⟩ Mn) ?_
 refine R_p (i:=3) (v:=.bool false) (Mh ⟨hKd,hF⟩ Mn) ?_
 refine R_p (i:=4) (v:=.bool false) (Mh ⟨hKd,hF⟩ Mn) ?_
 refine R_s (i:=5) (Mh ⟨hKd,hF⟩ Mn) ?_
 refine R_s (i:=6) (Mh ⟨hKd,hF⟩ Mn) ?_
 refine R_s (i:=7) (Mh ⟨hKd,hF⟩ Mn) ?_
 refine R_s (i:=8) (Mh ⟨hKd,hF⟩ Mn) ?_
 refine R_p (i:=9) (v:=.bool false) (Mh ⟨hKd,hF⟩ Mn) ?_
 have d0:w3.cell? ⟨w.heap.size+1+1,0,none⟩=some (.bool false):=rc0 hI
 have d1:w3.cell? ⟨w.heap.size+1+1,1,none⟩=some (.string ⟨#[]⟩):=rc1 hI
 have d2:w3.cell? ⟨w.heap.size+1+1,2,none⟩=some (.slice none 0 0):=rc2 hI
 have f0:=rf hI 0
 have f1:=rf hI 1
 have f2:=rf hI 2
 refine R_now 10 fun K hK=>?_
 obtain ⟨W9,hW9⟩:∃ W9,W9=(((w3.setCell ⟨w.heap.size+1+1,0,none⟩ (.bool false)).setCell ⟨w.heap.size+1+1,1,none⟩ (.string (bs b))).setCell ⟨w.heap.size+1+1,2,none⟩ (.slice none 0 0)):=⟨_,rfl⟩
 have hI9:W9.heap[w.heap.size+1+1]? = some (.cells #[.bool false,.string (bs b),.slice none 0 0] 53 (0,0)):=by rw [hW9];exact qaa (qaa (qaa hI _) _) _
 have hF9:W9.heap[w.heap.size+1]? = some (.cells #[.int .u64 n,.string (bs b),.slice A m c] 81 (0,0)):=by rw [hW9];exact (qac (by omega) _).trans ((qac (by omega) _).trans ((qac (by omega) _).trans hF))
 have hKd9:W9.heap[w.heap.size]? = some (.cells #[.int .u8 98,.slice none 0 0] 153 (0,0)):=by rw [hW9];exact (qac (by omega) _).trans ((qac (by omega) _).trans ((qac (by omega) _).trans hKd))
 have hB9:Below w.heap.size w W9:=by rw [hW9];exact ((hB.setCell (p:=⟨w.heap.size+1+1,_,_⟩) (by simp;omega) _).setCell (p:=⟨w.heap.size+1+1,_,_⟩) (by simp;omega) _).setCell (p:=⟨w.heap.size+1+1,_,_⟩) (by simp;omega) _
 have HI9:=qh hI9
 have HB9:=qh hB9
 clear hI9 hB9
 go_simp
 rw [← hW9]
 clear hW9 d0 d1 d2 f0 f1 f2
 refine hK.out _ _ (Mh ⟨hKd9,hF9⟩ Mn) (fun hMeets=>?_)
 clear hK K hMeets
 refine lay_R ?_
 refine R_p (i:=11) (v:=.bool false) (Mh ⟨hKd9,hF9⟩ Mn) ?_
 refine qa7 (by kernel_rfl) ?_ _
 go_wp2_with fail
 exact bodyPost_ret (v:=.tuple #[.agg #[.bool false,.string (bs b),.slice none 0 0],.bool false]) (qah rfl _ _ (w.heap.size+1+1) _ _ _ _ rfl HI9.out _ rfl Tryz.underlying53 rfl infoI) rfl ⟨rfl,HB9.out⟩
theorem qut (ci:Int) (n:Int) (b:Bytes) (A:Option Addr) (m c:Nat) (hn:(n == 0)=true) (hm:((m:Int) == 0)=true) (h1:(ci == 110)=false) (h2:(ci == 98)=false) (h3:(ci == 40)=false) (h4:(ci == 42)=false) (sz:Nat) (HSZ:Hid (∀ w:World,Calls Tryz.prog 201 #[.int .u8 ci] w fun e w'=>e=.returned (.int .i64 sz)∧w=w')) (hl:((b.length:Int) == (sz:Int))=true) (w:World) :
  Calls Tryz.prog 147 #[.agg #[.int .u8 ci,.slice none 0 0],.agg #[.int .u64 n,.string (bs b),.slice A m c]] w fun e w'=>e=.returned (.tuple #[.agg #[.bool false,.string (bs b),.slice none 0 0],.bool true])∧Below w.heap.size w w':=by
 have hB:Below w.heap.size w (((w.alloc (.cells #[.int .u8 ci,.slice none 0 0] 153)).alloc (.cells #[.int .u64 n,.string (bs b),.slice A m c] 81)).alloc (.cells #[.bool false,.string ⟨#[]⟩,.slice none 0 0] 53)):=(((Below.refl _ _).alloc qn _).alloc (by simp) _).alloc (by simp;omega) _
 have hI:=heap_alloc_new ((w.alloc (.cells #[.int .u8 ci,.slice none 0 0] 153)).alloc (.cells #[.int .u64 n,.string (bs b),.slice A m c] 81)) (.cells #[.bool false,.string ⟨#[]⟩,.slice none 0 0] 53)
 have hF:=(heap_alloc_old ((w.alloc (.cells #[.int .u8 ci,.slice none 0 0] 153)).alloc (.cells #[.int .u64 n,.string (bs b),.slice A m c] 81)) (.cells #[.bool false,.string ⟨#[]⟩,.slice none 0 0] 53) (by simp)).trans (heap_alloc_new (w.alloc (.cells #[.int .u8 ci,.slice none 0 0] 153)) (.cells #[.int .u64 n,.string (bs b),.slice A m c] 81))
 have hKd:=(heap_alloc_old ((w.alloc (.cells #[.int .u8 ci,.slice none 0 0] 153)).alloc (.cells #[.int .u64 n,.string (bs b),.slice A m c] 81)) (.cells #[.bool false,.string ⟨#[]⟩,.slice none 0 0] 53) (by simp;omega)).trans ((heap_alloc_old (w.alloc (.cells #[.int .u8 ci,.slice none 0 0] 153)) (.cells #[.int .u64 n,.string (bs b),.slice A m c] 81) (by simp)).trans (heap_alloc_new w _))
 simp only [World.size_alloc] at hI hF hKd
 have HB:=qh hB
 have HI:=qh hI
 have HF:=qh hF
 have HK:=qh hKd
 clear hB hI hF hKd
 go_enter Tryz.func147,Tryz.ntmps147
 go_wp2_with fail
 have hbd:Below (((w.alloc (.cells #[.int .u8 ci,.slice none 0 0] 153)).alloc (.cells #[.int .u64 n,.string (bs b),.slice A m c] 81)).alloc (.cells #[.bool false,.string ⟨#[]⟩,.slice none 0 0] 53)).heap.size (((w.alloc (.cells #[.int .u8 ci,.slice none 0 0] 153)).alloc (.cells #[.int .u64 n,.string (bs b),.slice A m c] 81)).alloc (.cells #[.bool false,.string ⟨#[]⟩,.slice none 0 0] 53)) (((w.alloc (.cells #[.int .u8 ci,.slice none 0 0] 153)).alloc (.cells #[.int .u64 n,.string (bs b),.slice A m c] 81)).alloc (.cells #[.bool false,.string ⟨#[]⟩,.slice none 0 0] 53)).drew:=(Below.refl _ _).drew
 have hKd:=(hbd.block _ (qg HK.out)).trans HK.out
 have hF:=(hbd.block _ (qg HF.out)).trans HF.out
 have hI:=(hbd.block _ (qg HI.out)).trans HI.out
 have hB:=qab HB.out HB.out.size hbd
 refine qao [(99,fun w'=>w'.heap[w.heap.size]? = some (.cells #[.int .u8 ci,.slice none 0 0] 153 (0,0))∧w'.heap[w.heap.size+1]? = some (.cells #[.int .u64 n,.string (bs b),.slice A m c] 81 (0,0)))] (by kernel_rfl) ?_
 generalize (((w.alloc (.cells #[.int .u8 ci,.slice none 0 0] 153)).alloc (.cells #[.int .u64 n,.string (bs b),.slice A m c] 81)).alloc (.cells #[.bool false,.string ⟨#[]⟩,.slice none 0 0] 53)).drew=w3 at hKd hF hI hB ⊢
 clear hbd HK HF HI HB
 refine R_p (i:=0) (v:=.pointer (some ⟨w.heap.size+1,1,none⟩)) (Mh ⟨hKd,hF⟩ Mn) ?_
 refine R_l (i:=1) (v:=.string (bs b)) 99 _ List.mem_cons_self rfl (qae rfl rfl rfl (fun w' hS=>rc hS.2 1 rfl) Tryz.underlying9 rfl) (Mh ⟨hKd,hF⟩ Mn) ?_
 refine R_p (i:=2) (v:=.agg #[.bool false,.string (bs b),.slice none 0 0]) (Mh ⟨hKd,hF⟩ Mn) ?_
 refine R_p (i:=3) (v:=.bool true) (Mh ⟨hKd,hF⟩ Mn) ?_
 refine R_p (i:=4) (v:=.bool true) (Mh ⟨hKd,hF⟩ Mn) ?_
 refine R_p (i:=5) (v:=.pointer (some ⟨w.heap.size+1,1,none⟩)) (Mh ⟨hKd,hF⟩ Mn) ?_
 refine R_l (i:=6) (v:=.string (bs b)) 99 _ List.mem_cons_self rfl (qae rfl rfl rfl (fun w' hS=>rc hS.2 1 rfl) Tryz.underlying9 rfl) (Mh ⟨hKd,hF⟩ Mn) ?_
 refine R_p (i:=7) (v:=.int .i64 (b.length:Int)) (Mh ⟨hKd,hF⟩ Mn) ?_
 refine R_p (i:=8) (v:=.pointer (some ⟨w.heap.size,0,none⟩)) (Mh ⟨hKd,hF⟩ Mn) ?_
 refine R_l (i:=9) (v:=.int .u8 ci) 99 _ List.mem_cons_self rfl (qae rfl rfl rfl (fun w' hS=>rc hS.1 0 rfl) Tryz.underlying5 rfl) (Mh ⟨hKd,hF⟩ Mn) ?_
 refine R_now 10 fun K hK=>?_
 go_simp
 refine (HSZ.out _).mono ?_
 rintro e w4 ⟨rfl,rfl⟩
 refine hK.out _ _ (Mh ⟨hKd,hF⟩ Mn) (fun hMeets=>?_)
 clear hK K hMeets
 refine lay_R ?_
 refine R_p (i:=11) (v:=.bool true) (Mh ⟨hKd,hF⟩ Mn) ?_
 refine R_p (i:=12) (v:=.bool true) (Mh ⟨hKd,hF⟩ Mn) ?_
 have d0:w3.cell? ⟨w.heap.size+1+1,0,none⟩=some (.bool false):=rc0 hI
 have d1:w3.cell? ⟨w.heap.size+1+1,1,none⟩=some (.string ⟨#[]⟩):=rc1 hI
 have d2:w3.cell? ⟨w.heap.size+1+1,2,none⟩=some (.slice none 0 0):=rc2 hI
 have f0:=rf hI 0
 have f1:=rf hI 1
 have f2:=rf hI 2
 refine R_now 13 fun K hK=>?_
 obtain ⟨W9,hW9⟩:∃ W9,W9=(((w3.setCell ⟨w.heap.size+1+1,0,none⟩ (.bool false)).setCell ⟨w.heap.size+1+1,1,none⟩ (.string (bs b))).setCell ⟨w.heap.size+1+1,2,none⟩ (.slice none 0 0)):=⟨_,rfl⟩
 have hI9:W9.heap[w.heap.size+1+1]? = some (.cells #[.bool false,.string (bs b),.slice none 0 0] 53 (0,0)):=by rw [hW9];exact qaa (qaa (qaa hI _) _) _
 have hF9:W9.heap[w.heap.size+1]? = some (.cells #[.int .u64 n,.string (bs b),.slice A m c] 81 (0,0)):=by rw [hW9];exact (qac (by omega) _).trans ((qac (by omega) _).trans ((qac (by omega) _).trans hF))
 have hKd9:W9.heap[w.heap.size]? = some (.cells #[.int .u8 ci,.slice none 0 0] 153 (0,0)):=by rw [hW9];exact (qac (by omega) _).trans ((qac (by omega) _).trans ((qac (by omega) _).trans hKd))
 have hB9:Below w.heap.size w W9:=by rw [hW9];exact ((hB.setCell (p:=⟨w.heap.size+1+1,_,_⟩) (by simp;omega) _).setCell (p:=⟨w.heap.size+1+1,_,_⟩) (by simp;omega) _).setCell (p:=⟨w.heap.size+1+1,_,_⟩) (by simp;omega) _
 have HI9:=qh hI9
 have HB9:=qh hB9
 clear hI9 hB9
 go_simp
 rw [← hW9]
 clear hW9 d0 d1 d2 f0 f1 f2
 refine hK.out _ _ (Mh ⟨hKd9,hF9⟩ Mn) (fun hMeets=>?_)
 clear hK K hMeets
 refine lay_R ?_
 refine R_p (i:=14) (v:=.bool true) (Mh ⟨hKd9,hF9⟩ Mn) ?_
 refine qa7 (by kernel_rfl) ?_ _
 go_wp2_with fail
 exact bodyPost_ret (v:=.tuple #[.agg #[.bool false,.string (bs b),.slice none 0 0],.bool true]) (qah rfl _ _ (w.heap.size+1+1) _ _ _ _ rfl HI9.out _ rfl Tryz.underlying53 rfl infoI) rfl ⟨rfl,HB9.out⟩
theorem qu4 (ci:Int) (n:Int) (b:Bytes) (A:Option Addr) (m c:Nat) (hn:(n == 0)=true) (hm:((m:Int) == 0)=true) (h1:(ci == 110)=false) (h2:(ci == 98)=false) (h3:(ci == 40)=false) (h4:(ci == 42)=false) (sz:Nat) (HSZ:Hid (∀ w:World,Calls Tryz.prog 201 #[.int .u8 ci] w fun e w'=>e=.returned (.int .i64 sz)∧w=w')) (hl:((b.length:Int) == (sz:Int))=false) (w:World) :
  Calls Tryz.prog 147 #[.agg #[.int .u8 ci,.slice none 0 0],.agg #[.int .u64 n,.string (bs b),.slice A m c]] w fun e w'=>e=.returned (.tuple #[.agg #[.bool false,.string (bs b),.slice none 0 0],.bool false])∧Below w.heap.size w w':=by
 have hB:Below w.heap.size w (((w.alloc (.cells #[.int .u8 ci,.slice none 0 0] 153)).alloc (.cells #[.int .u64 n,.string (bs b),.slice A m c] 81)).alloc (.cells #[.bool false,.string ⟨#[]⟩,.slice none 0 0] 53)):=(((Below.refl _ _).alloc qn _).alloc (by simp) _).alloc (by simp;omega) _
 have hI:=heap_alloc_new ((w.alloc (.cells #[.int .u8 ci,.slice none 0 0] 153)).alloc (.cells #[.int .u64 n,.string (bs b),.slice A m c] 81)) (.cells #[.bool false,.string ⟨#[]⟩,.slice none 0 0] 53)
 have hF:=(heap_alloc_old ((w.alloc (.cells #[.int .u8 ci,.slice none 0 0] 153)).alloc (.cells #[.int .u64 n,.string (bs b),.slice A m c] 81)) (.cells #[.bool false,.string ⟨#[]⟩,.slice none 0 0] 53) (by simp)).trans (heap_alloc_new (w.alloc (.cells #[.int .u8 ci,.slice none 0 0] 153)) (.cells #[.int .u64 n,.string (bs b),.slice A m c] 81))
 have hKd:=(heap_alloc_old ((w.alloc (.cells #[.int .u8 ci,.slice none 0 0] 153)).alloc (.cells #[.int .u64 n,.string (bs b),.slice A m c] 81)) (.cells #[.bool false,.string ⟨#[]⟩,.slice none 0 0] 53) (by simp;omega)).trans ((heap_alloc_old (w.alloc (.cells #[.int .u8 ci,.slice none 0 0] 153)) (.cells #[.int .u64 n,.string (bs b),.slice A m c] 81) (by simp)).trans (heap_alloc_new w _))
 simp only [World.size_alloc] at hI hF hKd
 have HB:=qh hB
 have HI:=qh hI
 have HF:=qh hF
 have HK:=qh hKd
 clear hB hI hF hKd
 go_enter Tryz.func147,Tryz.ntmps147
 go_wp2_with fail
 have hbd:Below (((w.alloc (.cells #[.int .u8 ci,.slice none 0 0] 153)).alloc (.cells #[.int .u64 n,.string (bs b),.slice A m c] 81)).alloc (.cells #[.bool false,.string ⟨#[]⟩,.slice none 0 0] 53)).heap.size (((w.alloc (.cells #[.int .u8 ci,.slice none 0 0] 153)).alloc (.cells #[.int .u64 n,.string (bs b),.slice A m c] 81)).alloc (.cells #[.bool false,.string ⟨#[]⟩,.slice none 0 0] 53)) (((w.alloc (.cells #[.int .u8 ci,.slice none 0 0] 153)).alloc (.cells #[.int .u64 n,.string (bs b),.slice A m c] 81)).alloc (.cells #[.bool false,.string ⟨#[]⟩,.slice none 0 0] 53)).drew:=(Below.refl _ _).drew
 have hKd:=(hbd.block _ (qg HK.out)).trans HK.out
 have hF:=(hbd.block _ (qg HF.out)).trans HF.out
 have hI:=(hbd.block _ (qg HI.out)).trans HI.out
 have hB:=qab HB.out HB.out.size hbd
 refine qao [(99,fun w'=>w'.heap[w.heap.size]? = some (.cells #[.int .u8 ci,.slice none 0 0] 153 (0,0))∧w'.heap[w.heap.size+1]? = some (.cells #[.int .u64 n,.string (bs b),.slice A m c] 81 (0,0)))] (by kernel_rfl) ?_
 generalize (((w.alloc (.cells #[.int .u8 ci,.slice none 0 0] 153)).alloc (.cells #[.int .u64 n,.string (bs b),.slice A m c] 81)).alloc (.cells #[.bool false,.string ⟨#[]⟩,.slice none 0 0] 53)).drew=w3 at hKd hF hI hB ⊢
 clear hbd HK HF HI HB
 refine R_p (i:=0) (v:=.pointer (some ⟨w.heap.size+1,1,none⟩)) (Mh ⟨hKd,hF⟩ Mn) ?_
 refine R_l (i:=1) (v:=.string (bs b)) 99 _ List.mem_cons_self rfl (qae rfl rfl rfl (fun w' hS=>rc hS.2 1 rfl) Tryz.underlying9 rfl) (Mh ⟨hKd,hF⟩ Mn) ?_
 refine R_p (i:=2) (v:=.agg #[.bool false,.string (bs b),.slice none 0 0]) (Mh ⟨hKd,hF⟩ Mn) ?_
 refine R_p (i:=3) (v:=.bool true) (Mh ⟨hKd,hF⟩ Mn) ?_
 refine R_p (i:=4) (v:=.bool true) (Mh ⟨hKd,hF⟩ Mn) ?_
 refine R_p (i:=5) (v:=.pointer (some ⟨w.heap.size+1,1,none⟩)) (Mh ⟨hKd,hF⟩ Mn) ?_
 refine R_l (i:=6) (v:=.string (bs b)) 99 _ List.mem_cons_self rfl (qae rfl rfl rfl (fun w' hS=>rc hS.2 1 rfl) Tryz.underlying9 rfl) (Mh ⟨hKd,hF⟩ Mn) ?_
 refine R_p (i:=7) (v:=.int .i64 (b.length:Int)) (Mh ⟨hKd,hF⟩ Mn) ?_
 refine R_p (i:=8) (v:=.pointer (some ⟨w.heap.size,0,none⟩)) (Mh ⟨hKd,hF⟩ Mn) ?_
 refine R_l (i:=9) (v:=.int .u8 ci) 99 _ List.mem_cons_self rfl (qae rfl rfl rfl (fun w' hS=>rc hS.1 0 rfl) Tryz.underlying5 rfl) (Mh ⟨hKd,hF⟩ Mn) ?_
 refine R_now 10 fun K hK=>?_
 go_simp
 refine (HSZ.out _).mono ?_
 rintro e w4 ⟨rfl,rfl⟩
 refine hK.out _ _ (Mh ⟨hKd,hF⟩ Mn) (fun hMeets=>?_)
 clear hK K hMeets
 refine lay_R ?_
 refine R_p (i:=11) (v:=.bool false) (Mh ⟨hKd,hF⟩ Mn) ?_
 refine R_p (i:=12) (v:=.bool false) (Mh ⟨hKd,hF⟩ Mn) ?_
 have d0:w3.cell? ⟨w.heap.size+1+1,0,none⟩=some (.bool false):=rc0 hI
 have d1:w3.cell? ⟨w.heap.size+1+1,1,none⟩=some (.string ⟨#[]⟩):=rc1 hI
 have d2:w3.cell? ⟨w.heap.size+1+1,2,none⟩=some (.slice none 0 0):=rc2 hI
 have f0:=rf hI 0
 have f1:=rf hI 1
 have f2:=rf hI 2
 refine R_now 13 fun K hK=>?_
 obtain ⟨W9,hW9⟩:∃ W9,W9=(((w3.setCell ⟨w.heap.size+1+1,0,none⟩ (.bool false)).setCell ⟨w.heap.size+1+1,1,none⟩ (.string (bs b))).setCell ⟨w.heap.size+1+1,2,none⟩ (.slice none 0 0)):=⟨_,rfl⟩
 have hI9:W9.heap[w.heap.size+1+1]? = some (.cells #[.bool false,.string (bs b),.slice none 0 0] 53 (0,0)):=by rw [hW9];exact qaa (qaa (qaa hI _) _) _
 have hF9:W9.heap[w.heap.size+1]? = some (.cells #[.int .u64 n,.string (bs b),.slice A m c] 81 (0,0)):=by rw [hW9];exact (qac (by omega) _).trans ((qac (by omega) _).trans ((qac (by omega) _).trans hF))
 have hKd9:W9.heap[w.heap.size]? = some (.cells #[.int .u8 ci,.slice none 0 0] 153 (0,0)):=by rw [hW9];exact (qac (by omega) _).trans ((qac (by omega) _).trans ((qac (by omega) _).trans hKd))
 have hB9:Below w.heap.size w W9:=by rw [hW9];exact ((hB.setCell (p:=⟨w.heap.size+1+1,_,_⟩) (by simp;omega) _).setCell (p:=⟨w.heap.size+1+1,_,_⟩) (by simp;omega) _).setCell (p:=⟨w.heap.size+1+1,_,_⟩) (by simp;omega) _
 have HI9:=qh hI9
 have HB9:=qh hB9
 clear hI9 hB9
 go_simp
 rw [← hW9]
 clear hW9 d0 d1 d2 f0 f1 f2
 refine hK.out _ _ (Mh ⟨hKd9,hF9⟩ Mn) (fun hMeets=>?_)
 clear hK K hMeets
 refine lay_R ?_
 refine R_p (i:=14) (v:=.bool false) (Mh ⟨hKd9,hF9⟩ Mn) ?_
 refine qa7 (by kernel_rfl) ?_ _
 go_wp2_with fail
 exact bodyPost_ret (v:=.tuple #[.agg #[.bool false,.string (bs b),.slice none 0 0],.bool false]) (qah rfl _ _ (w.heap.size+1+1) _ _ _ _ rfl HI9.out _ rfl Tryz.underlying53 rfl infoI) rfl ⟨rfl,HB9.out⟩
theorem qr5 (ci:Int) (n:Int) (b:Bytes) (A:Option Addr) (m c:Nat) (hn:(n == 0)=true) (hm:((m:Int) == 0)=false) (h1:(ci == 110)=false) (h2:(ci == 98)=false) (h3:(ci == 40)=false) (h4:(ci == 42)=false) (w:World) :
  Calls Tryz.prog 147 #[.agg #[.int .u8 ci,.slice none 0 0],.agg #[.int .u64 n,.string (bs b),.slice A m c]] w fun e w'=>e=.returned (.tuple #[.agg #[.bool false,.string (bs b),.slice none 0 0],.bool false])∧Below w.heap.size w w':=by
 have hB:Below w.heap.size w (((w.alloc (.cells #[.int .u8 ci,.slice none 0 0] 153)).alloc (.cells #[.int .u64 n,.string (bs b),.slice A m c] 81)).alloc (.cells #[.bool false,.string ⟨#[]⟩,.slice none 0 0] 53)):=(((Below.refl _ _).alloc qn _).alloc (by simp) _).alloc (by simp;omega) _
 have hI:=heap_alloc_new ((w.alloc (.cells #[.int .u8 ci,.slice none 0 0] 153)).alloc (.cells #[.int .u64 n,.string (bs b),.slice A m c] 81)) (.cells #[.bool false,.string ⟨#[]⟩,.slice none 0 0] 53)
 have hF:=(heap_alloc_old ((w.alloc (.cells #[.int .u8 ci,.slice none 0 0] 153)).alloc (.cells #[.int .u64 n,.string (bs b),.slice A m c] 81)) (.cells #[.bool false,.string ⟨#[]⟩,.slice none 0 0] 53) (by simp)).trans (heap_alloc_new (w.alloc (.cells #[.int .u8 ci,.slice none 0 0] 153)) (.cells #[.int .u64 n,.string (bs b),.slice A m c] 81))
 have hKd:=(heap_alloc_old ((w.alloc (.cells #[.int .u8 ci,.slice none 0 0] 153)).alloc (.cells #[.int .u64 n,.string (bs b),.slice A m c] 81)) (.cells #[.bool false,.string ⟨#[]⟩,.slice none 0 0] 53) (by simp;omega)).trans ((heap_alloc_old (w.alloc (.cells #[.int .u8 ci,.slice none 0 0] 153)) (.cells #[.int .u64 n,.string (bs b),.slice A m c] 81) (by simp)).trans (heap_alloc_new w _))
 simp only [World.size_alloc] at hI hF hKd
 have HB:=qh hB
 have HI:=qh hI
 have HF:=qh hF
 have HK:=qh hKd
 clear hB hI hF hKd
 go_enter Tryz.func147,Tryz.ntmps147
 go_wp2_with fail
 have hbd:Below (((w.alloc (.cells #[.int .u8 ci,.slice none 0 0] 153)).alloc (.cells #[.int .u64 n,.string (bs b),.slice A m c] 81)).alloc (.cells #[.bool false,.string ⟨#[]⟩,.slice none 0 0] 53)).heap.size (((w.alloc (.cells #[.int .u8 ci,.slice none 0 0] 153)).alloc (.cells #[.int .u64 n,.string (bs b),.slice A m c] 81)).alloc (.cells #[.bool false,.string ⟨#[]⟩,.slice none 0 0] 53)) (((w.alloc (.cells #[.int .u8 ci,.slice none 0 0] 153)).alloc (.cells #[.int .u64 n,.string (bs b),.slice A m c] 81)).alloc (.cells #[.bool false,.string ⟨#[]⟩,.slice none 0 0] 53)).drew:=(Below.refl _ _).drew
 have hKd:=(hbd.block _ (qg HK.out)).trans HK.out
 have hF:=(hbd.block _ (qg HF.out)).trans HF.out
 have hI:=(hbd.block _ (qg HI.out)).trans HI.out
 have hB:=qab HB.out HB.out.size hbd
 refine qao [(99,fun w'=>w'.heap[w.heap.size]? = some (.cells #[.int .u8 ci,.slice none 0 0] 153 (0,0))∧w'.heap[w.heap.size+1]? = some (.cells #[.int .u64 n,.string (bs b),.slice A m c] 81 (0,0)))] (by kernel_rfl) ?_
 generalize (((w.alloc (.cells #[.int .u8 ci,.slice none 0 0] 153)).alloc (.cells #[.int .u64 n,.string (bs b),.slice A m c] 81)).alloc (.cells #[.bool false,.string ⟨#[]⟩,.slice none 0 0] 53)).drew=w3 at hKd hF hI hB ⊢
 clear hbd HK HF HI HB
 refine R_p (i:=0) (v:=.pointer (some ⟨w.heap.size+1,1,none⟩)) (Mh ⟨hKd,hF⟩ Mn) ?_
 refine R_l (i:=1) (v:=.string (bs b)) 99 _ List.mem_cons_self rfl (qae rfl rfl rfl (fun w' hS=>rc hS.2 1 rfl) Tryz.underlying9 rfl) (Mh ⟨hKd,hF⟩ Mn) ?_
 refine R_p (i:=2) (v:=.agg #[.bool false,.string (bs b),.slice none 0 0]) (Mh ⟨hKd,hF⟩ Mn) ?_
 refine R_p (i:=3) (v:=.bool false) (Mh ⟨hKd,hF⟩ Mn) ?_
 refine R_p (i:=4) (v:=.bool false) (Mh ⟨hKd,hF⟩ Mn) ?_
 refine R_s (i:=5) (Mh ⟨hKd,hF⟩ Mn) ?_
 refine R_s (i:=6) (Mh ⟨hKd,hF⟩ Mn) ?_
 refine R_s (i:=7) (Mh ⟨hKd,hF⟩ Mn) ?_
 refine R_s (i:=8) (Mh ⟨hKd,hF⟩ Mn) ?_
 refine R_s (i:=9) (Mh ⟨hKd,hF⟩ Mn) ?_
 refine R_s (i:=10) (Mh ⟨hKd,hF⟩ Mn) ?_
 refine R_s (i:=11) (Mh ⟨hKd,hF⟩ Mn) ?_
 refine R_p (i:=12) (v:=.bool false) (Mh ⟨hKd,hF⟩ Mn) ?_
 have d0:w3.cell? ⟨w.heap.size+1+1,0,none⟩=some (.bool false):=rc0 hI
 have d1:w3.cell? ⟨w.heap.size+1+1,1,none⟩=some (.string ⟨#[]⟩):=rc1 hI
 have d2:w3.cell? ⟨w.heap.size+1+1,2,none⟩=some (.slice none 0 0):=rc2 hI
 have f0:=rf hI 0
 have f1:=rf hI 1
 have f2:=rf hI 2
 refine R_now 13 fun K hK=>?_
 obtain ⟨W9,hW9⟩:∃ W9,W9=(((w3.setCell ⟨w.heap.size+1+1,0,none⟩ (.bool false)).setCell ⟨w.heap.size+1+1,1,none⟩ (.string (bs b))).setCell ⟨w.heap.size+1+1,2,none⟩ (.slice none 0 0)):=⟨_,rfl⟩
 have hI9:W9.heap[w.heap.size+1+1]? = some (.cells #[.bool false,.string (bs b),.slice none 0 0] 53 (0,0)):=by rw [hW9];exact qaa (qaa (qaa hI _) _) _
 have hF9:W9.heap[w.heap.size+1]? = some (.cells #[.int .u64 n,.string (bs b),.slice A m c] 81 (0,0)):=by rw [hW9];exact (qac (by omega) _).trans ((qac (by omega) _).trans ((qac (by omega) _).trans hF))
 have hKd9:W9.heap[w.heap.size]? = some (.cells #[.int .u8 ci,.slice none 0 0] 153 (0,0)):=by rw [hW9];exact (qac (by omega) _).trans ((qac (by omega) _).trans ((qac (by omega) _).trans hKd))
 have hB9:Below w.heap.size w W9:=by rw [hW9];exact ((hB.setCell (p:=⟨w.heap.size+1+1,_,_⟩) (by simp;omega) _).setCell (p:=⟨w.heap.size+1+1,_,_⟩) (by simp;omega) _).setCell (p:=⟨w.heap.size+1+1,_,_⟩) (by simp;omega) _
 have HI9:=qh hI9
 have HB9:=qh hB9
 clear hI9 hB9
 go_simp
 rw [← hW9]
 clear hW9 d0 d1 d2 f0 f1 f2
 refine hK.out _ _ (Mh ⟨hKd9,hF9⟩ Mn) (fun hMeets=>?_)
 clear hK K hMeets
 refine lay_R ?_
 refine R_p (i:=14) (v:=.bool false) (Mh ⟨hKd9,hF9⟩ Mn) ?_
 refine qa7 (by kernel_rfl) ?_ _
 go_wp2_with fail
 exact bodyPost_ret (v:=.tuple #[.agg #[.bool false,.string (bs b),.slice none 0 0],.bool false]) (qah rfl _ _ (w.heap.size+1+1) _ _ _ _ rfl HI9.out _ rfl Tryz.underlying53 rfl infoI) rfl ⟨rfl,HB9.out⟩
theorem qux (ci:Int) (n:Int) (b:Bytes) (A:Option Addr) (m c:Nat) (hn:(n == 0)=false) (h1:(ci == 110)=false) (h2:(ci == 98)=false) (h3:(ci == 40)=false) (h4:(ci == 42)=false) (w:World) :
  Calls Tryz.prog 147 #[.agg #[.int .u8 ci,.slice none 0 0],.agg #[.int .u64 n,.string (bs b),.slice A m c]] w fun e w'=>e=.returned (.tuple #[.agg #[.bool false,.string (bs b),.slice none 0 0],.bool false])∧Below w.heap.size w w':=by
 have hB:Below w.heap.size w (((w.alloc (.cells #[.int .u8 ci,.slice none 0 0] 153)).alloc (.cells #[.int .u64 n,.string (bs b),.slice A m c] 81)).alloc (.cells #[.bool false,.string ⟨#[]⟩,.slice none 0 0] 53)):=(((Below.refl _ _).alloc qn _).alloc (by simp) _).alloc (by simp;omega) _
 have hI:=heap_alloc_new ((w.alloc (.cells #[.int .u8 ci,.slice none 0 0] 153)).alloc (.cells #[.int .u64 n,.string (bs b),.slice A m c] 81)) (.cells #[.bool false,.string ⟨#[]⟩,.slice none 0 0] 53)
 have hF:=(heap_alloc_old ((w.alloc (.cells #[.int .u8 ci,.slice none 0 0] 153)).alloc (.cells #[.int .u64 n,.string (bs b),.slice A m c] 81)) (.cells #[.bool false,.string ⟨#[]⟩,.slice none 0 0] 53) (by simp)).trans (heap_alloc_new (w.alloc (.cells #[.int .u8 ci,.slice none 0 0] 153)) (.cells #[.int .u64 n,.string (bs b),.slice A m c] 81))
 have hKd:=(heap_alloc_old ((w.alloc (.cells #[.int .u8 ci,.slice none 0 0] 153)).alloc (.cells #[.int .u64 n,.string (bs b),.slice A m c] 81)) (.cells #[.bool false,.string ⟨#[]⟩,.slice none 0 0] 53) (by simp;omega)).trans ((heap_alloc_old (w.alloc (.cells #[.int .u8 ci,.slice none 0 0] 153)) (.cells #[.int .u64 n,.string (bs b),.slice A m c] 81) (by simp)).trans (heap_alloc_new w _))
 simp only [World.size_alloc] at hI hF hKd
 have HB:=qh hB
 have HI:=qh hI
 have HF:=qh hF
 have HK:=qh hKd
 clear hB hI hF hKd
 go_enter Tryz.func147,Tryz.ntmps147
 go_wp2_with fail
 have hbd:Below (((w.alloc (.cells #[.int .u8 ci,.slice none 0 0] 153)).alloc (.cells #[.int .u64 n,.string (bs b),.slice A m c] 81)).alloc (.cells #[.bool false,.string ⟨#[]⟩,.slice none 0 0] 53)).heap.size (((w.alloc (.cells #[.int .u8 ci,.slice none 0 0] 153)).alloc (.cells #[.int .u64 n,.string (bs b),.slice A m c] 81)).alloc (.cells #[.bool false,.string ⟨#[]⟩,.slice none 0 0] 53)) (((w.alloc (.cells #[.int .u8 ci,.slice none 0 0] 153)).alloc (.cells #[.int .u64 n,.string (bs b),.slice A m c] 81)).alloc (.cells #[.bool false,.string ⟨#[]⟩,.slice none 0 0] 53)).drew:=(Below.refl _ _).drew
 have hKd:=(hbd.block _ (qg HK.out)).trans HK.out
 have hF:=(hbd.block _ (qg HF.out)).trans HF.out
 have hI:=(hbd.block _ (qg HI.out)).trans HI.out
 have hB:=qab HB.out HB.out.size hbd
 refine qao [(99,fun w'=>w'.heap[w.heap.size]? = some (.cells #[.int .u8 ci,.slice none 0 0] 153 (0,0))∧w'.heap[w.heap.size+1]? = some (.cells #[.int .u64 n,.string (bs b),.slice A m c] 81 (0,0)))] (by kernel_rfl) ?_
 generalize (((w.alloc (.cells #[.int .u8 ci,.slice none 0 0] 153)).alloc (.cells #[.int .u64 n,.string (bs b),.slice A m c] 81)).alloc (.cells #[.bool false,.string ⟨#[]⟩,.slice none 0 0] 53)).drew=w3 at hKd hF hI hB ⊢
 clear hbd HK HF HI HB
 refine R_p (i:=0) (v:=.pointer (some ⟨w.heap.size+1,1,none⟩)) (Mh ⟨hKd,hF⟩ Mn) ?_
 refine R_l (i:=1) (v:=.string (bs b)) 99 _ List.mem_cons_self rfl (qae rfl rfl rfl (fun w' hS=>rc hS.2 1 rfl) Tryz.underlying9 rfl) (Mh ⟨hKd,hF⟩ Mn) ?_
 refine R_p (i:=2) (v:=.agg #[.bool false,.string (bs b),.slice none 0 0]) (Mh ⟨hKd,hF⟩ Mn) ?_
 refine R_p (i:=3) (v:=.bool false) (Mh ⟨hKd,hF⟩ Mn) ?_
 refine R_p (i:=4) (v:=.bool false) (Mh ⟨hKd,hF⟩ Mn) ?_
 refine R_s (i:=5) (Mh ⟨hKd,hF⟩ Mn) ?_
 refine R_s (i:=6) (Mh ⟨hKd,hF⟩ Mn) ?_
 refine R_s (i:=7) (Mh ⟨hKd,hF⟩ Mn) ?_
 refine R_s (i:=8) (Mh ⟨hKd,hF⟩ Mn) ?_
 refine R_s (i:=9) (Mh ⟨hKd,hF⟩ Mn) ?_
 refine R_s (i:=10) (Mh ⟨hKd,hF⟩ Mn) ?_
 refine R_s (i:=11) (Mh ⟨hKd,hF⟩ Mn) ?_
 refine R_p (i:=12) (v:=.bool false) (Mh ⟨hKd,hF⟩ Mn) ?_
 have d0:w3.cell? ⟨w.heap.size+1+1,0,none⟩=some (.bool false):=rc0 hI
 have d1:w3.cell? ⟨w.heap.size+1+1,1,none⟩=some (.string ⟨#[]⟩):=rc1 hI
 have d2:w3.cell? ⟨w.heap.size+1+1,2,none⟩=some (.slice none 0 0):=rc2 hI
 have f0:=rf hI 0
 have f1:=rf hI 1
 have f2:=rf hI 2
 refine R_now 13 fun K hK=>?_
 obtain ⟨W9,hW9⟩:∃ W9,W9=(((w3.setCell ⟨w.heap.size+1+1,0,none⟩ (.bool false)).setCell ⟨w.heap.size+1+1,1,none⟩ (.string (bs b))).setCell ⟨w.heap.size+1+1,2,none⟩ (.slice none 0 0)):=⟨_,rfl⟩
 have hI9:W9.heap[w.heap.size+1+1]? = some (.cells #[.bool false,.string (bs b),.slice none 0 0] 53 (0,0)):=by rw [hW9];exact qaa (qaa (qaa hI _) _) _
 have hF9:W9.heap[w.heap.size+1]? = some (.cells #[.int .u64 n,.string (bs b),.slice A m c] 81 (0,0)):=by rw [hW9];exact (qac (by omega) _).trans ((qac (by omega) _).trans ((qac (by omega) _).trans hF))
 have hKd9:W9.heap[w.heap.size]? = some (.cells #[.int .u8 ci,.slice none 0 0] 153 (0,0)):=by rw [hW9];exact (qac (by omega) _).trans ((qac (by omega) _).trans ((qac (by omega) _).trans hKd))
 have hB9:Below w.heap.size w W9:=by rw [hW9];exact ((hB.setCell (p:=⟨w.heap.size+1+1,_,_⟩) (by simp;omega) _).setCell (p:=⟨w.heap.size+1+1,_,_⟩) (by simp;omega) _).setCell (p:=⟨w.heap.size+1+1,_,_⟩) (by simp;omega) _
 have HI9:=qh hI9
 have HB9:=qh hB9
 clear hI9 hB9
 go_simp
 rw [← hW9]
 clear hW9 d0 d1 d2 f0 f1 f2
 refine hK.out _ _ (Mh ⟨hKd9,hF9⟩ Mn) (fun hMeets=>?_)
 clear hK K hMeets
 refine lay_R ?_
 refine R_p (i:=14) (v:=.bool false) (Mh ⟨hKd9,hF9⟩ Mn) ?_
 refine qa7 (by kernel_rfl) ?_ _
 go_wp2_with fail
 exact bodyPost_ret (v:=.tuple #[.agg #[.bool false,.string (bs b),.slice none 0 0],.bool false]) (qah rfl _ _ (w.heap.size+1+1) _ _ _ _ rfl HI9.out _ rfl Tryz.underlying53 rfl infoI) rfl ⟨rfl,HB9.out⟩
/- The walk of frame.items at a list of plain fields. -/
/-- behind an item of a field: what it is if it fits -/
def FitPost (x:Item) (ok:Bool) (w:World) (e:Ending) (w':World):Prop :=
 ∃ y A c,e=.returned (.tuple #[.agg #[.bool y.l,.string (bs y.b),.slice A y.ks.length c],.bool ok])∧ItemV (From w.heap.size) w' y A c∧(ok=true→y=x)∧Below w.heap.size w w'
theorem qe9 (c:UInt8) (hc:okC c) (n:Nat) (hn:n < 18446744073709551616) (b:Bytes) (A:Option Addr) (m cf:Nat) (w:World) :
  Calls Tryz.prog 147 #[.agg (cellK c).toArray,.agg #[.int .u64 (n:Int),.string (bs b),.slice A m cf]] w (FitPost (lfI c (n,b)) (m == 0 && fitC c (n,b)) w):=by
 have key:∀ (s:Bytes) (ok:Bool),lfI c (n,b)=leafIt s→(m == 0 && fitC c (n,b))=ok →
   Calls Tryz.prog 147 #[.agg (cellK c).toArray,.agg #[.int .u64 (n:Int),.string (bs b),.slice A m cf]] w (fun e w'=>e=.returned (.tuple #[.agg #[.bool false,.string (bs s),.slice none 0 0],.bool ok])∧Below w.heap.size w w') →
   Calls Tryz.prog 147 #[.agg (cellK c).toArray,.agg #[.int .u64 (n:Int),.string (bs b),.slice A m cf]] w (FitPost (lfI c (n,b)) (m == 0 && fitC c (n,b)) w):=by
  intro s ok h1 h2 h
  refine h.mono ?_
  rintro e w' ⟨rfl,hb⟩
  rw [h1,h2]
  exact ⟨leafIt s,none,0,rfl,ItemV.leaf s false,fun _=>rfl,hb⟩
 have hnB:((n:Int) == 0)=(n == 0):=by rw [Bool.eq_iff_iff];simp
 have hmB:((m:Int) == 0)=(m == 0):=by rw [Bool.eq_iff_iff];simp
 by_cases h110:c=110
 ·subst h110
  refine key (digs n) (m == 0 && b.isEmpty) (by simp [lfI]) (by simp [fitC]) ?_
  have hi:(n:Int).toNat=n:=by simp
  have h0:(0:Int)≤n:=by omega
  have h64:(n:Int) < 18446744073709551616:=by omega
  cases hA:(n == 0) <;> cases hB:(m == 0) <;> cases hC:b.isEmpty
  ·have:=qug n b A m cf h0 h64 (by rw [hnB,hA]) (by rw [hmB,hB]) (by cases b <;> simp_all) w;rwa [hi] at this
  ·have:=qq7 n b A m cf h0 h64 (by rw [hnB,hA]) (by rw [hmB,hB]) (by cases b <;> simp_all) w;rwa [hi] at this
  ·have:=qvq n b A m cf h0 h64 (by rw [hnB,hA]) (by rw [hmB,hB]) (by cases b <;> simp_all) w;rwa [hi] at this
  ·have:=qu5 n b A m cf h0 h64 (by rw [hnB,hA]) (by rw [hmB,hB]) (by cases b <;> simp_all) w;rwa [hi] at this
  ·have:=qrp n b A m cf h0 h64 (by rw [hnB,hA]) (by rw [hmB,hB]) (by cases b <;> simp_all) w;rwa [hi] at this
  ·have:=quf n b A m cf h0 h64 (by rw [hnB,hA]) (by rw [hmB,hB]) (by cases b <;> simp_all) w;rwa [hi] at this
  ·have:=qu8 n b A m cf h0 h64 (by rw [hnB,hA]) (by rw [hmB,hB]) (by cases b <;> simp_all) w;rwa [hi] at this
  ·have:=quz n b A m cf h0 h64 (by rw [hnB,hA]) (by rw [hmB,hB]) (by cases b <;> simp_all) w;rwa [hi] at this
 ·have hl:lfI c (n,b)=leafIt b:=by simp [lfI,h110]
  by_cases h98:c=98
  ·subst h98
   have hf:fitC 98 (n,b)=((n == 0) && decide (b.length≤64)):=by simp [fitC]
   rcases Bool.eq_false_or_eq_true (n == 0) with hA | hA
   ·rcases Bool.eq_false_or_eq_true (m == 0) with hB | hB
    ·by_cases h64:b.length≤64
     ·exact key b true hl (by rw [hf,hA,hB];simp [h64]) (qsi n b A m cf (by rw [hnB,hA]) (by rw [hmB,hB]) (by omega) w)
     ·exact key b false hl (by rw [hf,hA,hB];simp;omega) (qs7 n b A m cf (by rw [hnB,hA]) (by rw [hmB,hB]) (by omega) w)
    ·exact key b false hl (by rw [hB];rfl) (qri n b A m cf (by rw [hnB,hA]) (by rw [hmB,hB]) w)
   ·exact key b false hl (by rw [hf,hA];simp) (qup n b A m cf (by rw [hnB,hA]) w)
  ·have h3:c=104∨c=97∨c=115:=by
    rcases hc with h | h | h | h | h
    ·exact absurd h h110
    ·exact .inl h
    ·exact .inr (.inl h)
    ·exact .inr (.inr h)
    ·exact absurd h h98
   have hf:fitC c (n,b)=((n == 0) && b.length == sizeC c):=by simp [fitC,h110,h98]
   have hS:=qh (fun w:World=>(qr0 c h3 w).mono (R':=fun e w'=>e=.returned (.int .i64 (sizeC c:Nat))∧w=w') fun e w' h=>⟨h.1,h.2.symm⟩)
   have hq:((c.toNat:Int) == 110)=false∧((c.toNat:Int) == 98)=false∧((c.toNat:Int) == 40)=false∧((c.toNat:Int) == 42)=false:=by
    rcases h3 with rfl | rfl | rfl <;> decide
   have hsB:((b.length:Int) == (sizeC c:Int))=(b.length == sizeC c):=by rw [Bool.eq_iff_iff];simp only [beq_iff_eq];omega
   rcases Bool.eq_false_or_eq_true (n == 0) with hA | hA
   ·rcases Bool.eq_false_or_eq_true (m == 0) with hB | hB
    ·rcases Bool.eq_false_or_eq_true (b.length == sizeC c) with hD | hD
     ·exact key b true hl (by rw [hf,hA,hB,hD];rfl) (qut c.toNat n b A m cf (by rw [hnB,hA]) (by rw [hmB,hB]) hq.1 hq.2.1 hq.2.2.1 hq.2.2.2 _ hS (by rw [hsB,hD]) w)
     ·exact key b false hl (by rw [hf,hA,hB,hD];rfl) (qu4 c.toNat n b A m cf (by rw [hnB,hA]) (by rw [hmB,hB]) hq.1 hq.2.1 hq.2.2.1 hq.2.2.2 _ hS (by rw [hsB,hD]) w)
    ·exact key b false hl (by rw [hB];rfl) (qr5 c.toNat n b A m cf (by rw [hnB,hA]) (by rw [hmB,hB]) hq.1 hq.2.1 hq.2.2.1 hq.2.2.2 w)
   ·exact key b false hl (by rw [hf,hA];simp) (qux c.toNat n b A m cf (by rw [hnB,hA]) hq.1 hq.2.1 hq.2.2.1 hq.2.2.2 w)
/- The walk of frame.items. -/
theorem qhc {S:Nat→Prop} {w:World} {ks:List Kd} {A:Option Addr} {c i:Nat} {k:Kd} (h:KindsV S w ks A c) (hi:ks[i]? = some k) :
  ∃ g o s A1 n1 c1,A=some ⟨g,o,none⟩∧Rep S w (kdD k) [.int .u8 s,.slice A1 n1 c1]∧w.cell? ⟨g,o+i * 2,none⟩=some (.int .u8 s)∧w.cell? ⟨g,o+i * 2+1,none⟩=some (.slice A1 n1 c1):=by
 obtain ⟨g,o,ci,hA,hs,r1,r2,r3⟩:=Rep.slice_at h (by omega) (i:=i) (d:=kdD k) (by unfold kindsD;rw [List.getElem?_map,hi];rfl)
 obtain ⟨n,A1,m,c1,rfl⟩:=kd_len r1
 exact ⟨g,o,n,A1,m,c1,hA,r1,by simpa using r3 0 _ rfl,by simpa [Nat.add_assoc] using r3 1 _ rfl⟩
theorem qqc (fs:List Fd) (it:Nat→Item) (ok:Nat→Bool) (kc:UInt8) (kd:Nat→Kd) (hkd:∀ i,kd i=⟨kc,false⟩) (Ak:Option Addr) (ck:Nat) (A:Option Addr) (c:Nat) (w:World) (hkv:∀ W:World,Below w.heap.size w W→∃ gk og,Ak=some ⟨gk,og,none⟩∧W.cell? ⟨gk,og,none⟩=some (.int .u8 kc.toNat)∧W.cell? ⟨gk,og+1,none⟩=some (.slice none 0 0)) (hv:FdsV Any w fs A c)
  (hit:∀ (i:Nat) (f:Fd) (s:Int) (A1:Option Addr) (n1 c1:Nat) (A2:Option Addr) (c2:Nat) (W:World),fs[i]? = some f→Rep Any W (kdD (kd i)) [.int .u8 s,.slice A1 n1 c1]→LfsV Any W f.l A2 c2 →
   Calls Tryz.prog 147 #[.agg #[.int .u8 s,.slice A1 n1 c1],.agg (fdC f A2 c2).toArray] W (FitPost (it i) (ok i) W)) :
  Calls Tryz.prog 95 #[.agg #[.int .u8 42,.slice Ak 1 ck],.slice A fs.length c] w (FitPost (listIt ((List.range fs.length).map it)) (decide (fs.length≤40) && (List.range fs.length).all ok) w):=by
 obtain ⟨OK,hOK⟩:∃ OK,(decide (fs.length≤40) && (List.range fs.length).all ok)=OK:=⟨_,rfl⟩
 rw [hOK]
 have HOK:=qh hOK
 have hb:Below w.heap.size w ((w.alloc (.cells #[.int .u8 42,.slice Ak 1 ck] 153)).alloc (.cells #[.bool false,.string ⟨#[]⟩,.slice none 0 0] 53)):=((Below.refl _ _).alloc qn _).alloc (by simp) _
 have hr:=heap_alloc_new (w.alloc (.cells #[.int .u8 42,.slice Ak 1 ck] 153)) (.cells #[.bool false,.string ⟨#[]⟩,.slice none 0 0] 53)
 have hk0:=(heap_alloc_old (w.alloc (.cells #[.int .u8 42,.slice Ak 1 ck] 153)) (.cells #[.bool false,.string ⟨#[]⟩,.slice none 0 0] 53) (by simp)).trans (heap_alloc_new w (.cells #[.int .u8 42,.slice Ak 1 ck] 153))
 simp only [World.size_alloc] at hr
 have hsz:((w.alloc (.cells #[.int .u8 42,.slice Ak 1 ck] 153)).alloc (.cells #[.bool false,.string ⟨#[]⟩,.slice none 0 0] 53)).heap.size=w.heap.size+2:=by simp
 have HB:=qh hb
 have HR:=qh hr
 have HKB:=qh hk0
 have HV:=qh hv
 have HIT:=qh hit
 have HKV:=qh hkv
 have HSZ:=qh hsz
 clear hOK hb hr hk0 hv hit hkv hsz
 by_cases hlen:fs.length≤40
 case neg =>
  have hok:OK=false:=by rw [← HOK.out];simp [hlen]
  have hlI:(40:Int) < fs.length:=by omega
  clear HIT HV HKV HKB HSZ hlen
  go_enter Tryz.func95,Tryz.ntmps95
  go_wp2_with fail
  refine bodyPost_ret (v:=.tuple #[.agg #[.bool false,.string ⟨#[]⟩,.slice none 0 0],.bool false]) (qah rfl _ _ (w.heap.size+1) _ _ _ _ rfl HR.out _ rfl Tryz.underlying53 rfl infoI) rfl ?_
  rw [hok]
  exact ⟨leafIt [],none,0,rfl,ItemV.leaf [] false,(fun h=>by cases h),HB.out⟩
 have hlI:¬ (40:Int) < fs.length:=by omega
 have hOKi:Hid (OK=((List.range fs.length).all ok)):=qh (by rw [← HOK.out];simp [hlen])
 have hfl:fs.length≤1000:=by omega
 clear HOK hlen
 go_enter Tryz.func95,Tryz.ntmps95
 go_wp2_with fail
 refine (qom none 0 0 _).mono ?_
 rintro e w1 ⟨rfl,hb1⟩
 have hR1:=(hb1.block _ (qg HR.out)).trans HR.out
 have hK1:=(hb1.block _ (qg HKB.out)).trans HKB.out
 have hB1:=qab HB.out HB.out.size hb1
 have hw1:w.heap.size+2≤w1.heap.size:=by rw [← HSZ.out];exact hb1.size
 have hba:Below w1.heap.size w1 (w1.alloc (.cells #[.bool true,.string (bs []),.slice none 0 0] 53)):=(Below.refl _ _).alloc qn _
 have HX2:=qh (heap_alloc_new w1 (.cells #[.bool true,.string (bs []),.slice none 0 0] 53))
 have HR2:=qh ((hba.block _ (qg hR1)).trans hR1)
 have HK2:=qh ((hba.block _ (qg hK1)).trans hK1)
 have HB2:=qh (qab hB1 hB1.size hba)
 clear hR1 hK1 hB1 hba hb1 HB HR HKB HSZ
 go_wp2_with fail
 obtain ⟨X,hXe⟩:∃ X,w1.heap.size=X:=⟨_,rfl⟩
 have hX0:=HX2.out
 rw [hXe] at hw1 hX0 ⊢
 have HX0:=qh hX0
 clear hX0 HX2
 go_loopw [37] (fun a wr=>∃ (i:Nat) (ys:List Value) (u:Value),a=.int .i64 i∧i≤fs.length∧Hid ((List.range i).all ok=true)∧wr.heap[X]? = some (.cells #[.bool true,.string (bs []),u] 53 (0,0))∧wr.heap[w.heap.size+1]? = some (.cells #[.bool false,.string ⟨#[]⟩,.slice none 0 0] 53 (0,0))∧wr.heap[w.heap.size]? = some (.cells #[.int .u8 42,.slice Ak 1 ck] 153 (0,0)) ∧
   wr.ownsRow (X+1) 53 3 u i ys∧RepN (RowS (X+1) u) wr 3 (itemsD ((List.range i).map it)) ys∧Below w.heap.size w wr) (fun a _=>fs.length - (intOf a).toNat)
 case atStart=>exact ⟨0,[],_,rfl,Nat.zero_le _,qh rfl,HX0.out,HR2.out,HK2.out,World.ownsRow_nil _ _ _ _,.nil,HB2.out⟩
 case round =>
  clear HX0 HR2 HK2 HB2
  obtain ⟨i,ys,u,rfl,hi,hall,hX,hR,hKd,hown,hrep,hB⟩:=hrel
  obtain ⟨A',c',rfl⟩:=qau hown
  have hXl:=(qg hX)
  by_cases hlt:i < fs.length
  ·obtain ⟨f,hf⟩:=qal hlt
   obtain ⟨g,o,A2,c2,rfl,_,hlv,hcf⟩:=qdd (HV.out.keep hB) hf
   have hltI:(i:Int) < fs.length:=by omega
   have q0:=hcf 0 _ rfl
   have q1:=hcf 1 _ rfl
   have q2:=hcf 2 _ rfl
   simp only [Nat.add_zero] at q0
   have k0:wr.cell? ⟨w.heap.size,0,none⟩=some (.int .u8 42):=rc hKd 0 rfl
   have k1:wr.cell? ⟨w.heap.size,1,none⟩=some (.slice Ak 1 ck):=rc hKd 1 rfl
   obtain ⟨gk,og,hgk⟩:∃ gk og,Ak=some ⟨gk,og,none⟩∧wr.cell? ⟨gk,og,none⟩=some (.int .u8 kc.toNat)∧wr.cell? ⟨gk,og+1,none⟩=some (.slice none 0 0):=HKV.out wr hB
   obtain ⟨rfl,z0,z1⟩:=hgk
   have HRK:Hid (Rep Any wr (kdD (kd i)) [.int .u8 kc.toNat,.slice none 0 0]):=qh (by rw [hkd];exact qfy kc)
   have k1a:=ca k1 (.cells #[.int .u64 (f.n:Int),.string (bs f.b),.slice A2 f.l.length c2] 81)
   have k0b:=ca (ca k0 (.cells #[.int .u64 (f.n:Int),.string (bs f.b),.slice A2 f.l.length c2] 81)) (.cells #[.int .u8 kc.toNat,.slice none 0 0] 153)
   have z0a:=ca z0 (.cells #[.int .u64 (f.n:Int),.string (bs f.b),.slice A2 f.l.length c2] 81)
   have z1a:=ca z1 (.cells #[.int .u64 (f.n:Int),.string (bs f.b),.slice A2 f.l.length c2] 81)
   have HF:=qh hf
   have HX:=qh hX
   have HR:=qh hR
   have HKD:=qh hKd
   have HW:=qh hown
   have HP:=qh hrep
   have HB:=qh hB
   have HLV:=qh hlv
   clear hf hX hR hKd hown hrep hB hlv hcf
   go_wp2_with fail
   have hba:Below wr.heap.size wr ((wr.alloc (.cells #[.int .u64 (f.n:Int),.string (bs f.b),.slice A2 f.l.length c2] 81)).alloc (.cells #[.int .u8 kc.toNat,.slice none 0 0] 153)):=((Below.refl _ _).alloc qn _).alloc (by simp) _
   have hC:=HIT.out i f _ _ _ _ A2 c2 ((wr.alloc (.cells #[.int .u64 (f.n:Int),.string (bs f.b),.slice A2 f.l.length c2] 81)).alloc (.cells #[.int .u8 kc.toNat,.slice none 0 0] 153)) HF.out (Rep.keep HRK.out hba) (HLV.out.keep hba)
   have HX1:=qh ((hba.block _ (qg HX.out)).trans HX.out)
   have HR1:=qh ((hba.block _ (qg HR.out)).trans HR.out)
   have HK1:=qh ((hba.block _ (qg HKD.out)).trans HKD.out)
   have HW1:=qh (qax HW.out hba)
   have HP1:=qh (HP.out.keep hba)
   have HB1:=qh (qab HB.out HB.out.size hba)
   have hXl1:=Nat.lt_of_lt_of_le hXl hba.size
   refine hC.mono ?_
   clear hC hba HX HR HKD HW HP HB
   rintro e w4 ⟨y,Ay,cy,rfl,hy,hyx,hb4⟩
   have HX4:=qh ((hb4.block _ (qg HX1.out)).trans HX1.out)
   have HR4:=qh ((hb4.block _ (qg HR1.out)).trans HR1.out)
   have HK4:=qh ((hb4.block _ (qg HK1.out)).trans HK1.out)
   have HW4:=qh (qax HW1.out hb4)
   have HB4:=qh (qab HB1.out HB1.out.size hb4)
   have hXl4:=Nat.lt_of_lt_of_le hXl1 hb4.size
   have HP4:Hid (RepN (RowS (X+1) (.slice A' i c')) w4 3 (itemsD ((List.range i).map it ++ [y])) (ys ++ [.bool y.l,.string (bs y.b),.slice Ay y.ks.length cy])):=qh (by
    rw [qbo]
    exact RepN.snoc (hy.mono fun b _ hb=>⟨⟨Nat.le_trans hXl1 hb,fun e=>by have h1:=(HW1.out.lt _ e).2;have h2:_≤b:=hb;omega⟩,rfl⟩) rfl (HP1.out.keep hb4))
   clear hy hb4 HX1 HR1 HK1 HW1 HP1 HB1
   cases hoki:ok i with
   | false =>
    have hno:OK=false:=by
     rw [hOKi.out]
     refine Bool.eq_false_iff.2 fun h=>?_
     have:=List.all_eq_true.1 h i (List.mem_range.2 hlt)
     rw [hoki] at this;cases this
    have r0:w4.cell? ⟨w.heap.size+1,0,none⟩=some (.bool false):=rc0 HR4.out
    have r1:w4.cell? ⟨w.heap.size+1,1,none⟩=some (.string ⟨#[]⟩):=rc1 HR4.out
    have r2:w4.cell? ⟨w.heap.size+1,2,none⟩=some (.slice none 0 0):=rc2 HR4.out
    have f0:=rf HR4.out 0
    have f1:=rf HR4.out 1
    have f2:=rf HR4.out 2
    have HNO:=qh hno
    have hRl4:=(qg HR4.out)
    clear hno hoki hyx
    go_wp2_with fail
    have hfin:=qaa (qaa (qaa HR4.out (i:=0) (.bool false)) (i:=1) (.string ⟨#[]⟩)) (i:=2) (.slice none 0 0)
    have hfin1:=(heap_alloc_old _ (.cells #[.bool y.l,.string (bs y.b),.slice Ay y.ks.length cy] 53) (by simpa using hRl4)).trans hfin
    refine bodyPost_ret (v:=.tuple #[.agg #[.bool false,.string ⟨#[]⟩,.slice none 0 0],.bool false]) (qah rfl _ _ (w.heap.size+1) _ _ _ _ rfl hfin1 _ rfl Tryz.underlying53 rfl infoI) rfl ?_
    rw [HNO.out]
    exact ⟨leafIt [],none,0,rfl,ItemV.leaf [] false,(fun h=>by cases h),(((HB4.out.setCell (p:=⟨w.heap.size+1,_,_⟩) (Nat.le_succ _) _).setCell (p:=⟨w.heap.size+1,_,_⟩) (Nat.le_succ _) _).setCell (p:=⟨w.heap.size+1,_,_⟩) (Nat.le_succ _) _).alloc (by have:=HB4.out.size;simp;omega) _⟩
   | true =>
    have hyi:=hyx hoki
    have HP5:Hid (RepN (RowS (X+1) (.slice A' i c')) w4 3 (itemsD ((List.range (i+1)).map it)) (ys ++ [.bool y.l,.string (bs y.b),.slice Ay y.ks.length cy])):=qh (by
     rw [List.range_succ,List.map_append,List.map_cons,List.map_nil,← hyi];exact HP4.out)
    have hall1:Hid ((List.range (i+1)).all ok=true):=qh (by rw [List.range_succ,List.all_append,hall.out];simp [hoki])
    have x2:w4.cell? ⟨X,2,none⟩=some (.slice A' i c'):=rc2 HX4.out
    have x2a:=ca x2 (.cells #[.bool y.l,.string (bs y.b),.slice Ay y.ks.length cy] 53)
    clear hyi hyx hoki HP4 hall
    have hX5:=(heap_alloc_old w4 (.cells #[.bool y.l,.string (bs y.b),.slice Ay y.ks.length cy] 53) hXl4).trans HX4.out
    go_wp2_with (at_builtin;refine qaw qft rfl rfl (X+1) ((HW4.out.alloc _).alloc _) rfl (m:=1) [.bool y.l,.string (bs y.b),.slice Ay y.ks.length cy] rfl rfl ?_ ?_ ?_ ?_ ?_ ?_;exact (qbw _ _ (by simp) _ _);(intro u hu;simp at hu;rcases hu with rfl | rfl | rfl <;> rfl);(simp only [maxLen];omega);omega;(simp;omega);intro v1 w8 hown1 hg1 hat1;obtain ⟨A3,c3,rfl⟩:=qau hown1;have hX8:=(hg1.block X (by simp;omega) (fun e=>by have:=(HW4.out.lt _ e.symm).1;omega)).trans ((heap_alloc_old _ _ (by simp;omega)).trans hX5);have d2:=rc2 hX8;have df:=rf hX8 2;have HX8:=qh hX8;clear hX8)
    have hba:Below w4.heap.size w4 ((w4.alloc (.cells #[.bool y.l,.string (bs y.b),.slice Ay y.ks.length cy] 53)).alloc (.cells #[.bool y.l,.string (bs y.b),.slice Ay y.ks.length cy] 53)):=((Below.refl _ _).alloc qn _).alloc (by simp) _
    have hsz:w4.heap.size≤((w4.alloc (.cells #[.bool y.l,.string (bs y.b),.slice Ay y.ks.length cy] 53)).alloc (.cells #[.bool y.l,.string (bs y.b),.slice Ay y.ks.length cy] 53)).heap.size:=hba.size
    have hR8:=(hg1.block (w.heap.size+1) (by omega) (fun e=>by have:=(HW4.out.lt _ e.symm).1;omega)).trans ((hba.block (w.heap.size+1) (by omega)).trans HR4.out)
    have hK8:=(hg1.block w.heap.size (by omega) (fun e=>by have:=(HW4.out.lt _ e.symm).1;omega)).trans ((hba.block w.heap.size (by omega)).trans HK4.out)
    have hB8:=qay (qab HB4.out HB4.out.size hba) (qax HW4.out hba) hg1 (by omega) (by omega)
    have hP8:=qci (HP5.out.keep hba) hg1 hat1
    go_roundw
    case rel=>exact ⟨i+1,ys ++ [.bool y.l,.string (bs y.b),.slice Ay y.ks.length cy],.slice A3 (i+1) c3,by go_num,by omega,hall1,qaa HX8.out _,(qac (by omega) _).trans hR8,(qac (by omega) _).trans hK8,qba hown1 (by omega) _,RepN.mono hP8 (fun b _ hb=>⟨hb,qac (by have:=hb.1;omega) _⟩),hB8.setCell (p:=⟨X,2,none⟩) (by simp;omega) _⟩
    case measure=>simp [intOf];omega
  ·obtain rfl:i=fs.length:=by omega
   have hOKt:OK=true:=by rw [hOKi.out];exact hall.out
   have r0:wr.cell? ⟨w.heap.size+1,0,none⟩=some (.bool false):=rc0 hR
   have r1:wr.cell? ⟨w.heap.size+1,1,none⟩=some (.string ⟨#[]⟩):=rc1 hR
   have r2:wr.cell? ⟨w.heap.size+1,2,none⟩=some (.slice none 0 0):=rc2 hR
   have f0:=rf hR 0
   have f1:=rf hR 1
   have f2:=rf hR 2
   have x0:wr.cell? ⟨X,0,none⟩=some (.bool true):=rc0 hX
   have x1:wr.cell? ⟨X,1,none⟩=some (.string (bs [])):=rc1 hX
   have x2:wr.cell? ⟨X,2,none⟩=some (.slice A' fs.length c'):=rc2 hX
   have HNO:=qh hOKt
   have HR:=qh hR
   have HW:=qh hown
   have HP:=qh hrep
   have HB:=qh hB
   clear hOKt hR hown hrep hB hX hKd hall
   go_wp2_with fail
   have hfin:=qaa (qaa (qaa HR.out (i:=0) (.bool true)) (i:=1) (.string (bs []))) (i:=2) (.slice A' fs.length c')
   refine bodyPost_ret (v:=.tuple #[.agg #[.bool true,.string (bs []),.slice A' fs.length c'],.bool true]) (qah rfl _ _ (w.heap.size+1) _ _ _ _ rfl hfin _ rfl Tryz.underlying53 rfl infoI) rfl ?_
   rw [HNO.out]
   have hO:=qba (g:=w.heap.size+1) (i:=2) (qba (g:=w.heap.size+1) (i:=1) (qba (g:=w.heap.size+1) (i:=0) HW.out (by omega) (.bool true)) (by omega) (.string (bs []))) (by omega) (.slice A' fs.length c')
   have hkl:((List.range fs.length).map it).length=fs.length:=by simp
   have hq:ItemV (From w.heap.size) (((wr.setCell ⟨w.heap.size+1,0,none⟩ (.bool true)).setCell ⟨w.heap.size+1,1,none⟩ (.string (bs []))).setCell ⟨w.heap.size+1,2,none⟩ (.slice A' fs.length c')) (listIt ((List.range fs.length).map it)) A' c':=by
    refine qd8 ?_
    show Rep _ _ (.sl 3 (itemsD ((List.range fs.length).map it))) [.slice A' ((List.range fs.length).map it).length c']
    rw [hkl]
    refine qb2 hO (RepN.mono HP.out fun b _ hb=>⟨?_,?_⟩) (by rw [qcp,hkl]) (fun b h1 _=>?_)
    ·have:=hb.1;show w.heap.size≤b;omega
    ·have:=hb.1;rw [qac (by omega),qac (by omega),qac (by omega)]
    ·show w.heap.size≤b;omega
   refine ⟨listIt ((List.range fs.length).map it),A',c',?_,hq,fun _=>rfl,((HB.out.setCell (p:=⟨w.heap.size+1,_,_⟩) (Nat.le_succ _) _).setCell (p:=⟨w.heap.size+1,_,_⟩) (Nat.le_succ _) _).setCell (p:=⟨w.heap.size+1,_,_⟩) (Nat.le_succ _) _⟩
   rw [show (listIt ((List.range fs.length).map it)).ks.length=fs.length from hkl]
   rfl
theorem qsf (fs:List Fd) (it:Nat→Item) (ok:Nat→Bool) (ks:List Kd) (kd:Nat→Kd) (hkd:∀ i k,ks[i]? = some k→kd i=k) (hkl:ks.length≤1000) (Ak:Option Addr) (ck:Nat) (A:Option Addr) (c:Nat) (w:World) (hkv:KindsV Any w ks Ak ck) (hv:FdsV Any w fs A c)
  (hit:∀ (i:Nat) (f:Fd) (s:Int) (A1:Option Addr) (n1 c1:Nat) (A2:Option Addr) (c2:Nat) (W:World),fs[i]? = some f→(ks[i]?).isSome=true→Rep Any W (kdD (kd i)) [.int .u8 s,.slice A1 n1 c1]→LfsV Any W f.l A2 c2 →
   Calls Tryz.prog 147 #[.agg #[.int .u8 s,.slice A1 n1 c1],.agg (fdC f A2 c2).toArray] W (FitPost (it i) (ok i) W)) :
  Calls Tryz.prog 95 #[.agg #[.int .u8 40,.slice Ak ks.length ck],.slice A fs.length c] w (FitPost (listIt ((List.range fs.length).map it)) (decide (fs.length=ks.length) && (List.range fs.length).all ok) w):=by
 obtain ⟨OK,hOK⟩:∃ OK,(decide (fs.length=ks.length) && (List.range fs.length).all ok)=OK:=⟨_,rfl⟩
 rw [hOK]
 have HOK:=qh hOK
 have hb:Below w.heap.size w ((w.alloc (.cells #[.int .u8 40,.slice Ak ks.length ck] 153)).alloc (.cells #[.bool false,.string ⟨#[]⟩,.slice none 0 0] 53)):=((Below.refl _ _).alloc qn _).alloc (by simp) _
 have hr:=heap_alloc_new (w.alloc (.cells #[.int .u8 40,.slice Ak ks.length ck] 153)) (.cells #[.bool false,.string ⟨#[]⟩,.slice none 0 0] 53)
 have hk0:=(heap_alloc_old (w.alloc (.cells #[.int .u8 40,.slice Ak ks.length ck] 153)) (.cells #[.bool false,.string ⟨#[]⟩,.slice none 0 0] 53) (by simp)).trans (heap_alloc_new w (.cells #[.int .u8 40,.slice Ak ks.length ck] 153))
 simp only [World.size_alloc] at hr
 have hsz:((w.alloc (.cells #[.int .u8 40,.slice Ak ks.length ck] 153)).alloc (.cells #[.bool false,.string ⟨#[]⟩,.slice none 0 0] 53)).heap.size=w.heap.size+2:=by simp
 have HB:=qh hb
 have HR:=qh hr
 have HKB:=qh hk0
 have HV:=qh hv
 have HIT:=qh hit
 have HKV:=qh hkv
 have HSZ:=qh hsz
 clear hOK hb hr hk0 hv hit hkv hsz
 by_cases hlen:fs.length=ks.length
 case neg =>
  have hok:OK=false:=by rw [← HOK.out];simp [hlen]
  have hlI:((fs.length:Int) == (ks.length:Int))=false:=by rw [beq_eq_false_iff_ne];omega
  clear HIT HV HKV HKB HSZ hlen
  go_enter Tryz.func95,Tryz.ntmps95
  go_wp2_with fail
  refine bodyPost_ret (v:=.tuple #[.agg #[.bool false,.string ⟨#[]⟩,.slice none 0 0],.bool false]) (qah rfl _ _ (w.heap.size+1) _ _ _ _ rfl HR.out _ rfl Tryz.underlying53 rfl infoI) rfl ?_
  rw [hok]
  exact ⟨leafIt [],none,0,rfl,ItemV.leaf [] false,(fun h=>by cases h),HB.out⟩
 have hlI:((fs.length:Int) == (ks.length:Int))=true:=by simp [hlen]
 have HLEN:=qh hlen
 have hOKi:Hid (OK=((List.range fs.length).all ok)):=qh (by rw [← HOK.out];simp [hlen])
 have hfl:fs.length≤1000:=by have:=hkl;omega
 clear HOK hlen
 go_enter Tryz.func95,Tryz.ntmps95
 go_wp2_with fail
 refine (qom none 0 0 _).mono ?_
 rintro e w1 ⟨rfl,hb1⟩
 have hR1:=(hb1.block _ (qg HR.out)).trans HR.out
 have hK1:=(hb1.block _ (qg HKB.out)).trans HKB.out
 have hB1:=qab HB.out HB.out.size hb1
 have hw1:w.heap.size+2≤w1.heap.size:=by rw [← HSZ.out];exact hb1.size
 have hba:Below w1.heap.size w1 (w1.alloc (.cells #[.bool true,.string (bs []),.slice none 0 0] 53)):=(Below.refl _ _).alloc qn _
 have HX2:=qh (heap_alloc_new w1 (.cells #[.bool true,.string (bs []),.slice none 0 0] 53))
 have HR2:=qh ((hba.block _ (qg hR1)).trans hR1)
 have HK2:=qh ((hba.block _ (qg hK1)).trans hK1)
 have HB2:=qh (qab hB1 hB1.size hba)
 clear hR1 hK1 hB1 hba hb1 HB HR HKB HSZ
 go_wp2_with fail
 obtain ⟨X,hXe⟩:∃ X,w1.heap.size=X:=⟨_,rfl⟩
 have hX0:=HX2.out
 rw [hXe] at hw1 hX0 ⊢
 have HX0:=qh hX0
 clear hX0 HX2
 go_loopw [37] (fun a wr=>∃ (i:Nat) (ys:List Value) (u:Value),a=.int .i64 i∧i≤fs.length∧Hid ((List.range i).all ok=true)∧wr.heap[X]? = some (.cells #[.bool true,.string (bs []),u] 53 (0,0))∧wr.heap[w.heap.size+1]? = some (.cells #[.bool false,.string ⟨#[]⟩,.slice none 0 0] 53 (0,0))∧wr.heap[w.heap.size]? = some (.cells #[.int .u8 40,.slice Ak ks.length ck] 153 (0,0)) ∧
   wr.ownsRow (X+1) 53 3 u i ys∧RepN (RowS (X+1) u) wr 3 (itemsD ((List.range i).map it)) ys∧Below w.heap.size w wr) (fun a _=>fs.length - (intOf a).toNat)
 case atStart=>exact ⟨0,[],_,rfl,Nat.zero_le _,qh rfl,HX0.out,HR2.out,HK2.out,World.ownsRow_nil _ _ _ _,.nil,HB2.out⟩
 case round =>
  clear HX0 HR2 HK2 HB2
  obtain ⟨i,ys,u,rfl,hi,hall,hX,hR,hKd,hown,hrep,hB⟩:=hrel
  obtain ⟨A',c',rfl⟩:=qau hown
  have hXl:=(qg hX)
  by_cases hlt:i < fs.length
  ·obtain ⟨f,hf⟩:=qal hlt
   obtain ⟨g,o,A2,c2,rfl,_,hlv,hcf⟩:=qdd (HV.out.keep hB) hf
   have hltI:(i:Int) < fs.length:=by omega
   have q0:=hcf 0 _ rfl
   have q1:=hcf 1 _ rfl
   have q2:=hcf 2 _ rfl
   simp only [Nat.add_zero] at q0
   have k0:wr.cell? ⟨w.heap.size,0,none⟩=some (.int .u8 40):=rc hKd 0 rfl
   have k1:wr.cell? ⟨w.heap.size,1,none⟩=some (.slice Ak ks.length ck):=rc hKd 1 rfl
   have hlk:=HLEN.out
   obtain ⟨k0e,hk0e⟩:∃ k,ks[0]? = some k:=qal (by omega)
   obtain ⟨kie,hkie⟩:∃ k,ks[i]? = some k:=qal (by omega)
   obtain ⟨gk,og,s0,A0,n0,c0,hA0,_,z0,z1⟩:=qhc (Rep.keep HKV.out hB) hk0e
   obtain ⟨gk2,og2,s1,A1,n1,c1,hA1,hrk,y0,y1⟩:=qhc (Rep.keep HKV.out hB) hkie
   rw [hA0] at hA1
   injection hA1 with hA1
   injection hA1 with e1 e2
   subst e1;subst e2;subst hA0
   simp only [Nat.zero_mul,Nat.add_zero] at z0 z1
   have hnil:¬ ks = []:=fun e=>by have h0:ks.length=0:=(by rw [e];rfl);omega
   have hikI:(i:Int) < ks.length:=by omega
   have h0kI:(0:Int) < ks.length:=by omega
   have HRK:Hid (Rep Any wr (kdD (kd i)) [.int .u8 s1,.slice A1 n1 c1]):=qh (by rw [hkd i kie hkie];exact hrk)
   have HSM:Hid ((ks[i]?).isSome=true):=qh (by rw [hkie];rfl)
   clear hlk hk0e hkie hrk
   have k1a:=ca k1 (.cells #[.int .u64 (f.n:Int),.string (bs f.b),.slice A2 f.l.length c2] 81)
   have k0b:=ca (ca k0 (.cells #[.int .u64 (f.n:Int),.string (bs f.b),.slice A2 f.l.length c2] 81)) (.cells #[.int .u8 s0,.slice A0 n0 c0] 153)
   have z0a:=ca z0 (.cells #[.int .u64 (f.n:Int),.string (bs f.b),.slice A2 f.l.length c2] 81)
   have z0b:=ca z0a (.cells #[.int .u8 s0,.slice A0 n0 c0] 153)
   have z1a:=ca z1 (.cells #[.int .u64 (f.n:Int),.string (bs f.b),.slice A2 f.l.length c2] 81)
   have z1b:=ca z1a (.cells #[.int .u8 s0,.slice A0 n0 c0] 153)
   have y0a:=ca y0 (.cells #[.int .u64 (f.n:Int),.string (bs f.b),.slice A2 f.l.length c2] 81)
   have y0b:=ca y0a (.cells #[.int .u8 s0,.slice A0 n0 c0] 153)
   have y1a:=ca y1 (.cells #[.int .u64 (f.n:Int),.string (bs f.b),.slice A2 f.l.length c2] 81)
   have y1b:=ca y1a (.cells #[.int .u8 s0,.slice A0 n0 c0] 153)
   have k1b:=ca k1a (.cells #[.int .u8 s0,.slice A0 n0 c0] 153)
   have HF:=qh hf
   have HX:=qh hX
   have HR:=qh hR
   have HKD:=qh hKd
   have HW:=qh hown
   have HP:=qh hrep
   have HB:=qh hB
   have HLV:=qh hlv
   clear hf hX hR hKd hown hrep hB hlv hcf
   go_wp2_with fail
   have hba:Below wr.heap.size wr ((wr.alloc (.cells #[.int .u64 (f.n:Int),.string (bs f.b),.slice A2 f.l.length c2] 81)).alloc (.cells #[.int .u8 s1,.slice A1 n1 c1] 153)):=((Below.refl _ _).alloc qn _).alloc (by simp) _
   have hC:=HIT.out i f _ _ _ _ A2 c2 ((wr.alloc (.cells #[.int .u64 (f.n:Int),.string (bs f.b),.slice A2 f.l.length c2] 81)).alloc (.cells #[.int .u8 s1,.slice A1 n1 c1] 153)) HF.out HSM.out (Rep.keep HRK.out hba) (HLV.out.keep hba)
   have HX1:=qh ((hba.block _ (qg HX.out)).trans HX.out)
   have HR1:=qh ((hba.block _ (qg HR.out)).trans HR.out)
   have HK1:=qh ((hba.block _ (qg HKD.out)).trans HKD.out)
   have HW1:=qh (qax HW.out hba)
   have HP1:=qh (HP.out.keep hba)
   have HB1:=qh (qab HB.out HB.out.size hba)
   have hXl1:=Nat.lt_of_lt_of_le hXl hba.size
   refine hC.mono ?_
   clear hC hba HX HR HKD HW HP HB
   rintro e w4 ⟨y,Ay,cy,rfl,hy,hyx,hb4⟩
   have HX4:=qh ((hb4.block _ (qg HX1.out)).trans HX1.out)
   have HR4:=qh ((hb4.block _ (qg HR1.out)).trans HR1.out)
   have HK4:=qh ((hb4.block _ (qg HK1.out)).trans HK1.out)
   have HW4:=qh (qax HW1.out hb4)
   have HB4:=qh (qab HB1.out HB1.out.size hb4)
   have hXl4:=Nat.lt_of_lt_of_le hXl1 hb4.size
   have HP4:Hid (RepN (RowS (X+1) (.slice A' i c')) w4 3 (itemsD ((List.range i).map it ++ [y])) (ys ++ [.bool y.l,.string (bs y.b),.slice Ay y.ks.length cy])):=qh (by
    rw [qbo]
    exact RepN.snoc (hy.mono fun b _ hb=>⟨⟨Nat.le_trans hXl1 hb,fun e=>by have h1:=(HW1.out.lt _ e).2;have h2:_≤b:=hb;omega⟩,rfl⟩) rfl (HP1.out.keep hb4))
   clear hy hb4 HX1 HR1 HK1 HW1 HP1 HB1
   cases hoki:ok i with
   | false =>
    have hno:OK=false:=by
     rw [hOKi.out]
     refine Bool.eq_false_iff.2 fun h=>?_
     have:=List.all_eq_true.1 h i (List.mem_range.2 hlt)
     rw [hoki] at this;cases this
    have r0:w4.cell? ⟨w.heap.size+1,0,none⟩=some (.bool false):=rc0 HR4.out
    have r1:w4.cell? ⟨w.heap.size+1,1,none⟩=some (.string ⟨#[]⟩):=rc1 HR4.out
    have r2:w4.cell? ⟨w.heap.size+1,2,none⟩=some (.slice none 0 0):=rc2 HR4.out
    have f0:=rf HR4.out 0
    have f1:=rf HR4.out 1
    have f2:=rf HR4.out 2
    have HNO:=qh hno
    have hRl4:=(qg HR4.out)
    clear hno hoki hyx
    go_wp2_with fail
    have hfin:=qaa (qaa (qaa HR4.out (i:=0) (.bool false)) (i:=1) (.string ⟨#[]⟩)) (i:=2) (.slice none 0 0)
    have hfin1:=(heap_alloc_old _ (.cells #[.bool y.l,.string (bs y.b),.slice Ay y.ks.length cy] 53) (by simpa using hRl4)).trans hfin
    refine bodyPost_ret (v:=.tuple #[.agg #[.bool false,.string ⟨#[]⟩,.slice none 0 0],.bool false]) (qah rfl _ _ (w.heap.size+1) _ _ _ _ rfl hfin1 _ rfl Tryz.underlying53 rfl infoI) rfl ?_
    rw [HNO.out]
    exact ⟨leafIt [],none,0,rfl,ItemV.leaf [] false,(fun h=>by cases h),(((HB4.out.setCell (p:=⟨w.heap.size+1,_,_⟩) (Nat.le_succ _) _).setCell (p:=⟨w.heap.size+1,_,_⟩) (Nat.le_succ _) _).setCell (p:=⟨w.heap.size+1,_,_⟩) (Nat.le_succ _) _).alloc (by have:=HB4.out.size;simp;omega) _⟩
   | true =>
    have hyi:=hyx hoki
    have HP5:Hid (RepN (RowS (X+1) (.slice A' i c')) w4 3 (itemsD ((List.range (i+1)).map it)) (ys ++ [.bool y.l,.string (bs y.b),.slice Ay y.ks.length cy])):=qh (by
     rw [List.range_succ,List.map_append,List.map_cons,List.map_nil,← hyi];exact HP4.out)
    have hall1:Hid ((List.range (i+1)).all ok=true):=qh (by rw [List.range_succ,List.all_append,hall.out];simp [hoki])
    have x2:w4.cell? ⟨X,2,none⟩=some (.slice A' i c'):=rc2 HX4.out
    have x2a:=ca x2 (.cells #[.bool y.l,.string (bs y.b),.slice Ay y.ks.length cy] 53)
    clear hyi hyx hoki HP4 hall
    have hX5:=(heap_alloc_old w4 (.cells #[.bool y.l,.string (bs y.b),.slice Ay y.ks.length cy] 53) hXl4).trans HX4.out
    go_wp2_with (at_builtin;refine qaw qft rfl rfl (X+1) ((HW4.out.alloc _).alloc _) rfl (m:=1) [.bool y.l,.string (bs y.b),.slice Ay y.ks.length cy] rfl rfl ?_ ?_ ?_ ?_ ?_ ?_;exact (qbw _ _ (by simp) _ _);(intro u hu;simp at hu;rcases hu with rfl | rfl | rfl <;> rfl);(simp only [maxLen];omega);omega;(simp;omega);intro v1 w8 hown1 hg1 hat1;obtain ⟨A3,c3,rfl⟩:=qau hown1;have hX8:=(hg1.block X (by simp;omega) (fun e=>by have:=(HW4.out.lt _ e.symm).1;omega)).trans ((heap_alloc_old _ _ (by simp;omega)).trans hX5);have d2:=rc2 hX8;have df:=rf hX8 2;have HX8:=qh hX8;clear hX8)
    have hba:Below w4.heap.size w4 ((w4.alloc (.cells #[.bool y.l,.string (bs y.b),.slice Ay y.ks.length cy] 53)).alloc (.cells #[.bool y.l,.string (bs y.b),.slice Ay y.ks.length cy] 53)):=((Below.refl _ _).alloc qn _).alloc (by simp) _
    have hsz:w4.heap.size≤((w4.alloc (.cells #[.bool y.l,.string (bs y.b),.slice Ay y.ks.length cy] 53)).alloc (.cells #[.bool y.l,.string (bs y.b),.slice Ay y.ks.length cy] 53)).heap.size:=hba.size
    have hR8:=(hg1.block (w.heap.size+1) (by omega) (fun e=>by have:=(HW4.out.lt _ e.symm).1;omega)).trans ((hba.block (w.heap.size+1) (by omega)).trans HR4.out)
    have hK8:=(hg1.block w.heap.size (by omega) (fun e=>by have:=(HW4.out.lt _ e.symm).1;omega)).trans ((hba.block w.heap.size (by omega)).trans HK4.out)
    have hB8:=qay (qab HB4.out HB4.out.size hba) (qax HW4.out hba) hg1 (by omega) (by omega)
    have hP8:=qci (HP5.out.keep hba) hg1 hat1
    go_roundw
    case rel=>exact ⟨i+1,ys ++ [.bool y.l,.string (bs y.b),.slice Ay y.ks.length cy],.slice A3 (i+1) c3,by go_num,by omega,hall1,qaa HX8.out _,(qac (by omega) _).trans hR8,(qac (by omega) _).trans hK8,qba hown1 (by omega) _,RepN.mono hP8 (fun b _ hb=>⟨hb,qac (by have:=hb.1;omega) _⟩),hB8.setCell (p:=⟨X,2,none⟩) (by simp;omega) _⟩
    case measure=>simp [intOf];omega
  ·obtain rfl:i=fs.length:=by omega
   have hOKt:OK=true:=by rw [hOKi.out];exact hall.out
   have r0:wr.cell? ⟨w.heap.size+1,0,none⟩=some (.bool false):=rc0 hR
   have r1:wr.cell? ⟨w.heap.size+1,1,none⟩=some (.string ⟨#[]⟩):=rc1 hR
   have r2:wr.cell? ⟨w.heap.size+1,2,none⟩=some (.slice none 0 0):=rc2 hR
   have f0:=rf hR 0
   have f1:=rf hR 1
   have f2:=rf hR 2
   have x0:wr.cell? ⟨X,0,none⟩=some (.bool true):=rc0 hX
   have x1:wr.cell? ⟨X,1,none⟩=some (.string (bs [])):=rc1 hX
   have x2:wr.cell? ⟨X,2,none⟩=some (.slice A' fs.length c'):=rc2 hX
   have HNO:=qh hOKt
   have HR:=qh hR
   have HW:=qh hown
   have HP:=qh hrep
   have HB:=qh hB
   clear hOKt hR hown hrep hB hX hKd hall
   go_wp2_with fail
   have hfin:=qaa (qaa (qaa HR.out (i:=0) (.bool true)) (i:=1) (.string (bs []))) (i:=2) (.slice A' fs.length c')
   refine bodyPost_ret (v:=.tuple #[.agg #[.bool true,.string (bs []),.slice A' fs.length c'],.bool true]) (qah rfl _ _ (w.heap.size+1) _ _ _ _ rfl hfin _ rfl Tryz.underlying53 rfl infoI) rfl ?_
   rw [HNO.out]
   have hO:=qba (g:=w.heap.size+1) (i:=2) (qba (g:=w.heap.size+1) (i:=1) (qba (g:=w.heap.size+1) (i:=0) HW.out (by omega) (.bool true)) (by omega) (.string (bs []))) (by omega) (.slice A' fs.length c')
   have hkl:((List.range fs.length).map it).length=fs.length:=by simp
   have hq:ItemV (From w.heap.size) (((wr.setCell ⟨w.heap.size+1,0,none⟩ (.bool true)).setCell ⟨w.heap.size+1,1,none⟩ (.string (bs []))).setCell ⟨w.heap.size+1,2,none⟩ (.slice A' fs.length c')) (listIt ((List.range fs.length).map it)) A' c':=by
    refine qd8 ?_
    show Rep _ _ (.sl 3 (itemsD ((List.range fs.length).map it))) [.slice A' ((List.range fs.length).map it).length c']
    rw [hkl]
    refine qb2 hO (RepN.mono HP.out fun b _ hb=>⟨?_,?_⟩) (by rw [qcp,hkl]) (fun b h1 _=>?_)
    ·have:=hb.1;show w.heap.size≤b;omega
    ·have:=hb.1;rw [qac (by omega),qac (by omega),qac (by omega)]
    ·show w.heap.size≤b;omega
   refine ⟨listIt ((List.range fs.length).map it),A',c',?_,hq,fun _=>rfl,((HB.out.setCell (p:=⟨w.heap.size+1,_,_⟩) (Nat.le_succ _) _).setCell (p:=⟨w.heap.size+1,_,_⟩) (Nat.le_succ _) _).setCell (p:=⟨w.heap.size+1,_,_⟩) (Nat.le_succ _) _⟩
   rw [show (listIt ((List.range fs.length).map it)).ks.length=fs.length from hkl]
   rfl
/- The walk of frame.item at a list of plain kinds; items of any kind. -/
theorem qss (n:Int) (b:Bytes) (A:Option Addr) (m c:Nat) (Ak:Option Addr) (ck:Nat) (x:Item) (ok:Bool) (hok:ok=false) (w:World) (hn:(n == 0)=false)
  (hC:Calls Tryz.prog 95 #[.agg #[.int .u8 42,.slice Ak 1 ck],.slice A m c] (((w.alloc (.cells #[.int .u8 42,.slice Ak 1 ck] 153)).alloc (.cells #[.int .u64 n,.string (bs b),.slice A m c] 81)).alloc (.cells #[.bool false,.string ⟨#[]⟩,.slice none 0 0] 53)) (FitPost x ok (((w.alloc (.cells #[.int .u8 42,.slice Ak 1 ck] 153)).alloc (.cells #[.int .u64 n,.string (bs b),.slice A m c] 81)).alloc (.cells #[.bool false,.string ⟨#[]⟩,.slice none 0 0] 53)))) :
  Calls Tryz.prog 147 #[.agg #[.int .u8 42,.slice Ak 1 ck],.agg #[.int .u64 n,.string (bs b),.slice A m c]] w (FitPost x false w):=by
 subst hok
 have hB:Below w.heap.size w (((w.alloc (.cells #[.int .u8 42,.slice Ak 1 ck] 153)).alloc (.cells #[.int .u64 n,.string (bs b),.slice A m c] 81)).alloc (.cells #[.bool false,.string ⟨#[]⟩,.slice none 0 0] 53)):=(((Below.refl _ _).alloc qn _).alloc (by simp) _).alloc (by simp;omega) _
 have hI:=heap_alloc_new ((w.alloc (.cells #[.int .u8 42,.slice Ak 1 ck] 153)).alloc (.cells #[.int .u64 n,.string (bs b),.slice A m c] 81)) (.cells #[.bool false,.string ⟨#[]⟩,.slice none 0 0] 53)
 have hF:=(heap_alloc_old ((w.alloc (.cells #[.int .u8 42,.slice Ak 1 ck] 153)).alloc (.cells #[.int .u64 n,.string (bs b),.slice A m c] 81)) (.cells #[.bool false,.string ⟨#[]⟩,.slice none 0 0] 53) (by simp)).trans (heap_alloc_new (w.alloc (.cells #[.int .u8 42,.slice Ak 1 ck] 153)) (.cells #[.int .u64 n,.string (bs b),.slice A m c] 81))
 have hsz:(((w.alloc (.cells #[.int .u8 42,.slice Ak 1 ck] 153)).alloc (.cells #[.int .u64 n,.string (bs b),.slice A m c] 81)).alloc (.cells #[.bool false,.string ⟨#[]⟩,.slice none 0 0] 53)).heap.size=w.heap.size+3:=by simp
 simp only [World.size_alloc] at hI hF
 have HB:=qh hB
 have HI:=qh hI
 have HF:=qh hF
 have HSZ:=qh hsz
 have HC:=qh hC
 clear hB hI hF hsz hC
 go_enter Tryz.func147,Tryz.ntmps147
 go_wp2_with fail
 refine HC.out.mono ?_
 clear HC
 rintro e w1 ⟨y,Ay,cy,rfl,hy1,hyx,hb1⟩
 have HYX:=qh hyx
 have hy0:ItemV (From (w.heap.size+3)) w1 y Ay cy:=by rw [← HSZ.out];exact hy1
 have hba:Below w1.heap.size w1 (w1.alloc (.cells #[.bool y.l,.string (bs y.b),.slice Ay y.ks.length cy] 53)):=(Below.refl _ _).alloc qn _
 have hw1:w.heap.size+3≤w1.heap.size:=by rw [← HSZ.out];exact hb1.size
 have HF1:=qh ((hba.block (w.heap.size+1) (by omega)).trans ((hb1.block (w.heap.size+1) (by rw [HSZ.out];omega)).trans HF.out))
 have HI1:=qh ((hba.block (w.heap.size+1+1) (by omega)).trans ((hb1.block (w.heap.size+1+1) (by rw [HSZ.out];omega)).trans HI.out))
 have HB1:=qh (qab (qab HB.out HB.out.size hb1) (by omega) hba)
 have HY1:=qh (hy0.keep hba)
 have HV1:=qh (heap_alloc_new w1 (.cells #[.bool y.l,.string (bs y.b),.slice Ay y.ks.length cy] 53))
 clear hy1 hy0 hyx hb1 hba HB HI HF HSZ
 go_wp2_with fail
 have hbd:Below (w1.alloc (.cells #[.bool y.l,.string (bs y.b),.slice Ay y.ks.length cy] 53)).heap.size (w1.alloc (.cells #[.bool y.l,.string (bs y.b),.slice Ay y.ks.length cy] 53)) (w1.alloc (.cells #[.bool y.l,.string (bs y.b),.slice Ay y.ks.length cy] 53)).drew:=(Below.refl _ _).drew
 have hF:=(hbd.block _ (qg HF1.out)).trans HF1.out
 have hI:=(hbd.block _ (qg HI1.out)).trans HI1.out
 have hV:=(hbd.block _ (qg HV1.out)).trans HV1.out
 have hB:=qab HB1.out HB1.out.size hbd
 have hy:=HY1.out.keep hbd
 obtain ⟨V,hVe⟩:∃ V,w1.heap.size=V:=⟨_,rfl⟩
 rw [hVe] at hV hw1 ⊢
 refine qao [(99,fun w'=>w'.heap[w.heap.size+1]? = some (.cells #[.int .u64 n,.string (bs b),.slice A m c] 81 (0,0))∧w'.heap[V]? = some (.cells #[.bool y.l,.string (bs y.b),.slice Ay y.ks.length cy] 53 (0,0)))] (by kernel_rfl) ?_
 generalize (w1.alloc (.cells #[.bool y.l,.string (bs y.b),.slice Ay y.ks.length cy] 53)).drew=w3 at hF hI hV hB hy ⊢
 clear hbd HF1 HI1 HV1 HB1 HY1
 refine R_l (i:=0) (v:=.agg #[.bool y.l,.string (bs y.b),.slice Ay y.ks.length cy]) 99 _ List.mem_cons_self rfl (qa8 rfl rfl rfl (fun w' hS=>hS.2) Tryz.underlying53 rfl infoI) (Mh ⟨hF,hV⟩ Mn) ?_
 refine R_p (i:=1) (v:=.bool false) (Mh ⟨hF,hV⟩ Mn) ?_
 refine R_p (i:=2) (v:=.bool false) (Mh ⟨hF,hV⟩ Mn) ?_
 refine R_s (i:=3) (Mh ⟨hF,hV⟩ Mn) ?_
 refine R_s (i:=4) (Mh ⟨hF,hV⟩ Mn) ?_
 refine R_s (i:=5) (Mh ⟨hF,hV⟩ Mn) ?_
 refine R_p (i:=6) (v:=.bool false) (Mh ⟨hF,hV⟩ Mn) ?_
 refine R_p (i:=7) (v:=.bool false) (Mh ⟨hF,hV⟩ Mn) ?_
 refine R_s (i:=8) (Mh ⟨hF,hV⟩ Mn) ?_
 refine R_s (i:=9) (Mh ⟨hF,hV⟩ Mn) ?_
 refine R_s (i:=10) (Mh ⟨hF,hV⟩ Mn) ?_
 refine R_p (i:=11) (v:=.bool false) (Mh ⟨hF,hV⟩ Mn) ?_
 have d0:w3.cell? ⟨w.heap.size+1+1,0,none⟩=some (.bool false):=rc0 hI
 have d1:w3.cell? ⟨w.heap.size+1+1,1,none⟩=some (.string ⟨#[]⟩):=rc1 hI
 have d2:w3.cell? ⟨w.heap.size+1+1,2,none⟩=some (.slice none 0 0):=rc2 hI
 have f0:=rf hI 0
 have f1:=rf hI 1
 have f2:=rf hI 2
 refine R_now 12 fun K hK=>?_
 obtain ⟨W9,hW9⟩:∃ W9,W9=(((w3.setCell ⟨w.heap.size+1+1,0,none⟩ (.bool y.l)).setCell ⟨w.heap.size+1+1,1,none⟩ (.string (bs y.b))).setCell ⟨w.heap.size+1+1,2,none⟩ (.slice Ay y.ks.length cy)):=⟨_,rfl⟩
 have hI9:W9.heap[w.heap.size+1+1]? = some (.cells #[.bool y.l,.string (bs y.b),.slice Ay y.ks.length cy] 53 (0,0)):=by rw [hW9];exact qaa (qaa (qaa hI _) _) _
 have hF9:W9.heap[w.heap.size+1]? = some (.cells #[.int .u64 n,.string (bs b),.slice A m c] 81 (0,0)):=by rw [hW9];exact (qac (by omega) _).trans ((qac (by omega) _).trans ((qac (by omega) _).trans hF))
 have hV9:W9.heap[V]? = some (.cells #[.bool y.l,.string (bs y.b),.slice Ay y.ks.length cy] 53 (0,0)):=by rw [hW9];exact (qac (by omega) _).trans ((qac (by omega) _).trans ((qac (by omega) _).trans hV))
 have hB9:Below w.heap.size w W9:=by rw [hW9];exact ((hB.setCell (p:=⟨w.heap.size+1+1,_,_⟩) (by simp;omega) _).setCell (p:=⟨w.heap.size+1+1,_,_⟩) (by simp;omega) _).setCell (p:=⟨w.heap.size+1+1,_,_⟩) (by simp;omega) _
 have hy9:ItemV (From w.heap.size) W9 y Ay cy:=by rw [hW9];exact hy.mono fun k _ hk=>⟨by have:w.heap.size+3≤k:=hk;show w.heap.size≤k;omega,by have:w.heap.size+3≤k:=hk;rw [qac (by omega),qac (by omega),qac (by omega)]⟩
 have HI9:=qh hI9
 have HB9:=qh hB9
 have HY9:=qh hy9
 clear hI9 hB9 hy9 hy
 go_simp
 rw [← hW9]
 clear hW9 d0 d1 d2 f0 f1 f2
 refine hK.out _ _ (Mh ⟨hF9,hV9⟩ Mn) (fun hMeets=>?_)
 clear hK K hMeets
 refine lay_R ?_
 refine R_p (i:=13) (v:=.bool false) (Mh ⟨hF9,hV9⟩ Mn) ?_
 refine qa7 (by kernel_rfl) ?_ _
 go_wp2_with fail
 refine bodyPost_ret (v:=.tuple #[.agg #[.bool y.l,.string (bs y.b),.slice Ay y.ks.length cy],.bool false]) (qah rfl _ _ (w.heap.size+1+1) _ _ _ _ rfl HI9.out _ rfl Tryz.underlying53 rfl infoI) rfl ?_
 exact ⟨y,Ay,cy,rfl,HY9.out,(fun h=>by cases h),HB9.out⟩
theorem qts (n:Int) (b:Bytes) (A:Option Addr) (m c:Nat) (Ak:Option Addr) (ck:Nat) (x:Item) (ok:Bool) (hok:ok=true) (w:World) (hn:(n == 0)=false)
  (hC:Calls Tryz.prog 95 #[.agg #[.int .u8 42,.slice Ak 1 ck],.slice A m c] (((w.alloc (.cells #[.int .u8 42,.slice Ak 1 ck] 153)).alloc (.cells #[.int .u64 n,.string (bs b),.slice A m c] 81)).alloc (.cells #[.bool false,.string ⟨#[]⟩,.slice none 0 0] 53)) (FitPost x ok (((w.alloc (.cells #[.int .u8 42,.slice Ak 1 ck] 153)).alloc (.cells #[.int .u64 n,.string (bs b),.slice A m c] 81)).alloc (.cells #[.bool false,.string ⟨#[]⟩,.slice none 0 0] 53)))) :
  Calls Tryz.prog 147 #[.agg #[.int .u8 42,.slice Ak 1 ck],.agg #[.int .u64 n,.string (bs b),.slice A m c]] w (FitPost x false w):=by
 subst hok
 have hB:Below w.heap.size w (((w.alloc (.cells #[.int .u8 42,.slice Ak 1 ck] 153)).alloc (.cells #[.int .u64 n,.string (bs b),.slice A m c] 81)).alloc (.cells #[.bool false,.string ⟨#[]⟩,.slice none 0 0] 53)):=(((Below.refl _ _).alloc qn _).alloc (by simp) _).alloc (by simp;omega) _
 have hI:=heap_alloc_new ((w.alloc (.cells #[.int .u8 42,.slice Ak 1 ck] 153)).alloc (.cells #[.int .u64 n,.string (bs b),.slice A m c] 81)) (.cells #[.bool false,.string ⟨#[]⟩,.slice none 0 0] 53)
 have hF:=(heap_alloc_old ((w.alloc (.cells #[.int .u8 42,.slice Ak 1 ck] 153)).alloc (.cells #[.int .u64 n,.string (bs b),.slice A m c] 81)) (.cells #[.bool false,.string ⟨#[]⟩,.slice none 0 0] 53) (by simp)).trans (heap_alloc_new (w.alloc (.cells #[.int .u8 42,.slice Ak 1 ck] 153)) (.cells #[.int .u64 n,.string (bs b),.slice A m c] 81))
 have hsz:(((w.alloc (.cells #[.int .u8 42,.slice Ak 1 ck] 153)).alloc (.cells #[.int .u64 n,.string (bs b),.slice A m c] 81)).alloc (.cells #[.bool false,.string ⟨#[]⟩,.slice none 0 0] 53)).heap.size=w.heap.size+3:=by simp
 simp only [World.size_alloc] at hI hF
 have HB:=qh hB
 have HI:=qh hI
 have HF:=qh hF
 have HSZ:=qh hsz
 have HC:=qh hC
 clear hB hI hF hsz hC
 go_enter Tryz.func147,Tryz.ntmps147
 go_wp2_with fail
 refine HC.out.mono ?_
 clear HC
 rintro e w1 ⟨y,Ay,cy,rfl,hy1,hyx,hb1⟩
 have HYX:=qh hyx
 have hy0:ItemV (From (w.heap.size+3)) w1 y Ay cy:=by rw [← HSZ.out];exact hy1
 have hba:Below w1.heap.size w1 (w1.alloc (.cells #[.bool y.l,.string (bs y.b),.slice Ay y.ks.length cy] 53)):=(Below.refl _ _).alloc qn _
 have hw1:w.heap.size+3≤w1.heap.size:=by rw [← HSZ.out];exact hb1.size
 have HF1:=qh ((hba.block (w.heap.size+1) (by omega)).trans ((hb1.block (w.heap.size+1) (by rw [HSZ.out];omega)).trans HF.out))
 have HI1:=qh ((hba.block (w.heap.size+1+1) (by omega)).trans ((hb1.block (w.heap.size+1+1) (by rw [HSZ.out];omega)).trans HI.out))
 have HB1:=qh (qab (qab HB.out HB.out.size hb1) (by omega) hba)
 have HY1:=qh (hy0.keep hba)
 have HV1:=qh (heap_alloc_new w1 (.cells #[.bool y.l,.string (bs y.b),.slice Ay y.ks.length cy] 53))
 clear hy1 hy0 hyx hb1 hba HB HI HF HSZ
 go_wp2_with fail
 have hbd:Below (w1.alloc (.cells #[.bool y.l,.string (bs y.b),.slice Ay y.ks.length cy] 53)).heap.size (w1.alloc (.cells #[.bool y.l,.string (bs y.b),.slice Ay y.ks.length cy] 53)) (w1.alloc (.cells #[.bool y.l,.string (bs y.b),.slice Ay y.ks.length cy] 53)).drew:=(Below.refl _ _).drew
 have hF:=(hbd.block _ (qg HF1.out)).trans HF1.out
 have hI:=(hbd.block _ (qg HI1.out)).trans HI1.out
 have hV:=(hbd.block _ (qg HV1.out)).trans HV1.out
 have hB:=qab HB1.out HB1.out.size hbd
 have hy:=HY1.out.keep hbd
 obtain ⟨V,hVe⟩:∃ V,w1.heap.size=V:=⟨_,rfl⟩
 rw [hVe] at hV hw1 ⊢
 refine qao [(99,fun w'=>w'.heap[w.heap.size+1]? = some (.cells #[.int .u64 n,.string (bs b),.slice A m c] 81 (0,0))∧w'.heap[V]? = some (.cells #[.bool y.l,.string (bs y.b),.slice Ay y.ks.length cy] 53 (0,0)))] (by kernel_rfl) ?_
 generalize (w1.alloc (.cells #[.bool y.l,.string (bs y.b),.slice Ay y.ks.length cy] 53)).drew=w3 at hF hI hV hB hy ⊢
 clear hbd HF1 HI1 HV1 HB1 HY1
 refine R_l (i:=0) (v:=.agg #[.bool y.l,.string (bs y.b),.slice Ay y.ks.length cy]) 99 _ List.mem_cons_self rfl (qa8 rfl rfl rfl (fun w' hS=>hS.2) Tryz.underlying53 rfl infoI) (Mh ⟨hF,hV⟩ Mn) ?_
 refine R_p (i:=1) (v:=.bool true) (Mh ⟨hF,hV⟩ Mn) ?_
 refine R_p (i:=2) (v:=.bool true) (Mh ⟨hF,hV⟩ Mn) ?_
 refine R_p (i:=3) (v:=.pointer (some ⟨w.heap.size+1,0,none⟩)) (Mh ⟨hF,hV⟩ Mn) ?_
 refine R_l (i:=4) (v:=.int .u64 n) 99 _ List.mem_cons_self rfl (qae rfl rfl rfl (fun w' hS=>rc hS.1 0 rfl) Tryz.underlying22 rfl) (Mh ⟨hF,hV⟩ Mn) ?_
 refine R_p (i:=5) (v:=.bool false) (Mh ⟨hF,hV⟩ Mn) ?_
 refine R_p (i:=6) (v:=.bool false) (Mh ⟨hF,hV⟩ Mn) ?_
 refine R_p (i:=7) (v:=.bool false) (Mh ⟨hF,hV⟩ Mn) ?_
 refine R_s (i:=8) (Mh ⟨hF,hV⟩ Mn) ?_
 refine R_s (i:=9) (Mh ⟨hF,hV⟩ Mn) ?_
 refine R_s (i:=10) (Mh ⟨hF,hV⟩ Mn) ?_
 refine R_p (i:=11) (v:=.bool false) (Mh ⟨hF,hV⟩ Mn) ?_
 have d0:w3.cell? ⟨w.heap.size+1+1,0,none⟩=some (.bool false):=rc0 hI
 have d1:w3.cell? ⟨w.heap.size+1+1,1,none⟩=some (.string ⟨#[]⟩):=rc1 hI
 have d2:w3.cell? ⟨w.heap.size+1+1,2,none⟩=some (.slice none 0 0):=rc2 hI
 have f0:=rf hI 0
 have f1:=rf hI 1
 have f2:=rf hI 2
 refine R_now 12 fun K hK=>?_
 obtain ⟨W9,hW9⟩:∃ W9,W9=(((w3.setCell ⟨w.heap.size+1+1,0,none⟩ (.bool y.l)).setCell ⟨w.heap.size+1+1,1,none⟩ (.string (bs y.b))).setCell ⟨w.heap.size+1+1,2,none⟩ (.slice Ay y.ks.length cy)):=⟨_,rfl⟩
 have hI9:W9.heap[w.heap.size+1+1]? = some (.cells #[.bool y.l,.string (bs y.b),.slice Ay y.ks.length cy] 53 (0,0)):=by rw [hW9];exact qaa (qaa (qaa hI _) _) _
 have hF9:W9.heap[w.heap.size+1]? = some (.cells #[.int .u64 n,.string (bs b),.slice A m c] 81 (0,0)):=by rw [hW9];exact (qac (by omega) _).trans ((qac (by omega) _).trans ((qac (by omega) _).trans hF))
 have hV9:W9.heap[V]? = some (.cells #[.bool y.l,.string (bs y.b),.slice Ay y.ks.length cy] 53 (0,0)):=by rw [hW9];exact (qac (by omega) _).trans ((qac (by omega) _).trans ((qac (by omega) _).trans hV))
 have hB9:Below w.heap.size w W9:=by rw [hW9];exact ((hB.setCell (p:=⟨w.heap.size+1+1,_,_⟩) (by simp;omega) _).setCell (p:=⟨w.heap.size+1+1,_,_⟩) (by simp;omega) _).setCell (p:=⟨w.heap.size+1+1,_,_⟩) (by simp;omega) _
 have hy9:ItemV (From w.heap.size) W9 y Ay cy:=by rw [hW9];exact hy.mono fun k _ hk=>⟨by have:w.heap.size+3≤k:=hk;show w.heap.size≤k;omega,by have:w.heap.size+3≤k:=hk;rw [qac (by omega),qac (by omega),qac (by omega)]⟩
 have HI9:=qh hI9
 have HB9:=qh hB9
 have HY9:=qh hy9
 clear hI9 hB9 hy9 hy
 go_simp
 rw [← hW9]
 clear hW9 d0 d1 d2 f0 f1 f2
 refine hK.out _ _ (Mh ⟨hF9,hV9⟩ Mn) (fun hMeets=>?_)
 clear hK K hMeets
 refine lay_R ?_
 refine R_p (i:=13) (v:=.bool false) (Mh ⟨hF9,hV9⟩ Mn) ?_
 refine qa7 (by kernel_rfl) ?_ _
 go_wp2_with fail
 refine bodyPost_ret (v:=.tuple #[.agg #[.bool y.l,.string (bs y.b),.slice Ay y.ks.length cy],.bool false]) (qah rfl _ _ (w.heap.size+1+1) _ _ _ _ rfl HI9.out _ rfl Tryz.underlying53 rfl infoI) rfl ?_
 exact ⟨y,Ay,cy,rfl,HY9.out,(fun h=>by cases h),HB9.out⟩
theorem qs1 (n:Int) (b:Bytes) (A:Option Addr) (m c:Nat) (Ak:Option Addr) (ck:Nat) (x:Item) (ok:Bool) (hok:ok=false) (w:World) (hn:(n == 0)=true)
  (hC:Calls Tryz.prog 95 #[.agg #[.int .u8 42,.slice Ak 1 ck],.slice A m c] (((w.alloc (.cells #[.int .u8 42,.slice Ak 1 ck] 153)).alloc (.cells #[.int .u64 n,.string (bs b),.slice A m c] 81)).alloc (.cells #[.bool false,.string ⟨#[]⟩,.slice none 0 0] 53)) (FitPost x ok (((w.alloc (.cells #[.int .u8 42,.slice Ak 1 ck] 153)).alloc (.cells #[.int .u64 n,.string (bs b),.slice A m c] 81)).alloc (.cells #[.bool false,.string ⟨#[]⟩,.slice none 0 0] 53)))) :
  Calls Tryz.prog 147 #[.agg #[.int .u8 42,.slice Ak 1 ck],.agg #[.int .u64 n,.string (bs b),.slice A m c]] w (FitPost x false w):=by
 subst hok
 have hB:Below w.heap.size w (((w.alloc (.cells #[.int .u8 42,.slice Ak 1 ck] 153)).alloc (.cells #[.int .u64 n,.string (bs b),.slice A m c] 81)).alloc (.cells #[.bool false,.string ⟨#[]⟩,.slice none 0 0] 53)):=(((Below.refl _ _).alloc qn _).alloc (by simp) _).alloc (by simp;omega) _
 have hI:=heap_alloc_new ((w.alloc (.cells #[.int .u8 42,.slice Ak 1 ck] 153)).alloc (.cells #[.int .u64 n,.string (bs b),.slice A m c] 81)) (.cells #[.bool false,.string ⟨#[]⟩,.slice none 0 0] 53)
 have hF:=(heap_alloc_old ((w.alloc (.cells #[.int .u8 42,.slice Ak 1 ck] 153)).alloc (.cells #[.int .u64 n,.string (bs b),.slice A m c] 81)) (.cells #[.bool false,.string ⟨#[]⟩,.slice none 0 0] 53) (by simp)).trans (heap_alloc_new (w.alloc (.cells #[.int .u8 42,.slice Ak 1 ck] 153)) (.cells #[.int .u64 n,.string (bs b),.slice A m c] 81))
 have hsz:(((w.alloc (.cells #[.int .u8 42,.slice Ak 1 ck] 153)).alloc (.cells #[.int .u64 n,.string (bs b),.slice A m c] 81)).alloc (.cells #[.bool false,.string ⟨#[]⟩,.slice none 0 0] 53)).heap.size=w.heap.size+3:=by simp
 simp only [World.size_alloc] at hI hF
 have HB:=qh hB
 have HI:=qh hI
 have HF:=qh hF
 have HSZ:=qh hsz
 have HC:=qh hC
 clear hB hI hF hsz hC
 go_enter Tryz.func147,Tryz.ntmps147
 go_wp2_with fail
 refine HC.out.mono ?_
 clear HC
 rintro e w1 ⟨y,Ay,cy,rfl,hy1,hyx,hb1⟩
 have HYX:=qh hyx
 have hy0:ItemV (From (w.heap.size+3)) w1 y Ay cy:=by rw [← HSZ.out];exact hy1
 have hba:Below w1.heap.size w1 (w1.alloc (.cells #[.bool y.l,.string (bs y.b),.slice Ay y.ks.length cy] 53)):=(Below.refl _ _).alloc qn _
 have hw1:w.heap.size+3≤w1.heap.size:=by rw [← HSZ.out];exact hb1.size
 have HF1:=qh ((hba.block (w.heap.size+1) (by omega)).trans ((hb1.block (w.heap.size+1) (by rw [HSZ.out];omega)).trans HF.out))
 have HI1:=qh ((hba.block (w.heap.size+1+1) (by omega)).trans ((hb1.block (w.heap.size+1+1) (by rw [HSZ.out];omega)).trans HI.out))
 have HB1:=qh (qab (qab HB.out HB.out.size hb1) (by omega) hba)
 have HY1:=qh (hy0.keep hba)
 have HV1:=qh (heap_alloc_new w1 (.cells #[.bool y.l,.string (bs y.b),.slice Ay y.ks.length cy] 53))
 clear hy1 hy0 hyx hb1 hba HB HI HF HSZ
 go_wp2_with fail
 have hbd:Below (w1.alloc (.cells #[.bool y.l,.string (bs y.b),.slice Ay y.ks.length cy] 53)).heap.size (w1.alloc (.cells #[.bool y.l,.string (bs y.b),.slice Ay y.ks.length cy] 53)) (w1.alloc (.cells #[.bool y.l,.string (bs y.b),.slice Ay y.ks.length cy] 53)).drew:=(Below.refl _ _).drew
 have hF:=(hbd.block _ (qg HF1.out)).trans HF1.out
 have hI:=(hbd.block _ (qg HI1.out)).trans HI1.out
 have hV:=(hbd.block _ (qg HV1.out)).trans HV1.out
 have hB:=qab HB1.out HB1.out.size hbd
 have hy:=HY1.out.keep hbd
 obtain ⟨V,hVe⟩:∃ V,w1.heap.size=V:=⟨_,rfl⟩
 rw [hVe] at hV hw1 ⊢
 refine qao [(99,fun w'=>w'.heap[w.heap.size+1]? = some (.cells #[.int .u64 n,.string (bs b),.slice A m c] 81 (0,0))∧w'.heap[V]? = some (.cells #[.bool y.l,.string (bs y.b),.slice Ay y.ks.length cy] 53 (0,0)))] (by kernel_rfl) ?_
 generalize (w1.alloc (.cells #[.bool y.l,.string (bs y.b),.slice Ay y.ks.length cy] 53)).drew=w3 at hF hI hV hB hy ⊢
 clear hbd HF1 HI1 HV1 HB1 HY1
 refine R_l (i:=0) (v:=.agg #[.bool y.l,.string (bs y.b),.slice Ay y.ks.length cy]) 99 _ List.mem_cons_self rfl (qa8 rfl rfl rfl (fun w' hS=>hS.2) Tryz.underlying53 rfl infoI) (Mh ⟨hF,hV⟩ Mn) ?_
 refine R_p (i:=1) (v:=.bool false) (Mh ⟨hF,hV⟩ Mn) ?_
 refine R_p (i:=2) (v:=.bool false) (Mh ⟨hF,hV⟩ Mn) ?_
 refine R_s (i:=3) (Mh ⟨hF,hV⟩ Mn) ?_
 refine R_s (i:=4) (Mh ⟨hF,hV⟩ Mn) ?_
 refine R_s (i:=5) (Mh ⟨hF,hV⟩ Mn) ?_
 refine R_p (i:=6) (v:=.bool false) (Mh ⟨hF,hV⟩ Mn) ?_
 refine R_p (i:=7) (v:=.bool false) (Mh ⟨hF,hV⟩ Mn) ?_
 refine R_s (i:=8) (Mh ⟨hF,hV⟩ Mn) ?_
 refine R_s (i:=9) (Mh ⟨hF,hV⟩ Mn) ?_
 refine R_s (i:=10) (Mh ⟨hF,hV⟩ Mn) ?_
 refine R_p (i:=11) (v:=.bool false) (Mh ⟨hF,hV⟩ Mn) ?_
 have d0:w3.cell? ⟨w.heap.size+1+1,0,none⟩=some (.bool false):=rc0 hI
 have d1:w3.cell? ⟨w.heap.size+1+1,1,none⟩=some (.string ⟨#[]⟩):=rc1 hI
 have d2:w3.cell? ⟨w.heap.size+1+1,2,none⟩=some (.slice none 0 0):=rc2 hI
 have f0:=rf hI 0
 have f1:=rf hI 1
 have f2:=rf hI 2
 refine R_now 12 fun K hK=>?_
 obtain ⟨W9,hW9⟩:∃ W9,W9=(((w3.setCell ⟨w.heap.size+1+1,0,none⟩ (.bool y.l)).setCell ⟨w.heap.size+1+1,1,none⟩ (.string (bs y.b))).setCell ⟨w.heap.size+1+1,2,none⟩ (.slice Ay y.ks.length cy)):=⟨_,rfl⟩
 have hI9:W9.heap[w.heap.size+1+1]? = some (.cells #[.bool y.l,.string (bs y.b),.slice Ay y.ks.length cy] 53 (0,0)):=by rw [hW9];exact qaa (qaa (qaa hI _) _) _
 have hF9:W9.heap[w.heap.size+1]? = some (.cells #[.int .u64 n,.string (bs b),.slice A m c] 81 (0,0)):=by rw [hW9];exact (qac (by omega) _).trans ((qac (by omega) _).trans ((qac (by omega) _).trans hF))
 have hV9:W9.heap[V]? = some (.cells #[.bool y.l,.string (bs y.b),.slice Ay y.ks.length cy] 53 (0,0)):=by rw [hW9];exact (qac (by omega) _).trans ((qac (by omega) _).trans ((qac (by omega) _).trans hV))
 have hB9:Below w.heap.size w W9:=by rw [hW9];exact ((hB.setCell (p:=⟨w.heap.size+1+1,_,_⟩) (by simp;omega) _).setCell (p:=⟨w.heap.size+1+1,_,_⟩) (by simp;omega) _).setCell (p:=⟨w.heap.size+1+1,_,_⟩) (by simp;omega) _
 have hy9:ItemV (From w.heap.size) W9 y Ay cy:=by rw [hW9];exact hy.mono fun k _ hk=>⟨by have:w.heap.size+3≤k:=hk;show w.heap.size≤k;omega,by have:w.heap.size+3≤k:=hk;rw [qac (by omega),qac (by omega),qac (by omega)]⟩
 have HI9:=qh hI9
 have HB9:=qh hB9
 have HY9:=qh hy9
 clear hI9 hB9 hy9 hy
 go_simp
 rw [← hW9]
 clear hW9 d0 d1 d2 f0 f1 f2
 refine hK.out _ _ (Mh ⟨hF9,hV9⟩ Mn) (fun hMeets=>?_)
 clear hK K hMeets
 refine lay_R ?_
 refine R_p (i:=13) (v:=.bool false) (Mh ⟨hF9,hV9⟩ Mn) ?_
 refine qa7 (by kernel_rfl) ?_ _
 go_wp2_with fail
 refine bodyPost_ret (v:=.tuple #[.agg #[.bool y.l,.string (bs y.b),.slice Ay y.ks.length cy],.bool false]) (qah rfl _ _ (w.heap.size+1+1) _ _ _ _ rfl HI9.out _ rfl Tryz.underlying53 rfl infoI) rfl ?_
 exact ⟨y,Ay,cy,rfl,HY9.out,(fun h=>by cases h),HB9.out⟩
theorem qr9 (n:Int) (b:Bytes) (A:Option Addr) (m c:Nat) (Ak:Option Addr) (ck:Nat) (x:Item) (ok:Bool) (hok:ok=true) (w:World) (hn:(n == 0)=true) (hb:(b == [])=false)
  (hC:Calls Tryz.prog 95 #[.agg #[.int .u8 42,.slice Ak 1 ck],.slice A m c] (((w.alloc (.cells #[.int .u8 42,.slice Ak 1 ck] 153)).alloc (.cells #[.int .u64 n,.string (bs b),.slice A m c] 81)).alloc (.cells #[.bool false,.string ⟨#[]⟩,.slice none 0 0] 53)) (FitPost x ok (((w.alloc (.cells #[.int .u8 42,.slice Ak 1 ck] 153)).alloc (.cells #[.int .u64 n,.string (bs b),.slice A m c] 81)).alloc (.cells #[.bool false,.string ⟨#[]⟩,.slice none 0 0] 53)))) :
  Calls Tryz.prog 147 #[.agg #[.int .u8 42,.slice Ak 1 ck],.agg #[.int .u64 n,.string (bs b),.slice A m c]] w (FitPost x false w):=by
 subst hok
 have hB:Below w.heap.size w (((w.alloc (.cells #[.int .u8 42,.slice Ak 1 ck] 153)).alloc (.cells #[.int .u64 n,.string (bs b),.slice A m c] 81)).alloc (.cells #[.bool false,.string ⟨#[]⟩,.slice none 0 0] 53)):=(((Below.refl _ _).alloc qn _).alloc (by simp) _).alloc (by simp;omega) _
 have hI:=heap_alloc_new ((w.alloc (.cells #[.int .u8 42,.slice Ak 1 ck] 153)).alloc (.cells #[.int .u64 n,.string (bs b),.slice A m c] 81)) (.cells #[.bool false,.string ⟨#[]⟩,.slice none 0 0] 53)
 have hF:=(heap_alloc_old ((w.alloc (.cells #[.int .u8 42,.slice Ak 1 ck] 153)).alloc (.cells #[.int .u64 n,.string (bs b),.slice A m c] 81)) (.cells #[.bool false,.string ⟨#[]⟩,.slice none 0 0] 53) (by simp)).trans (heap_alloc_new (w.alloc (.cells #[.int .u8 42,.slice Ak 1 ck] 153)) (.cells #[.int .u64 n,.string (bs b),.slice A m c] 81))
 have hsz:(((w.alloc (.cells #[.int .u8 42,.slice Ak 1 ck] 153)).alloc (.cells #[.int .u64 n,.string (bs b),.slice A m c] 81)).alloc (.cells #[.bool false,.string ⟨#[]⟩,.slice none 0 0] 53)).heap.size=w.heap.size+3:=by simp
 simp only [World.size_alloc] at hI hF
 have HB:=qh hB
 have HI:=qh hI
 have HF:=qh hF
 have HSZ:=qh hsz
 have HC:=qh hC
 clear hB hI hF hsz hC
 go_enter Tryz.func147,Tryz.ntmps147
 go_wp2_with fail
 refine HC.out.mono ?_
 clear HC
 rintro e w1 ⟨y,Ay,cy,rfl,hy1,hyx,hb1⟩
 have HYX:=qh hyx
 have hy0:ItemV (From (w.heap.size+3)) w1 y Ay cy:=by rw [← HSZ.out];exact hy1
 have hba:Below w1.heap.size w1 (w1.alloc (.cells #[.bool y.l,.string (bs y.b),.slice Ay y.ks.length cy] 53)):=(Below.refl _ _).alloc qn _
 have hw1:w.heap.size+3≤w1.heap.size:=by rw [← HSZ.out];exact hb1.size
 have HF1:=qh ((hba.block (w.heap.size+1) (by omega)).trans ((hb1.block (w.heap.size+1) (by rw [HSZ.out];omega)).trans HF.out))
 have HI1:=qh ((hba.block (w.heap.size+1+1) (by omega)).trans ((hb1.block (w.heap.size+1+1) (by rw [HSZ.out];omega)).trans HI.out))
 have HB1:=qh (qab (qab HB.out HB.out.size hb1) (by omega) hba)
 have HY1:=qh (hy0.keep hba)
 have HV1:=qh (heap_alloc_new w1 (.cells #[.bool y.l,.string (bs y.b),.slice Ay y.ks.length cy] 53))
 clear hy1 hy0 hyx hb1 hba HB HI HF HSZ
 go_wp2_with fail
 have hbd:Below (w1.alloc (.cells #[.bool y.l,.string (bs y.b),.slice Ay y.ks.length cy] 53)).heap.size (w1.alloc (.cells #[.bool y.l,.string (bs y.b),.slice Ay y.ks.length cy] 53)) (w1.alloc (.cells #[.bool y.l,.string (bs y.b),.slice Ay y.ks.length cy] 53)).drew:=(Below.refl _ _).drew
 have hF:=(hbd.block _ (qg HF1.out)).trans HF1.out
 have hI:=(hbd.block _ (qg HI1.out)).trans HI1.out
 have hV:=(hbd.block _ (qg HV1.out)).trans HV1.out
 have hB:=qab HB1.out HB1.out.size hbd
 have hy:=HY1.out.keep hbd
 obtain ⟨V,hVe⟩:∃ V,w1.heap.size=V:=⟨_,rfl⟩
 rw [hVe] at hV hw1 ⊢
 refine qao [(99,fun w'=>w'.heap[w.heap.size+1]? = some (.cells #[.int .u64 n,.string (bs b),.slice A m c] 81 (0,0))∧w'.heap[V]? = some (.cells #[.bool y.l,.string (bs y.b),.slice Ay y.ks.length cy] 53 (0,0)))] (by kernel_rfl) ?_
 generalize (w1.alloc (.cells #[.bool y.l,.string (bs y.b),.slice Ay y.ks.length cy] 53)).drew=w3 at hF hI hV hB hy ⊢
 clear hbd HF1 HI1 HV1 HB1 HY1
 refine R_l (i:=0) (v:=.agg #[.bool y.l,.string (bs y.b),.slice Ay y.ks.length cy]) 99 _ List.mem_cons_self rfl (qa8 rfl rfl rfl (fun w' hS=>hS.2) Tryz.underlying53 rfl infoI) (Mh ⟨hF,hV⟩ Mn) ?_
 refine R_p (i:=1) (v:=.bool true) (Mh ⟨hF,hV⟩ Mn) ?_
 refine R_p (i:=2) (v:=.bool true) (Mh ⟨hF,hV⟩ Mn) ?_
 refine R_p (i:=3) (v:=.pointer (some ⟨w.heap.size+1,0,none⟩)) (Mh ⟨hF,hV⟩ Mn) ?_
 refine R_l (i:=4) (v:=.int .u64 n) 99 _ List.mem_cons_self rfl (qae rfl rfl rfl (fun w' hS=>rc hS.1 0 rfl) Tryz.underlying22 rfl) (Mh ⟨hF,hV⟩ Mn) ?_
 refine R_p (i:=5) (v:=.bool true) (Mh ⟨hF,hV⟩ Mn) ?_
 refine R_p (i:=6) (v:=.bool true) (Mh ⟨hF,hV⟩ Mn) ?_
 refine R_p (i:=7) (v:=.bool true) (Mh ⟨hF,hV⟩ Mn) ?_
 refine R_p (i:=8) (v:=.pointer (some ⟨w.heap.size+1,1,none⟩)) (Mh ⟨hF,hV⟩ Mn) ?_
 refine R_l (i:=9) (v:=.string (bs b)) 99 _ List.mem_cons_self rfl (qae rfl rfl rfl (fun w' hS=>rc hS.1 1 rfl) Tryz.underlying9 rfl) (Mh ⟨hF,hV⟩ Mn) ?_
 refine R_p (i:=10) (v:=.bool false) (Mh ⟨hF,hV⟩ Mn) ?_
 refine R_p (i:=11) (v:=.bool false) (Mh ⟨hF,hV⟩ Mn) ?_
 have d0:w3.cell? ⟨w.heap.size+1+1,0,none⟩=some (.bool false):=rc0 hI
 have d1:w3.cell? ⟨w.heap.size+1+1,1,none⟩=some (.string ⟨#[]⟩):=rc1 hI
 have d2:w3.cell? ⟨w.heap.size+1+1,2,none⟩=some (.slice none 0 0):=rc2 hI
 have f0:=rf hI 0
 have f1:=rf hI 1
 have f2:=rf hI 2
 refine R_now 12 fun K hK=>?_
 obtain ⟨W9,hW9⟩:∃ W9,W9=(((w3.setCell ⟨w.heap.size+1+1,0,none⟩ (.bool y.l)).setCell ⟨w.heap.size+1+1,1,none⟩ (.string (bs y.b))).setCell ⟨w.heap.size+1+1,2,none⟩ (.slice Ay y.ks.length cy)):=⟨_,rfl⟩
 have hI9:W9.heap[w.heap.size+1+1]? = some (.cells #[.bool y.l,.string (bs y.b),.slice Ay y.ks.length cy] 53 (0,0)):=by rw [hW9];exact qaa (qaa (qaa hI _) _) _
 have hF9:W9.heap[w.heap.size+1]? = some (.cells #[.int .u64 n,.string (bs b),.slice A m c] 81 (0,0)):=by rw [hW9];exact (qac (by omega) _).trans ((qac (by omega) _).trans ((qac (by omega) _).trans hF))
 have hV9:W9.heap[V]? = some (.cells #[.bool y.l,.string (bs y.b),.slice Ay y.ks.length cy] 53 (0,0)):=by rw [hW9];exact (qac (by omega) _).trans ((qac (by omega) _).trans ((qac (by omega) _).trans hV))
 have hB9:Below w.heap.size w W9:=by rw [hW9];exact ((hB.setCell (p:=⟨w.heap.size+1+1,_,_⟩) (by simp;omega) _).setCell (p:=⟨w.heap.size+1+1,_,_⟩) (by simp;omega) _).setCell (p:=⟨w.heap.size+1+1,_,_⟩) (by simp;omega) _
 have hy9:ItemV (From w.heap.size) W9 y Ay cy:=by rw [hW9];exact hy.mono fun k _ hk=>⟨by have:w.heap.size+3≤k:=hk;show w.heap.size≤k;omega,by have:w.heap.size+3≤k:=hk;rw [qac (by omega),qac (by omega),qac (by omega)]⟩
 have HI9:=qh hI9
 have HB9:=qh hB9
 have HY9:=qh hy9
 clear hI9 hB9 hy9 hy
 go_simp
 rw [← hW9]
 clear hW9 d0 d1 d2 f0 f1 f2
 refine hK.out _ _ (Mh ⟨hF9,hV9⟩ Mn) (fun hMeets=>?_)
 clear hK K hMeets
 refine lay_R ?_
 refine R_p (i:=13) (v:=.bool false) (Mh ⟨hF9,hV9⟩ Mn) ?_
 refine qa7 (by kernel_rfl) ?_ _
 go_wp2_with fail
 refine bodyPost_ret (v:=.tuple #[.agg #[.bool y.l,.string (bs y.b),.slice Ay y.ks.length cy],.bool false]) (qah rfl _ _ (w.heap.size+1+1) _ _ _ _ rfl HI9.out _ rfl Tryz.underlying53 rfl infoI) rfl ?_
 exact ⟨y,Ay,cy,rfl,HY9.out,(fun h=>by cases h),HB9.out⟩
theorem qvh (n:Int) (b:Bytes) (A:Option Addr) (m c:Nat) (Ak:Option Addr) (ck:Nat) (x:Item) (ok:Bool) (hok:ok=true) (w:World) (hn:(n == 0)=true) (hb:(b == [])=true)
  (hC:Calls Tryz.prog 95 #[.agg #[.int .u8 42,.slice Ak 1 ck],.slice A m c] (((w.alloc (.cells #[.int .u8 42,.slice Ak 1 ck] 153)).alloc (.cells #[.int .u64 n,.string (bs b),.slice A m c] 81)).alloc (.cells #[.bool false,.string ⟨#[]⟩,.slice none 0 0] 53)) (FitPost x ok (((w.alloc (.cells #[.int .u8 42,.slice Ak 1 ck] 153)).alloc (.cells #[.int .u64 n,.string (bs b),.slice A m c] 81)).alloc (.cells #[.bool false,.string ⟨#[]⟩,.slice none 0 0] 53)))) :
  Calls Tryz.prog 147 #[.agg #[.int .u8 42,.slice Ak 1 ck],.agg #[.int .u64 n,.string (bs b),.slice A m c]] w (FitPost x true w):=by
 subst hok
 have hB:Below w.heap.size w (((w.alloc (.cells #[.int .u8 42,.slice Ak 1 ck] 153)).alloc (.cells #[.int .u64 n,.string (bs b),.slice A m c] 81)).alloc (.cells #[.bool false,.string ⟨#[]⟩,.slice none 0 0] 53)):=(((Below.refl _ _).alloc qn _).alloc (by simp) _).alloc (by simp;omega) _
 have hI:=heap_alloc_new ((w.alloc (.cells #[.int .u8 42,.slice Ak 1 ck] 153)).alloc (.cells #[.int .u64 n,.string (bs b),.slice A m c] 81)) (.cells #[.bool false,.string ⟨#[]⟩,.slice none 0 0] 53)
 have hF:=(heap_alloc_old ((w.alloc (.cells #[.int .u8 42,.slice Ak 1 ck] 153)).alloc (.cells #[.int .u64 n,.string (bs b),.slice A m c] 81)) (.cells #[.bool false,.string ⟨#[]⟩,.slice none 0 0] 53) (by simp)).trans (heap_alloc_new (w.alloc (.cells #[.int .u8 42,.slice Ak 1 ck] 153)) (.cells #[.int .u64 n,.string (bs b),.slice A m c] 81))
 have hsz:(((w.alloc (.cells #[.int .u8 42,.slice Ak 1 ck] 153)).alloc (.cells #[.int .u64 n,.string (bs b),.slice A m c] 81)).alloc (.cells #[.bool false,.string ⟨#[]⟩,.slice none 0 0] 53)).heap.size=w.heap.size+3:=by simp
 simp only [World.size_alloc] at hI hF
 have HB:=qh hB
 have HI:=qh hI
 have HF:=qh hF
 have HSZ:=qh hsz
 have HC:=qh hC
 clear hB hI hF hsz hC
 go_enter Tryz.func147,Tryz.ntmps147
 go_wp2_with fail
 refine HC.out.mono ?_
 clear HC
 rintro e w1 ⟨y,Ay,cy,rfl,hy1,hyx,hb1⟩
 have HYX:=qh hyx
 have hy0:ItemV (From (w.heap.size+3)) w1 y Ay cy:=by rw [← HSZ.out];exact hy1
 have hba:Below w1.heap.size w1 (w1.alloc (.cells #[.bool y.l,.string (bs y.b),.slice Ay y.ks.length cy] 53)):=(Below.refl _ _).alloc qn _
 have hw1:w.heap.size+3≤w1.heap.size:=by rw [← HSZ.out];exact hb1.size
 have HF1:=qh ((hba.block (w.heap.size+1) (by omega)).trans ((hb1.block (w.heap.size+1) (by rw [HSZ.out];omega)).trans HF.out))
 have HI1:=qh ((hba.block (w.heap.size+1+1) (by omega)).trans ((hb1.block (w.heap.size+1+1) (by rw [HSZ.out];omega)).trans HI.out))
 have HB1:=qh (qab (qab HB.out HB.out.size hb1) (by omega) hba)
 have HY1:=qh (hy0.keep hba)
 have HV1:=qh (heap_alloc_new w1 (.cells #[.bool y.l,.string (bs y.b),.slice Ay y.ks.length cy] 53))
 clear hy1 hy0 hyx hb1 hba HB HI HF HSZ
 go_wp2_with fail
 have hbd:Below (w1.alloc (.cells #[.bool y.l,.string (bs y.b),.slice Ay y.ks.length cy] 53)).heap.size (w1.alloc (.cells #[.bool y.l,.string (bs y.b),.slice Ay y.ks.length cy] 53)) (w1.alloc (.cells #[.bool y.l,.string (bs y.b),.slice Ay y.ks.length cy] 53)).drew:=(Below.refl _ _).drew
 have hF:=(hbd.block _ (qg HF1.out)).trans HF1.out
 have hI:=(hbd.block _ (qg HI1.out)).trans HI1.out
 have hV:=(hbd.block _ (qg HV1.out)).trans HV1.out
 have hB:=qab HB1.out HB1.out.size hbd
 have hy:=HY1.out.keep hbd
 obtain ⟨V,hVe⟩:∃ V,w1.heap.size=V:=⟨_,rfl⟩
 rw [hVe] at hV hw1 ⊢
 refine qao [(99,fun w'=>w'.heap[w.heap.size+1]? = some (.cells #[.int .u64 n,.string (bs b),.slice A m c] 81 (0,0))∧w'.heap[V]? = some (.cells #[.bool y.l,.string (bs y.b),.slice Ay y.ks.length cy] 53 (0,0)))] (by kernel_rfl) ?_
 generalize (w1.alloc (.cells #[.bool y.l,.string (bs y.b),.slice Ay y.ks.length cy] 53)).drew=w3 at hF hI hV hB hy ⊢
 clear hbd HF1 HI1 HV1 HB1 HY1
 refine R_l (i:=0) (v:=.agg #[.bool y.l,.string (bs y.b),.slice Ay y.ks.length cy]) 99 _ List.mem_cons_self rfl (qa8 rfl rfl rfl (fun w' hS=>hS.2) Tryz.underlying53 rfl infoI) (Mh ⟨hF,hV⟩ Mn) ?_
 refine R_p (i:=1) (v:=.bool true) (Mh ⟨hF,hV⟩ Mn) ?_
 refine R_p (i:=2) (v:=.bool true) (Mh ⟨hF,hV⟩ Mn) ?_
 refine R_p (i:=3) (v:=.pointer (some ⟨w.heap.size+1,0,none⟩)) (Mh ⟨hF,hV⟩ Mn) ?_
 refine R_l (i:=4) (v:=.int .u64 n) 99 _ List.mem_cons_self rfl (qae rfl rfl rfl (fun w' hS=>rc hS.1 0 rfl) Tryz.underlying22 rfl) (Mh ⟨hF,hV⟩ Mn) ?_
 refine R_p (i:=5) (v:=.bool true) (Mh ⟨hF,hV⟩ Mn) ?_
 refine R_p (i:=6) (v:=.bool true) (Mh ⟨hF,hV⟩ Mn) ?_
 refine R_p (i:=7) (v:=.bool true) (Mh ⟨hF,hV⟩ Mn) ?_
 refine R_p (i:=8) (v:=.pointer (some ⟨w.heap.size+1,1,none⟩)) (Mh ⟨hF,hV⟩ Mn) ?_
 refine R_l (i:=9) (v:=.string (bs b)) 99 _ List.mem_cons_self rfl (qae rfl rfl rfl (fun w' hS=>rc hS.1 1 rfl) Tryz.underlying9 rfl) (Mh ⟨hF,hV⟩ Mn) ?_
 refine R_p (i:=10) (v:=.bool true) (Mh ⟨hF,hV⟩ Mn) ?_
 refine R_p (i:=11) (v:=.bool true) (Mh ⟨hF,hV⟩ Mn) ?_
 have d0:w3.cell? ⟨w.heap.size+1+1,0,none⟩=some (.bool false):=rc0 hI
 have d1:w3.cell? ⟨w.heap.size+1+1,1,none⟩=some (.string ⟨#[]⟩):=rc1 hI
 have d2:w3.cell? ⟨w.heap.size+1+1,2,none⟩=some (.slice none 0 0):=rc2 hI
 have f0:=rf hI 0
 have f1:=rf hI 1
 have f2:=rf hI 2
 refine R_now 12 fun K hK=>?_
 obtain ⟨W9,hW9⟩:∃ W9,W9=(((w3.setCell ⟨w.heap.size+1+1,0,none⟩ (.bool y.l)).setCell ⟨w.heap.size+1+1,1,none⟩ (.string (bs y.b))).setCell ⟨w.heap.size+1+1,2,none⟩ (.slice Ay y.ks.length cy)):=⟨_,rfl⟩
 have hI9:W9.heap[w.heap.size+1+1]? = some (.cells #[.bool y.l,.string (bs y.b),.slice Ay y.ks.length cy] 53 (0,0)):=by rw [hW9];exact qaa (qaa (qaa hI _) _) _
 have hF9:W9.heap[w.heap.size+1]? = some (.cells #[.int .u64 n,.string (bs b),.slice A m c] 81 (0,0)):=by rw [hW9];exact (qac (by omega) _).trans ((qac (by omega) _).trans ((qac (by omega) _).trans hF))
 have hV9:W9.heap[V]? = some (.cells #[.bool y.l,.string (bs y.b),.slice Ay y.ks.length cy] 53 (0,0)):=by rw [hW9];exact (qac (by omega) _).trans ((qac (by omega) _).trans ((qac (by omega) _).trans hV))
 have hB9:Below w.heap.size w W9:=by rw [hW9];exact ((hB.setCell (p:=⟨w.heap.size+1+1,_,_⟩) (by simp;omega) _).setCell (p:=⟨w.heap.size+1+1,_,_⟩) (by simp;omega) _).setCell (p:=⟨w.heap.size+1+1,_,_⟩) (by simp;omega) _
 have hy9:ItemV (From w.heap.size) W9 y Ay cy:=by rw [hW9];exact hy.mono fun k _ hk=>⟨by have:w.heap.size+3≤k:=hk;show w.heap.size≤k;omega,by have:w.heap.size+3≤k:=hk;rw [qac (by omega),qac (by omega),qac (by omega)]⟩
 have HI9:=qh hI9
 have HB9:=qh hB9
 have HY9:=qh hy9
 clear hI9 hB9 hy9 hy
 go_simp
 rw [← hW9]
 clear hW9 d0 d1 d2 f0 f1 f2
 refine hK.out _ _ (Mh ⟨hF9,hV9⟩ Mn) (fun hMeets=>?_)
 clear hK K hMeets
 refine lay_R ?_
 refine R_p (i:=13) (v:=.bool true) (Mh ⟨hF9,hV9⟩ Mn) ?_
 refine qa7 (by kernel_rfl) ?_ _
 go_wp2_with fail
 refine bodyPost_ret (v:=.tuple #[.agg #[.bool y.l,.string (bs y.b),.slice Ay y.ks.length cy],.bool true]) (qah rfl _ _ (w.heap.size+1+1) _ _ _ _ rfl HI9.out _ rfl Tryz.underlying53 rfl infoI) rfl ?_
 exact ⟨y,Ay,cy,rfl,HY9.out,fun _=>HYX.out (by simp),HB9.out⟩
theorem qul {α β:Type} (l:List α) (d:α) (f:α→β):(List.range l.length).map (fun i=>f (l.getD i d))=l.map f:=by
 apply List.ext_getElem?
 intro i
 by_cases h:i < l.length
 ·simp [h,List.getD_eq_getElem?_getD]
 ·simp [h]
theorem qrl {α:Type} (l:List α) (d:α) (f:α→Bool):(List.range l.length).all (fun i=>f (l.getD i d))=l.all f:=by
 rw [Bool.eq_iff_iff,List.all_eq_true,List.all_eq_true]
 constructor
 ·intro h x hx
  obtain ⟨i,hi⟩:=List.getElem?_of_mem hx
  have:=h i (List.mem_range.2 (List.getElem?_eq_some_iff.1 hi).1)
  rw [List.getD_eq_getElem?_getD,hi] at this
  exact this
 ·intro h i hi
  have hi:=List.mem_range.1 hi
  rw [List.getD_eq_getElem?_getD,List.getElem?_eq_getElem hi]
  exact h _ (List.getElem_mem hi)
theorem qbc {α:Type} {l:List α} {i:Nat} {d x:α} (h:l[i]? = some x):l.getD i d=x:=by rw [List.getD_eq_getElem?_getD,h];rfl
theorem lfs_up {S:Nat→Prop} {w:World} {l:List Lf} {A:Option Addr} {c:Nat} (h:LfsV S w l A c):FdsV S w (l.map upF) A c:=by
 unfold FdsV;rw [qm0,List.length_map];exact h
theorem qd6 {S:Nat→Prop} {w:World} {c:UInt8} {cs:List Value} (h:Rep S w (kdD ⟨c,true⟩) cs):∃ g o ck,cs = [.int .u8 42,.slice (some ⟨g,o,none⟩) 1 ck]∧w.cell? ⟨g,o,none⟩=some (.int .u8 c.toNat)∧w.cell? ⟨g,o+1,none⟩=some (.slice none 0 0):=by
 obtain ⟨a,b,rfl,h1,h2⟩:=h.st_form.cons_form
 obtain ⟨c0,d0,rfl,h3,h4⟩:=h2.cons_form
 obtain ⟨A,m,ck,rfl⟩:=h3.slice_form
 obtain ⟨g,o,ci,hA,_,r1,r2,r3⟩:=Rep.slice_at h3 (by omega) (i:=0) (d:=plainD c) rfl
 have hm:=h3.slice_len.1
 have hci:=qbx r1
 subst hA;subst hm;subst hci
 rw [h1.v_form,h4.nil_form]
 exact ⟨g,o,ck,rfl,by simpa using r3 0 _ rfl,by simpa using r3 1 _ rfl⟩
theorem qj8 (kc:UInt8) (hkc:okC kc) (f:Fd) (hn:f.n < 18446744073709551616) (hs:∀ x∈f.l,x.1 < 18446744073709551616) (hl:f.l.length≤100000) (s:Int) (A1:Option Addr) (n1 c1:Nat) (A:Option Addr) (c:Nat) (w:World)
  (hk:Rep Any w (kdD ⟨kc,true⟩) [.int .u8 s,.slice A1 n1 c1]) (hv:LfsV Any w f.l A c) :
  Calls Tryz.prog 147 #[.agg #[.int .u8 s,.slice A1 n1 c1],.agg (fdC f A c).toArray] w (FitPost (itemF ⟨kc,true⟩ f) (fitF ⟨kc,true⟩ f) w):=by
 obtain ⟨g,o,ck,hcs,z0,z1⟩:=qd6 hk
 simp only [List.cons.injEq,Value.int.injEq,Value.slice.injEq,true_and,and_true] at hcs
 obtain ⟨rfl,rfl,rfl,rfl⟩:=hcs
 obtain ⟨n,b,l⟩:=f
 simp only [] at hn hs hl hv
 obtain ⟨W,hW⟩:∃ W,W=((w.alloc (.cells #[.int .u8 42,.slice (some ⟨g,o,none⟩) 1 c1] 153)).alloc (.cells #[.int .u64 (n:Int),.string (bs b),.slice A l.length c] 81)).alloc (.cells #[.bool false,.string ⟨#[]⟩,.slice none 0 0] 53):=⟨_,rfl⟩
 have hB:Below w.heap.size w W:=by rw [hW];exact (((Below.refl _ _).alloc qn _).alloc (by simp) _).alloc (by simp;omega) _
 have hit:=qqc (l.map upF) (fun i=>lfI kc (l.getD i (0,[]))) (fun i=>fitC kc (l.getD i (0,[]))) kc (fun _=>⟨kc,false⟩) (fun _=>rfl) (some ⟨g,o,none⟩) c1 A c W
  (fun W' hb'=>⟨g,o,rfl,((hB.trans (hb'.mono hB.size)).cell (p:=⟨g,o,none⟩) (qap z0)).trans z0,((hB.trans (hb'.mono hB.size)).cell (p:=⟨g,o+1,none⟩) (qap z1)).trans z1⟩)
  (Rep.keep (lfs_up hv) hB) (fun i f s A1 n1 c1 A2 c2 W' hf hr hlv=>by
   rw [List.getElem?_map] at hf
   obtain ⟨x,hx,rfl⟩:=Option.map_eq_some_iff.1 hf
   have hcs:=qbx (c:=kc) hr
   simp only [cellK,List.cons.injEq,Value.int.injEq,Value.slice.injEq,true_and,and_true] at hcs
   obtain ⟨rfl,rfl,rfl,rfl⟩:=hcs
   rw [qbc hx]
   exact qe9 kc hkc x.1 (hs x (List.mem_of_getElem? hx)) x.2 A2 0 c2 W')
 rw [List.length_map,qul,qrl] at hit
 rw [hW] at hit
 have hx:itemF ⟨kc,true⟩ ⟨n,b,l⟩=listIt (l.map (lfI kc)):=rfl
 have hf:fitF ⟨kc,true⟩ ⟨n,b,l⟩=((n == 0) && b.isEmpty && (decide (l.length≤40) && l.all (fitC kc))):=by simp [fitF,Bool.and_assoc]
 have hnB:((n:Int) == 0)=(n == 0):=by rw [Bool.eq_iff_iff];simp only [beq_iff_eq];omega
 rw [hx,hf]
 obtain ⟨OK,hOK⟩:∃ OK,(decide (l.length≤40) && l.all (fitC kc))=OK:=⟨_,rfl⟩
 rw [hOK] at hit ⊢
 cases hA:(n == 0)
 ·cases OK
  ·exact qss n b A l.length c (some ⟨g,o,none⟩) c1 _ _ rfl w (by rw [hnB,hA]) hit
  ·exact qts n b A l.length c (some ⟨g,o,none⟩) c1 _ _ rfl w (by rw [hnB,hA]) hit
 ·cases OK
  ·rw [Bool.and_false];exact qs1 n b A l.length c (some ⟨g,o,none⟩) c1 _ _ rfl w (by rw [hnB,hA]) hit
  ·cases hC:b.isEmpty
   ·exact qr9 n b A l.length c (some ⟨g,o,none⟩) c1 _ _ rfl w (by rw [hnB,hA]) (by cases b <;> simp_all) hit
   ·exact qvh n b A l.length c (some ⟨g,o,none⟩) c1 _ _ rfl w (by rw [hnB,hA]) (by cases b <;> simp_all) hit
theorem qtm (k:Kd) (hkc:okC k.c) (f:Fd) (hn:f.n < 18446744073709551616) (hs:∀ x∈f.l,x.1 < 18446744073709551616) (hl:f.l.length≤100000) (s:Int) (A1:Option Addr) (n1 c1:Nat) (A:Option Addr) (c:Nat) (w:World)
  (hk:Rep Any w (kdD k) [.int .u8 s,.slice A1 n1 c1]) (hv:LfsV Any w f.l A c) :
  Calls Tryz.prog 147 #[.agg #[.int .u8 s,.slice A1 n1 c1],.agg (fdC f A c).toArray] w (FitPost (itemF k f) (fitF k f) w):=by
 obtain ⟨kc,st⟩:=k
 cases st with
 | true=>exact qj8 kc hkc f hn hs hl s A1 n1 c1 A c w hk hv
 | false =>
  have hcs:=qbx (c:=kc) hk
  simp only [cellK,List.cons.injEq,Value.int.injEq,Value.slice.injEq,true_and,and_true] at hcs
  obtain ⟨rfl,rfl,rfl,rfl⟩:=hcs
  have:=qe9 kc hkc f.n hn f.b A f.l.length c w
  have hf:fitF ⟨kc,false⟩ f=((f.l.length == 0) && fitC kc (f.n,f.b)):=by
   unfold fitF;rw [if_neg (by simp)];cases f.l <;> simp
  rw [hf]
  exact this
/- The walk of frame.Write. -/
/-- what frame.Write answers -/
def fwP (ks:List Kd) (fs:List Fd):Bytes×Nat:=if fitsP ks fs=true then encR (recF ks fs) else ([],1)
def noF:Fd:=⟨0,[],[]⟩
def noK:Kd:=⟨0,false⟩
theorem qe4:∀ (ks:List Kd) (fs:List Fd),(decide (fs.length=ks.length) && (List.range fs.length).all fun i=>fitF (ks.getD i noK) (fs.getD i noF))=fitsP ks fs
 | [],[]=>rfl
 | [],f :: fs=>by simp [fitsP]
 | k :: ks,[]=>by simp [fitsP]
 | k :: ks,f :: fs=>by
  rw [fitsP,← qe4 ks fs]
  have h:(List.range (f :: fs).length).all (fun i=>fitF ((k :: ks).getD i noK) ((f :: fs).getD i noF))=(fitF k f && (List.range fs.length).all fun i=>fitF (ks.getD i noK) (fs.getD i noF)):=by
   rw [List.length_cons,List.range_succ_eq_map,List.all_cons,List.all_map]
   rfl
  rw [h]
  have h2:decide ((f :: fs).length=(k :: ks).length)=decide (fs.length=ks.length):=by simp
  rw [h2]
  cases decide (fs.length=ks.length) <;> cases fitF k f <;> rfl
theorem qfp:∀ (ks:List Kd) (fs:List Fd),fs.length=ks.length→(List.range fs.length).map (fun i=>itemF (ks.getD i noK) (fs.getD i noF))=itemsF ks fs
 | [],[],_=>rfl
 | [],f :: fs,h=>by simp at h
 | k :: ks,[],h=>by simp at h
 | k :: ks,f :: fs,h=>by
  rw [itemsF,← qfp ks fs (by simpa using h),List.length_cons,List.range_succ_eq_map,List.map_cons,List.map_map]
  rfl
theorem qga:∀ (ks:List Kd) (fs:List Fd),fitsP ks fs=true→totF fs≤21 * (formP ks).length
 | [],[],_=>by simp [totF,sumL]
 | [],f :: fs,h=>by simp [fitsP] at h
 | k :: ks,[],h=>by simp [fitsP] at h
 | k :: ks,f :: fs,h=>by
  simp only [fitsP,Bool.and_eq_true] at h
  have ih:=qga ks fs h.2
  have h1:1+f.l.length≤21 * k.txt.length:=by
   have hf:=h.1
   unfold fitF at hf
   unfold Kd.txt
   cases hs:k.star with
   | true=>rw [hs] at hf;simp at hf;simp;omega
   | false=>rw [hs] at hf;simp at hf;simp [hf.1]
  simp only [totF,sumL,formP,List.length_cons,List.length_append] at ih ⊢
  omega
theorem qhg {fs:List Fd} (h:smallF fs) {i:Nat} {f:Fd} (hi:fs[i]? = some f):f.n < 18446744073709551616∧∀ x∈f.l,x.1 < 18446744073709551616:=h f (List.mem_of_getElem? hi)
theorem qgh (ks:List Kd) (hf:OkForm ks) (hl:(formP ks).length≤40) (hk:ks.length≤20) (fs:List Fd) (hn:smallF fs) (hfl:fs.length≤1000) (hll:∀ f∈fs,f.l.length≤100000) (A:Option Addr) (c:Nat) (w:World) (hv:FdsV Any w fs A c) :
  Calls Tryz.prog 42 #[.string (bs (formP ks)),.slice A fs.length c] w fun e w'=>e=.returned (.tuple #[.string (bs (fwP ks fs).1),.int .i64 (fwP ks fs).2])∧Below w.heap.size w w':=by
 have hK:=ql4 ks hf hl w
 have hno:¬ totF fs≤1000→fwP ks fs=([],1):=fun h=>by
  unfold fwP
  rw [if_neg]
  intro h1
  have:=qga ks fs h1
  omega
 have htop:∀ (Ak:Option Addr) (ck:Nat) (W:World),KindsV Any W ks Ak ck→Below w.heap.size w W→Calls Tryz.prog 95 #[.agg #[.int .u8 40,.slice Ak ks.length ck],.slice A fs.length c] W (FitPost (recF ks fs) (fitsP ks fs) W):=fun Ak ck W hkv hb=>by
  have:=qsf fs (fun i=>itemF (ks.getD i noK) (fs.getD i noF)) (fun i=>fitF (ks.getD i noK) (fs.getD i noF)) ks (fun i=>ks.getD i noK) (fun i k hi=>qbc hi) (by omega) Ak ck A c W hkv (Rep.keep hv hb)
   (fun i f s A1 n1 c1 A2 c2 W' hi hks hr hlv=>by
    obtain ⟨k,hki⟩:=Option.isSome_iff_exists.1 hks
    rw [qbc hi]
    rw [qbc hki] at hr ⊢
    exact qtm k (hf k (List.mem_of_getElem? hki)) f (qhg hn hi).1 (qhg hn hi).2 (hll f (List.mem_of_getElem? hi)) s A1 n1 c1 A2 c2 W' hr hlv)
  rw [qe4] at this
  refine this.mono fun e w' ⟨y,Ay,cy,h1,h2,h3,h4⟩=>⟨y,Ay,cy,h1,h2,fun h=>?_,h4⟩
  rw [h3 h]
  unfold recF
  rw [qfp ks fs (qen h).symm]
 have hfine:=fun (h:fitsP ks fs=true)=>qd5 h hn hk
 obtain ⟨FW,hFW⟩:∃ FW,fwP ks fs=FW:=⟨_,rfl⟩
 have hyes:fitsP ks fs=true→encR (recF ks fs)=FW:=fun h=>by rw [← hFW];unfold fwP;rw [if_pos h]
 have hnot:fitsP ks fs=false→FW=([],1):=fun h=>by rw [← hFW];unfold fwP;rw [if_neg (by rw [h];decide)]
 rw [hFW] at hno ⊢
 obtain ⟨F,hF⟩:∃ F,formP ks=F:=⟨_,rfl⟩
 rw [hF] at hK ⊢
 have HK:=qh hK
 have HT:=qh htop
 have HV:=qh hv
 have HNO:=qh hno
 have HFINE:=qh hfine
 have HYES:=qh hyes
 have HNOT:=qh hnot
 clear hK hno htop hfine hFW hF hv hf hn hll hl hk hyes hnot
 go_enter Tryz.func42,Tryz.ntmps42
 go_wp2_with fail
 refine HK.out.mono ?_
 clear HK
 rintro e w1 ⟨Ak,ck,rfl,hkv1,hb1⟩
 have HKV:=qh hkv1
 have HB1:=qh hb1
 clear hkv1
 go_wp2_with fail
 refine (qtc fs hfl A c w1 (Rep.keep HV.out hb1)).mono ?_
 clear hb1
 rintro e w2 ⟨b2,rfl,hb2c,hb2⟩
 have HBC:=qh hb2c
 have HB2:=qh (qab HB1.out HB1.out.size hb2)
 have HKV2:=qh (Rep.keep HKV.out hb2)
 clear hb2c hb2 HKV HB1
 cases b2 with
 | false =>
  have hno:FW=([],1):=HNO.out (fun h=>by have:=HBC.out h;cases this)
  have HN:=qh hno
  clear hno
  go_wp2_with fail
  go_ret2
  rw [HN.out]
  exact ⟨rfl,HB2.out⟩
 | true =>
  go_wp2_with fail
  refine (HT.out Ak ck w2 (Rep.any HKV2.out) HB2.out).mono ?_
  rintro e w3 ⟨y,Ay,cy,rfl,hy,hyx,hb3⟩
  have HB3:=qh (qab HB2.out HB2.out.size hb3)
  have HY:=qh hy
  have HYX:=qh hyx
  obtain ⟨OK,hOK⟩:∃ OK,fitsP ks fs=OK:=⟨_,rfl⟩
  rw [hOK] at HYX HFINE HYES HNOT ⊢
  clear hb3 hy hyx HKV2 HB2 hOK HT HV
  cases OK with
  | false =>
   go_wp2_with fail
   go_ret2
   rw [HNOT.out (by simp)]
   exact ⟨rfl,HB3.out.alloc HB3.out.size _⟩
  | true =>
   have hyr:=HYX.out (by simp)
   have hf:=HFINE.out (by simp)
   rw [← hyr] at hf
   have hE:=qpf y Ay cy (w3.alloc (.cells #[.bool y.l,.string (bs y.b),.slice Ay y.ks.length cy] 53)) (by omega) (HY.out.alloc _).any
   rw [show encR y=FW from by rw [hyr];exact HYES.out (by simp)] at hE
   have HE:=qh hE
   clear hE hyr hf HYX
   go_wp2_with fail
   refine HE.out.mono ?_
   rintro e w4 ⟨rfl,hb4⟩
   go_wp2_with fail
   go_ret2
   exact ⟨rfl,qab (HB3.out.alloc HB3.out.size _) (by have:=HB3.out.size;simp;omega) hb4⟩
/- Rows of texts in memory. -/
def strD (p:Bytes):D:=.v (.string (bs p))
def strsD (ps:List Bytes):List D:=ps.map strD
/-- a row of texts as it lies in memory -/
def StrV (S:Nat→Prop) (w:World) (ps:List Bytes) (A:Option Addr) (c:Nat):Prop:=Rep S w (.sl 1 (strsD ps)) [.slice A ps.length c]
section
variable {S S':Nat→Prop} {w w':World} {ps:List Bytes} {A:Option Addr} {c:Nat}
theorem StrV.keep (h:StrV S w ps A c) (hb:Below w.heap.size w w'):StrV S w' ps A c:=Rep.keep h hb
theorem StrV.any (h:StrV S w ps A c):StrV Any w ps A c:=Rep.any h
theorem StrV.at_ {i:Nat} {p:Bytes} (h:StrV S w ps A c) (hi:ps[i]? = some p):∃ g o,A=some ⟨g,o,none⟩∧S g∧w.cell? ⟨g,o+i,none⟩=some (.string (bs p)):=by
 obtain ⟨g,o,ci,hA,hs,hr,_,hc⟩:=h.slice_at (i:=i) (d:=strD p) (by omega) (by simp [strsD,hi])
 have:=hr.v_form
 subst this
 exact ⟨g,o,hA,hs,by simpa using hc 0 _ rfl⟩
theorem qq0 {ys:List Value} {q:Bytes} (h:RepN S w 1 (strsD ps) ys):RepN S w 1 (strsD (ps ++ [q])) (ys ++ [.string (bs q)]):=by
 unfold strsD;rw [List.map_append];exact RepN.snoc (.v _ rfl) rfl h
end
theorem elStr:ElemOk Tryz.prog 109 9 (.string (bs [])) 1 16:=⟨Tryz.underlying109,by kernel_rfl,rfl,by omega⟩
/- The walks of the reference's records: end, Kinds. -/
theorem qle (F:Bytes) (hF:F.length≤1000) (a:Nat) (c:UInt8) (hc:okC c) (ha:F[a]? = some c) (d:Int) (w:World) :
  Calls Tryz.prog 152 #[.string (bs F),.int .i64 (a:Int),.int .i64 d] w fun e w'=>e=.returned (.int .i64 ((a+1:Nat):Int))∧w=w':=by
 obtain ⟨hlt,hx⟩:=List.getElem?_eq_some_iff.1 ha
 have hlI:(a:Int) < F.length:=by omega
 have hFI:(F.length:Int)≤1000:=by omega
 clear ha
 rcases hc with rfl | rfl | rfl | rfl | rfl
 all_goals
  go_enter Tryz.func152,Tryz.ntmps152
  go_wp2_with fail
  go_ret
  exact ⟨by simp,rfl⟩
theorem end_any (F:Bytes) (hF:F.length≤1000) (a:Nat) (k:Kd) (hc:okC k.c) (t:Bytes) (ha:F.drop a=k.txt ++ t) (w:World) :
  Calls Tryz.prog 152 #[.string (bs F),.int .i64 (a:Int),.int .i64 0] w fun e w'=>e=.returned (.int .i64 ((a+k.txt.length:Nat):Int))∧w=w':=by
 obtain ⟨c,st⟩:=k
 cases st with
 | false =>
  have h0:F[a]? = some c:=by
   have:(F.drop a)[0]? = some c:=by rw [ha];rfl
   rwa [List.getElem?_drop,Nat.add_zero] at this
  exact qle F hF a c hc h0 0 w
 | true =>
  have h0:F[a]? = some 42:=by
   have:(F.drop a)[0]? = some 42:=by rw [ha];rfl
   rwa [List.getElem?_drop,Nat.add_zero] at this
  have h1:F[a+1]? = some c:=by
   have:(F.drop a)[1]? = some c:=by rw [ha];rfl
   rwa [List.getElem?_drop] at this
  obtain ⟨hlt,hx⟩:=List.getElem?_eq_some_iff.1 h0
  have hlI:(a:Int) < F.length:=by omega
  have hFI:(F.length:Int)≤1000:=by omega
  have HC:=qh (qle F hF (a+1) c hc h1 1 w)
  have hl2:(⟨c,true⟩:Kd).txt.length=2:=rfl
  rw [hl2]
  clear h0 h1 ha hc hl2
  go_enter Tryz.func152,Tryz.ntmps152
  go_wp2_with fail
  refine HC.out.mono ?_
  rintro e w1 ⟨rfl,rfl⟩
  go_wp2_with fail
  go_ret
  exact ⟨by simp only [Ending.returned.injEq,Value.int.injEq,true_and];simp;omega,rfl⟩
/-- behind a form's kinds -/
def RKindsPost (ks:List Kd) (w:World) (e:Ending) (w':World):Prop :=
 ∃ A c,e=.returned (.tuple #[.slice A ks.length c,.bool true])∧StrV (From w.heap.size) w' (ks.map Kd.txt) A c∧Below w.heap.size w w'
theorem qcw (ks:List Kd) (hf:OkForm ks) (hl:(formP ks).length≤40) (w:World):Calls Tryz.prog 99 #[.string (bs (formP ks))] w (RKindsPost ks w):=by
 obtain ⟨F,hF⟩:∃ F,formP ks=F:=⟨_,rfl⟩
 have hksl:=(qhk ks).1
 rw [hF] at hl hksl ⊢
 have HF:=qh hF
 have HOK:=qh hf
 have hlI:¬ (40:Int) < F.length:=by omega
 have hFI:(F.length:Int)≤40:=by omega
 clear hF hf
 go_enter Tryz.func99,Tryz.ntmps99
 go_wp2_with fail
 go_loopw [4,5] (fun o at' wr=>∃ (i a:Nat) (ys:List Value),at'=.int .i64 a∧i≤ks.length∧Hid (a=(formP (ks.take i)).length)∧a≤F.length∧wr.ownsRow w.heap.size 9 1 o i ys∧Hid (RepN (From w.heap.size) w 1 (strsD ((ks.take i).map Kd.txt)) ys)∧Below w.heap.size w wr) (fun _ at' _=>F.length - (intOf at').toNat)
 case atStart=>exact ⟨0,0,[],rfl,Nat.zero_le _,qh rfl,Nat.zero_le _,World.ownsRow_lit w _ 0 qn (Nat.zero_le _) rfl,qh .nil,(Below.refl _ _).alloc qn _⟩
 case round =>
  obtain ⟨i,a,ys,rfl,hi,ha,hal,hown,hrep,hB⟩:=hrel
  obtain ⟨A',c',rfl⟩:=qau hown
  have hBs:=hB.size
  by_cases hlt:i < ks.length
  ·obtain ⟨k,hk⟩:=qal hlt
   have hd:List.drop a F=k.txt ++ formP (ks.drop (i+1)):=by rw [← HF.out,ha.out,qly hk]
   have hal2:(formP (ks.take (i+1))).length≤F.length:=by rw [← HF.out];exact qgz ks (i+1)
   rw [qcr hk,← ha.out] at hal2
   have hkl:=qns k
   have HT1:=qh (qcr hk)
   have hC:=end_any F (by omega) a k (HOK.out k (List.mem_of_getElem? hk)) _ hd wr
   have hsub:List.take (a+k.txt.length - a) (List.drop a F)=k.txt:=by rw [hd,Nat.add_sub_cancel_left];simp
   have HR1:Hid (RepN (From w.heap.size) w 1 (strsD ((ks.take (i+1)).map Kd.txt)) (ys ++ [.string (bs k.txt)])):=qh (by rw [qbe hk,List.map_append];exact qq0 hrep.out)
   obtain ⟨n,hn⟩:∃ n,k.txt.length=n:=⟨_,rfl⟩
   rw [hn] at hal2 hkl HT1 hC hsub
   obtain ⟨b,hb⟩:∃ b,a+n=b:=⟨_,rfl⟩
   rw [hb] at hal2 hC hsub
   have HA:Hid (b=(formP (ks.take (i+1))).length):=qh (by rw [HT1.out,← hb,ha.out])
   have habI:(a:Int)≤b:=by omega
   have hab:a < b:=by omega
   have hbI:(b:Int)≤F.length:=by omega
   have haltI:(a:Int) < F.length:=by omega
   have hsub':(bs F).extract a b=bs k.txt:=by rw [bs_extract,hsub]
   have HC:=qh hC
   have HW:=qh hown
   have HB:=qh hB
   clear hC hk hown hrep hB hn hb hd HT1
   go_wp2_with fail
   refine HC.out.mono ?_
   clear HC
   rintro e w1 ⟨rfl,rfl⟩
   go_wp2_with (at_builtin;refine qaw elStr rfl rfl w.heap.size (HW.out.alloc _) rfl (m:=1) [.string (bs k.txt)] rfl rfl ?_ ?_ ?_ ?_ ?_ ?_;exact (qbw _ _ rfl _ _);(intro u hu;simp at hu;rcases hu with rfl;rfl);(simp only [maxLen];omega);omega;(simp;omega);intro v1 w4 hown4 hg4 hat4;obtain ⟨A2,c2,rfl⟩:=qau hown4)
   go_roundw
   case rel=>exact ⟨i+1,b,ys ++ [.string (bs k.txt)],rfl,by omega,HA,hal2,hown4,HR1,qay (HB.out.alloc hBs _) (HW.out.alloc _) hg4 (by simp;omega) qn⟩
   case measure=>simp [intOf];omega
  ·obtain rfl:i=ks.length:=by omega
   have haF:a=F.length:=by rw [ha.out,List.take_length,HF.out]
   subst haF
   have HR1:Hid (StrV (From w.heap.size) wr (ks.map Kd.txt) A' c'):=qh (by
    have hp:=hrep.out
    rw [List.take_length] at hp
    have:=qb2 hown (RepN.mono hp fun b hb hs=>⟨hs,hB.block b hb⟩) (by simp [strsD]) (fun g h1 _=>h1)
    unfold StrV
    rw [List.length_map]
    exact this)
   have HB:=qh hB
   clear hown hrep hB
   go_wp2_with fail
   go_ret2
   exact ⟨A',c',rfl,HR1.out,HB.out⟩
/- The walk of the reference's Many. -/
/-- behind Many, up to 1000 -/
def ManyPost (fs:List Fd) (w:World) (e:Ending) (w':World):Prop:=∃ m:Nat,e=.returned (.int .i64 m)∧(totF fs≤1000→m≤1000)∧Below w.heap.size w w'
theorem qqt (fs:List Fd) (hl:fs.length≤1000) (A:Option Addr) (c:Nat) (w:World) (hv:FdsV Any w fs A c) :
  Calls Tryz.prog 164 #[.slice A fs.length c,.int .i64 1000] w (ManyPost fs w):=by
 have HV:=qh (Rep.old hv)
 have hl1:(fs.length:Int)≤1000:=by omega
 clear hv
 go_enter Tryz.func164,Tryz.ntmps164
 go_wp2_with fail
 go_loopw [5,14] (fun q a wr=>∃ (i:Nat) (ys:List Value),a=.int .i64 i∧i≤fs.length∧wr.ownsRow w.heap.size 81 3 q i ys∧Hid (RepN (Old w) w 3 (fdsD (fs.take i)) ys)∧Below w.heap.size w wr) (fun _ a _=>fs.length - (intOf a).toNat)
 case atStart=>exact ⟨0,[],rfl,Nat.zero_le _,World.ownsRow_lit w _ 0 qn (Nat.zero_le _) rfl,qh .nil,(Below.refl _ _).alloc qn _⟩
 case round =>
  obtain ⟨i,ys,rfl,hi,hown,hrep,hB⟩:=hrel
  obtain ⟨A',c',rfl⟩:=qau hown
  have hBs:=hB.size
  by_cases hlt:i < fs.length
  ·obtain ⟨f,hf⟩:=qal hlt
   obtain ⟨g,o,A2,c2,rfl,hgo,hlv,hcf⟩:=qdd HV.out hf
   have hlt':(i:Int) < fs.length:=by omega
   have q0:=(hB.cell (p:=⟨g,o+i * 3+0,none⟩) hgo).trans (hcf 0 _ rfl)
   have q1:=(hB.cell (p:=⟨g,o+i * 3+1,none⟩) hgo).trans (hcf 1 _ rfl)
   have q2:=(hB.cell (p:=⟨g,o+i * 3+2,none⟩) hgo).trans (hcf 2 _ rfl)
   simp only [Nat.add_zero] at q0
   have HR1:Hid (RepN (Old w) w 3 (fdsD (fs.take (i+1))) (ys ++ fdC f A2 c2)):=qh (by rw [qbe hf,qca];exact RepN.snoc (qix hlv) rfl hrep.out)
   have HW:=qh hown
   have HB:=qh hB
   clear hf hown hrep hB hlv hcf
   go_wp2_with (at_builtin;refine qaw qck rfl rfl w.heap.size ((HW.out.alloc _).alloc _) rfl (m:=1) [.int .u64 (f.n:Int),.string (bs f.b),.slice A2 f.l.length c2] rfl rfl ?_ ?_ ?_ ?_ ?_ ?_;exact (qbw _ _ (by simp) _ _);(intro u hu;simp at hu;rcases hu with rfl | rfl | rfl <;> rfl);(simp only [maxLen];omega);omega;(simp;omega);intro v1 w4 hown4 hg4 hat4;obtain ⟨A3,c3,rfl⟩:=qau hown4)
   go_roundw
   case rel=>exact ⟨i+1,ys ++ fdC f A2 c2,by go_num,by omega,hown4,HR1,qay ((HB.out.alloc hBs _).alloc (by simp;omega) _) ((HW.out.alloc _).alloc _) hg4 (by simp;omega) qn⟩
   case measure=>simp [intOf];omega
  ·obtain rfl:i=fs.length:=by omega
   have hrep0:=hrep.out
   rw [List.take_length] at hrep0
   have HW0:=qh hown
   have HP0:=qh hrep0
   have HB0:=qh hB
   clear hown hrep hrep0 hB hlt hi
   go_wp2_with fail
   go_loopw [5,8] (fun q a wr=>∃ (i:Nat) (Q:List Fd) (ys:List Value),a=.int .i64 i∧i≤Q.length∧Q.length≤1001∧Hid (totF fs≤1000→Q.length+sumL (Q.drop i)=totF fs)∧wr.ownsRow w.heap.size 81 3 q Q.length ys∧Hid (RepN (Old w) w 3 (fdsD Q) ys)∧Below w.heap.size w wr) (fun _ a _=>1001 - (intOf a).toNat)
   case atStart=>exact ⟨0,fs,ys,rfl,Nat.zero_le _,by omega,qh (fun _=>rfl),HW0.out,HP0,HB0.out⟩
   case round =>
    clear HW0 HP0 HB0 hBs
    obtain ⟨i,Q,ys,rfl,hi,hQ,hsum,hown,hrep,hB⟩:=hrel
    obtain ⟨A',c',rfl⟩:=qau hown
    have hBs:=hB.size
    by_cases hlt:i < Q.length
    ·have hlt':(i:Int) < Q.length:=by omega
     by_cases hQ0:Q.length≤1000
     ·have hQI:(Q.length:Int)≤1000:=by omega
      obtain ⟨f,hf⟩:=qal hlt
      obtain ⟨g,A1,c1,rfl,hlv,d0,d1,d2⟩:=ql0 hown hrep.out hf
      have hdr:sumL (Q.drop i)=f.l.length+sumL (Q.drop (i+1)):=by
       obtain ⟨hi',hfe⟩:=List.getElem?_eq_some_iff.1 hf
       rw [← List.getElem_cons_drop (h:=hi'),hfe];rfl
      have HS:Hid (totF fs≤1000→Q.length+sumL (Q.drop (i+1))+(f.l.length - 0)=totF fs):=qh (fun h=>by have:=hsum.out h;omega)
      have hfm:(f.l.length:Int)≤9223372036854775807:=by have h1:=(Rep.slice_len hlv).2.1;have h2:=(Rep.slice_len hlv).2.2;simp only [maxLen] at h2;omega
      have HL:=qh hlv
      have HW:=qh hown
      have HB:=qh hB
      clear hown hB hlv hdr hsum hf d0 d1
      obtain ⟨wo,hwo⟩:∃ wo:World,wo=wr:=⟨_,rfl⟩
      subst hwo
      go_wp2_with fail
      go_loopw [5,45] (fun q a wr=>∃ (j:Nat) (Q':List Fd) (ys:List Value),a=.int .i64 j∧j≤f.l.length∧i+1≤Q'.length∧Q'.length≤1001∧Hid (totF fs≤1000→Q'.length+sumL (Q'.drop (i+1))+(f.l.length - j)=totF fs)∧wr.ownsRow w.heap.size 81 3 q Q'.length ys∧Hid (RepN (Old w) w 3 (fdsD Q') ys)∧Below w.heap.size w wr) (fun _ a _=>f.l.length - (intOf a).toNat)
      case atStart=>exact ⟨0,Q,ys,rfl,Nat.zero_le _,by omega,hQ,HS,HW.out,hrep,HB.out⟩
      case round =>
       clear HW HB hrep HS d2
       obtain ⟨j,Q',ys',rfl,hj,hiQ,hQ',hsum,hown,hrep,hB⟩:=hrel
       obtain ⟨A2,c2,rfl⟩:=qau hown
       have hBs':=hB.size
       by_cases hjl:j < f.l.length
       ·have hjI:(j:Int) < f.l.length:=by omega
        obtain ⟨x,hx⟩:=qal hjl
        obtain ⟨gx,ox,A3,c3,rfl,hgx,hlx,hcx⟩:=qq3 HL.out hx
        have q0:=(hB.cell (p:=⟨gx,ox+j * 3+0,none⟩) hgx).trans (hcx 0 _ rfl)
        have q1:=(hB.cell (p:=⟨gx,ox+j * 3+1,none⟩) hgx).trans (hcx 1 _ rfl)
        have q2:=(hB.cell (p:=⟨gx,ox+j * 3+2,none⟩) hgx).trans (hcx 2 _ rfl)
        simp only [Nat.add_zero] at q0
        by_cases hq:Q'.length≤1000
        ·have hqI:(Q'.length:Int)≤1000:=by omega
         have HR1:Hid (RepN (Old w) w 3 (fdsD (Q' ++ [upF x])) (ys' ++ fdC (upF x) A3 c3)):=qh (by rw [qca];exact RepN.snoc (qix (f:=upF x) hlx) rfl hrep.out)
         have HS1:Hid (totF fs≤1000→(Q' ++ [upF x]).length+sumL ((Q' ++ [upF x]).drop (i+1))+(f.l.length - (j+1))=totF fs):=qh (fun h=>by
          have:=hsum.out h
          rw [List.drop_append_of_le_length (by omega),qh0,List.length_append]
          simp [sumL,upF];omega)
         have HW:=qh hown
         have HB:=qh hB
         clear hown hrep hB hsum hlx hcx hx
         go_wp2_with (at_builtin;refine qaw qck rfl rfl w.heap.size ((HW.out.alloc _).alloc _) rfl (m:=1) (fdC (upF x) A3 c3) rfl rfl ?_ ?_ ?_ ?_ ?_ ?_;exact (qbw _ _ (by simp) _ _);(intro u hu;simp [fdC] at hu;rcases hu with rfl | rfl | rfl <;> rfl);(simp only [maxLen];omega);omega;(simp;omega);intro v1 w4 hown4 hg4 hat4;obtain ⟨A5,c5,rfl⟩:=qau hown4)
         go_roundw
         case rel=>exact ⟨j+1,Q' ++ [upF x],ys' ++ fdC (upF x) A3 c3,by go_num,by omega,by simp;omega,by simp;omega,HS1,by rw [List.length_append];exact hown4,HR1,qay ((HB.out.alloc hBs' _).alloc (by simp;omega) _) ((HW.out.alloc _).alloc _) hg4 (by simp;omega) qn⟩
         case measure=>simp [intOf];omega
        ·have hqI:¬ (Q'.length:Int)≤1000:=by omega
         have HS1:Hid (totF fs≤1000→Q'.length+sumL (Q'.drop (i+1))+(f.l.length - (j+1))=totF fs):=qh (fun h=>by have:=hsum.out h;omega)
         have HW:=qh hown
         have HB:=qh hB
         clear hown hB hsum hlx hcx hx
         go_wp2_with fail
         go_roundw
         case rel=>exact ⟨j+1,Q',ys',by go_num,by omega,hiQ,hQ',HS1,HW.out.alloc _,hrep,HB.out.alloc hBs' _⟩
         case measure=>simp [intOf];omega
       ·obtain rfl:j=f.l.length:=by omega
        have HS1:Hid (totF fs≤1000→Q'.length+sumL (Q'.drop (i+1))=totF fs):=qh (fun h=>by have:=hsum.out h;omega)
        have HW:=qh hown
        have HB:=qh hB
        clear hown hB hsum
        go_wp2_with fail
        go_roundw
        case rel=>exact ⟨i+1,Q',ys',by go_num,hiQ,hQ',HS1,HW.out,hrep,HB.out⟩
        case measure=>simp [intOf];omega
     ·have hQI:¬ (Q.length:Int)≤1000:=by omega
      have HM:Hid (totF fs≤1000→Q.length≤1000):=qh (fun h=>by have:=hsum.out h;omega)
      have HB:=qh hB
      clear hown hB hsum hrep
      go_wp2_with fail
      go_ret
      exact ⟨Q.length,rfl,HM.out,HB.out⟩
    ·obtain rfl:i=Q.length:=by omega
     have HM:Hid (totF fs≤1000→Q.length≤1000):=qh (fun h=>by have:=hsum.out h;omega)
     have HB:=qh hB
     clear hown hB hsum hrep
     go_wp2_with fail
     go_ret
     exact ⟨Q.length,rfl,HM.out,HB.out⟩
/- The walks of the reference's fits, all, Fits. -/
theorem eqI (a b:Nat):((a:Int) == (b:Int))=(a == b):=by rw [Bool.eq_iff_iff];simp only [beq_iff_eq];omega
theorem fits_num (n:Nat) (b:Bytes) (A:Option Addr) (m cf:Nat) (w:World) :
  Calls Tryz.prog 211 #[.string (bs [110]),.agg #[.int .u64 (n:Int),.string (bs b),.slice A m cf]] w fun e w'=>e=.returned (.bool (m == 0 && fitC 110 (n,b)))∧Below w.heap.size w w':=by
 have hnB:((n:Int) == 0)=(n == 0):=eqI n 0
 have hmB:((m:Int) == 0)=(m == 0):=eqI m 0
 have hf:fitC 110 (n,b)=b.isEmpty:=rfl
 rw [hf]
 have hbB:(b == [])=b.isEmpty:=by cases b <;> rfl
 obtain ⟨x,hx⟩:∃ x,(n == 0)=x:=⟨_,rfl⟩
 obtain ⟨y,hy⟩:∃ y,(m == 0)=y:=⟨_,rfl⟩
 obtain ⟨z,hz⟩:∃ z,b.isEmpty=z:=⟨_,rfl⟩
 rw [hx] at hnB;rw [hy] at hmB ⊢;rw [hz] at hbB ⊢
 clear hf hx hy hz
 cases x <;> cases y <;> cases z
 all_goals
  go_enter Tryz.func211,Tryz.ntmps211
  go_wp2_with fail
  go_ret
  exact ⟨rfl,(Below.refl _ _).alloc qn _⟩
theorem qg9 (c:UInt8) (hc:c=104∨c=97∨c=115∨c=98) (n:Nat) (b:Bytes) (A:Option Addr) (m cf:Nat) (w:World) :
  Calls Tryz.prog 211 #[.string (bs [c]),.agg #[.int .u64 (n:Int),.string (bs b),.slice A m cf]] w fun e w'=>e=.returned (.bool (m == 0 && fitC c (n,b)))∧Below w.heap.size w w':=by
 have hnB:((n:Int) == 0)=(n == 0):=eqI n 0
 have hmB:((m:Int) == 0)=(m == 0):=eqI m 0
 obtain ⟨L,hL⟩:∃ L,(if c=98 then decide (b.length≤64) else b.length == sizeC c)=L:=⟨_,rfl⟩
 have hf:fitC c (n,b)=((n == 0) && L):=by
  rw [← hL]
  rcases hc with rfl | rfl | rfl | rfl <;> simp [fitC]
 rw [hf]
 have h104:c=104→((b.length:Int) == 32)=L:=fun h=>by subst h;rw [← hL];exact eqI _ 32
 have h97:c=97→((b.length:Int) == 20)=L:=fun h=>by subst h;rw [← hL];exact eqI _ 20
 have h115:c=115→((b.length:Int) == 65)=L:=fun h=>by subst h;rw [← hL];exact eqI _ 65
 have h98:c=98→decide ((b.length:Int)≤64)=L:=fun h=>by subst h;rw [← hL,if_pos rfl,Bool.eq_iff_iff];simp only [decide_eq_true_eq];omega
 obtain ⟨x,hx⟩:∃ x,(n == 0)=x:=⟨_,rfl⟩
 obtain ⟨y,hy⟩:∃ y,(m == 0)=y:=⟨_,rfl⟩
 rw [hx] at hnB ⊢;rw [hy] at hmB ⊢
 clear hf hx hy hL
 rcases hc with rfl | rfl | rfl | rfl
 ·have hl:=h104 rfl
  clear h104 h97 h115 h98
  cases x <;> cases y <;> cases L
  all_goals
   go_enter Tryz.func211,Tryz.ntmps211
   go_wp2_with fail
   go_ret
   exact ⟨rfl,(Below.refl _ _).alloc qn _⟩
 ·have hl:=h97 rfl
  clear h104 h97 h115 h98
  cases x <;> cases y <;> cases L
  all_goals
   go_enter Tryz.func211,Tryz.ntmps211
   go_wp2_with fail
   go_ret
   exact ⟨rfl,(Below.refl _ _).alloc qn _⟩
 ·have hl:=h115 rfl
  clear h104 h97 h115 h98
  cases x <;> cases y <;> cases L
  all_goals
   go_enter Tryz.func211,Tryz.ntmps211
   go_wp2_with fail
   go_ret
   exact ⟨rfl,(Below.refl _ _).alloc qn _⟩
 ·have hl:=h98 rfl
  clear h104 h97 h115 h98
  cases x <;> cases y <;> cases L
  all_goals
   try simp only [decide_eq_true_eq,decide_eq_false_iff_not] at hl
   go_enter Tryz.func211,Tryz.ntmps211
   go_wp2_with fail
   go_ret
   exact ⟨rfl,(Below.refl _ _).alloc qn _⟩
theorem qjp (c:UInt8) (hc:okC c) (n:Nat) (b:Bytes) (A:Option Addr) (m cf:Nat) (w:World) :
  Calls Tryz.prog 211 #[.string (bs [c]),.agg #[.int .u64 (n:Int),.string (bs b),.slice A m cf]] w fun e w'=>e=.returned (.bool (m == 0 && fitC c (n,b)))∧Below w.heap.size w w':=by
 rcases hc with rfl | h | h | h | h
 ·exact fits_num n b A m cf w
 ·exact qg9 c (.inl h) n b A m cf w
 ·exact qg9 c (.inr (.inl h)) n b A m cf w
 ·exact qg9 c (.inr (.inr (.inl h))) n b A m cf w
 ·exact qg9 c (.inr (.inr (.inr h))) n b A m cf w
/- The walks of the reference's fits at a list of plain kinds, all, Fits. -/
theorem qud (kc:UInt8) (hkc:okC kc) (f:Fd) (hl:f.l.length≤100000) (A:Option Addr) (c:Nat) (w:World) (hv:LfsV Any w f.l A c) :
  Calls Tryz.prog 211 #[.string (bs [42,kc]),.agg (fdC f A c).toArray] w fun e w'=>e=.returned (.bool (fitF ⟨kc,true⟩ f))∧Below w.heap.size w w':=by
 obtain ⟨n,b,l⟩:=f
 simp only [] at hl hv
 obtain ⟨ni,hni⟩:∃ ni:Int,(n:Int)=ni:=⟨_,rfl⟩
 have hfd:(fdC ⟨n,b,l⟩ A c).toArray=#[.int .u64 ni,.string (bs b),.slice A l.length c]:=by rw [← hni];rfl
 rw [hfd]
 have hnB:(ni == 0)=(n == 0):=by rw [← hni];exact eqI n 0
 have hnN:(ni != 0) = !(n == 0):=by rw [← hnB];rfl
 have hbB:(b == [])=b.isEmpty:=by cases b <;> rfl
 have hf:fitF ⟨kc,true⟩ ⟨n,b,l⟩=(((n == 0) && b.isEmpty) && (decide (l.length≤40) && l.all (fitC kc))):=by simp [fitF,Bool.and_assoc]
 rw [hf]
 obtain ⟨x,hx⟩:∃ x,(n == 0)=x:=⟨_,rfl⟩
 obtain ⟨z,hz⟩:∃ z,b.isEmpty=z:=⟨_,rfl⟩
 have hbE:b.isEmpty=z:=hz
 rw [hx] at hnB hnN ⊢;rw [hz] at hbB ⊢
 clear hni
 have hb:Below w.heap.size w (w.alloc (.cells #[.int .u64 ni,.string (bs b),.slice A l.length c] 81)):=(Below.refl _ _).alloc qn _
 have HB:=qh hb
 have HV:=qh (Rep.old hv)
 have hlI:(l.length:Int)≤100000:=by omega
 clear hf hx hz hfd hb hv
 cases x
 ·clear hbB hbE
  go_enter Tryz.func211,Tryz.ntmps211
  go_wp2_with fail
  go_ret
  exact ⟨rfl,HB.out⟩
 ·cases z
  ·go_enter Tryz.func211,Tryz.ntmps211
   go_wp2_with fail
   go_ret
   exact ⟨rfl,HB.out⟩
  ·go_enter Tryz.func211,Tryz.ntmps211
   go_wp2_with fail
   go_loopw [85] (fun a wr=>∃ j:Nat,a=.int .i64 j∧j≤l.length∧Hid ((l.take j).all (fitC kc)=true)∧wr.heap[w.heap.size]? = some (.cells #[.int .u64 ni,.string (bs b),.slice A l.length c] 81 (0,0))∧Below w.heap.size w wr) (fun a _=>l.length - (intOf a).toNat)
   case atStart=>exact ⟨0,rfl,Nat.zero_le _,qh rfl,heap_alloc_new w _,HB.out⟩
   case round =>
    clear HB
    obtain ⟨j,rfl,hj,hall,hF,hB⟩:=hrel
    have hBs:=hB.size
    by_cases hjl:j < l.length
    ·have hjI:(j:Int) < l.length:=by omega
     obtain ⟨x,hx⟩:=qal hjl
     obtain ⟨gx,ox,A3,c3,rfl,hgx,hlx,hcx⟩:=qq3 HV.out hx
     have q0:=(hB.cell (p:=⟨gx,ox+j * 3+0,none⟩) hgx).trans (hcx 0 _ rfl)
     have q1:=(hB.cell (p:=⟨gx,ox+j * 3+1,none⟩) hgx).trans (hcx 1 _ rfl)
     have q2:=(hB.cell (p:=⟨gx,ox+j * 3+2,none⟩) hgx).trans (hcx 2 _ rfl)
     simp only [Nat.add_zero] at q0
     have HSA:Hid ((l.take (j+1)).all (fitC kc)=((l.take j).all (fitC kc) && fitC kc x)):=qh (by rw [qbe hx,List.all_append];simp)
     have HC0:=fun w3:World=>qjp kc hkc x.1 x.2 A3 0 c3 w3
     have HXM:Hid (l.all (fitC kc)=true→fitC kc x=true):=qh (fun h=>List.all_eq_true.1 h x (List.mem_of_getElem? hx))
     obtain ⟨ok,hok⟩:∃ ok,fitC kc x=ok:=⟨_,rfl⟩
     have hm0:((0:Nat) == 0 && fitC kc (x.1,x.2))=ok:=by rw [← hok];rfl
     simp only [hm0] at HC0
     rw [hok] at HSA HXM
     have HC:Hid (∀ w3:World,Calls Tryz.prog 211 #[.string (bs [kc]),.agg #[.int .u64 ((upF x).n:Int),.string (bs (upF x).b),.slice A3 (upF x).l.length c3]] w3 fun e w'=>e=.returned (.bool ok)∧Below w3.heap.size w3 w'):=qh HC0
     have HB:=qh hB
     have HF:=qh hF
     clear hF hB hx hok hm0 HC0 hlx hcx
     go_wp2_with fail
     have hba:Below wr.heap.size wr (wr.alloc (.cells #[.int .u64 ((upF x).n:Int),.string (bs (upF x).b),.slice A3 (upF x).l.length c3] 81)).drew:=((Below.refl _ _).alloc qn _).drew
     have hV:(wr.alloc (.cells #[.int .u64 ((upF x).n:Int),.string (bs (upF x).b),.slice A3 (upF x).l.length c3] 81)).drew.heap[wr.heap.size]? = some (.cells #[.int .u64 ((upF x).n:Int),.string (bs (upF x).b),.slice A3 (upF x).l.length c3] 81 (0,0)):=heap_alloc_new wr _
     have hB:=qab HB.out hBs hba
     have hF:=(hba.block _ (qg HF.out)).trans HF.out
     obtain ⟨V,hVe⟩:∃ V,wr.heap.size=V:=⟨_,rfl⟩
     rw [hVe] at hV ⊢
     clear hba
     refine qao [(99,fun w'=>w'.heap[V]? = some (.cells #[.int .u64 ((upF x).n:Int),.string (bs (upF x).b),.slice A3 (upF x).l.length c3] 81 (0,0)))] (by kernel_rfl) ?_
     generalize (wr.alloc (.cells #[.int .u64 ((upF x).n:Int),.string (bs (upF x).b),.slice A3 (upF x).l.length c3] 81)).drew=w3 at hV hB hF ⊢
     refine R_p (i:=0) (v:=.string (bs [42,kc])) (Mh hV Mn) ?_
     refine R_p (i:=1) (v:=.string (bs [kc])) (Mh hV Mn) ?_
     refine R_l (i:=2) (v:=.agg #[.int .u64 ((upF x).n:Int),.string (bs (upF x).b),.slice A3 (upF x).l.length c3]) 99 _ List.mem_cons_self rfl (qa8 rfl rfl rfl (fun w' hS=>hS) Tryz.underlying81 rfl infoF) (Mh hV Mn) ?_
     refine R_now 3 fun K hK=>?_
     go_simp
     refine (HC.out w3).mono ?_
     rintro e w4 ⟨rfl,hb4⟩
     replace hV:=(hb4.block _ (qg hV)).trans hV
     replace hF:=(hb4.block _ (qg hF)).trans hF
     replace hB:=qab hB hB.size hb4
     clear hb4
     refine hK.out _ _ (Mh hV Mn) (fun hMeets=>?_)
     clear hK K hMeets
     refine lay_R ?_
     refine R_p (i:=4) (v:=.bool (!ok)) (Mh hV Mn) ?_
     refine qa7 (by kernel_rfl) ?_ _
     have HB4:=qh hB
     have HF4:=qh hF
     clear hB hV HB HC hF HF
     cases ok with
     | false =>
      have hno:l.all (fitC kc)=false:=Bool.eq_false_iff.2 (fun h=>by have:=HXM.out h;cases this)
      have HNO:=qh hno
      clear hno
      go_wp2_with fail
      go_ret
      rw [HNO.out]
      exact ⟨by simp,HB4.out⟩
     | true =>
      go_wp2_with fail
      go_roundw
      case rel=>exact ⟨j+1,by go_num,by omega,qh (by rw [HSA.out,hall.out];rfl),HF4.out,HB4.out⟩
      case measure=>simp [intOf];omega
    ·obtain rfl:j=l.length:=by omega
     have HAL:Hid (l.all (fitC kc)=true):=qh (by have:=hall.out;rwa [List.take_length] at this)
     have y2:wr.cell? ⟨w.heap.size,2,none⟩=some (.slice A l.length c):=rc2 hF
     have HB4:=qh hB
     clear hF hB hall
     by_cases h40:l.length≤40
     ·have h40I:(l.length:Int)≤40:=by omega
      go_wp2_with fail
      go_ret
      rw [HAL.out]
      exact ⟨by simp [h40],HB4.out⟩
     ·have h40I:¬ (l.length:Int)≤40:=by omega
      go_wp2_with fail
      go_ret
      exact ⟨rfl,HB4.out⟩
theorem qms (k:Kd) (hk:okC k.c) (f:Fd) (hl:f.l.length≤100000) (A:Option Addr) (c:Nat) (w:World) (hv:LfsV Any w f.l A c) :
  Calls Tryz.prog 211 #[.string (bs k.txt),.agg (fdC f A c).toArray] w fun e w'=>e=.returned (.bool (fitF k f))∧Below w.heap.size w w':=by
 obtain ⟨kc,st⟩:=k
 cases st with
 | true=>exact qud kc hk f hl A c w hv
 | false =>
  have:=qjp kc hk f.n f.b A f.l.length c w
  have hf:fitF ⟨kc,false⟩ f=((f.l.length == 0) && fitC kc (f.n,f.b)):=by
   unfold fitF;rw [if_neg (by simp)];cases f.l <;> simp
  rw [hf]
  exact this
theorem qqh (ks:List Kd) (hf:OkForm ks) (fs:List Fd) (hfl:fs.length≤1000) (hll:∀ f∈fs,f.l.length≤100000) (Ak:Option Addr) (ck:Nat) (A:Option Addr) (c:Nat) (w:World) (hks:StrV Any w (ks.map Kd.txt) Ak ck) (hv:FdsV Any w fs A c) :
  Calls Tryz.prog 165 #[.slice Ak ks.length ck,.slice A fs.length c] w fun e w'=>e=.returned (.bool (fitsP ks fs))∧Below w.heap.size w w':=by
 obtain ⟨OK,hOK⟩:∃ OK,fitsP ks fs=OK:=⟨_,rfl⟩
 rw [hOK]
 by_cases hlen:fs.length=ks.length
 case neg =>
  have hno:OK=false:=by rw [← hOK,← qe4];simp [hlen]
  have hlI:((ks.length:Int) == (fs.length:Int))=false:=by rw [beq_eq_false_iff_ne];omega
  have hlN:((ks.length:Int) != (fs.length:Int))=true:=by simp [bne,hlI]
  subst hno
  clear hOK hlen hf hll hks hv
  go_enter Tryz.func165,Tryz.ntmps165
  go_wp2_with fail
  go_ret
  exact ⟨rfl,Below.refl _ _⟩
 have hlI:((ks.length:Int) == (fs.length:Int))=true:=by rw [beq_iff_eq];omega
 have hlN:((ks.length:Int) != (fs.length:Int))=false:=by simp [bne,hlI]
 have hOKr:Hid (OK=(List.range fs.length).all fun i=>fitF (ks.getD i noK) (fs.getD i noF)):=qh (by rw [← hOK,← qe4];simp [hlen])
 have HLEN:=qh hlen
 have HOK:=qh hf
 have HLL:=qh hll
 have HKS:=qh (Rep.old hks)
 have HV:=qh (Rep.old hv)
 clear hOK hlen hf hll hks hv
 go_enter Tryz.func165,Tryz.ntmps165
 go_wp2_with fail
 go_loopw [13] (fun a wr=>∃ i:Nat,a=.int .i64 i∧i≤fs.length∧Hid ((List.range i).all (fun i=>fitF (ks.getD i noK) (fs.getD i noF))=true)∧Below w.heap.size w wr) (fun a _=>fs.length - (intOf a).toNat)
 case atStart=>exact ⟨0,rfl,Nat.zero_le _,qh rfl,Below.refl _ _⟩
 case round =>
  obtain ⟨i,rfl,hi,hall,hB⟩:=hrel
  by_cases hlt:i < fs.length
  ·have hlt':(i:Int) < fs.length:=by omega
   obtain ⟨f,hf⟩:=qal hlt
   obtain ⟨k,hk⟩:∃ k,ks[i]? = some k:=qal (by have:=HLEN.out;omega)
   have hikI:(i:Int) < ks.length:=by have:=HLEN.out;omega
   obtain ⟨gx,ox,A3,c3,rfl,hgx,hlx,hcx⟩:=qdd HV.out hf
   obtain ⟨gk,ok,rfl,hgk,hck⟩:=StrV.at_ (p:=k.txt) HKS.out (by rw [List.getElem?_map,hk];rfl)
   have HSA:Hid ((List.range (i+1)).all (fun i=>fitF (ks.getD i noK) (fs.getD i noF))=((List.range i).all (fun i=>fitF (ks.getD i noK) (fs.getD i noF)) && fitF k f)):=qh (by
    rw [List.range_succ,List.all_append,List.all_cons,List.all_nil,Bool.and_true,qbc hk,qbc hf])
   have HXM:Hid (OK=true→fitF k f=true):=qh (fun h=>by
    rw [hOKr.out] at h
    have:=List.all_eq_true.1 h i (List.mem_range.2 hlt)
    rwa [qbc hk,qbc hf] at this)
   have HF:=qh hf
   have HK:=qh hk
   have HLX:=qh hlx
   have HB:=qh hB
   have HCX:=qh hcx
   have HCK:=qh hck
   clear hf hk hB hlx hcx hck
   go_wp2_with fail
   have hB:Below w.heap.size w wr.drew:=HB.out.drew
   have hk:wr.drew.cell? ⟨gk,ok+i,none⟩=some (.string (bs k.txt)):=(hB.cell (p:=⟨gk,ok+i,none⟩) hgk).trans HCK.out
   have hx:∀ j u,(fdC f A3 c3)[j]? = some u→wr.drew.cell? ⟨gx,ox+i * 3+j,none⟩=some u:=fun j u hj=>(hB.cell (p:=⟨gx,ox+i * 3+j,none⟩) hgx).trans (HCX.out j u hj)
   refine qao [(99,fun w'=>(w'.cell? ⟨gk,ok+i,none⟩=some (.string (bs k.txt)))∧∀ j u,(fdC f A3 c3)[j]? = some u→w'.cell? ⟨gx,ox+i * 3+j,none⟩=some u)] (by kernel_rfl) ?_
   generalize wr.drew=w3 at hB hk hx ⊢
   refine R_p (i:=0) (v:=.slice (some ⟨gk,ok,none⟩) ks.length ck) (Mh ⟨hk,hx⟩ Mn) ?_
   refine R_p (i:=1) (v:=.int .i64 (i:Int)) (Mh ⟨hk,hx⟩ Mn) ?_
   refine R_p (i:=2) (v:=.pointer (some ⟨gk,ok+i,none⟩)) (Mh ⟨hk,hx⟩ Mn) ?_
   refine R_l (i:=3) (v:=.string (bs k.txt)) 99 _ List.mem_cons_self rfl (qae rfl rfl rfl (fun w' hS=>hS.1) Tryz.underlying9 rfl) (Mh ⟨hk,hx⟩ Mn) ?_
   refine R_p (i:=4) (v:=.slice (some ⟨gx,ox,none⟩) fs.length c) (Mh ⟨hk,hx⟩ Mn) ?_
   refine R_p (i:=5) (v:=.int .i64 (i:Int)) (Mh ⟨hk,hx⟩ Mn) ?_
   refine R_p (i:=6) (v:=.pointer (some ⟨gx,ox+i * 3,none⟩)) (Mh ⟨hk,hx⟩ Mn) ?_
   refine R_l (i:=7) (v:=.agg (fdC f A3 c3).toArray) 99 _ List.mem_cons_self rfl (qbm rfl rfl rfl (fdC f A3 c3) (fun w' hS=>hS.2) Tryz.underlying81 rfl infoF) (Mh ⟨hk,hx⟩ Mn) ?_
   refine R_now 8 fun K hK=>?_
   go_simp
   refine (qms k (HOK.out k (List.mem_of_getElem? HK.out)) f (HLL.out f (List.mem_of_getElem? HF.out)) A3 c3 w3 (Rep.any (Rep.mono HLX.out (S':=Old w) fun b hb hs=>⟨hs,hB.block b hb⟩))).mono ?_
   rintro e w4 ⟨rfl,hb4⟩
   have hx4:∀ j u,(fdC f A3 c3)[j]? = some u→w4.cell? ⟨gx,ox+i * 3+j,none⟩=some u:=fun j u hj=>(hb4.cell (p:=⟨gx,ox+i * 3+j,none⟩) (qap (hx j u hj))).trans (hx j u hj)
   replace hk:=(hb4.cell (qap hk)).trans hk
   replace hB:=qab hB hB.size hb4
   clear hb4 hx
   obtain ⟨okb,hokb⟩:∃ okb,fitF k f=okb:=⟨_,rfl⟩
   rw [hokb]
   refine hK.out _ _ (Mh ⟨hk,hx4⟩ Mn) (fun hMeets=>?_)
   clear hK K hMeets
   refine lay_R ?_
   refine R_p (i:=9) (v:=.bool (!okb)) (Mh ⟨hk,hx4⟩ Mn) ?_
   refine qa7 (by kernel_rfl) ?_ _
   have HB4:=qh hB
   rw [hokb] at HSA HXM
   clear hB hk hx4 HB hokb
   cases okb with
   | false =>
    have hno:OK=false:=Bool.eq_false_iff.2 (fun h=>by have:=HXM.out h;cases this)
    have HNO:=qh hno
    clear hno
    go_wp2_with fail
    go_ret
    rw [HNO.out]
    exact ⟨rfl,HB4.out⟩
   | true =>
    go_wp2_with fail
    go_roundw
    case rel=>exact ⟨i+1,by go_num,by omega,qh (by rw [HSA.out,hall.out];rfl),HB4.out⟩
    case measure=>simp [intOf];omega
  ·obtain rfl:i=fs.length:=by omega
   have HOKT:Hid (OK=true):=qh (by rw [hOKr.out];exact hall.out)
   go_wp2_with fail
   go_ret
   rw [HOKT.out]
   exact ⟨rfl,hB⟩
/- The walk of the reference's Fits. -/
theorem qm1 (ks:List Kd) (hf:OkForm ks) (hl:(formP ks).length≤40) (fs:List Fd) (hfl:fs.length≤1000) (hll:∀ f∈fs,f.l.length≤100000) (A:Option Addr) (c:Nat) (w:World) (hv:FdsV Any w fs A c) :
  Calls Tryz.prog 105 #[.string (bs (formP ks)),.slice A fs.length c] w fun e w'=>e=.returned (.bool (fitsP ks fs))∧Below w.heap.size w w':=by
 have hK:=qcw ks hf hl w
 have hno:¬ totF fs≤1000→fitsP ks fs=false:=fun h=>Bool.eq_false_iff.2 fun h1=>by
  have:=qga ks fs h1
  omega
 have hall:∀ (Ak:Option Addr) (ck:Nat) (W:World),StrV Any W (ks.map Kd.txt) Ak ck→Below w.heap.size w W→Calls Tryz.prog 165 #[.slice Ak ks.length ck,.slice A fs.length c] W fun e w'=>e=.returned (.bool (fitsP ks fs))∧Below W.heap.size W w' :=
  fun Ak ck W hs hb=>qqh ks hf fs hfl hll Ak ck A c W hs (Rep.keep hv hb)
 obtain ⟨OK,hOK⟩:∃ OK,fitsP ks fs=OK:=⟨_,rfl⟩
 rw [hOK] at hno hall ⊢
 obtain ⟨F,hF⟩:∃ F,formP ks=F:=⟨_,rfl⟩
 rw [hF] at hK ⊢
 have HK:=qh hK
 have HA:=qh hall
 have HV:=qh hv
 have HNO:=qh hno
 clear hK hall hno hOK hF hv hf hll hl
 go_enter Tryz.func105,Tryz.ntmps105
 go_wp2_with fail
 refine HK.out.mono ?_
 clear HK
 rintro e w1 ⟨Ak,ck,rfl,hs1,hb1⟩
 have HS1:=qh hs1
 have HB1:=qh hb1
 clear hs1
 go_wp2_with fail
 refine (qqt fs hfl A c w1 (Rep.keep HV.out hb1)).mono ?_
 clear hb1
 rintro e w2 ⟨m,rfl,hm,hb2⟩
 have HB2:=qh (qab HB1.out HB1.out.size hb2)
 have HS2:=qh (Rep.keep HS1.out hb2)
 have HM:=qh hm
 clear hm hb2 HS1 HB1
 by_cases hm:m≤1000
 ·have hmI:(m:Int)≤1000:=by omega
  go_wp2_with fail
  refine (HA.out Ak ck w2 (Rep.any HS2.out) HB2.out).mono ?_
  rintro e w3 ⟨rfl,hb3⟩
  have HB3:=qh (qab HB2.out HB2.out.size hb3)
  clear hb3
  go_wp2_with fail
  go_ret
  exact ⟨rfl,HB3.out⟩
 ·have hmI:¬ (m:Int)≤1000:=by omega
  have hno:OK=false:=HNO.out (fun h=>hm (HM.out h))
  have HN:=qh hno
  clear hno hm
  go_wp2_with fail
  go_ret
  rw [HN.out]
  exact ⟨rfl,HB2.out⟩
/- The walk of the reference's item of a field. -/
theorem qrm (n:Nat) (hn:n < 18446744073709551616) (b:Bytes) (A:Option Addr) (m cf:Nat) (w:World) :
  Calls Tryz.prog 106 #[.string (bs [110]),.agg #[.int .u64 (n:Int),.string (bs b),.slice A m cf]] w fun e w'=>e=.returned (.agg #[.bool false,.string (bs (digs n)),.slice none 0 0])∧Below w.heap.size w w':=by
 obtain ⟨ni,hni⟩:∃ ni:Int,(n:Int)=ni:=⟨_,rfl⟩
 rw [hni]
 obtain ⟨W,hW⟩:∃ W,W=(w.alloc (.cells #[.int .u64 ni,.string (bs b),.slice A m cf] 81)).alloc (.cells #[.bool false,.string ⟨#[]⟩,.slice none 0 0] 53):=⟨_,rfl⟩
 have hb:Below w.heap.size w W:=by rw [hW];exact ((Below.refl _ _).alloc qn _).alloc (by simp) _
 have hr:W.heap[w.heap.size+1]? = some (.cells #[.bool false,.string ⟨#[]⟩,.slice none 0 0] 53 (0,0)):=by
  rw [hW]
  have:=heap_alloc_new (w.alloc (.cells #[.int .u64 ni,.string (bs b),.slice A m cf] 81)) (.cells #[.bool false,.string ⟨#[]⟩,.slice none 0 0] 53)
  rwa [World.size_alloc] at this
 have hC:=qkg ni (by omega) (by omega) W
 rw [show ni.toNat=n by omega] at hC
 rw [hW] at hb hr hC
 have HB:=qh hb
 have HR:=qh hr
 have HC:=qh hC
 clear hni hW hb hr hC hn
 go_enter Tryz.func106,Tryz.ntmps106
 go_wp2_with fail
 refine HC.out.mono ?_
 clear HC
 rintro e w1 ⟨rfl,hb1⟩
 have hr1:=(hb1.block _ (qg HR.out)).trans HR.out
 have hB1:=qab HB.out HB.out.size hb1
 have c0:w1.cell? ⟨w.heap.size+1,0,none⟩=some (.bool false):=rc0 hr1
 have c1:w1.cell? ⟨w.heap.size+1,1,none⟩=some (.string ⟨#[]⟩):=rc1 hr1
 have c2:w1.cell? ⟨w.heap.size+1,2,none⟩=some (.slice none 0 0):=rc2 hr1
 have f0:=rf hr1 0
 have f1:=rf hr1 1
 have f2:=rf hr1 2
 have HR1:=qh hr1
 have HB1:=qh hB1
 clear hr1 hB1 hb1 HB HR
 go_wp2_with fail
 have hfin:=qaa (qaa (qaa HR1.out (i:=0) (.bool false)) (i:=1) (.string (bs (digs n)))) (i:=2) (.slice none 0 0)
 exact bodyPost_ret (v:=.agg #[.bool false,.string (bs (digs n)),.slice none 0 0]) (results_cell_row rfl _ _ (w.heap.size+1) _ _ _ _ rfl hfin Tryz.underlying53 rfl infoI) rfl ⟨rfl,((HB1.out.setCell (p:=⟨w.heap.size+1,_,_⟩) (Nat.le_succ _) _).setCell (p:=⟨w.heap.size+1,_,_⟩) (Nat.le_succ _) _).setCell (p:=⟨w.heap.size+1,_,_⟩) (Nat.le_succ _) _⟩
theorem qfs (c:UInt8) (hc:c=104∨c=97∨c=115∨c=98) (n:Nat) (b:Bytes) (A:Option Addr) (m cf:Nat) (w:World) :
  Calls Tryz.prog 106 #[.string (bs [c]),.agg #[.int .u64 (n:Int),.string (bs b),.slice A m cf]] w fun e w'=>e=.returned (.agg #[.bool false,.string (bs b),.slice none 0 0])∧Below w.heap.size w w':=by
 obtain ⟨ni,hni⟩:∃ ni:Int,(n:Int)=ni:=⟨_,rfl⟩
 rw [hni]
 clear hni
 rcases hc with rfl | rfl | rfl | rfl
 all_goals
  go_enter Tryz.func106,Tryz.ntmps106
  go_wp2_with fail
 all_goals
  have h1:=heap_alloc_new (w.alloc (.cells #[.int .u64 ni,.string (bs b),.slice A m cf] 81)) (.cells #[.bool false,.string (bs b),.slice none 0 0] 53)
  rw [World.size_alloc] at h1
  have hfin:=(heap_alloc_old _ (.cells #[.bool true,.string ⟨#[]⟩,.slice none 0 0] 53) (by simp)).trans h1
  exact bodyPost_ret (v:=.agg #[.bool false,.string (bs b),.slice none 0 0]) (results_cell_row rfl _ _ (w.heap.size+1) _ _ _ _ rfl hfin Tryz.underlying53 rfl infoI) rfl ⟨rfl,(((Below.refl _ _).alloc qn _).alloc (by simp) _).alloc (by simp;omega) _⟩
theorem qh1 (c:UInt8) (hc:okC c) (n:Nat) (hn:n < 18446744073709551616) (b:Bytes) (A:Option Addr) (m cf:Nat) (w:World) :
  Calls Tryz.prog 106 #[.string (bs [c]),.agg #[.int .u64 (n:Int),.string (bs b),.slice A m cf]] w (ItPost (lfI c (n,b)) w):=by
 have key:∀ (s:Bytes),lfI c (n,b)=leafIt s →
   Calls Tryz.prog 106 #[.string (bs [c]),.agg #[.int .u64 (n:Int),.string (bs b),.slice A m cf]] w (fun e w'=>e=.returned (.agg #[.bool false,.string (bs s),.slice none 0 0])∧Below w.heap.size w w') →
   Calls Tryz.prog 106 #[.string (bs [c]),.agg #[.int .u64 (n:Int),.string (bs b),.slice A m cf]] w (ItPost (lfI c (n,b)) w):=by
  intro s h1 h
  refine h.mono ?_
  rintro e w' ⟨rfl,hb⟩
  rw [h1]
  exact ⟨none,0,rfl,ItemV.leaf s false,hb⟩
 rcases hc with rfl | h | h | h | h
 ·exact key (digs n) (by simp [lfI]) (qrm n hn b A m cf w)
 ·exact key b (by subst h;simp [lfI]) (qfs c (.inl h) n b A m cf w)
 ·exact key b (by subst h;simp [lfI]) (qfs c (.inr (.inl h)) n b A m cf w)
 ·exact key b (by subst h;simp [lfI]) (qfs c (.inr (.inr (.inl h))) n b A m cf w)
 ·exact key b (by subst h;simp [lfI]) (qfs c (.inr (.inr (.inr h))) n b A m cf w)
end Go.Proofs.YteoednifdpdbnaaGreat
