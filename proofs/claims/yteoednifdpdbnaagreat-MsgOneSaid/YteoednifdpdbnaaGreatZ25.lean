/- The walks of frame.sizes, and of frame.item at plain kinds, at numbers. -/
import Derived.Test.YteoednifdpdbnaaGreatZ24
import Derived.Test.YteoednifdpdbnaaGreatZ08
namespace Go.Proofs.YteoednifdpdbnaaGreat
set_option linter.unusedVariables false
set_option linter.unusedSimpArgs false
open Go.RowKit
set_option maxHeartbeats 4000000
set_option maxRecDepth 100000
theorem qqo (c:UInt8) (hc:c=104∨c=97∨c=115) (w:World):Calls Tryz.prog 201 #[.int .u8 (c.toNat:Int)] w fun e w'=>e=.returned (.int .i64 (sizeC c:Nat))∧w'=w:=by
 rcases hc with rfl | rfl | rfl
 all_goals
  go_enter Tryz.func201,Tryz.ntmps201
  go_wp2_with fail
  go_ret
  exact ⟨rfl,rfl⟩
theorem qp5 (n:Int) (b:Bytes) (A:Option Addr) (m c:Nat) (h0:0≤n) (h64:n < 18446744073709551616) (hn:(n == 0)=true) (hm:((m:Int) == 0)=true) (hb:(b == [])=true) (w:World) :
  Calls Tryz.prog 147 #[.agg #[.int .u8 110,.slice none 0 0],.agg #[.int .u64 n,.string (bs b),.slice A m c]] w fun e w'=>e=.returned (.tuple #[.agg #[.bool false,.string (bs (digs n.toNat)),.slice none 0 0],.bool true])∧Below w.heap.size w w':=by
 have hB:Below w.heap.size w (((w.alloc (.cells #[.int .u8 110,.slice none 0 0] 153)).alloc (.cells #[.int .u64 n,.string (bs b),.slice A m c] 81)).alloc (.cells #[.bool false,.string ⟨#[]⟩,.slice none 0 0] 53)):=(((Below.refl _ _).alloc qn _).alloc (by simp) _).alloc (by simp;omega) _
 have hI:=heap_alloc_new ((w.alloc (.cells #[.int .u8 110,.slice none 0 0] 153)).alloc (.cells #[.int .u64 n,.string (bs b),.slice A m c] 81)) (.cells #[.bool false,.string ⟨#[]⟩,.slice none 0 0] 53)
 have hF:=(heap_alloc_old ((w.alloc (.cells #[.int .u8 110,.slice none 0 0] 153)).alloc (.cells #[.int .u64 n,.string (bs b),.slice A m c] 81)) (.cells #[.bool false,.string ⟨#[]⟩,.slice none 0 0] 53) (by simp)).trans (heap_alloc_new (w.alloc (.cells #[.int .u8 110,.slice none 0 0] 153)) (.cells #[.int .u64 n,.string (bs b),.slice A m c] 81))
 have hKd:=(heap_alloc_old ((w.alloc (.cells #[.int .u8 110,.slice none 0 0] 153)).alloc (.cells #[.int .u64 n,.string (bs b),.slice A m c] 81)) (.cells #[.bool false,.string ⟨#[]⟩,.slice none 0 0] 53) (by simp;omega)).trans ((heap_alloc_old (w.alloc (.cells #[.int .u8 110,.slice none 0 0] 153)) (.cells #[.int .u64 n,.string (bs b),.slice A m c] 81) (by simp)).trans (heap_alloc_new w _))
 simp only [World.size_alloc] at hI hF hKd
 have HB:=qh hB
 have HI:=qh hI
 have HF:=qh hF
 have HK:=qh hKd
 clear hB hI hF hKd
 go_enter Tryz.func147,Tryz.ntmps147
 go_wp2_with fail
 have hbd:Below (((w.alloc (.cells #[.int .u8 110,.slice none 0 0] 153)).alloc (.cells #[.int .u64 n,.string (bs b),.slice A m c] 81)).alloc (.cells #[.bool false,.string ⟨#[]⟩,.slice none 0 0] 53)).heap.size (((w.alloc (.cells #[.int .u8 110,.slice none 0 0] 153)).alloc (.cells #[.int .u64 n,.string (bs b),.slice A m c] 81)).alloc (.cells #[.bool false,.string ⟨#[]⟩,.slice none 0 0] 53)) (((w.alloc (.cells #[.int .u8 110,.slice none 0 0] 153)).alloc (.cells #[.int .u64 n,.string (bs b),.slice A m c] 81)).alloc (.cells #[.bool false,.string ⟨#[]⟩,.slice none 0 0] 53)).drew:=(Below.refl _ _).drew
 have hKd:=(hbd.block _ (qg HK.out)).trans HK.out
 have hF:=(hbd.block _ (qg HF.out)).trans HF.out
 have hI:=(hbd.block _ (qg HI.out)).trans HI.out
 have hB:=qac HB.out HB.out.size hbd
 refine qat [(99,fun w'=>w'.heap[w.heap.size]? = some (.cells #[.int .u8 110,.slice none 0 0] 153 (0,0))∧w'.heap[w.heap.size+1]? = some (.cells #[.int .u64 n,.string (bs b),.slice A m c] 81 (0,0)))] (by kernel_rfl) ?_
 generalize (((w.alloc (.cells #[.int .u8 110,.slice none 0 0] 153)).alloc (.cells #[.int .u64 n,.string (bs b),.slice A m c] 81)).alloc (.cells #[.bool false,.string ⟨#[]⟩,.slice none 0 0] 53)).drew=w3 at hKd hF hI hB ⊢
 clear hbd HK HF HI HB
 refine R_p (i:=0) (v:=.pointer (some ⟨w.heap.size+1,0,none⟩)) (Mh ⟨hKd,hF⟩ Mn) ?_
 refine R_l (i:=1) (v:=.int .u64 n) 99 _ List.mem_cons_self rfl (qag rfl rfl rfl (fun w' hS=>rc hS.2 0 rfl) Tryz.underlying22 rfl) (Mh ⟨hKd,hF⟩ Mn) ?_
 refine R_p (i:=3) (v:=.pointer (some ⟨w.heap.size+1,1,none⟩)) (Mh ⟨hKd,hF⟩ Mn) ?_
 refine R_l (i:=4) (v:=.string (bs b)) 99 _ List.mem_cons_self rfl (qag rfl rfl rfl (fun w' hS=>rc hS.2 1 rfl) Tryz.underlying9 rfl) (Mh ⟨hKd,hF⟩ Mn) ?_
 refine R_p (i:=5) (v:=.bool true) (Mh ⟨hKd,hF⟩ Mn) ?_
 refine R_now 2 fun K hK=>?_
 go_simp
 refine (qb6 n h0 h64 _).mono ?_
 rintro e w4 ⟨rfl,hb4⟩
 replace hKd:=(hb4.block _ (qg hKd)).trans hKd
 replace hF:=(hb4.block _ (qg hF)).trans hF
 replace hI:=(hb4.block _ (qg hI)).trans hI
 replace hB:=qac hB hB.size hb4
 clear hb4
 refine hK.out _ _ (Mh ⟨hKd,hF⟩ Mn) (fun hMeets=>?_)
 clear hK K hMeets
 refine lay_R ?_
 refine R_p (i:=6) (v:=.bool true) (Mh ⟨hKd,hF⟩ Mn) ?_
 refine R_p (i:=7) (v:=.pointer (some ⟨w.heap.size+1,2,none⟩)) (Mh ⟨hKd,hF⟩ Mn) ?_
 refine R_l (i:=8) (v:=.slice A m c) 99 _ List.mem_cons_self rfl (qag rfl rfl rfl (fun w' hS=>rc hS.2 2 rfl) Tryz.underlying78 rfl) (Mh ⟨hKd,hF⟩ Mn) ?_
 refine R_p (i:=9) (v:=.int .i64 (m:Int)) (Mh ⟨hKd,hF⟩ Mn) ?_
 refine R_p (i:=10) (v:=.bool true) (Mh ⟨hKd,hF⟩ Mn) ?_
 refine R_p (i:=11) (v:=.bool true) (Mh ⟨hKd,hF⟩ Mn) ?_
 have d0:w4.cell? ⟨w.heap.size+1+1,0,none⟩=some (.bool false):=rc0 hI
 have d1:w4.cell? ⟨w.heap.size+1+1,1,none⟩=some (.string ⟨#[]⟩):=rc1 hI
 have d2:w4.cell? ⟨w.heap.size+1+1,2,none⟩=some (.slice none 0 0):=rc2 hI
 have f0:=rf hI 0
 have f1:=rf hI 1
 have f2:=rf hI 2
 refine R_now 12 fun K hK=>?_
 obtain ⟨W9,hW9⟩:∃ W9,W9=(((w4.setCell ⟨w.heap.size+1+1,0,none⟩ (.bool false)).setCell ⟨w.heap.size+1+1,1,none⟩ (.string (bs (digs n.toNat)))).setCell ⟨w.heap.size+1+1,2,none⟩ (.slice none 0 0)):=⟨_,rfl⟩
 have hI9:W9.heap[w.heap.size+1+1]? = some (.cells #[.bool false,.string (bs (digs n.toNat)),.slice none 0 0] 53 (0,0)):=by rw [hW9];exact qaa (qaa (qaa hI _) _) _
 have hF9:W9.heap[w.heap.size+1]? = some (.cells #[.int .u64 n,.string (bs b),.slice A m c] 81 (0,0)):=by rw [hW9];exact (qab (by omega) _).trans ((qab (by omega) _).trans ((qab (by omega) _).trans hF))
 have hKd9:W9.heap[w.heap.size]? = some (.cells #[.int .u8 110,.slice none 0 0] 153 (0,0)):=by rw [hW9];exact (qab (by omega) _).trans ((qab (by omega) _).trans ((qab (by omega) _).trans hKd))
 have hB9:Below w.heap.size w W9:=by rw [hW9];exact ((hB.setCell (p:=⟨w.heap.size+1+1,_,_⟩) (by simp;omega) _).setCell (p:=⟨w.heap.size+1+1,_,_⟩) (by simp;omega) _).setCell (p:=⟨w.heap.size+1+1,_,_⟩) (by simp;omega) _
 have HI9:=qh hI9
 have HB9:=qh hB9
 clear hI9 hB9
 go_simp
 rw [← hW9]
 clear hW9 d0 d1 d2 f0 f1 f2
 refine hK.out _ _ (Mh ⟨hKd9,hF9⟩ Mn) (fun hMeets=>?_)
 clear hK K hMeets
 refine lay_R ?_
 refine R_p (i:=13) (v:=.bool true) (Mh ⟨hKd9,hF9⟩ Mn) ?_
 refine qbi (by kernel_rfl) ?_ _
 go_wp2_with fail
 exact bodyPost_ret (v:=.tuple #[.agg #[.bool false,.string (bs (digs n.toNat)),.slice none 0 0],.bool true]) (qah rfl _ _ (w.heap.size+1+1) _ _ _ _ rfl HI9.out _ rfl Tryz.underlying53 rfl infoI) rfl ⟨rfl,HB9.out⟩
theorem qtv (n:Int) (b:Bytes) (A:Option Addr) (m c:Nat) (h0:0≤n) (h64:n < 18446744073709551616) (hn:(n == 0)=true) (hm:((m:Int) == 0)=true) (hb:(b == [])=false) (w:World) :
  Calls Tryz.prog 147 #[.agg #[.int .u8 110,.slice none 0 0],.agg #[.int .u64 n,.string (bs b),.slice A m c]] w fun e w'=>e=.returned (.tuple #[.agg #[.bool false,.string (bs (digs n.toNat)),.slice none 0 0],.bool false])∧Below w.heap.size w w':=by
 have hB:Below w.heap.size w (((w.alloc (.cells #[.int .u8 110,.slice none 0 0] 153)).alloc (.cells #[.int .u64 n,.string (bs b),.slice A m c] 81)).alloc (.cells #[.bool false,.string ⟨#[]⟩,.slice none 0 0] 53)):=(((Below.refl _ _).alloc qn _).alloc (by simp) _).alloc (by simp;omega) _
 have hI:=heap_alloc_new ((w.alloc (.cells #[.int .u8 110,.slice none 0 0] 153)).alloc (.cells #[.int .u64 n,.string (bs b),.slice A m c] 81)) (.cells #[.bool false,.string ⟨#[]⟩,.slice none 0 0] 53)
 have hF:=(heap_alloc_old ((w.alloc (.cells #[.int .u8 110,.slice none 0 0] 153)).alloc (.cells #[.int .u64 n,.string (bs b),.slice A m c] 81)) (.cells #[.bool false,.string ⟨#[]⟩,.slice none 0 0] 53) (by simp)).trans (heap_alloc_new (w.alloc (.cells #[.int .u8 110,.slice none 0 0] 153)) (.cells #[.int .u64 n,.string (bs b),.slice A m c] 81))
 have hKd:=(heap_alloc_old ((w.alloc (.cells #[.int .u8 110,.slice none 0 0] 153)).alloc (.cells #[.int .u64 n,.string (bs b),.slice A m c] 81)) (.cells #[.bool false,.string ⟨#[]⟩,.slice none 0 0] 53) (by simp;omega)).trans ((heap_alloc_old (w.alloc (.cells #[.int .u8 110,.slice none 0 0] 153)) (.cells #[.int .u64 n,.string (bs b),.slice A m c] 81) (by simp)).trans (heap_alloc_new w _))
 simp only [World.size_alloc] at hI hF hKd
 have HB:=qh hB
 have HI:=qh hI
 have HF:=qh hF
 have HK:=qh hKd
 clear hB hI hF hKd
 go_enter Tryz.func147,Tryz.ntmps147
 go_wp2_with fail
 have hbd:Below (((w.alloc (.cells #[.int .u8 110,.slice none 0 0] 153)).alloc (.cells #[.int .u64 n,.string (bs b),.slice A m c] 81)).alloc (.cells #[.bool false,.string ⟨#[]⟩,.slice none 0 0] 53)).heap.size (((w.alloc (.cells #[.int .u8 110,.slice none 0 0] 153)).alloc (.cells #[.int .u64 n,.string (bs b),.slice A m c] 81)).alloc (.cells #[.bool false,.string ⟨#[]⟩,.slice none 0 0] 53)) (((w.alloc (.cells #[.int .u8 110,.slice none 0 0] 153)).alloc (.cells #[.int .u64 n,.string (bs b),.slice A m c] 81)).alloc (.cells #[.bool false,.string ⟨#[]⟩,.slice none 0 0] 53)).drew:=(Below.refl _ _).drew
 have hKd:=(hbd.block _ (qg HK.out)).trans HK.out
 have hF:=(hbd.block _ (qg HF.out)).trans HF.out
 have hI:=(hbd.block _ (qg HI.out)).trans HI.out
 have hB:=qac HB.out HB.out.size hbd
 refine qat [(99,fun w'=>w'.heap[w.heap.size]? = some (.cells #[.int .u8 110,.slice none 0 0] 153 (0,0))∧w'.heap[w.heap.size+1]? = some (.cells #[.int .u64 n,.string (bs b),.slice A m c] 81 (0,0)))] (by kernel_rfl) ?_
 generalize (((w.alloc (.cells #[.int .u8 110,.slice none 0 0] 153)).alloc (.cells #[.int .u64 n,.string (bs b),.slice A m c] 81)).alloc (.cells #[.bool false,.string ⟨#[]⟩,.slice none 0 0] 53)).drew=w3 at hKd hF hI hB ⊢
 clear hbd HK HF HI HB
 refine R_p (i:=0) (v:=.pointer (some ⟨w.heap.size+1,0,none⟩)) (Mh ⟨hKd,hF⟩ Mn) ?_
 refine R_l (i:=1) (v:=.int .u64 n) 99 _ List.mem_cons_self rfl (qag rfl rfl rfl (fun w' hS=>rc hS.2 0 rfl) Tryz.underlying22 rfl) (Mh ⟨hKd,hF⟩ Mn) ?_
 refine R_p (i:=3) (v:=.pointer (some ⟨w.heap.size+1,1,none⟩)) (Mh ⟨hKd,hF⟩ Mn) ?_
 refine R_l (i:=4) (v:=.string (bs b)) 99 _ List.mem_cons_self rfl (qag rfl rfl rfl (fun w' hS=>rc hS.2 1 rfl) Tryz.underlying9 rfl) (Mh ⟨hKd,hF⟩ Mn) ?_
 refine R_p (i:=5) (v:=.bool false) (Mh ⟨hKd,hF⟩ Mn) ?_
 refine R_now 2 fun K hK=>?_
 go_simp
 refine (qb6 n h0 h64 _).mono ?_
 rintro e w4 ⟨rfl,hb4⟩
 replace hKd:=(hb4.block _ (qg hKd)).trans hKd
 replace hF:=(hb4.block _ (qg hF)).trans hF
 replace hI:=(hb4.block _ (qg hI)).trans hI
 replace hB:=qac hB hB.size hb4
 clear hb4
 refine hK.out _ _ (Mh ⟨hKd,hF⟩ Mn) (fun hMeets=>?_)
 clear hK K hMeets
 refine lay_R ?_
 refine R_p (i:=6) (v:=.bool false) (Mh ⟨hKd,hF⟩ Mn) ?_
 refine R_s (i:=7) (Mh ⟨hKd,hF⟩ Mn) ?_
 refine R_s (i:=8) (Mh ⟨hKd,hF⟩ Mn) ?_
 refine R_s (i:=9) (Mh ⟨hKd,hF⟩ Mn) ?_
 refine R_s (i:=10) (Mh ⟨hKd,hF⟩ Mn) ?_
 refine R_p (i:=11) (v:=.bool false) (Mh ⟨hKd,hF⟩ Mn) ?_
 have d0:w4.cell? ⟨w.heap.size+1+1,0,none⟩=some (.bool false):=rc0 hI
 have d1:w4.cell? ⟨w.heap.size+1+1,1,none⟩=some (.string ⟨#[]⟩):=rc1 hI
 have d2:w4.cell? ⟨w.heap.size+1+1,2,none⟩=some (.slice none 0 0):=rc2 hI
 have f0:=rf hI 0
 have f1:=rf hI 1
 have f2:=rf hI 2
 refine R_now 12 fun K hK=>?_
 obtain ⟨W9,hW9⟩:∃ W9,W9=(((w4.setCell ⟨w.heap.size+1+1,0,none⟩ (.bool false)).setCell ⟨w.heap.size+1+1,1,none⟩ (.string (bs (digs n.toNat)))).setCell ⟨w.heap.size+1+1,2,none⟩ (.slice none 0 0)):=⟨_,rfl⟩
 have hI9:W9.heap[w.heap.size+1+1]? = some (.cells #[.bool false,.string (bs (digs n.toNat)),.slice none 0 0] 53 (0,0)):=by rw [hW9];exact qaa (qaa (qaa hI _) _) _
 have hF9:W9.heap[w.heap.size+1]? = some (.cells #[.int .u64 n,.string (bs b),.slice A m c] 81 (0,0)):=by rw [hW9];exact (qab (by omega) _).trans ((qab (by omega) _).trans ((qab (by omega) _).trans hF))
 have hKd9:W9.heap[w.heap.size]? = some (.cells #[.int .u8 110,.slice none 0 0] 153 (0,0)):=by rw [hW9];exact (qab (by omega) _).trans ((qab (by omega) _).trans ((qab (by omega) _).trans hKd))
 have hB9:Below w.heap.size w W9:=by rw [hW9];exact ((hB.setCell (p:=⟨w.heap.size+1+1,_,_⟩) (by simp;omega) _).setCell (p:=⟨w.heap.size+1+1,_,_⟩) (by simp;omega) _).setCell (p:=⟨w.heap.size+1+1,_,_⟩) (by simp;omega) _
 have HI9:=qh hI9
 have HB9:=qh hB9
 clear hI9 hB9
 go_simp
 rw [← hW9]
 clear hW9 d0 d1 d2 f0 f1 f2
 refine hK.out _ _ (Mh ⟨hKd9,hF9⟩ Mn) (fun hMeets=>?_)
 clear hK K hMeets
 refine lay_R ?_
 refine R_p (i:=13) (v:=.bool false) (Mh ⟨hKd9,hF9⟩ Mn) ?_
 refine qbi (by kernel_rfl) ?_ _
 go_wp2_with fail
 exact bodyPost_ret (v:=.tuple #[.agg #[.bool false,.string (bs (digs n.toNat)),.slice none 0 0],.bool false]) (qah rfl _ _ (w.heap.size+1+1) _ _ _ _ rfl HI9.out _ rfl Tryz.underlying53 rfl infoI) rfl ⟨rfl,HB9.out⟩
theorem qrx (n:Int) (b:Bytes) (A:Option Addr) (m c:Nat) (h0:0≤n) (h64:n < 18446744073709551616) (hn:(n == 0)=true) (hm:((m:Int) == 0)=false) (hb:(b == [])=true) (w:World) :
  Calls Tryz.prog 147 #[.agg #[.int .u8 110,.slice none 0 0],.agg #[.int .u64 n,.string (bs b),.slice A m c]] w fun e w'=>e=.returned (.tuple #[.agg #[.bool false,.string (bs (digs n.toNat)),.slice none 0 0],.bool false])∧Below w.heap.size w w':=by
 have hB:Below w.heap.size w (((w.alloc (.cells #[.int .u8 110,.slice none 0 0] 153)).alloc (.cells #[.int .u64 n,.string (bs b),.slice A m c] 81)).alloc (.cells #[.bool false,.string ⟨#[]⟩,.slice none 0 0] 53)):=(((Below.refl _ _).alloc qn _).alloc (by simp) _).alloc (by simp;omega) _
 have hI:=heap_alloc_new ((w.alloc (.cells #[.int .u8 110,.slice none 0 0] 153)).alloc (.cells #[.int .u64 n,.string (bs b),.slice A m c] 81)) (.cells #[.bool false,.string ⟨#[]⟩,.slice none 0 0] 53)
 have hF:=(heap_alloc_old ((w.alloc (.cells #[.int .u8 110,.slice none 0 0] 153)).alloc (.cells #[.int .u64 n,.string (bs b),.slice A m c] 81)) (.cells #[.bool false,.string ⟨#[]⟩,.slice none 0 0] 53) (by simp)).trans (heap_alloc_new (w.alloc (.cells #[.int .u8 110,.slice none 0 0] 153)) (.cells #[.int .u64 n,.string (bs b),.slice A m c] 81))
 have hKd:=(heap_alloc_old ((w.alloc (.cells #[.int .u8 110,.slice none 0 0] 153)).alloc (.cells #[.int .u64 n,.string (bs b),.slice A m c] 81)) (.cells #[.bool false,.string ⟨#[]⟩,.slice none 0 0] 53) (by simp;omega)).trans ((heap_alloc_old (w.alloc (.cells #[.int .u8 110,.slice none 0 0] 153)) (.cells #[.int .u64 n,.string (bs b),.slice A m c] 81) (by simp)).trans (heap_alloc_new w _))
 simp only [World.size_alloc] at hI hF hKd
 have HB:=qh hB
 have HI:=qh hI
 have HF:=qh hF
 have HK:=qh hKd
 clear hB hI hF hKd
 go_enter Tryz.func147,Tryz.ntmps147
 go_wp2_with fail
 have hbd:Below (((w.alloc (.cells #[.int .u8 110,.slice none 0 0] 153)).alloc (.cells #[.int .u64 n,.string (bs b),.slice A m c] 81)).alloc (.cells #[.bool false,.string ⟨#[]⟩,.slice none 0 0] 53)).heap.size (((w.alloc (.cells #[.int .u8 110,.slice none 0 0] 153)).alloc (.cells #[.int .u64 n,.string (bs b),.slice A m c] 81)).alloc (.cells #[.bool false,.string ⟨#[]⟩,.slice none 0 0] 53)) (((w.alloc (.cells #[.int .u8 110,.slice none 0 0] 153)).alloc (.cells #[.int .u64 n,.string (bs b),.slice A m c] 81)).alloc (.cells #[.bool false,.string ⟨#[]⟩,.slice none 0 0] 53)).drew:=(Below.refl _ _).drew
 have hKd:=(hbd.block _ (qg HK.out)).trans HK.out
 have hF:=(hbd.block _ (qg HF.out)).trans HF.out
 have hI:=(hbd.block _ (qg HI.out)).trans HI.out
 have hB:=qac HB.out HB.out.size hbd
 refine qat [(99,fun w'=>w'.heap[w.heap.size]? = some (.cells #[.int .u8 110,.slice none 0 0] 153 (0,0))∧w'.heap[w.heap.size+1]? = some (.cells #[.int .u64 n,.string (bs b),.slice A m c] 81 (0,0)))] (by kernel_rfl) ?_
 generalize (((w.alloc (.cells #[.int .u8 110,.slice none 0 0] 153)).alloc (.cells #[.int .u64 n,.string (bs b),.slice A m c] 81)).alloc (.cells #[.bool false,.string ⟨#[]⟩,.slice none 0 0] 53)).drew=w3 at hKd hF hI hB ⊢
 clear hbd HK HF HI HB
 refine R_p (i:=0) (v:=.pointer (some ⟨w.heap.size+1,0,none⟩)) (Mh ⟨hKd,hF⟩ Mn) ?_
 refine R_l (i:=1) (v:=.int .u64 n) 99 _ List.mem_cons_self rfl (qag rfl rfl rfl (fun w' hS=>rc hS.2 0 rfl) Tryz.underlying22 rfl) (Mh ⟨hKd,hF⟩ Mn) ?_
 refine R_p (i:=3) (v:=.pointer (some ⟨w.heap.size+1,1,none⟩)) (Mh ⟨hKd,hF⟩ Mn) ?_
 refine R_l (i:=4) (v:=.string (bs b)) 99 _ List.mem_cons_self rfl (qag rfl rfl rfl (fun w' hS=>rc hS.2 1 rfl) Tryz.underlying9 rfl) (Mh ⟨hKd,hF⟩ Mn) ?_
 refine R_p (i:=5) (v:=.bool true) (Mh ⟨hKd,hF⟩ Mn) ?_
 refine R_now 2 fun K hK=>?_
 go_simp
 refine (qb6 n h0 h64 _).mono ?_
 rintro e w4 ⟨rfl,hb4⟩
 replace hKd:=(hb4.block _ (qg hKd)).trans hKd
 replace hF:=(hb4.block _ (qg hF)).trans hF
 replace hI:=(hb4.block _ (qg hI)).trans hI
 replace hB:=qac hB hB.size hb4
 clear hb4
 refine hK.out _ _ (Mh ⟨hKd,hF⟩ Mn) (fun hMeets=>?_)
 clear hK K hMeets
 refine lay_R ?_
 refine R_p (i:=6) (v:=.bool true) (Mh ⟨hKd,hF⟩ Mn) ?_
 refine R_p (i:=7) (v:=.pointer (some ⟨w.heap.size+1,2,none⟩)) (Mh ⟨hKd,hF⟩ Mn) ?_
 refine R_l (i:=8) (v:=.slice A m c) 99 _ List.mem_cons_self rfl (qag rfl rfl rfl (fun w' hS=>rc hS.2 2 rfl) Tryz.underlying78 rfl) (Mh ⟨hKd,hF⟩ Mn) ?_
 refine R_p (i:=9) (v:=.int .i64 (m:Int)) (Mh ⟨hKd,hF⟩ Mn) ?_
 refine R_p (i:=10) (v:=.bool false) (Mh ⟨hKd,hF⟩ Mn) ?_
 refine R_p (i:=11) (v:=.bool false) (Mh ⟨hKd,hF⟩ Mn) ?_
 have d0:w4.cell? ⟨w.heap.size+1+1,0,none⟩=some (.bool false):=rc0 hI
 have d1:w4.cell? ⟨w.heap.size+1+1,1,none⟩=some (.string ⟨#[]⟩):=rc1 hI
 have d2:w4.cell? ⟨w.heap.size+1+1,2,none⟩=some (.slice none 0 0):=rc2 hI
 have f0:=rf hI 0
 have f1:=rf hI 1
 have f2:=rf hI 2
 refine R_now 12 fun K hK=>?_
 obtain ⟨W9,hW9⟩:∃ W9,W9=(((w4.setCell ⟨w.heap.size+1+1,0,none⟩ (.bool false)).setCell ⟨w.heap.size+1+1,1,none⟩ (.string (bs (digs n.toNat)))).setCell ⟨w.heap.size+1+1,2,none⟩ (.slice none 0 0)):=⟨_,rfl⟩
 have hI9:W9.heap[w.heap.size+1+1]? = some (.cells #[.bool false,.string (bs (digs n.toNat)),.slice none 0 0] 53 (0,0)):=by rw [hW9];exact qaa (qaa (qaa hI _) _) _
 have hF9:W9.heap[w.heap.size+1]? = some (.cells #[.int .u64 n,.string (bs b),.slice A m c] 81 (0,0)):=by rw [hW9];exact (qab (by omega) _).trans ((qab (by omega) _).trans ((qab (by omega) _).trans hF))
 have hKd9:W9.heap[w.heap.size]? = some (.cells #[.int .u8 110,.slice none 0 0] 153 (0,0)):=by rw [hW9];exact (qab (by omega) _).trans ((qab (by omega) _).trans ((qab (by omega) _).trans hKd))
 have hB9:Below w.heap.size w W9:=by rw [hW9];exact ((hB.setCell (p:=⟨w.heap.size+1+1,_,_⟩) (by simp;omega) _).setCell (p:=⟨w.heap.size+1+1,_,_⟩) (by simp;omega) _).setCell (p:=⟨w.heap.size+1+1,_,_⟩) (by simp;omega) _
 have HI9:=qh hI9
 have HB9:=qh hB9
 clear hI9 hB9
 go_simp
 rw [← hW9]
 clear hW9 d0 d1 d2 f0 f1 f2
 refine hK.out _ _ (Mh ⟨hKd9,hF9⟩ Mn) (fun hMeets=>?_)
 clear hK K hMeets
 refine lay_R ?_
 refine R_p (i:=13) (v:=.bool false) (Mh ⟨hKd9,hF9⟩ Mn) ?_
 refine qbi (by kernel_rfl) ?_ _
 go_wp2_with fail
 exact bodyPost_ret (v:=.tuple #[.agg #[.bool false,.string (bs (digs n.toNat)),.slice none 0 0],.bool false]) (qah rfl _ _ (w.heap.size+1+1) _ _ _ _ rfl HI9.out _ rfl Tryz.underlying53 rfl infoI) rfl ⟨rfl,HB9.out⟩
theorem qqc (n:Int) (b:Bytes) (A:Option Addr) (m c:Nat) (h0:0≤n) (h64:n < 18446744073709551616) (hn:(n == 0)=true) (hm:((m:Int) == 0)=false) (hb:(b == [])=false) (w:World) :
  Calls Tryz.prog 147 #[.agg #[.int .u8 110,.slice none 0 0],.agg #[.int .u64 n,.string (bs b),.slice A m c]] w fun e w'=>e=.returned (.tuple #[.agg #[.bool false,.string (bs (digs n.toNat)),.slice none 0 0],.bool false])∧Below w.heap.size w w':=by
 have hB:Below w.heap.size w (((w.alloc (.cells #[.int .u8 110,.slice none 0 0] 153)).alloc (.cells #[.int .u64 n,.string (bs b),.slice A m c] 81)).alloc (.cells #[.bool false,.string ⟨#[]⟩,.slice none 0 0] 53)):=(((Below.refl _ _).alloc qn _).alloc (by simp) _).alloc (by simp;omega) _
 have hI:=heap_alloc_new ((w.alloc (.cells #[.int .u8 110,.slice none 0 0] 153)).alloc (.cells #[.int .u64 n,.string (bs b),.slice A m c] 81)) (.cells #[.bool false,.string ⟨#[]⟩,.slice none 0 0] 53)
 have hF:=(heap_alloc_old ((w.alloc (.cells #[.int .u8 110,.slice none 0 0] 153)).alloc (.cells #[.int .u64 n,.string (bs b),.slice A m c] 81)) (.cells #[.bool false,.string ⟨#[]⟩,.slice none 0 0] 53) (by simp)).trans (heap_alloc_new (w.alloc (.cells #[.int .u8 110,.slice none 0 0] 153)) (.cells #[.int .u64 n,.string (bs b),.slice A m c] 81))
 have hKd:=(heap_alloc_old ((w.alloc (.cells #[.int .u8 110,.slice none 0 0] 153)).alloc (.cells #[.int .u64 n,.string (bs b),.slice A m c] 81)) (.cells #[.bool false,.string ⟨#[]⟩,.slice none 0 0] 53) (by simp;omega)).trans ((heap_alloc_old (w.alloc (.cells #[.int .u8 110,.slice none 0 0] 153)) (.cells #[.int .u64 n,.string (bs b),.slice A m c] 81) (by simp)).trans (heap_alloc_new w _))
 simp only [World.size_alloc] at hI hF hKd
 have HB:=qh hB
 have HI:=qh hI
 have HF:=qh hF
 have HK:=qh hKd
 clear hB hI hF hKd
 go_enter Tryz.func147,Tryz.ntmps147
 go_wp2_with fail
 have hbd:Below (((w.alloc (.cells #[.int .u8 110,.slice none 0 0] 153)).alloc (.cells #[.int .u64 n,.string (bs b),.slice A m c] 81)).alloc (.cells #[.bool false,.string ⟨#[]⟩,.slice none 0 0] 53)).heap.size (((w.alloc (.cells #[.int .u8 110,.slice none 0 0] 153)).alloc (.cells #[.int .u64 n,.string (bs b),.slice A m c] 81)).alloc (.cells #[.bool false,.string ⟨#[]⟩,.slice none 0 0] 53)) (((w.alloc (.cells #[.int .u8 110,.slice none 0 0] 153)).alloc (.cells #[.int .u64 n,.string (bs b),.slice A m c] 81)).alloc (.cells #[.bool false,.string ⟨#[]⟩,.slice none 0 0] 53)).drew:=(Below.refl _ _).drew
 have hKd:=(hbd.block _ (qg HK.out)).trans HK.out
 have hF:=(hbd.block _ (qg HF.out)).trans HF.out
 have hI:=(hbd.block _ (qg HI.out)).trans HI.out
 have hB:=qac HB.out HB.out.size hbd
 refine qat [(99,fun w'=>w'.heap[w.heap.size]? = some (.cells #[.int .u8 110,.slice none 0 0] 153 (0,0))∧w'.heap[w.heap.size+1]? = some (.cells #[.int .u64 n,.string (bs b),.slice A m c] 81 (0,0)))] (by kernel_rfl) ?_
 generalize (((w.alloc (.cells #[.int .u8 110,.slice none 0 0] 153)).alloc (.cells #[.int .u64 n,.string (bs b),.slice A m c] 81)).alloc (.cells #[.bool false,.string ⟨#[]⟩,.slice none 0 0] 53)).drew=w3 at hKd hF hI hB ⊢
 clear hbd HK HF HI HB
 refine R_p (i:=0) (v:=.pointer (some ⟨w.heap.size+1,0,none⟩)) (Mh ⟨hKd,hF⟩ Mn) ?_
 refine R_l (i:=1) (v:=.int .u64 n) 99 _ List.mem_cons_self rfl (qag rfl rfl rfl (fun w' hS=>rc hS.2 0 rfl) Tryz.underlying22 rfl) (Mh ⟨hKd,hF⟩ Mn) ?_
 refine R_p (i:=3) (v:=.pointer (some ⟨w.heap.size+1,1,none⟩)) (Mh ⟨hKd,hF⟩ Mn) ?_
 refine R_l (i:=4) (v:=.string (bs b)) 99 _ List.mem_cons_self rfl (qag rfl rfl rfl (fun w' hS=>rc hS.2 1 rfl) Tryz.underlying9 rfl) (Mh ⟨hKd,hF⟩ Mn) ?_
 refine R_p (i:=5) (v:=.bool false) (Mh ⟨hKd,hF⟩ Mn) ?_
 refine R_now 2 fun K hK=>?_
 go_simp
 refine (qb6 n h0 h64 _).mono ?_
 rintro e w4 ⟨rfl,hb4⟩
 replace hKd:=(hb4.block _ (qg hKd)).trans hKd
 replace hF:=(hb4.block _ (qg hF)).trans hF
 replace hI:=(hb4.block _ (qg hI)).trans hI
 replace hB:=qac hB hB.size hb4
 clear hb4
 refine hK.out _ _ (Mh ⟨hKd,hF⟩ Mn) (fun hMeets=>?_)
 clear hK K hMeets
 refine lay_R ?_
 refine R_p (i:=6) (v:=.bool false) (Mh ⟨hKd,hF⟩ Mn) ?_
 refine R_s (i:=7) (Mh ⟨hKd,hF⟩ Mn) ?_
 refine R_s (i:=8) (Mh ⟨hKd,hF⟩ Mn) ?_
 refine R_s (i:=9) (Mh ⟨hKd,hF⟩ Mn) ?_
 refine R_s (i:=10) (Mh ⟨hKd,hF⟩ Mn) ?_
 refine R_p (i:=11) (v:=.bool false) (Mh ⟨hKd,hF⟩ Mn) ?_
 have d0:w4.cell? ⟨w.heap.size+1+1,0,none⟩=some (.bool false):=rc0 hI
 have d1:w4.cell? ⟨w.heap.size+1+1,1,none⟩=some (.string ⟨#[]⟩):=rc1 hI
 have d2:w4.cell? ⟨w.heap.size+1+1,2,none⟩=some (.slice none 0 0):=rc2 hI
 have f0:=rf hI 0
 have f1:=rf hI 1
 have f2:=rf hI 2
 refine R_now 12 fun K hK=>?_
 obtain ⟨W9,hW9⟩:∃ W9,W9=(((w4.setCell ⟨w.heap.size+1+1,0,none⟩ (.bool false)).setCell ⟨w.heap.size+1+1,1,none⟩ (.string (bs (digs n.toNat)))).setCell ⟨w.heap.size+1+1,2,none⟩ (.slice none 0 0)):=⟨_,rfl⟩
 have hI9:W9.heap[w.heap.size+1+1]? = some (.cells #[.bool false,.string (bs (digs n.toNat)),.slice none 0 0] 53 (0,0)):=by rw [hW9];exact qaa (qaa (qaa hI _) _) _
 have hF9:W9.heap[w.heap.size+1]? = some (.cells #[.int .u64 n,.string (bs b),.slice A m c] 81 (0,0)):=by rw [hW9];exact (qab (by omega) _).trans ((qab (by omega) _).trans ((qab (by omega) _).trans hF))
 have hKd9:W9.heap[w.heap.size]? = some (.cells #[.int .u8 110,.slice none 0 0] 153 (0,0)):=by rw [hW9];exact (qab (by omega) _).trans ((qab (by omega) _).trans ((qab (by omega) _).trans hKd))
 have hB9:Below w.heap.size w W9:=by rw [hW9];exact ((hB.setCell (p:=⟨w.heap.size+1+1,_,_⟩) (by simp;omega) _).setCell (p:=⟨w.heap.size+1+1,_,_⟩) (by simp;omega) _).setCell (p:=⟨w.heap.size+1+1,_,_⟩) (by simp;omega) _
 have HI9:=qh hI9
 have HB9:=qh hB9
 clear hI9 hB9
 go_simp
 rw [← hW9]
 clear hW9 d0 d1 d2 f0 f1 f2
 refine hK.out _ _ (Mh ⟨hKd9,hF9⟩ Mn) (fun hMeets=>?_)
 clear hK K hMeets
 refine lay_R ?_
 refine R_p (i:=13) (v:=.bool false) (Mh ⟨hKd9,hF9⟩ Mn) ?_
 refine qbi (by kernel_rfl) ?_ _
 go_wp2_with fail
 exact bodyPost_ret (v:=.tuple #[.agg #[.bool false,.string (bs (digs n.toNat)),.slice none 0 0],.bool false]) (qah rfl _ _ (w.heap.size+1+1) _ _ _ _ rfl HI9.out _ rfl Tryz.underlying53 rfl infoI) rfl ⟨rfl,HB9.out⟩
theorem qqz (n:Int) (b:Bytes) (A:Option Addr) (m c:Nat) (h0:0≤n) (h64:n < 18446744073709551616) (hn:(n == 0)=false) (hm:((m:Int) == 0)=true) (hb:(b == [])=true) (w:World) :
  Calls Tryz.prog 147 #[.agg #[.int .u8 110,.slice none 0 0],.agg #[.int .u64 n,.string (bs b),.slice A m c]] w fun e w'=>e=.returned (.tuple #[.agg #[.bool false,.string (bs (digs n.toNat)),.slice none 0 0],.bool true])∧Below w.heap.size w w':=by
 have hB:Below w.heap.size w (((w.alloc (.cells #[.int .u8 110,.slice none 0 0] 153)).alloc (.cells #[.int .u64 n,.string (bs b),.slice A m c] 81)).alloc (.cells #[.bool false,.string ⟨#[]⟩,.slice none 0 0] 53)):=(((Below.refl _ _).alloc qn _).alloc (by simp) _).alloc (by simp;omega) _
 have hI:=heap_alloc_new ((w.alloc (.cells #[.int .u8 110,.slice none 0 0] 153)).alloc (.cells #[.int .u64 n,.string (bs b),.slice A m c] 81)) (.cells #[.bool false,.string ⟨#[]⟩,.slice none 0 0] 53)
 have hF:=(heap_alloc_old ((w.alloc (.cells #[.int .u8 110,.slice none 0 0] 153)).alloc (.cells #[.int .u64 n,.string (bs b),.slice A m c] 81)) (.cells #[.bool false,.string ⟨#[]⟩,.slice none 0 0] 53) (by simp)).trans (heap_alloc_new (w.alloc (.cells #[.int .u8 110,.slice none 0 0] 153)) (.cells #[.int .u64 n,.string (bs b),.slice A m c] 81))
 have hKd:=(heap_alloc_old ((w.alloc (.cells #[.int .u8 110,.slice none 0 0] 153)).alloc (.cells #[.int .u64 n,.string (bs b),.slice A m c] 81)) (.cells #[.bool false,.string ⟨#[]⟩,.slice none 0 0] 53) (by simp;omega)).trans ((heap_alloc_old (w.alloc (.cells #[.int .u8 110,.slice none 0 0] 153)) (.cells #[.int .u64 n,.string (bs b),.slice A m c] 81) (by simp)).trans (heap_alloc_new w _))
 simp only [World.size_alloc] at hI hF hKd
 have HB:=qh hB
 have HI:=qh hI
 have HF:=qh hF
 have HK:=qh hKd
 clear hB hI hF hKd
 go_enter Tryz.func147,Tryz.ntmps147
 go_wp2_with fail
 have hbd:Below (((w.alloc (.cells #[.int .u8 110,.slice none 0 0] 153)).alloc (.cells #[.int .u64 n,.string (bs b),.slice A m c] 81)).alloc (.cells #[.bool false,.string ⟨#[]⟩,.slice none 0 0] 53)).heap.size (((w.alloc (.cells #[.int .u8 110,.slice none 0 0] 153)).alloc (.cells #[.int .u64 n,.string (bs b),.slice A m c] 81)).alloc (.cells #[.bool false,.string ⟨#[]⟩,.slice none 0 0] 53)) (((w.alloc (.cells #[.int .u8 110,.slice none 0 0] 153)).alloc (.cells #[.int .u64 n,.string (bs b),.slice A m c] 81)).alloc (.cells #[.bool false,.string ⟨#[]⟩,.slice none 0 0] 53)).drew:=(Below.refl _ _).drew
 have hKd:=(hbd.block _ (qg HK.out)).trans HK.out
 have hF:=(hbd.block _ (qg HF.out)).trans HF.out
 have hI:=(hbd.block _ (qg HI.out)).trans HI.out
 have hB:=qac HB.out HB.out.size hbd
 refine qat [(99,fun w'=>w'.heap[w.heap.size]? = some (.cells #[.int .u8 110,.slice none 0 0] 153 (0,0))∧w'.heap[w.heap.size+1]? = some (.cells #[.int .u64 n,.string (bs b),.slice A m c] 81 (0,0)))] (by kernel_rfl) ?_
 generalize (((w.alloc (.cells #[.int .u8 110,.slice none 0 0] 153)).alloc (.cells #[.int .u64 n,.string (bs b),.slice A m c] 81)).alloc (.cells #[.bool false,.string ⟨#[]⟩,.slice none 0 0] 53)).drew=w3 at hKd hF hI hB ⊢
 clear hbd HK HF HI HB
 refine R_p (i:=0) (v:=.pointer (some ⟨w.heap.size+1,0,none⟩)) (Mh ⟨hKd,hF⟩ Mn) ?_
 refine R_l (i:=1) (v:=.int .u64 n) 99 _ List.mem_cons_self rfl (qag rfl rfl rfl (fun w' hS=>rc hS.2 0 rfl) Tryz.underlying22 rfl) (Mh ⟨hKd,hF⟩ Mn) ?_
 refine R_p (i:=3) (v:=.pointer (some ⟨w.heap.size+1,1,none⟩)) (Mh ⟨hKd,hF⟩ Mn) ?_
 refine R_l (i:=4) (v:=.string (bs b)) 99 _ List.mem_cons_self rfl (qag rfl rfl rfl (fun w' hS=>rc hS.2 1 rfl) Tryz.underlying9 rfl) (Mh ⟨hKd,hF⟩ Mn) ?_
 refine R_p (i:=5) (v:=.bool true) (Mh ⟨hKd,hF⟩ Mn) ?_
 refine R_now 2 fun K hK=>?_
 go_simp
 refine (qb6 n h0 h64 _).mono ?_
 rintro e w4 ⟨rfl,hb4⟩
 replace hKd:=(hb4.block _ (qg hKd)).trans hKd
 replace hF:=(hb4.block _ (qg hF)).trans hF
 replace hI:=(hb4.block _ (qg hI)).trans hI
 replace hB:=qac hB hB.size hb4
 clear hb4
 refine hK.out _ _ (Mh ⟨hKd,hF⟩ Mn) (fun hMeets=>?_)
 clear hK K hMeets
 refine lay_R ?_
 refine R_p (i:=6) (v:=.bool true) (Mh ⟨hKd,hF⟩ Mn) ?_
 refine R_p (i:=7) (v:=.pointer (some ⟨w.heap.size+1,2,none⟩)) (Mh ⟨hKd,hF⟩ Mn) ?_
 refine R_l (i:=8) (v:=.slice A m c) 99 _ List.mem_cons_self rfl (qag rfl rfl rfl (fun w' hS=>rc hS.2 2 rfl) Tryz.underlying78 rfl) (Mh ⟨hKd,hF⟩ Mn) ?_
 refine R_p (i:=9) (v:=.int .i64 (m:Int)) (Mh ⟨hKd,hF⟩ Mn) ?_
 refine R_p (i:=10) (v:=.bool true) (Mh ⟨hKd,hF⟩ Mn) ?_
 refine R_p (i:=11) (v:=.bool true) (Mh ⟨hKd,hF⟩ Mn) ?_
 have d0:w4.cell? ⟨w.heap.size+1+1,0,none⟩=some (.bool false):=rc0 hI
 have d1:w4.cell? ⟨w.heap.size+1+1,1,none⟩=some (.string ⟨#[]⟩):=rc1 hI
 have d2:w4.cell? ⟨w.heap.size+1+1,2,none⟩=some (.slice none 0 0):=rc2 hI
 have f0:=rf hI 0
 have f1:=rf hI 1
 have f2:=rf hI 2
 refine R_now 12 fun K hK=>?_
 obtain ⟨W9,hW9⟩:∃ W9,W9=(((w4.setCell ⟨w.heap.size+1+1,0,none⟩ (.bool false)).setCell ⟨w.heap.size+1+1,1,none⟩ (.string (bs (digs n.toNat)))).setCell ⟨w.heap.size+1+1,2,none⟩ (.slice none 0 0)):=⟨_,rfl⟩
 have hI9:W9.heap[w.heap.size+1+1]? = some (.cells #[.bool false,.string (bs (digs n.toNat)),.slice none 0 0] 53 (0,0)):=by rw [hW9];exact qaa (qaa (qaa hI _) _) _
 have hF9:W9.heap[w.heap.size+1]? = some (.cells #[.int .u64 n,.string (bs b),.slice A m c] 81 (0,0)):=by rw [hW9];exact (qab (by omega) _).trans ((qab (by omega) _).trans ((qab (by omega) _).trans hF))
 have hKd9:W9.heap[w.heap.size]? = some (.cells #[.int .u8 110,.slice none 0 0] 153 (0,0)):=by rw [hW9];exact (qab (by omega) _).trans ((qab (by omega) _).trans ((qab (by omega) _).trans hKd))
 have hB9:Below w.heap.size w W9:=by rw [hW9];exact ((hB.setCell (p:=⟨w.heap.size+1+1,_,_⟩) (by simp;omega) _).setCell (p:=⟨w.heap.size+1+1,_,_⟩) (by simp;omega) _).setCell (p:=⟨w.heap.size+1+1,_,_⟩) (by simp;omega) _
 have HI9:=qh hI9
 have HB9:=qh hB9
 clear hI9 hB9
 go_simp
 rw [← hW9]
 clear hW9 d0 d1 d2 f0 f1 f2
 refine hK.out _ _ (Mh ⟨hKd9,hF9⟩ Mn) (fun hMeets=>?_)
 clear hK K hMeets
 refine lay_R ?_
 refine R_p (i:=13) (v:=.bool true) (Mh ⟨hKd9,hF9⟩ Mn) ?_
 refine qbi (by kernel_rfl) ?_ _
 go_wp2_with fail
 exact bodyPost_ret (v:=.tuple #[.agg #[.bool false,.string (bs (digs n.toNat)),.slice none 0 0],.bool true]) (qah rfl _ _ (w.heap.size+1+1) _ _ _ _ rfl HI9.out _ rfl Tryz.underlying53 rfl infoI) rfl ⟨rfl,HB9.out⟩
theorem qr4 (n:Int) (b:Bytes) (A:Option Addr) (m c:Nat) (h0:0≤n) (h64:n < 18446744073709551616) (hn:(n == 0)=false) (hm:((m:Int) == 0)=true) (hb:(b == [])=false) (w:World) :
  Calls Tryz.prog 147 #[.agg #[.int .u8 110,.slice none 0 0],.agg #[.int .u64 n,.string (bs b),.slice A m c]] w fun e w'=>e=.returned (.tuple #[.agg #[.bool false,.string (bs (digs n.toNat)),.slice none 0 0],.bool false])∧Below w.heap.size w w':=by
 have hB:Below w.heap.size w (((w.alloc (.cells #[.int .u8 110,.slice none 0 0] 153)).alloc (.cells #[.int .u64 n,.string (bs b),.slice A m c] 81)).alloc (.cells #[.bool false,.string ⟨#[]⟩,.slice none 0 0] 53)):=(((Below.refl _ _).alloc qn _).alloc (by simp) _).alloc (by simp;omega) _
 have hI:=heap_alloc_new ((w.alloc (.cells #[.int .u8 110,.slice none 0 0] 153)).alloc (.cells #[.int .u64 n,.string (bs b),.slice A m c] 81)) (.cells #[.bool false,.string ⟨#[]⟩,.slice none 0 0] 53)
 have hF:=(heap_alloc_old ((w.alloc (.cells #[.int .u8 110,.slice none 0 0] 153)).alloc (.cells #[.int .u64 n,.string (bs b),.slice A m c] 81)) (.cells #[.bool false,.string ⟨#[]⟩,.slice none 0 0] 53) (by simp)).trans (heap_alloc_new (w.alloc (.cells #[.int .u8 110,.slice none 0 0] 153)) (.cells #[.int .u64 n,.string (bs b),.slice A m c] 81))
 have hKd:=(heap_alloc_old ((w.alloc (.cells #[.int .u8 110,.slice none 0 0] 153)).alloc (.cells #[.int .u64 n,.string (bs b),.slice A m c] 81)) (.cells #[.bool false,.string ⟨#[]⟩,.slice none 0 0] 53) (by simp;omega)).trans ((heap_alloc_old (w.alloc (.cells #[.int .u8 110,.slice none 0 0] 153)) (.cells #[.int .u64 n,.string (bs b),.slice A m c] 81) (by simp)).trans (heap_alloc_new w _))
 simp only [World.size_alloc] at hI hF hKd
 have HB:=qh hB
 have HI:=qh hI
 have HF:=qh hF
 have HK:=qh hKd
 clear hB hI hF hKd
 go_enter Tryz.func147,Tryz.ntmps147
 go_wp2_with fail
 have hbd:Below (((w.alloc (.cells #[.int .u8 110,.slice none 0 0] 153)).alloc (.cells #[.int .u64 n,.string (bs b),.slice A m c] 81)).alloc (.cells #[.bool false,.string ⟨#[]⟩,.slice none 0 0] 53)).heap.size (((w.alloc (.cells #[.int .u8 110,.slice none 0 0] 153)).alloc (.cells #[.int .u64 n,.string (bs b),.slice A m c] 81)).alloc (.cells #[.bool false,.string ⟨#[]⟩,.slice none 0 0] 53)) (((w.alloc (.cells #[.int .u8 110,.slice none 0 0] 153)).alloc (.cells #[.int .u64 n,.string (bs b),.slice A m c] 81)).alloc (.cells #[.bool false,.string ⟨#[]⟩,.slice none 0 0] 53)).drew:=(Below.refl _ _).drew
 have hKd:=(hbd.block _ (qg HK.out)).trans HK.out
 have hF:=(hbd.block _ (qg HF.out)).trans HF.out
 have hI:=(hbd.block _ (qg HI.out)).trans HI.out
 have hB:=qac HB.out HB.out.size hbd
 refine qat [(99,fun w'=>w'.heap[w.heap.size]? = some (.cells #[.int .u8 110,.slice none 0 0] 153 (0,0))∧w'.heap[w.heap.size+1]? = some (.cells #[.int .u64 n,.string (bs b),.slice A m c] 81 (0,0)))] (by kernel_rfl) ?_
 generalize (((w.alloc (.cells #[.int .u8 110,.slice none 0 0] 153)).alloc (.cells #[.int .u64 n,.string (bs b),.slice A m c] 81)).alloc (.cells #[.bool false,.string ⟨#[]⟩,.slice none 0 0] 53)).drew=w3 at hKd hF hI hB ⊢
 clear hbd HK HF HI HB
 refine R_p (i:=0) (v:=.pointer (some ⟨w.heap.size+1,0,none⟩)) (Mh ⟨hKd,hF⟩ Mn) ?_
 refine R_l (i:=1) (v:=.int .u64 n) 99 _ List.mem_cons_self rfl (qag rfl rfl rfl (fun w' hS=>rc hS.2 0 rfl) Tryz.underlying22 rfl) (Mh ⟨hKd,hF⟩ Mn) ?_
 refine R_p (i:=3) (v:=.pointer (some ⟨w.heap.size+1,1,none⟩)) (Mh ⟨hKd,hF⟩ Mn) ?_
 refine R_l (i:=4) (v:=.string (bs b)) 99 _ List.mem_cons_self rfl (qag rfl rfl rfl (fun w' hS=>rc hS.2 1 rfl) Tryz.underlying9 rfl) (Mh ⟨hKd,hF⟩ Mn) ?_
 refine R_p (i:=5) (v:=.bool false) (Mh ⟨hKd,hF⟩ Mn) ?_
 refine R_now 2 fun K hK=>?_
 go_simp
 refine (qb6 n h0 h64 _).mono ?_
 rintro e w4 ⟨rfl,hb4⟩
 replace hKd:=(hb4.block _ (qg hKd)).trans hKd
 replace hF:=(hb4.block _ (qg hF)).trans hF
 replace hI:=(hb4.block _ (qg hI)).trans hI
 replace hB:=qac hB hB.size hb4
 clear hb4
 refine hK.out _ _ (Mh ⟨hKd,hF⟩ Mn) (fun hMeets=>?_)
 clear hK K hMeets
 refine lay_R ?_
 refine R_p (i:=6) (v:=.bool false) (Mh ⟨hKd,hF⟩ Mn) ?_
 refine R_s (i:=7) (Mh ⟨hKd,hF⟩ Mn) ?_
 refine R_s (i:=8) (Mh ⟨hKd,hF⟩ Mn) ?_
 refine R_s (i:=9) (Mh ⟨hKd,hF⟩ Mn) ?_
 refine R_s (i:=10) (Mh ⟨hKd,hF⟩ Mn) ?_
 refine R_p (i:=11) (v:=.bool false) (Mh ⟨hKd,hF⟩ Mn) ?_
 have d0:w4.cell? ⟨w.heap.size+1+1,0,none⟩=some (.bool false):=rc0 hI
 have d1:w4.cell? ⟨w.heap.size+1+1,1,none⟩=some (.string ⟨#[]⟩):=rc1 hI
 have d2:w4.cell? ⟨w.heap.size+1+1,2,none⟩=some (.slice none 0 0):=rc2 hI
 have f0:=rf hI 0
 have f1:=rf hI 1
 have f2:=rf hI 2
 refine R_now 12 fun K hK=>?_
 obtain ⟨W9,hW9⟩:∃ W9,W9=(((w4.setCell ⟨w.heap.size+1+1,0,none⟩ (.bool false)).setCell ⟨w.heap.size+1+1,1,none⟩ (.string (bs (digs n.toNat)))).setCell ⟨w.heap.size+1+1,2,none⟩ (.slice none 0 0)):=⟨_,rfl⟩
 have hI9:W9.heap[w.heap.size+1+1]? = some (.cells #[.bool false,.string (bs (digs n.toNat)),.slice none 0 0] 53 (0,0)):=by rw [hW9];exact qaa (qaa (qaa hI _) _) _
 have hF9:W9.heap[w.heap.size+1]? = some (.cells #[.int .u64 n,.string (bs b),.slice A m c] 81 (0,0)):=by rw [hW9];exact (qab (by omega) _).trans ((qab (by omega) _).trans ((qab (by omega) _).trans hF))
 have hKd9:W9.heap[w.heap.size]? = some (.cells #[.int .u8 110,.slice none 0 0] 153 (0,0)):=by rw [hW9];exact (qab (by omega) _).trans ((qab (by omega) _).trans ((qab (by omega) _).trans hKd))
 have hB9:Below w.heap.size w W9:=by rw [hW9];exact ((hB.setCell (p:=⟨w.heap.size+1+1,_,_⟩) (by simp;omega) _).setCell (p:=⟨w.heap.size+1+1,_,_⟩) (by simp;omega) _).setCell (p:=⟨w.heap.size+1+1,_,_⟩) (by simp;omega) _
 have HI9:=qh hI9
 have HB9:=qh hB9
 clear hI9 hB9
 go_simp
 rw [← hW9]
 clear hW9 d0 d1 d2 f0 f1 f2
 refine hK.out _ _ (Mh ⟨hKd9,hF9⟩ Mn) (fun hMeets=>?_)
 clear hK K hMeets
 refine lay_R ?_
 refine R_p (i:=13) (v:=.bool false) (Mh ⟨hKd9,hF9⟩ Mn) ?_
 refine qbi (by kernel_rfl) ?_ _
 go_wp2_with fail
 exact bodyPost_ret (v:=.tuple #[.agg #[.bool false,.string (bs (digs n.toNat)),.slice none 0 0],.bool false]) (qah rfl _ _ (w.heap.size+1+1) _ _ _ _ rfl HI9.out _ rfl Tryz.underlying53 rfl infoI) rfl ⟨rfl,HB9.out⟩
theorem qs8 (n:Int) (b:Bytes) (A:Option Addr) (m c:Nat) (h0:0≤n) (h64:n < 18446744073709551616) (hn:(n == 0)=false) (hm:((m:Int) == 0)=false) (hb:(b == [])=true) (w:World) :
  Calls Tryz.prog 147 #[.agg #[.int .u8 110,.slice none 0 0],.agg #[.int .u64 n,.string (bs b),.slice A m c]] w fun e w'=>e=.returned (.tuple #[.agg #[.bool false,.string (bs (digs n.toNat)),.slice none 0 0],.bool false])∧Below w.heap.size w w':=by
 have hB:Below w.heap.size w (((w.alloc (.cells #[.int .u8 110,.slice none 0 0] 153)).alloc (.cells #[.int .u64 n,.string (bs b),.slice A m c] 81)).alloc (.cells #[.bool false,.string ⟨#[]⟩,.slice none 0 0] 53)):=(((Below.refl _ _).alloc qn _).alloc (by simp) _).alloc (by simp;omega) _
 have hI:=heap_alloc_new ((w.alloc (.cells #[.int .u8 110,.slice none 0 0] 153)).alloc (.cells #[.int .u64 n,.string (bs b),.slice A m c] 81)) (.cells #[.bool false,.string ⟨#[]⟩,.slice none 0 0] 53)
 have hF:=(heap_alloc_old ((w.alloc (.cells #[.int .u8 110,.slice none 0 0] 153)).alloc (.cells #[.int .u64 n,.string (bs b),.slice A m c] 81)) (.cells #[.bool false,.string ⟨#[]⟩,.slice none 0 0] 53) (by simp)).trans (heap_alloc_new (w.alloc (.cells #[.int .u8 110,.slice none 0 0] 153)) (.cells #[.int .u64 n,.string (bs b),.slice A m c] 81))
 have hKd:=(heap_alloc_old ((w.alloc (.cells #[.int .u8 110,.slice none 0 0] 153)).alloc (.cells #[.int .u64 n,.string (bs b),.slice A m c] 81)) (.cells #[.bool false,.string ⟨#[]⟩,.slice none 0 0] 53) (by simp;omega)).trans ((heap_alloc_old (w.alloc (.cells #[.int .u8 110,.slice none 0 0] 153)) (.cells #[.int .u64 n,.string (bs b),.slice A m c] 81) (by simp)).trans (heap_alloc_new w _))
 simp only [World.size_alloc] at hI hF hKd
 have HB:=qh hB
 have HI:=qh hI
 have HF:=qh hF
 have HK:=qh hKd
 clear hB hI hF hKd
 go_enter Tryz.func147,Tryz.ntmps147
 go_wp2_with fail
 have hbd:Below (((w.alloc (.cells #[.int .u8 110,.slice none 0 0] 153)).alloc (.cells #[.int .u64 n,.string (bs b),.slice A m c] 81)).alloc (.cells #[.bool false,.string ⟨#[]⟩,.slice none 0 0] 53)).heap.size (((w.alloc (.cells #[.int .u8 110,.slice none 0 0] 153)).alloc (.cells #[.int .u64 n,.string (bs b),.slice A m c] 81)).alloc (.cells #[.bool false,.string ⟨#[]⟩,.slice none 0 0] 53)) (((w.alloc (.cells #[.int .u8 110,.slice none 0 0] 153)).alloc (.cells #[.int .u64 n,.string (bs b),.slice A m c] 81)).alloc (.cells #[.bool false,.string ⟨#[]⟩,.slice none 0 0] 53)).drew:=(Below.refl _ _).drew
 have hKd:=(hbd.block _ (qg HK.out)).trans HK.out
 have hF:=(hbd.block _ (qg HF.out)).trans HF.out
 have hI:=(hbd.block _ (qg HI.out)).trans HI.out
 have hB:=qac HB.out HB.out.size hbd
 refine qat [(99,fun w'=>w'.heap[w.heap.size]? = some (.cells #[.int .u8 110,.slice none 0 0] 153 (0,0))∧w'.heap[w.heap.size+1]? = some (.cells #[.int .u64 n,.string (bs b),.slice A m c] 81 (0,0)))] (by kernel_rfl) ?_
 generalize (((w.alloc (.cells #[.int .u8 110,.slice none 0 0] 153)).alloc (.cells #[.int .u64 n,.string (bs b),.slice A m c] 81)).alloc (.cells #[.bool false,.string ⟨#[]⟩,.slice none 0 0] 53)).drew=w3 at hKd hF hI hB ⊢
 clear hbd HK HF HI HB
 refine R_p (i:=0) (v:=.pointer (some ⟨w.heap.size+1,0,none⟩)) (Mh ⟨hKd,hF⟩ Mn) ?_
 refine R_l (i:=1) (v:=.int .u64 n) 99 _ List.mem_cons_self rfl (qag rfl rfl rfl (fun w' hS=>rc hS.2 0 rfl) Tryz.underlying22 rfl) (Mh ⟨hKd,hF⟩ Mn) ?_
 refine R_p (i:=3) (v:=.pointer (some ⟨w.heap.size+1,1,none⟩)) (Mh ⟨hKd,hF⟩ Mn) ?_
 refine R_l (i:=4) (v:=.string (bs b)) 99 _ List.mem_cons_self rfl (qag rfl rfl rfl (fun w' hS=>rc hS.2 1 rfl) Tryz.underlying9 rfl) (Mh ⟨hKd,hF⟩ Mn) ?_
 refine R_p (i:=5) (v:=.bool true) (Mh ⟨hKd,hF⟩ Mn) ?_
 refine R_now 2 fun K hK=>?_
 go_simp
 refine (qb6 n h0 h64 _).mono ?_
 rintro e w4 ⟨rfl,hb4⟩
 replace hKd:=(hb4.block _ (qg hKd)).trans hKd
 replace hF:=(hb4.block _ (qg hF)).trans hF
 replace hI:=(hb4.block _ (qg hI)).trans hI
 replace hB:=qac hB hB.size hb4
 clear hb4
 refine hK.out _ _ (Mh ⟨hKd,hF⟩ Mn) (fun hMeets=>?_)
 clear hK K hMeets
 refine lay_R ?_
 refine R_p (i:=6) (v:=.bool true) (Mh ⟨hKd,hF⟩ Mn) ?_
 refine R_p (i:=7) (v:=.pointer (some ⟨w.heap.size+1,2,none⟩)) (Mh ⟨hKd,hF⟩ Mn) ?_
 refine R_l (i:=8) (v:=.slice A m c) 99 _ List.mem_cons_self rfl (qag rfl rfl rfl (fun w' hS=>rc hS.2 2 rfl) Tryz.underlying78 rfl) (Mh ⟨hKd,hF⟩ Mn) ?_
 refine R_p (i:=9) (v:=.int .i64 (m:Int)) (Mh ⟨hKd,hF⟩ Mn) ?_
 refine R_p (i:=10) (v:=.bool false) (Mh ⟨hKd,hF⟩ Mn) ?_
 refine R_p (i:=11) (v:=.bool false) (Mh ⟨hKd,hF⟩ Mn) ?_
 have d0:w4.cell? ⟨w.heap.size+1+1,0,none⟩=some (.bool false):=rc0 hI
 have d1:w4.cell? ⟨w.heap.size+1+1,1,none⟩=some (.string ⟨#[]⟩):=rc1 hI
 have d2:w4.cell? ⟨w.heap.size+1+1,2,none⟩=some (.slice none 0 0):=rc2 hI
 have f0:=rf hI 0
 have f1:=rf hI 1
 have f2:=rf hI 2
 refine R_now 12 fun K hK=>?_
 obtain ⟨W9,hW9⟩:∃ W9,W9=(((w4.setCell ⟨w.heap.size+1+1,0,none⟩ (.bool false)).setCell ⟨w.heap.size+1+1,1,none⟩ (.string (bs (digs n.toNat)))).setCell ⟨w.heap.size+1+1,2,none⟩ (.slice none 0 0)):=⟨_,rfl⟩
 have hI9:W9.heap[w.heap.size+1+1]? = some (.cells #[.bool false,.string (bs (digs n.toNat)),.slice none 0 0] 53 (0,0)):=by rw [hW9];exact qaa (qaa (qaa hI _) _) _
 have hF9:W9.heap[w.heap.size+1]? = some (.cells #[.int .u64 n,.string (bs b),.slice A m c] 81 (0,0)):=by rw [hW9];exact (qab (by omega) _).trans ((qab (by omega) _).trans ((qab (by omega) _).trans hF))
 have hKd9:W9.heap[w.heap.size]? = some (.cells #[.int .u8 110,.slice none 0 0] 153 (0,0)):=by rw [hW9];exact (qab (by omega) _).trans ((qab (by omega) _).trans ((qab (by omega) _).trans hKd))
 have hB9:Below w.heap.size w W9:=by rw [hW9];exact ((hB.setCell (p:=⟨w.heap.size+1+1,_,_⟩) (by simp;omega) _).setCell (p:=⟨w.heap.size+1+1,_,_⟩) (by simp;omega) _).setCell (p:=⟨w.heap.size+1+1,_,_⟩) (by simp;omega) _
 have HI9:=qh hI9
 have HB9:=qh hB9
 clear hI9 hB9
 go_simp
 rw [← hW9]
 clear hW9 d0 d1 d2 f0 f1 f2
 refine hK.out _ _ (Mh ⟨hKd9,hF9⟩ Mn) (fun hMeets=>?_)
 clear hK K hMeets
 refine lay_R ?_
 refine R_p (i:=13) (v:=.bool false) (Mh ⟨hKd9,hF9⟩ Mn) ?_
 refine qbi (by kernel_rfl) ?_ _
 go_wp2_with fail
 exact bodyPost_ret (v:=.tuple #[.agg #[.bool false,.string (bs (digs n.toNat)),.slice none 0 0],.bool false]) (qah rfl _ _ (w.heap.size+1+1) _ _ _ _ rfl HI9.out _ rfl Tryz.underlying53 rfl infoI) rfl ⟨rfl,HB9.out⟩
theorem qp6 (n:Int) (b:Bytes) (A:Option Addr) (m c:Nat) (h0:0≤n) (h64:n < 18446744073709551616) (hn:(n == 0)=false) (hm:((m:Int) == 0)=false) (hb:(b == [])=false) (w:World) :
  Calls Tryz.prog 147 #[.agg #[.int .u8 110,.slice none 0 0],.agg #[.int .u64 n,.string (bs b),.slice A m c]] w fun e w'=>e=.returned (.tuple #[.agg #[.bool false,.string (bs (digs n.toNat)),.slice none 0 0],.bool false])∧Below w.heap.size w w':=by
 have hB:Below w.heap.size w (((w.alloc (.cells #[.int .u8 110,.slice none 0 0] 153)).alloc (.cells #[.int .u64 n,.string (bs b),.slice A m c] 81)).alloc (.cells #[.bool false,.string ⟨#[]⟩,.slice none 0 0] 53)):=(((Below.refl _ _).alloc qn _).alloc (by simp) _).alloc (by simp;omega) _
 have hI:=heap_alloc_new ((w.alloc (.cells #[.int .u8 110,.slice none 0 0] 153)).alloc (.cells #[.int .u64 n,.string (bs b),.slice A m c] 81)) (.cells #[.bool false,.string ⟨#[]⟩,.slice none 0 0] 53)
 have hF:=(heap_alloc_old ((w.alloc (.cells #[.int .u8 110,.slice none 0 0] 153)).alloc (.cells #[.int .u64 n,.string (bs b),.slice A m c] 81)) (.cells #[.bool false,.string ⟨#[]⟩,.slice none 0 0] 53) (by simp)).trans (heap_alloc_new (w.alloc (.cells #[.int .u8 110,.slice none 0 0] 153)) (.cells #[.int .u64 n,.string (bs b),.slice A m c] 81))
 have hKd:=(heap_alloc_old ((w.alloc (.cells #[.int .u8 110,.slice none 0 0] 153)).alloc (.cells #[.int .u64 n,.string (bs b),.slice A m c] 81)) (.cells #[.bool false,.string ⟨#[]⟩,.slice none 0 0] 53) (by simp;omega)).trans ((heap_alloc_old (w.alloc (.cells #[.int .u8 110,.slice none 0 0] 153)) (.cells #[.int .u64 n,.string (bs b),.slice A m c] 81) (by simp)).trans (heap_alloc_new w _))
 simp only [World.size_alloc] at hI hF hKd
 have HB:=qh hB
 have HI:=qh hI
 have HF:=qh hF
 have HK:=qh hKd
 clear hB hI hF hKd
 go_enter Tryz.func147,Tryz.ntmps147
 go_wp2_with fail
 have hbd:Below (((w.alloc (.cells #[.int .u8 110,.slice none 0 0] 153)).alloc (.cells #[.int .u64 n,.string (bs b),.slice A m c] 81)).alloc (.cells #[.bool false,.string ⟨#[]⟩,.slice none 0 0] 53)).heap.size (((w.alloc (.cells #[.int .u8 110,.slice none 0 0] 153)).alloc (.cells #[.int .u64 n,.string (bs b),.slice A m c] 81)).alloc (.cells #[.bool false,.string ⟨#[]⟩,.slice none 0 0] 53)) (((w.alloc (.cells #[.int .u8 110,.slice none 0 0] 153)).alloc (.cells #[.int .u64 n,.string (bs b),.slice A m c] 81)).alloc (.cells #[.bool false,.string ⟨#[]⟩,.slice none 0 0] 53)).drew:=(Below.refl _ _).drew
 have hKd:=(hbd.block _ (qg HK.out)).trans HK.out
 have hF:=(hbd.block _ (qg HF.out)).trans HF.out
 have hI:=(hbd.block _ (qg HI.out)).trans HI.out
 have hB:=qac HB.out HB.out.size hbd
 refine qat [(99,fun w'=>w'.heap[w.heap.size]? = some (.cells #[.int .u8 110,.slice none 0 0] 153 (0,0))∧w'.heap[w.heap.size+1]? = some (.cells #[.int .u64 n,.string (bs b),.slice A m c] 81 (0,0)))] (by kernel_rfl) ?_
 generalize (((w.alloc (.cells #[.int .u8 110,.slice none 0 0] 153)).alloc (.cells #[.int .u64 n,.string (bs b),.slice A m c] 81)).alloc (.cells #[.bool false,.string ⟨#[]⟩,.slice none 0 0] 53)).drew=w3 at hKd hF hI hB ⊢
 clear hbd HK HF HI HB
 refine R_p (i:=0) (v:=.pointer (some ⟨w.heap.size+1,0,none⟩)) (Mh ⟨hKd,hF⟩ Mn) ?_
 refine R_l (i:=1) (v:=.int .u64 n) 99 _ List.mem_cons_self rfl (qag rfl rfl rfl (fun w' hS=>rc hS.2 0 rfl) Tryz.underlying22 rfl) (Mh ⟨hKd,hF⟩ Mn) ?_
 refine R_p (i:=3) (v:=.pointer (some ⟨w.heap.size+1,1,none⟩)) (Mh ⟨hKd,hF⟩ Mn) ?_
 refine R_l (i:=4) (v:=.string (bs b)) 99 _ List.mem_cons_self rfl (qag rfl rfl rfl (fun w' hS=>rc hS.2 1 rfl) Tryz.underlying9 rfl) (Mh ⟨hKd,hF⟩ Mn) ?_
 refine R_p (i:=5) (v:=.bool false) (Mh ⟨hKd,hF⟩ Mn) ?_
 refine R_now 2 fun K hK=>?_
 go_simp
 refine (qb6 n h0 h64 _).mono ?_
 rintro e w4 ⟨rfl,hb4⟩
 replace hKd:=(hb4.block _ (qg hKd)).trans hKd
 replace hF:=(hb4.block _ (qg hF)).trans hF
 replace hI:=(hb4.block _ (qg hI)).trans hI
 replace hB:=qac hB hB.size hb4
 clear hb4
 refine hK.out _ _ (Mh ⟨hKd,hF⟩ Mn) (fun hMeets=>?_)
 clear hK K hMeets
 refine lay_R ?_
 refine R_p (i:=6) (v:=.bool false) (Mh ⟨hKd,hF⟩ Mn) ?_
 refine R_s (i:=7) (Mh ⟨hKd,hF⟩ Mn) ?_
 refine R_s (i:=8) (Mh ⟨hKd,hF⟩ Mn) ?_
 refine R_s (i:=9) (Mh ⟨hKd,hF⟩ Mn) ?_
 refine R_s (i:=10) (Mh ⟨hKd,hF⟩ Mn) ?_
 refine R_p (i:=11) (v:=.bool false) (Mh ⟨hKd,hF⟩ Mn) ?_
 have d0:w4.cell? ⟨w.heap.size+1+1,0,none⟩=some (.bool false):=rc0 hI
 have d1:w4.cell? ⟨w.heap.size+1+1,1,none⟩=some (.string ⟨#[]⟩):=rc1 hI
 have d2:w4.cell? ⟨w.heap.size+1+1,2,none⟩=some (.slice none 0 0):=rc2 hI
 have f0:=rf hI 0
 have f1:=rf hI 1
 have f2:=rf hI 2
 refine R_now 12 fun K hK=>?_
 obtain ⟨W9,hW9⟩:∃ W9,W9=(((w4.setCell ⟨w.heap.size+1+1,0,none⟩ (.bool false)).setCell ⟨w.heap.size+1+1,1,none⟩ (.string (bs (digs n.toNat)))).setCell ⟨w.heap.size+1+1,2,none⟩ (.slice none 0 0)):=⟨_,rfl⟩
 have hI9:W9.heap[w.heap.size+1+1]? = some (.cells #[.bool false,.string (bs (digs n.toNat)),.slice none 0 0] 53 (0,0)):=by rw [hW9];exact qaa (qaa (qaa hI _) _) _
 have hF9:W9.heap[w.heap.size+1]? = some (.cells #[.int .u64 n,.string (bs b),.slice A m c] 81 (0,0)):=by rw [hW9];exact (qab (by omega) _).trans ((qab (by omega) _).trans ((qab (by omega) _).trans hF))
 have hKd9:W9.heap[w.heap.size]? = some (.cells #[.int .u8 110,.slice none 0 0] 153 (0,0)):=by rw [hW9];exact (qab (by omega) _).trans ((qab (by omega) _).trans ((qab (by omega) _).trans hKd))
 have hB9:Below w.heap.size w W9:=by rw [hW9];exact ((hB.setCell (p:=⟨w.heap.size+1+1,_,_⟩) (by simp;omega) _).setCell (p:=⟨w.heap.size+1+1,_,_⟩) (by simp;omega) _).setCell (p:=⟨w.heap.size+1+1,_,_⟩) (by simp;omega) _
 have HI9:=qh hI9
 have HB9:=qh hB9
 clear hI9 hB9
 go_simp
 rw [← hW9]
 clear hW9 d0 d1 d2 f0 f1 f2
 refine hK.out _ _ (Mh ⟨hKd9,hF9⟩ Mn) (fun hMeets=>?_)
 clear hK K hMeets
 refine lay_R ?_
 refine R_p (i:=13) (v:=.bool false) (Mh ⟨hKd9,hF9⟩ Mn) ?_
 refine qbi (by kernel_rfl) ?_ _
 go_wp2_with fail
 exact bodyPost_ret (v:=.tuple #[.agg #[.bool false,.string (bs (digs n.toNat)),.slice none 0 0],.bool false]) (qah rfl _ _ (w.heap.size+1+1) _ _ _ _ rfl HI9.out _ rfl Tryz.underlying53 rfl infoI) rfl ⟨rfl,HB9.out⟩
/- The walks of frame.sizes, and of frame.item at plain kinds, at bytes. -/
theorem qpx (n:Int) (b:Bytes) (A:Option Addr) (m c:Nat) (hn:(n == 0)=true) (hm:((m:Int) == 0)=true) (hl:(b.length:Int)≤64) (w:World) :
  Calls Tryz.prog 147 #[.agg #[.int .u8 98,.slice none 0 0],.agg #[.int .u64 n,.string (bs b),.slice A m c]] w fun e w'=>e=.returned (.tuple #[.agg #[.bool false,.string (bs b),.slice none 0 0],.bool true])∧Below w.heap.size w w':=by
 have hB:Below w.heap.size w (((w.alloc (.cells #[.int .u8 98,.slice none 0 0] 153)).alloc (.cells #[.int .u64 n,.string (bs b),.slice A m c] 81)).alloc (.cells #[.bool false,.string ⟨#[]⟩,.slice none 0 0] 53)):=(((Below.refl _ _).alloc qn _).alloc (by simp) _).alloc (by simp;omega) _
 have hI:=heap_alloc_new ((w.alloc (.cells #[.int .u8 98,.slice none 0 0] 153)).alloc (.cells #[.int .u64 n,.string (bs b),.slice A m c] 81)) (.cells #[.bool false,.string ⟨#[]⟩,.slice none 0 0] 53)
 have hF:=(heap_alloc_old ((w.alloc (.cells #[.int .u8 98,.slice none 0 0] 153)).alloc (.cells #[.int .u64 n,.string (bs b),.slice A m c] 81)) (.cells #[.bool false,.string ⟨#[]⟩,.slice none 0 0] 53) (by simp)).trans (heap_alloc_new (w.alloc (.cells #[.int .u8 98,.slice none 0 0] 153)) (.cells #[.int .u64 n,.string (bs b),.slice A m c] 81))
 have hKd:=(heap_alloc_old ((w.alloc (.cells #[.int .u8 98,.slice none 0 0] 153)).alloc (.cells #[.int .u64 n,.string (bs b),.slice A m c] 81)) (.cells #[.bool false,.string ⟨#[]⟩,.slice none 0 0] 53) (by simp;omega)).trans ((heap_alloc_old (w.alloc (.cells #[.int .u8 98,.slice none 0 0] 153)) (.cells #[.int .u64 n,.string (bs b),.slice A m c] 81) (by simp)).trans (heap_alloc_new w _))
 simp only [World.size_alloc] at hI hF hKd
 have HB:=qh hB
 have HI:=qh hI
 have HF:=qh hF
 have HK:=qh hKd
 clear hB hI hF hKd
 go_enter Tryz.func147,Tryz.ntmps147
 go_wp2_with fail
 have hbd:Below (((w.alloc (.cells #[.int .u8 98,.slice none 0 0] 153)).alloc (.cells #[.int .u64 n,.string (bs b),.slice A m c] 81)).alloc (.cells #[.bool false,.string ⟨#[]⟩,.slice none 0 0] 53)).heap.size (((w.alloc (.cells #[.int .u8 98,.slice none 0 0] 153)).alloc (.cells #[.int .u64 n,.string (bs b),.slice A m c] 81)).alloc (.cells #[.bool false,.string ⟨#[]⟩,.slice none 0 0] 53)) (((w.alloc (.cells #[.int .u8 98,.slice none 0 0] 153)).alloc (.cells #[.int .u64 n,.string (bs b),.slice A m c] 81)).alloc (.cells #[.bool false,.string ⟨#[]⟩,.slice none 0 0] 53)).drew:=(Below.refl _ _).drew
 have hKd:=(hbd.block _ (qg HK.out)).trans HK.out
 have hF:=(hbd.block _ (qg HF.out)).trans HF.out
 have hI:=(hbd.block _ (qg HI.out)).trans HI.out
 have hB:=qac HB.out HB.out.size hbd
 refine qat [(99,fun w'=>w'.heap[w.heap.size]? = some (.cells #[.int .u8 98,.slice none 0 0] 153 (0,0))∧w'.heap[w.heap.size+1]? = some (.cells #[.int .u64 n,.string (bs b),.slice A m c] 81 (0,0)))] (by kernel_rfl) ?_
 generalize (((w.alloc (.cells #[.int .u8 98,.slice none 0 0] 153)).alloc (.cells #[.int .u64 n,.string (bs b),.slice A m c] 81)).alloc (.cells #[.bool false,.string ⟨#[]⟩,.slice none 0 0] 53)).drew=w3 at hKd hF hI hB ⊢
 clear hbd HK HF HI HB
 refine R_p (i:=0) (v:=.pointer (some ⟨w.heap.size+1,1,none⟩)) (Mh ⟨hKd,hF⟩ Mn) ?_
 refine R_l (i:=1) (v:=.string (bs b)) 99 _ List.mem_cons_self rfl (qag rfl rfl rfl (fun w' hS=>rc hS.2 1 rfl) Tryz.underlying9 rfl) (Mh ⟨hKd,hF⟩ Mn) ?_
 refine R_p (i:=2) (v:=.agg #[.bool false,.string (bs b),.slice none 0 0]) (Mh ⟨hKd,hF⟩ Mn) ?_
 refine R_p (i:=3) (v:=.bool true) (Mh ⟨hKd,hF⟩ Mn) ?_
 refine R_p (i:=4) (v:=.bool true) (Mh ⟨hKd,hF⟩ Mn) ?_
 refine R_p (i:=5) (v:=.pointer (some ⟨w.heap.size+1,1,none⟩)) (Mh ⟨hKd,hF⟩ Mn) ?_
 refine R_l (i:=6) (v:=.string (bs b)) 99 _ List.mem_cons_self rfl (qag rfl rfl rfl (fun w' hS=>rc hS.2 1 rfl) Tryz.underlying9 rfl) (Mh ⟨hKd,hF⟩ Mn) ?_
 refine R_p (i:=7) (v:=.int .i64 (b.length:Int)) (Mh ⟨hKd,hF⟩ Mn) ?_
 refine R_p (i:=8) (v:=.bool true) (Mh ⟨hKd,hF⟩ Mn) ?_
 refine R_p (i:=9) (v:=.bool true) (Mh ⟨hKd,hF⟩ Mn) ?_
 have d0:w3.cell? ⟨w.heap.size+1+1,0,none⟩=some (.bool false):=rc0 hI
 have d1:w3.cell? ⟨w.heap.size+1+1,1,none⟩=some (.string ⟨#[]⟩):=rc1 hI
 have d2:w3.cell? ⟨w.heap.size+1+1,2,none⟩=some (.slice none 0 0):=rc2 hI
 have f0:=rf hI 0
 have f1:=rf hI 1
 have f2:=rf hI 2
 refine R_now 10 fun K hK=>?_
 obtain ⟨W9,hW9⟩:∃ W9,W9=(((w3.setCell ⟨w.heap.size+1+1,0,none⟩ (.bool false)).setCell ⟨w.heap.size+1+1,1,none⟩ (.string (bs b))).setCell ⟨w.heap.size+1+1,2,none⟩ (.slice none 0 0)):=⟨_,rfl⟩
 have hI9:W9.heap[w.heap.size+1+1]? = some (.cells #[.bool false,.string (bs b),.slice none 0 0] 53 (0,0)):=by rw [hW9];exact qaa (qaa (qaa hI _) _) _
 have hF9:W9.heap[w.heap.size+1]? = some (.cells #[.int .u64 n,.string (bs b),.slice A m c] 81 (0,0)):=by rw [hW9];exact (qab (by omega) _).trans ((qab (by omega) _).trans ((qab (by omega) _).trans hF))
 have hKd9:W9.heap[w.heap.size]? = some (.cells #[.int .u8 98,.slice none 0 0] 153 (0,0)):=by rw [hW9];exact (qab (by omega) _).trans ((qab (by omega) _).trans ((qab (by omega) _).trans hKd))
 have hB9:Below w.heap.size w W9:=by rw [hW9];exact ((hB.setCell (p:=⟨w.heap.size+1+1,_,_⟩) (by simp;omega) _).setCell (p:=⟨w.heap.size+1+1,_,_⟩) (by simp;omega) _).setCell (p:=⟨w.heap.size+1+1,_,_⟩) (by simp;omega) _
 have HI9:=qh hI9
 have HB9:=qh hB9
 clear hI9 hB9
 go_simp
 rw [← hW9]
 clear hW9 d0 d1 d2 f0 f1 f2
 refine hK.out _ _ (Mh ⟨hKd9,hF9⟩ Mn) (fun hMeets=>?_)
 clear hK K hMeets
 refine lay_R ?_
 refine R_p (i:=11) (v:=.bool true) (Mh ⟨hKd9,hF9⟩ Mn) ?_
 refine qbi (by kernel_rfl) ?_ _
 go_wp2_with fail
 exact bodyPost_ret (v:=.tuple #[.agg #[.bool false,.string (bs b),.slice none 0 0],.bool true]) (qah rfl _ _ (w.heap.size+1+1) _ _ _ _ rfl HI9.out _ rfl Tryz.underlying53 rfl infoI) rfl ⟨rfl,HB9.out⟩
theorem qss (n:Int) (b:Bytes) (A:Option Addr) (m c:Nat) (hn:(n == 0)=true) (hm:((m:Int) == 0)=true) (hl:¬ (b.length:Int)≤64) (w:World) :
  Calls Tryz.prog 147 #[.agg #[.int .u8 98,.slice none 0 0],.agg #[.int .u64 n,.string (bs b),.slice A m c]] w fun e w'=>e=.returned (.tuple #[.agg #[.bool false,.string (bs b),.slice none 0 0],.bool false])∧Below w.heap.size w w':=by
 have hB:Below w.heap.size w (((w.alloc (.cells #[.int .u8 98,.slice none 0 0] 153)).alloc (.cells #[.int .u64 n,.string (bs b),.slice A m c] 81)).alloc (.cells #[.bool false,.string ⟨#[]⟩,.slice none 0 0] 53)):=(((Below.refl _ _).alloc qn _).alloc (by simp) _).alloc (by simp;omega) _
 have hI:=heap_alloc_new ((w.alloc (.cells #[.int .u8 98,.slice none 0 0] 153)).alloc (.cells #[.int .u64 n,.string (bs b),.slice A m c] 81)) (.cells #[.bool false,.string ⟨#[]⟩,.slice none 0 0] 53)
 have hF:=(heap_alloc_old ((w.alloc (.cells #[.int .u8 98,.slice none 0 0] 153)).alloc (.cells #[.int .u64 n,.string (bs b),.slice A m c] 81)) (.cells #[.bool false,.string ⟨#[]⟩,.slice none 0 0] 53) (by simp)).trans (heap_alloc_new (w.alloc (.cells #[.int .u8 98,.slice none 0 0] 153)) (.cells #[.int .u64 n,.string (bs b),.slice A m c] 81))
 have hKd:=(heap_alloc_old ((w.alloc (.cells #[.int .u8 98,.slice none 0 0] 153)).alloc (.cells #[.int .u64 n,.string (bs b),.slice A m c] 81)) (.cells #[.bool false,.string ⟨#[]⟩,.slice none 0 0] 53) (by simp;omega)).trans ((heap_alloc_old (w.alloc (.cells #[.int .u8 98,.slice none 0 0] 153)) (.cells #[.int .u64 n,.string (bs b),.slice A m c] 81) (by simp)).trans (heap_alloc_new w _))
 simp only [World.size_alloc] at hI hF hKd
 have HB:=qh hB
 have HI:=qh hI
 have HF:=qh hF
 have HK:=qh hKd
 clear hB hI hF hKd
 go_enter Tryz.func147,Tryz.ntmps147
 go_wp2_with fail
 have hbd:Below (((w.alloc (.cells #[.int .u8 98,.slice none 0 0] 153)).alloc (.cells #[.int .u64 n,.string (bs b),.slice A m c] 81)).alloc (.cells #[.bool false,.string ⟨#[]⟩,.slice none 0 0] 53)).heap.size (((w.alloc (.cells #[.int .u8 98,.slice none 0 0] 153)).alloc (.cells #[.int .u64 n,.string (bs b),.slice A m c] 81)).alloc (.cells #[.bool false,.string ⟨#[]⟩,.slice none 0 0] 53)) (((w.alloc (.cells #[.int .u8 98,.slice none 0 0] 153)).alloc (.cells #[.int .u64 n,.string (bs b),.slice A m c] 81)).alloc (.cells #[.bool false,.string ⟨#[]⟩,.slice none 0 0] 53)).drew:=(Below.refl _ _).drew
 have hKd:=(hbd.block _ (qg HK.out)).trans HK.out
 have hF:=(hbd.block _ (qg HF.out)).trans HF.out
 have hI:=(hbd.block _ (qg HI.out)).trans HI.out
 have hB:=qac HB.out HB.out.size hbd
 refine qat [(99,fun w'=>w'.heap[w.heap.size]? = some (.cells #[.int .u8 98,.slice none 0 0] 153 (0,0))∧w'.heap[w.heap.size+1]? = some (.cells #[.int .u64 n,.string (bs b),.slice A m c] 81 (0,0)))] (by kernel_rfl) ?_
 generalize (((w.alloc (.cells #[.int .u8 98,.slice none 0 0] 153)).alloc (.cells #[.int .u64 n,.string (bs b),.slice A m c] 81)).alloc (.cells #[.bool false,.string ⟨#[]⟩,.slice none 0 0] 53)).drew=w3 at hKd hF hI hB ⊢
 clear hbd HK HF HI HB
 refine R_p (i:=0) (v:=.pointer (some ⟨w.heap.size+1,1,none⟩)) (Mh ⟨hKd,hF⟩ Mn) ?_
 refine R_l (i:=1) (v:=.string (bs b)) 99 _ List.mem_cons_self rfl (qag rfl rfl rfl (fun w' hS=>rc hS.2 1 rfl) Tryz.underlying9 rfl) (Mh ⟨hKd,hF⟩ Mn) ?_
 refine R_p (i:=2) (v:=.agg #[.bool false,.string (bs b),.slice none 0 0]) (Mh ⟨hKd,hF⟩ Mn) ?_
 refine R_p (i:=3) (v:=.bool true) (Mh ⟨hKd,hF⟩ Mn) ?_
 refine R_p (i:=4) (v:=.bool true) (Mh ⟨hKd,hF⟩ Mn) ?_
 refine R_p (i:=5) (v:=.pointer (some ⟨w.heap.size+1,1,none⟩)) (Mh ⟨hKd,hF⟩ Mn) ?_
 refine R_l (i:=6) (v:=.string (bs b)) 99 _ List.mem_cons_self rfl (qag rfl rfl rfl (fun w' hS=>rc hS.2 1 rfl) Tryz.underlying9 rfl) (Mh ⟨hKd,hF⟩ Mn) ?_
 refine R_p (i:=7) (v:=.int .i64 (b.length:Int)) (Mh ⟨hKd,hF⟩ Mn) ?_
 refine R_p (i:=8) (v:=.bool false) (Mh ⟨hKd,hF⟩ Mn) ?_
 refine R_p (i:=9) (v:=.bool false) (Mh ⟨hKd,hF⟩ Mn) ?_
 have d0:w3.cell? ⟨w.heap.size+1+1,0,none⟩=some (.bool false):=rc0 hI
 have d1:w3.cell? ⟨w.heap.size+1+1,1,none⟩=some (.string ⟨#[]⟩):=rc1 hI
 have d2:w3.cell? ⟨w.heap.size+1+1,2,none⟩=some (.slice none 0 0):=rc2 hI
 have f0:=rf hI 0
 have f1:=rf hI 1
 have f2:=rf hI 2
 refine R_now 10 fun K hK=>?_
 obtain ⟨W9,hW9⟩:∃ W9,W9=(((w3.setCell ⟨w.heap.size+1+1,0,none⟩ (.bool false)).setCell ⟨w.heap.size+1+1,1,none⟩ (.string (bs b))).setCell ⟨w.heap.size+1+1,2,none⟩ (.slice none 0 0)):=⟨_,rfl⟩
 have hI9:W9.heap[w.heap.size+1+1]? = some (.cells #[.bool false,.string (bs b),.slice none 0 0] 53 (0,0)):=by rw [hW9];exact qaa (qaa (qaa hI _) _) _
 have hF9:W9.heap[w.heap.size+1]? = some (.cells #[.int .u64 n,.string (bs b),.slice A m c] 81 (0,0)):=by rw [hW9];exact (qab (by omega) _).trans ((qab (by omega) _).trans ((qab (by omega) _).trans hF))
 have hKd9:W9.heap[w.heap.size]? = some (.cells #[.int .u8 98,.slice none 0 0] 153 (0,0)):=by rw [hW9];exact (qab (by omega) _).trans ((qab (by omega) _).trans ((qab (by omega) _).trans hKd))
 have hB9:Below w.heap.size w W9:=by rw [hW9];exact ((hB.setCell (p:=⟨w.heap.size+1+1,_,_⟩) (by simp;omega) _).setCell (p:=⟨w.heap.size+1+1,_,_⟩) (by simp;omega) _).setCell (p:=⟨w.heap.size+1+1,_,_⟩) (by simp;omega) _
 have HI9:=qh hI9
 have HB9:=qh hB9
 clear hI9 hB9
 go_simp
 rw [← hW9]
 clear hW9 d0 d1 d2 f0 f1 f2
 refine hK.out _ _ (Mh ⟨hKd9,hF9⟩ Mn) (fun hMeets=>?_)
 clear hK K hMeets
 refine lay_R ?_
 refine R_p (i:=11) (v:=.bool false) (Mh ⟨hKd9,hF9⟩ Mn) ?_
 refine qbi (by kernel_rfl) ?_ _
 go_wp2_with fail
 exact bodyPost_ret (v:=.tuple #[.agg #[.bool false,.string (bs b),.slice none 0 0],.bool false]) (qah rfl _ _ (w.heap.size+1+1) _ _ _ _ rfl HI9.out _ rfl Tryz.underlying53 rfl infoI) rfl ⟨rfl,HB9.out⟩
theorem qqf (n:Int) (b:Bytes) (A:Option Addr) (m c:Nat) (hn:(n == 0)=true) (hm:((m:Int) == 0)=false) (w:World) :
  Calls Tryz.prog 147 #[.agg #[.int .u8 98,.slice none 0 0],.agg #[.int .u64 n,.string (bs b),.slice A m c]] w fun e w'=>e=.returned (.tuple #[.agg #[.bool false,.string (bs b),.slice none 0 0],.bool false])∧Below w.heap.size w w':=by
 have hB:Below w.heap.size w (((w.alloc (.cells #[.int .u8 98,.slice none 0 0] 153)).alloc (.cells #[.int .u64 n,.string (bs b),.slice A m c] 81)).alloc (.cells #[.bool false,.string ⟨#[]⟩,.slice none 0 0] 53)):=(((Below.refl _ _).alloc qn _).alloc (by simp) _).alloc (by simp;omega) _
 have hI:=heap_alloc_new ((w.alloc (.cells #[.int .u8 98,.slice none 0 0] 153)).alloc (.cells #[.int .u64 n,.string (bs b),.slice A m c] 81)) (.cells #[.bool false,.string ⟨#[]⟩,.slice none 0 0] 53)
 have hF:=(heap_alloc_old ((w.alloc (.cells #[.int .u8 98,.slice none 0 0] 153)).alloc (.cells #[.int .u64 n,.string (bs b),.slice A m c] 81)) (.cells #[.bool false,.string ⟨#[]⟩,.slice none 0 0] 53) (by simp)).trans (heap_alloc_new (w.alloc (.cells #[.int .u8 98,.slice none 0 0] 153)) (.cells #[.int .u64 n,.string (bs b),.slice A m c] 81))
 have hKd:=(heap_alloc_old ((w.alloc (.cells #[.int .u8 98,.slice none 0 0] 153)).alloc (.cells #[.int .u64 n,.string (bs b),.slice A m c] 81)) (.cells #[.bool false,.string ⟨#[]⟩,.slice none 0 0] 53) (by simp;omega)).trans ((heap_alloc_old (w.alloc (.cells #[.int .u8 98,.slice none 0 0] 153)) (.cells #[.int .u64 n,.string (bs b),.slice A m c] 81) (by simp)).trans (heap_alloc_new w _))
 simp only [World.size_alloc] at hI hF hKd
 have HB:=qh hB
 have HI:=qh hI
 have HF:=qh hF
 have HK:=qh hKd
 clear hB hI hF hKd
 go_enter Tryz.func147,Tryz.ntmps147
 go_wp2_with fail
 have hbd:Below (((w.alloc (.cells #[.int .u8 98,.slice none 0 0] 153)).alloc (.cells #[.int .u64 n,.string (bs b),.slice A m c] 81)).alloc (.cells #[.bool false,.string ⟨#[]⟩,.slice none 0 0] 53)).heap.size (((w.alloc (.cells #[.int .u8 98,.slice none 0 0] 153)).alloc (.cells #[.int .u64 n,.string (bs b),.slice A m c] 81)).alloc (.cells #[.bool false,.string ⟨#[]⟩,.slice none 0 0] 53)) (((w.alloc (.cells #[.int .u8 98,.slice none 0 0] 153)).alloc (.cells #[.int .u64 n,.string (bs b),.slice A m c] 81)).alloc (.cells #[.bool false,.string ⟨#[]⟩,.slice none 0 0] 53)).drew:=(Below.refl _ _).drew
 have hKd:=(hbd.block _ (qg HK.out)).trans HK.out
 have hF:=(hbd.block _ (qg HF.out)).trans HF.out
 have hI:=(hbd.block _ (qg HI.out)).trans HI.out
 have hB:=qac HB.out HB.out.size hbd
 refine qat [(99,fun w'=>w'.heap[w.heap.size]? = some (.cells #[.int .u8 98,.slice none 0 0] 153 (0,0))∧w'.heap[w.heap.size+1]? = some (.cells #[.int .u64 n,.string (bs b),.slice A m c] 81 (0,0)))] (by kernel_rfl) ?_
 generalize (((w.alloc (.cells #[.int .u8 98,.slice none 0 0] 153)).alloc (.cells #[.int .u64 n,.string (bs b),.slice A m c] 81)).alloc (.cells #[.bool false,.string ⟨#[]⟩,.slice none 0 0] 53)).drew=w3 at hKd hF hI hB ⊢
 clear hbd HK HF HI HB
 refine R_p (i:=0) (v:=.pointer (some ⟨w.heap.size+1,1,none⟩)) (Mh ⟨hKd,hF⟩ Mn) ?_
 refine R_l (i:=1) (v:=.string (bs b)) 99 _ List.mem_cons_self rfl (qag rfl rfl rfl (fun w' hS=>rc hS.2 1 rfl) Tryz.underlying9 rfl) (Mh ⟨hKd,hF⟩ Mn) ?_
 refine R_p (i:=2) (v:=.agg #[.bool false,.string (bs b),.slice none 0 0]) (Mh ⟨hKd,hF⟩ Mn) ?_
 refine R_p (i:=3) (v:=.bool false) (Mh ⟨hKd,hF⟩ Mn) ?_
 refine R_p (i:=4) (v:=.bool false) (Mh ⟨hKd,hF⟩ Mn) ?_
 refine R_s (i:=5) (Mh ⟨hKd,hF⟩ Mn) ?_
 refine R_s (i:=6) (Mh ⟨hKd,hF⟩ Mn) ?_
 refine R_s (i:=7) (Mh ⟨hKd,hF⟩ Mn) ?_
 refine R_s (i:=8) (Mh ⟨hKd,hF⟩ Mn) ?_
 refine R_p (i:=9) (v:=.bool false) (Mh ⟨hKd,hF⟩ Mn) ?_
 have d0:w3.cell? ⟨w.heap.size+1+1,0,none⟩=some (.bool false):=rc0 hI
 have d1:w3.cell? ⟨w.heap.size+1+1,1,none⟩=some (.string ⟨#[]⟩):=rc1 hI
 have d2:w3.cell? ⟨w.heap.size+1+1,2,none⟩=some (.slice none 0 0):=rc2 hI
 have f0:=rf hI 0
 have f1:=rf hI 1
 have f2:=rf hI 2
 refine R_now 10 fun K hK=>?_
 obtain ⟨W9,hW9⟩:∃ W9,W9=(((w3.setCell ⟨w.heap.size+1+1,0,none⟩ (.bool false)).setCell ⟨w.heap.size+1+1,1,none⟩ (.string (bs b))).setCell ⟨w.heap.size+1+1,2,none⟩ (.slice none 0 0)):=⟨_,rfl⟩
 have hI9:W9.heap[w.heap.size+1+1]? = some (.cells #[.bool false,.string (bs b),.slice none 0 0] 53 (0,0)):=by rw [hW9];exact qaa (qaa (qaa hI _) _) _
 have hF9:W9.heap[w.heap.size+1]? = some (.cells #[.int .u64 n,.string (bs b),.slice A m c] 81 (0,0)):=by rw [hW9];exact (qab (by omega) _).trans ((qab (by omega) _).trans ((qab (by omega) _).trans hF))
 have hKd9:W9.heap[w.heap.size]? = some (.cells #[.int .u8 98,.slice none 0 0] 153 (0,0)):=by rw [hW9];exact (qab (by omega) _).trans ((qab (by omega) _).trans ((qab (by omega) _).trans hKd))
 have hB9:Below w.heap.size w W9:=by rw [hW9];exact ((hB.setCell (p:=⟨w.heap.size+1+1,_,_⟩) (by simp;omega) _).setCell (p:=⟨w.heap.size+1+1,_,_⟩) (by simp;omega) _).setCell (p:=⟨w.heap.size+1+1,_,_⟩) (by simp;omega) _
 have HI9:=qh hI9
 have HB9:=qh hB9
 clear hI9 hB9
 go_simp
 rw [← hW9]
 clear hW9 d0 d1 d2 f0 f1 f2
 refine hK.out _ _ (Mh ⟨hKd9,hF9⟩ Mn) (fun hMeets=>?_)
 clear hK K hMeets
 refine lay_R ?_
 refine R_p (i:=11) (v:=.bool false) (Mh ⟨hKd9,hF9⟩ Mn) ?_
 refine qbi (by kernel_rfl) ?_ _
 go_wp2_with fail
 exact bodyPost_ret (v:=.tuple #[.agg #[.bool false,.string (bs b),.slice none 0 0],.bool false]) (qah rfl _ _ (w.heap.size+1+1) _ _ _ _ rfl HI9.out _ rfl Tryz.underlying53 rfl infoI) rfl ⟨rfl,HB9.out⟩
theorem qsa (n:Int) (b:Bytes) (A:Option Addr) (m c:Nat) (hn:(n == 0)=false) (w:World) :
  Calls Tryz.prog 147 #[.agg #[.int .u8 98,.slice none 0 0],.agg #[.int .u64 n,.string (bs b),.slice A m c]] w fun e w'=>e=.returned (.tuple #[.agg #[.bool false,.string (bs b),.slice none 0 0],.bool false])∧Below w.heap.size w w':=by
 have hB:Below w.heap.size w (((w.alloc (.cells #[.int .u8 98,.slice none 0 0] 153)).alloc (.cells #[.int .u64 n,.string (bs b),.slice A m c] 81)).alloc (.cells #[.bool false,.string ⟨#[]⟩,.slice none 0 0] 53)):=(((Below.refl _ _).alloc qn _).alloc (by simp) _).alloc (by simp;omega) _
 have hI:=heap_alloc_new ((w.alloc (.cells #[.int .u8 98,.slice none 0 0] 153)).alloc (.cells #[.int .u64 n,.string (bs b),.slice A m c] 81)) (.cells #[.bool false,.string ⟨#[]⟩,.slice none 0 0] 53)
 have hF:=(heap_alloc_old ((w.alloc (.cells #[.int .u8 98,.slice none 0 0] 153)).alloc (.cells #[.int .u64 n,.string (bs b),.slice A m c] 81)) (.cells #[.bool false,.string ⟨#[]⟩,.slice none 0 0] 53) (by simp)).trans (heap_alloc_new (w.alloc (.cells #[.int .u8 98,.slice none 0 0] 153)) (.cells #[.int .u64 n,.string (bs b),.slice A m c] 81))
 have hKd:=(heap_alloc_old ((w.alloc (.cells #[.int .u8 98,.slice none 0 0] 153)).alloc (.cells #[.int .u64 n,.string (bs b),.slice A m c] 81)) (.cells #[.bool false,.string ⟨#[]⟩,.slice none 0 0] 53) (by simp;omega)).trans ((heap_alloc_old (w.alloc (.cells #[.int .u8 98,.slice none 0 0] 153)) (.cells #[.int .u64 n,.string (bs b),.slice A m c] 81) (by simp)).trans (heap_alloc_new w _))
 simp only [World.size_alloc] at hI hF hKd
 have HB:=qh hB
 have HI:=qh hI
 have HF:=qh hF
 have HK:=qh hKd
 clear hB hI hF hKd
 go_enter Tryz.func147,Tryz.ntmps147
 go_wp2_with fail
 have hbd:Below (((w.alloc (.cells #[.int .u8 98,.slice none 0 0] 153)).alloc (.cells #[.int .u64 n,.string (bs b),.slice A m c] 81)).alloc (.cells #[.bool false,.string ⟨#[]⟩,.slice none 0 0] 53)).heap.size (((w.alloc (.cells #[.int .u8 98,.slice none 0 0] 153)).alloc (.cells #[.int .u64 n,.string (bs b),.slice A m c] 81)).alloc (.cells #[.bool false,.string ⟨#[]⟩,.slice none 0 0] 53)) (((w.alloc (.cells #[.int .u8 98,.slice none 0 0] 153)).alloc (.cells #[.int .u64 n,.string (bs b),.slice A m c] 81)).alloc (.cells #[.bool false,.string ⟨#[]⟩,.slice none 0 0] 53)).drew:=(Below.refl _ _).drew
 have hKd:=(hbd.block _ (qg HK.out)).trans HK.out
 have hF:=(hbd.block _ (qg HF.out)).trans HF.out
 have hI:=(hbd.block _ (qg HI.out)).trans HI.out
 have hB:=qac HB.out HB.out.size hbd
 refine qat [(99,fun w'=>w'.heap[w.heap.size]? = some (.cells #[.int .u8 98,.slice none 0 0] 153 (0,0))∧w'.heap[w.heap.size+1]? = some (.cells #[.int .u64 n,.string (bs b),.slice A m c] 81 (0,0)))] (by kernel_rfl) ?_
 generalize (((w.alloc (.cells #[.int .u8 98,.slice none 0 0] 153)).alloc (.cells #[.int .u64 n,.string (bs b),.slice A m c] 81)).alloc (.cells #[.bool false,.string ⟨#[]⟩,.slice none 0 0] 53)).drew=w3 at hKd hF hI hB ⊢
 clear hbd HK HF HI HB
 refine R_p (i:=0) (v:=.pointer (some ⟨w.heap.size+1,1,none⟩)) (Mh ⟨hKd,hF⟩ Mn) ?_
 refine R_l (i:=1) (v:=.string (bs b)) 99 _ List.mem_cons_self rfl (qag rfl rfl rfl (fun w' hS=>rc hS.2 1 rfl) Tryz.underlying9 rfl) (Mh ⟨hKd,hF⟩ Mn) ?_
 refine R_p (i:=2) (v:=.agg #[.bool false,.string (bs b),.slice none 0 0]) (Mh ⟨hKd,hF⟩ Mn) ?_
 refine R_p (i:=3) (v:=.bool false) (Mh ⟨hKd,hF⟩ Mn) ?_
 refine R_p (i:=4) (v:=.bool false) (Mh ⟨hKd,hF⟩ Mn) ?_
 refine R_s (i:=5) (Mh ⟨hKd,hF⟩ Mn) ?_
 refine R_s (i:=6) (Mh ⟨hKd,hF⟩ Mn) ?_
 refine R_s (i:=7) (Mh ⟨hKd,hF⟩ Mn) ?_
 refine R_s (i:=8) (Mh ⟨hKd,hF⟩ Mn) ?_
 refine R_p (i:=9) (v:=.bool false) (Mh ⟨hKd,hF⟩ Mn) ?_
 have d0:w3.cell? ⟨w.heap.size+1+1,0,none⟩=some (.bool false):=rc0 hI
 have d1:w3.cell? ⟨w.heap.size+1+1,1,none⟩=some (.string ⟨#[]⟩):=rc1 hI
 have d2:w3.cell? ⟨w.heap.size+1+1,2,none⟩=some (.slice none 0 0):=rc2 hI
 have f0:=rf hI 0
 have f1:=rf hI 1
 have f2:=rf hI 2
 refine R_now 10 fun K hK=>?_
 obtain ⟨W9,hW9⟩:∃ W9,W9=(((w3.setCell ⟨w.heap.size+1+1,0,none⟩ (.bool false)).setCell ⟨w.heap.size+1+1,1,none⟩ (.string (bs b))).setCell ⟨w.heap.size+1+1,2,none⟩ (.slice none 0 0)):=⟨_,rfl⟩
 have hI9:W9.heap[w.heap.size+1+1]? = some (.cells #[.bool false,.string (bs b),.slice none 0 0] 53 (0,0)):=by rw [hW9];exact qaa (qaa (qaa hI _) _) _
 have hF9:W9.heap[w.heap.size+1]? = some (.cells #[.int .u64 n,.string (bs b),.slice A m c] 81 (0,0)):=by rw [hW9];exact (qab (by omega) _).trans ((qab (by omega) _).trans ((qab (by omega) _).trans hF))
 have hKd9:W9.heap[w.heap.size]? = some (.cells #[.int .u8 98,.slice none 0 0] 153 (0,0)):=by rw [hW9];exact (qab (by omega) _).trans ((qab (by omega) _).trans ((qab (by omega) _).trans hKd))
 have hB9:Below w.heap.size w W9:=by rw [hW9];exact ((hB.setCell (p:=⟨w.heap.size+1+1,_,_⟩) (by simp;omega) _).setCell (p:=⟨w.heap.size+1+1,_,_⟩) (by simp;omega) _).setCell (p:=⟨w.heap.size+1+1,_,_⟩) (by simp;omega) _
 have HI9:=qh hI9
 have HB9:=qh hB9
 clear hI9 hB9
 go_simp
 rw [← hW9]
 clear hW9 d0 d1 d2 f0 f1 f2
 refine hK.out _ _ (Mh ⟨hKd9,hF9⟩ Mn) (fun hMeets=>?_)
 clear hK K hMeets
 refine lay_R ?_
 refine R_p (i:=11) (v:=.bool false) (Mh ⟨hKd9,hF9⟩ Mn) ?_
 refine qbi (by kernel_rfl) ?_ _
 go_wp2_with fail
 exact bodyPost_ret (v:=.tuple #[.agg #[.bool false,.string (bs b),.slice none 0 0],.bool false]) (qah rfl _ _ (w.heap.size+1+1) _ _ _ _ rfl HI9.out _ rfl Tryz.underlying53 rfl infoI) rfl ⟨rfl,HB9.out⟩
theorem qr2 (ci:Int) (n:Int) (b:Bytes) (A:Option Addr) (m c:Nat) (hn:(n == 0)=true) (hm:((m:Int) == 0)=true) (h1:(ci == 110)=false) (h2:(ci == 98)=false) (h3:(ci == 40)=false) (h4:(ci == 42)=false) (sz:Nat) (HSZ:Hid (∀ w:World,Calls Tryz.prog 201 #[.int .u8 ci] w fun e w'=>e=.returned (.int .i64 sz)∧w=w')) (hl:((b.length:Int) == (sz:Int))=true) (w:World) :
  Calls Tryz.prog 147 #[.agg #[.int .u8 ci,.slice none 0 0],.agg #[.int .u64 n,.string (bs b),.slice A m c]] w fun e w'=>e=.returned (.tuple #[.agg #[.bool false,.string (bs b),.slice none 0 0],.bool true])∧Below w.heap.size w w':=by
 have hB:Below w.heap.size w (((w.alloc (.cells #[.int .u8 ci,.slice none 0 0] 153)).alloc (.cells #[.int .u64 n,.string (bs b),.slice A m c] 81)).alloc (.cells #[.bool false,.string ⟨#[]⟩,.slice none 0 0] 53)):=(((Below.refl _ _).alloc qn _).alloc (by simp) _).alloc (by simp;omega) _
 have hI:=heap_alloc_new ((w.alloc (.cells #[.int .u8 ci,.slice none 0 0] 153)).alloc (.cells #[.int .u64 n,.string (bs b),.slice A m c] 81)) (.cells #[.bool false,.string ⟨#[]⟩,.slice none 0 0] 53)
 have hF:=(heap_alloc_old ((w.alloc (.cells #[.int .u8 ci,.slice none 0 0] 153)).alloc (.cells #[.int .u64 n,.string (bs b),.slice A m c] 81)) (.cells #[.bool false,.string ⟨#[]⟩,.slice none 0 0] 53) (by simp)).trans (heap_alloc_new (w.alloc (.cells #[.int .u8 ci,.slice none 0 0] 153)) (.cells #[.int .u64 n,.string (bs b),.slice A m c] 81))
 have hKd:=(heap_alloc_old ((w.alloc (.cells #[.int .u8 ci,.slice none 0 0] 153)).alloc (.cells #[.int .u64 n,.string (bs b),.slice A m c] 81)) (.cells #[.bool false,.string ⟨#[]⟩,.slice none 0 0] 53) (by simp;omega)).trans ((heap_alloc_old (w.alloc (.cells #[.int .u8 ci,.slice none 0 0] 153)) (.cells #[.int .u64 n,.string (bs b),.slice A m c] 81) (by simp)).trans (heap_alloc_new w _))
 simp only [World.size_alloc] at hI hF hKd
 have HB:=qh hB
 have HI:=qh hI
 have HF:=qh hF
 have HK:=qh hKd
 clear hB hI hF hKd
 go_enter Tryz.func147,Tryz.ntmps147
 go_wp2_with fail
 have hbd:Below (((w.alloc (.cells #[.int .u8 ci,.slice none 0 0] 153)).alloc (.cells #[.int .u64 n,.string (bs b),.slice A m c] 81)).alloc (.cells #[.bool false,.string ⟨#[]⟩,.slice none 0 0] 53)).heap.size (((w.alloc (.cells #[.int .u8 ci,.slice none 0 0] 153)).alloc (.cells #[.int .u64 n,.string (bs b),.slice A m c] 81)).alloc (.cells #[.bool false,.string ⟨#[]⟩,.slice none 0 0] 53)) (((w.alloc (.cells #[.int .u8 ci,.slice none 0 0] 153)).alloc (.cells #[.int .u64 n,.string (bs b),.slice A m c] 81)).alloc (.cells #[.bool false,.string ⟨#[]⟩,.slice none 0 0] 53)).drew:=(Below.refl _ _).drew
 have hKd:=(hbd.block _ (qg HK.out)).trans HK.out
 have hF:=(hbd.block _ (qg HF.out)).trans HF.out
 have hI:=(hbd.block _ (qg HI.out)).trans HI.out
 have hB:=qac HB.out HB.out.size hbd
 refine qat [(99,fun w'=>w'.heap[w.heap.size]? = some (.cells #[.int .u8 ci,.slice none 0 0] 153 (0,0))∧w'.heap[w.heap.size+1]? = some (.cells #[.int .u64 n,.string (bs b),.slice A m c] 81 (0,0)))] (by kernel_rfl) ?_
 generalize (((w.alloc (.cells #[.int .u8 ci,.slice none 0 0] 153)).alloc (.cells #[.int .u64 n,.string (bs b),.slice A m c] 81)).alloc (.cells #[.bool false,.string ⟨#[]⟩,.slice none 0 0] 53)).drew=w3 at hKd hF hI hB ⊢
 clear hbd HK HF HI HB
 refine R_p (i:=0) (v:=.pointer (some ⟨w.heap.size+1,1,none⟩)) (Mh ⟨hKd,hF⟩ Mn) ?_
 refine R_l (i:=1) (v:=.string (bs b)) 99 _ List.mem_cons_self rfl (qag rfl rfl rfl (fun w' hS=>rc hS.2 1 rfl) Tryz.underlying9 rfl) (Mh ⟨hKd,hF⟩ Mn) ?_
 refine R_p (i:=2) (v:=.agg #[.bool false,.string (bs b),.slice none 0 0]) (Mh ⟨hKd,hF⟩ Mn) ?_
 refine R_p (i:=3) (v:=.bool true) (Mh ⟨hKd,hF⟩ Mn) ?_
 refine R_p (i:=4) (v:=.bool true) (Mh ⟨hKd,hF⟩ Mn) ?_
 refine R_p (i:=5) (v:=.pointer (some ⟨w.heap.size+1,1,none⟩)) (Mh ⟨hKd,hF⟩ Mn) ?_
 refine R_l (i:=6) (v:=.string (bs b)) 99 _ List.mem_cons_self rfl (qag rfl rfl rfl (fun w' hS=>rc hS.2 1 rfl) Tryz.underlying9 rfl) (Mh ⟨hKd,hF⟩ Mn) ?_
 refine R_p (i:=7) (v:=.int .i64 (b.length:Int)) (Mh ⟨hKd,hF⟩ Mn) ?_
 refine R_p (i:=8) (v:=.pointer (some ⟨w.heap.size,0,none⟩)) (Mh ⟨hKd,hF⟩ Mn) ?_
 refine R_l (i:=9) (v:=.int .u8 ci) 99 _ List.mem_cons_self rfl (qag rfl rfl rfl (fun w' hS=>rc hS.1 0 rfl) Tryz.underlying5 rfl) (Mh ⟨hKd,hF⟩ Mn) ?_
 refine R_now 10 fun K hK=>?_
 go_simp
 refine (HSZ.out _).mono ?_
 rintro e w4 ⟨rfl,rfl⟩
 refine hK.out _ _ (Mh ⟨hKd,hF⟩ Mn) (fun hMeets=>?_)
 clear hK K hMeets
 refine lay_R ?_
 refine R_p (i:=11) (v:=.bool true) (Mh ⟨hKd,hF⟩ Mn) ?_
 refine R_p (i:=12) (v:=.bool true) (Mh ⟨hKd,hF⟩ Mn) ?_
 have d0:w3.cell? ⟨w.heap.size+1+1,0,none⟩=some (.bool false):=rc0 hI
 have d1:w3.cell? ⟨w.heap.size+1+1,1,none⟩=some (.string ⟨#[]⟩):=rc1 hI
 have d2:w3.cell? ⟨w.heap.size+1+1,2,none⟩=some (.slice none 0 0):=rc2 hI
 have f0:=rf hI 0
 have f1:=rf hI 1
 have f2:=rf hI 2
 refine R_now 13 fun K hK=>?_
 obtain ⟨W9,hW9⟩:∃ W9,W9=(((w3.setCell ⟨w.heap.size+1+1,0,none⟩ (.bool false)).setCell ⟨w.heap.size+1+1,1,none⟩ (.string (bs b))).setCell ⟨w.heap.size+1+1,2,none⟩ (.slice none 0 0)):=⟨_,rfl⟩
 have hI9:W9.heap[w.heap.size+1+1]? = some (.cells #[.bool false,.string (bs b),.slice none 0 0] 53 (0,0)):=by rw [hW9];exact qaa (qaa (qaa hI _) _) _
 have hF9:W9.heap[w.heap.size+1]? = some (.cells #[.int .u64 n,.string (bs b),.slice A m c] 81 (0,0)):=by rw [hW9];exact (qab (by omega) _).trans ((qab (by omega) _).trans ((qab (by omega) _).trans hF))
 have hKd9:W9.heap[w.heap.size]? = some (.cells #[.int .u8 ci,.slice none 0 0] 153 (0,0)):=by rw [hW9];exact (qab (by omega) _).trans ((qab (by omega) _).trans ((qab (by omega) _).trans hKd))
 have hB9:Below w.heap.size w W9:=by rw [hW9];exact ((hB.setCell (p:=⟨w.heap.size+1+1,_,_⟩) (by simp;omega) _).setCell (p:=⟨w.heap.size+1+1,_,_⟩) (by simp;omega) _).setCell (p:=⟨w.heap.size+1+1,_,_⟩) (by simp;omega) _
 have HI9:=qh hI9
 have HB9:=qh hB9
 clear hI9 hB9
 go_simp
 rw [← hW9]
 clear hW9 d0 d1 d2 f0 f1 f2
 refine hK.out _ _ (Mh ⟨hKd9,hF9⟩ Mn) (fun hMeets=>?_)
 clear hK K hMeets
 refine lay_R ?_
 refine R_p (i:=14) (v:=.bool true) (Mh ⟨hKd9,hF9⟩ Mn) ?_
 refine qbi (by kernel_rfl) ?_ _
 go_wp2_with fail
 exact bodyPost_ret (v:=.tuple #[.agg #[.bool false,.string (bs b),.slice none 0 0],.bool true]) (qah rfl _ _ (w.heap.size+1+1) _ _ _ _ rfl HI9.out _ rfl Tryz.underlying53 rfl infoI) rfl ⟨rfl,HB9.out⟩
theorem qpu (ci:Int) (n:Int) (b:Bytes) (A:Option Addr) (m c:Nat) (hn:(n == 0)=true) (hm:((m:Int) == 0)=true) (h1:(ci == 110)=false) (h2:(ci == 98)=false) (h3:(ci == 40)=false) (h4:(ci == 42)=false) (sz:Nat) (HSZ:Hid (∀ w:World,Calls Tryz.prog 201 #[.int .u8 ci] w fun e w'=>e=.returned (.int .i64 sz)∧w=w')) (hl:((b.length:Int) == (sz:Int))=false) (w:World) :
  Calls Tryz.prog 147 #[.agg #[.int .u8 ci,.slice none 0 0],.agg #[.int .u64 n,.string (bs b),.slice A m c]] w fun e w'=>e=.returned (.tuple #[.agg #[.bool false,.string (bs b),.slice none 0 0],.bool false])∧Below w.heap.size w w':=by
 have hB:Below w.heap.size w (((w.alloc (.cells #[.int .u8 ci,.slice none 0 0] 153)).alloc (.cells #[.int .u64 n,.string (bs b),.slice A m c] 81)).alloc (.cells #[.bool false,.string ⟨#[]⟩,.slice none 0 0] 53)):=(((Below.refl _ _).alloc qn _).alloc (by simp) _).alloc (by simp;omega) _
 have hI:=heap_alloc_new ((w.alloc (.cells #[.int .u8 ci,.slice none 0 0] 153)).alloc (.cells #[.int .u64 n,.string (bs b),.slice A m c] 81)) (.cells #[.bool false,.string ⟨#[]⟩,.slice none 0 0] 53)
 have hF:=(heap_alloc_old ((w.alloc (.cells #[.int .u8 ci,.slice none 0 0] 153)).alloc (.cells #[.int .u64 n,.string (bs b),.slice A m c] 81)) (.cells #[.bool false,.string ⟨#[]⟩,.slice none 0 0] 53) (by simp)).trans (heap_alloc_new (w.alloc (.cells #[.int .u8 ci,.slice none 0 0] 153)) (.cells #[.int .u64 n,.string (bs b),.slice A m c] 81))
 have hKd:=(heap_alloc_old ((w.alloc (.cells #[.int .u8 ci,.slice none 0 0] 153)).alloc (.cells #[.int .u64 n,.string (bs b),.slice A m c] 81)) (.cells #[.bool false,.string ⟨#[]⟩,.slice none 0 0] 53) (by simp;omega)).trans ((heap_alloc_old (w.alloc (.cells #[.int .u8 ci,.slice none 0 0] 153)) (.cells #[.int .u64 n,.string (bs b),.slice A m c] 81) (by simp)).trans (heap_alloc_new w _))
 simp only [World.size_alloc] at hI hF hKd
 have HB:=qh hB
 have HI:=qh hI
 have HF:=qh hF
 have HK:=qh hKd
 clear hB hI hF hKd
 go_enter Tryz.func147,Tryz.ntmps147
 go_wp2_with fail
 have hbd:Below (((w.alloc (.cells #[.int .u8 ci,.slice none 0 0] 153)).alloc (.cells #[.int .u64 n,.string (bs b),.slice A m c] 81)).alloc (.cells #[.bool false,.string ⟨#[]⟩,.slice none 0 0] 53)).heap.size (((w.alloc (.cells #[.int .u8 ci,.slice none 0 0] 153)).alloc (.cells #[.int .u64 n,.string (bs b),.slice A m c] 81)).alloc (.cells #[.bool false,.string ⟨#[]⟩,.slice none 0 0] 53)) (((w.alloc (.cells #[.int .u8 ci,.slice none 0 0] 153)).alloc (.cells #[.int .u64 n,.string (bs b),.slice A m c] 81)).alloc (.cells #[.bool false,.string ⟨#[]⟩,.slice none 0 0] 53)).drew:=(Below.refl _ _).drew
 have hKd:=(hbd.block _ (qg HK.out)).trans HK.out
 have hF:=(hbd.block _ (qg HF.out)).trans HF.out
 have hI:=(hbd.block _ (qg HI.out)).trans HI.out
 have hB:=qac HB.out HB.out.size hbd
 refine qat [(99,fun w'=>w'.heap[w.heap.size]? = some (.cells #[.int .u8 ci,.slice none 0 0] 153 (0,0))∧w'.heap[w.heap.size+1]? = some (.cells #[.int .u64 n,.string (bs b),.slice A m c] 81 (0,0)))] (by kernel_rfl) ?_
 generalize (((w.alloc (.cells #[.int .u8 ci,.slice none 0 0] 153)).alloc (.cells #[.int .u64 n,.string (bs b),.slice A m c] 81)).alloc (.cells #[.bool false,.string ⟨#[]⟩,.slice none 0 0] 53)).drew=w3 at hKd hF hI hB ⊢
 clear hbd HK HF HI HB
 refine R_p (i:=0) (v:=.pointer (some ⟨w.heap.size+1,1,none⟩)) (Mh ⟨hKd,hF⟩ Mn) ?_
 refine R_l (i:=1) (v:=.string (bs b)) 99 _ List.mem_cons_self rfl (qag rfl rfl rfl (fun w' hS=>rc hS.2 1 rfl) Tryz.underlying9 rfl) (Mh ⟨hKd,hF⟩ Mn) ?_
 refine R_p (i:=2) (v:=.agg #[.bool false,.string (bs b),.slice none 0 0]) (Mh ⟨hKd,hF⟩ Mn) ?_
 refine R_p (i:=3) (v:=.bool true) (Mh ⟨hKd,hF⟩ Mn) ?_
 refine R_p (i:=4) (v:=.bool true) (Mh ⟨hKd,hF⟩ Mn) ?_
 refine R_p (i:=5) (v:=.pointer (some ⟨w.heap.size+1,1,none⟩)) (Mh ⟨hKd,hF⟩ Mn) ?_
 refine R_l (i:=6) (v:=.string (bs b)) 99 _ List.mem_cons_self rfl (qag rfl rfl rfl (fun w' hS=>rc hS.2 1 rfl) Tryz.underlying9 rfl) (Mh ⟨hKd,hF⟩ Mn) ?_
 refine R_p (i:=7) (v:=.int .i64 (b.length:Int)) (Mh ⟨hKd,hF⟩ Mn) ?_
 refine R_p (i:=8) (v:=.pointer (some ⟨w.heap.size,0,none⟩)) (Mh ⟨hKd,hF⟩ Mn) ?_
 refine R_l (i:=9) (v:=.int .u8 ci) 99 _ List.mem_cons_self rfl (qag rfl rfl rfl (fun w' hS=>rc hS.1 0 rfl) Tryz.underlying5 rfl) (Mh ⟨hKd,hF⟩ Mn) ?_
 refine R_now 10 fun K hK=>?_
 go_simp
 refine (HSZ.out _).mono ?_
 rintro e w4 ⟨rfl,rfl⟩
 refine hK.out _ _ (Mh ⟨hKd,hF⟩ Mn) (fun hMeets=>?_)
 clear hK K hMeets
 refine lay_R ?_
 refine R_p (i:=11) (v:=.bool false) (Mh ⟨hKd,hF⟩ Mn) ?_
 refine R_p (i:=12) (v:=.bool false) (Mh ⟨hKd,hF⟩ Mn) ?_
 have d0:w3.cell? ⟨w.heap.size+1+1,0,none⟩=some (.bool false):=rc0 hI
 have d1:w3.cell? ⟨w.heap.size+1+1,1,none⟩=some (.string ⟨#[]⟩):=rc1 hI
 have d2:w3.cell? ⟨w.heap.size+1+1,2,none⟩=some (.slice none 0 0):=rc2 hI
 have f0:=rf hI 0
 have f1:=rf hI 1
 have f2:=rf hI 2
 refine R_now 13 fun K hK=>?_
 obtain ⟨W9,hW9⟩:∃ W9,W9=(((w3.setCell ⟨w.heap.size+1+1,0,none⟩ (.bool false)).setCell ⟨w.heap.size+1+1,1,none⟩ (.string (bs b))).setCell ⟨w.heap.size+1+1,2,none⟩ (.slice none 0 0)):=⟨_,rfl⟩
 have hI9:W9.heap[w.heap.size+1+1]? = some (.cells #[.bool false,.string (bs b),.slice none 0 0] 53 (0,0)):=by rw [hW9];exact qaa (qaa (qaa hI _) _) _
 have hF9:W9.heap[w.heap.size+1]? = some (.cells #[.int .u64 n,.string (bs b),.slice A m c] 81 (0,0)):=by rw [hW9];exact (qab (by omega) _).trans ((qab (by omega) _).trans ((qab (by omega) _).trans hF))
 have hKd9:W9.heap[w.heap.size]? = some (.cells #[.int .u8 ci,.slice none 0 0] 153 (0,0)):=by rw [hW9];exact (qab (by omega) _).trans ((qab (by omega) _).trans ((qab (by omega) _).trans hKd))
 have hB9:Below w.heap.size w W9:=by rw [hW9];exact ((hB.setCell (p:=⟨w.heap.size+1+1,_,_⟩) (by simp;omega) _).setCell (p:=⟨w.heap.size+1+1,_,_⟩) (by simp;omega) _).setCell (p:=⟨w.heap.size+1+1,_,_⟩) (by simp;omega) _
 have HI9:=qh hI9
 have HB9:=qh hB9
 clear hI9 hB9
 go_simp
 rw [← hW9]
 clear hW9 d0 d1 d2 f0 f1 f2
 refine hK.out _ _ (Mh ⟨hKd9,hF9⟩ Mn) (fun hMeets=>?_)
 clear hK K hMeets
 refine lay_R ?_
 refine R_p (i:=14) (v:=.bool false) (Mh ⟨hKd9,hF9⟩ Mn) ?_
 refine qbi (by kernel_rfl) ?_ _
 go_wp2_with fail
 exact bodyPost_ret (v:=.tuple #[.agg #[.bool false,.string (bs b),.slice none 0 0],.bool false]) (qah rfl _ _ (w.heap.size+1+1) _ _ _ _ rfl HI9.out _ rfl Tryz.underlying53 rfl infoI) rfl ⟨rfl,HB9.out⟩
theorem qqu (ci:Int) (n:Int) (b:Bytes) (A:Option Addr) (m c:Nat) (hn:(n == 0)=true) (hm:((m:Int) == 0)=false) (h1:(ci == 110)=false) (h2:(ci == 98)=false) (h3:(ci == 40)=false) (h4:(ci == 42)=false) (w:World) :
  Calls Tryz.prog 147 #[.agg #[.int .u8 ci,.slice none 0 0],.agg #[.int .u64 n,.string (bs b),.slice A m c]] w fun e w'=>e=.returned (.tuple #[.agg #[.bool false,.string (bs b),.slice none 0 0],.bool false])∧Below w.heap.size w w':=by
 have hB:Below w.heap.size w (((w.alloc (.cells #[.int .u8 ci,.slice none 0 0] 153)).alloc (.cells #[.int .u64 n,.string (bs b),.slice A m c] 81)).alloc (.cells #[.bool false,.string ⟨#[]⟩,.slice none 0 0] 53)):=(((Below.refl _ _).alloc qn _).alloc (by simp) _).alloc (by simp;omega) _
 have hI:=heap_alloc_new ((w.alloc (.cells #[.int .u8 ci,.slice none 0 0] 153)).alloc (.cells #[.int .u64 n,.string (bs b),.slice A m c] 81)) (.cells #[.bool false,.string ⟨#[]⟩,.slice none 0 0] 53)
 have hF:=(heap_alloc_old ((w.alloc (.cells #[.int .u8 ci,.slice none 0 0] 153)).alloc (.cells #[.int .u64 n,.string (bs b),.slice A m c] 81)) (.cells #[.bool false,.string ⟨#[]⟩,.slice none 0 0] 53) (by simp)).trans (heap_alloc_new (w.alloc (.cells #[.int .u8 ci,.slice none 0 0] 153)) (.cells #[.int .u64 n,.string (bs b),.slice A m c] 81))
 have hKd:=(heap_alloc_old ((w.alloc (.cells #[.int .u8 ci,.slice none 0 0] 153)).alloc (.cells #[.int .u64 n,.string (bs b),.slice A m c] 81)) (.cells #[.bool false,.string ⟨#[]⟩,.slice none 0 0] 53) (by simp;omega)).trans ((heap_alloc_old (w.alloc (.cells #[.int .u8 ci,.slice none 0 0] 153)) (.cells #[.int .u64 n,.string (bs b),.slice A m c] 81) (by simp)).trans (heap_alloc_new w _))
 simp only [World.size_alloc] at hI hF hKd
 have HB:=qh hB
 have HI:=qh hI
 have HF:=qh hF
 have HK:=qh hKd
 clear hB hI hF hKd
 go_enter Tryz.func147,Tryz.ntmps147
 go_wp2_with fail
 have hbd:Below (((w.alloc (.cells #[.int .u8 ci,.slice none 0 0] 153)).alloc (.cells #[.int .u64 n,.string (bs b),.slice A m c] 81)).alloc (.cells #[.bool false,.string ⟨#[]⟩,.slice none 0 0] 53)).heap.size (((w.alloc (.cells #[.int .u8 ci,.slice none 0 0] 153)).alloc (.cells #[.int .u64 n,.string (bs b),.slice A m c] 81)).alloc (.cells #[.bool false,.string ⟨#[]⟩,.slice none 0 0] 53)) (((w.alloc (.cells #[.int .u8 ci,.slice none 0 0] 153)).alloc (.cells #[.int .u64 n,.string (bs b),.slice A m c] 81)).alloc (.cells #[.bool false,.string ⟨#[]⟩,.slice none 0 0] 53)).drew:=(Below.refl _ _).drew
 have hKd:=(hbd.block _ (qg HK.out)).trans HK.out
 have hF:=(hbd.block _ (qg HF.out)).trans HF.out
 have hI:=(hbd.block _ (qg HI.out)).trans HI.out
 have hB:=qac HB.out HB.out.size hbd
 refine qat [(99,fun w'=>w'.heap[w.heap.size]? = some (.cells #[.int .u8 ci,.slice none 0 0] 153 (0,0))∧w'.heap[w.heap.size+1]? = some (.cells #[.int .u64 n,.string (bs b),.slice A m c] 81 (0,0)))] (by kernel_rfl) ?_
 generalize (((w.alloc (.cells #[.int .u8 ci,.slice none 0 0] 153)).alloc (.cells #[.int .u64 n,.string (bs b),.slice A m c] 81)).alloc (.cells #[.bool false,.string ⟨#[]⟩,.slice none 0 0] 53)).drew=w3 at hKd hF hI hB ⊢
 clear hbd HK HF HI HB
 refine R_p (i:=0) (v:=.pointer (some ⟨w.heap.size+1,1,none⟩)) (Mh ⟨hKd,hF⟩ Mn) ?_
 refine R_l (i:=1) (v:=.string (bs b)) 99 _ List.mem_cons_self rfl (qag rfl rfl rfl (fun w' hS=>rc hS.2 1 rfl) Tryz.underlying9 rfl) (Mh ⟨hKd,hF⟩ Mn) ?_
 refine R_p (i:=2) (v:=.agg #[.bool false,.string (bs b),.slice none 0 0]) (Mh ⟨hKd,hF⟩ Mn) ?_
 refine R_p (i:=3) (v:=.bool false) (Mh ⟨hKd,hF⟩ Mn) ?_
 refine R_p (i:=4) (v:=.bool false) (Mh ⟨hKd,hF⟩ Mn) ?_
 refine R_s (i:=5) (Mh ⟨hKd,hF⟩ Mn) ?_
 refine R_s (i:=6) (Mh ⟨hKd,hF⟩ Mn) ?_
 refine R_s (i:=7) (Mh ⟨hKd,hF⟩ Mn) ?_
 refine R_s (i:=8) (Mh ⟨hKd,hF⟩ Mn) ?_
 refine R_s (i:=9) (Mh ⟨hKd,hF⟩ Mn) ?_
 refine R_s (i:=10) (Mh ⟨hKd,hF⟩ Mn) ?_
 refine R_s (i:=11) (Mh ⟨hKd,hF⟩ Mn) ?_
 refine R_p (i:=12) (v:=.bool false) (Mh ⟨hKd,hF⟩ Mn) ?_
 have d0:w3.cell? ⟨w.heap.size+1+1,0,none⟩=some (.bool false):=rc0 hI
 have d1:w3.cell? ⟨w.heap.size+1+1,1,none⟩=some (.string ⟨#[]⟩):=rc1 hI
 have d2:w3.cell? ⟨w.heap.size+1+1,2,none⟩=some (.slice none 0 0):=rc2 hI
 have f0:=rf hI 0
 have f1:=rf hI 1
 have f2:=rf hI 2
 refine R_now 13 fun K hK=>?_
 obtain ⟨W9,hW9⟩:∃ W9,W9=(((w3.setCell ⟨w.heap.size+1+1,0,none⟩ (.bool false)).setCell ⟨w.heap.size+1+1,1,none⟩ (.string (bs b))).setCell ⟨w.heap.size+1+1,2,none⟩ (.slice none 0 0)):=⟨_,rfl⟩
 have hI9:W9.heap[w.heap.size+1+1]? = some (.cells #[.bool false,.string (bs b),.slice none 0 0] 53 (0,0)):=by rw [hW9];exact qaa (qaa (qaa hI _) _) _
 have hF9:W9.heap[w.heap.size+1]? = some (.cells #[.int .u64 n,.string (bs b),.slice A m c] 81 (0,0)):=by rw [hW9];exact (qab (by omega) _).trans ((qab (by omega) _).trans ((qab (by omega) _).trans hF))
 have hKd9:W9.heap[w.heap.size]? = some (.cells #[.int .u8 ci,.slice none 0 0] 153 (0,0)):=by rw [hW9];exact (qab (by omega) _).trans ((qab (by omega) _).trans ((qab (by omega) _).trans hKd))
 have hB9:Below w.heap.size w W9:=by rw [hW9];exact ((hB.setCell (p:=⟨w.heap.size+1+1,_,_⟩) (by simp;omega) _).setCell (p:=⟨w.heap.size+1+1,_,_⟩) (by simp;omega) _).setCell (p:=⟨w.heap.size+1+1,_,_⟩) (by simp;omega) _
 have HI9:=qh hI9
 have HB9:=qh hB9
 clear hI9 hB9
 go_simp
 rw [← hW9]
 clear hW9 d0 d1 d2 f0 f1 f2
 refine hK.out _ _ (Mh ⟨hKd9,hF9⟩ Mn) (fun hMeets=>?_)
 clear hK K hMeets
 refine lay_R ?_
 refine R_p (i:=14) (v:=.bool false) (Mh ⟨hKd9,hF9⟩ Mn) ?_
 refine qbi (by kernel_rfl) ?_ _
 go_wp2_with fail
 exact bodyPost_ret (v:=.tuple #[.agg #[.bool false,.string (bs b),.slice none 0 0],.bool false]) (qah rfl _ _ (w.heap.size+1+1) _ _ _ _ rfl HI9.out _ rfl Tryz.underlying53 rfl infoI) rfl ⟨rfl,HB9.out⟩
theorem qse (ci:Int) (n:Int) (b:Bytes) (A:Option Addr) (m c:Nat) (hn:(n == 0)=false) (h1:(ci == 110)=false) (h2:(ci == 98)=false) (h3:(ci == 40)=false) (h4:(ci == 42)=false) (w:World) :
  Calls Tryz.prog 147 #[.agg #[.int .u8 ci,.slice none 0 0],.agg #[.int .u64 n,.string (bs b),.slice A m c]] w fun e w'=>e=.returned (.tuple #[.agg #[.bool false,.string (bs b),.slice none 0 0],.bool false])∧Below w.heap.size w w':=by
 have hB:Below w.heap.size w (((w.alloc (.cells #[.int .u8 ci,.slice none 0 0] 153)).alloc (.cells #[.int .u64 n,.string (bs b),.slice A m c] 81)).alloc (.cells #[.bool false,.string ⟨#[]⟩,.slice none 0 0] 53)):=(((Below.refl _ _).alloc qn _).alloc (by simp) _).alloc (by simp;omega) _
 have hI:=heap_alloc_new ((w.alloc (.cells #[.int .u8 ci,.slice none 0 0] 153)).alloc (.cells #[.int .u64 n,.string (bs b),.slice A m c] 81)) (.cells #[.bool false,.string ⟨#[]⟩,.slice none 0 0] 53)
 have hF:=(heap_alloc_old ((w.alloc (.cells #[.int .u8 ci,.slice none 0 0] 153)).alloc (.cells #[.int .u64 n,.string (bs b),.slice A m c] 81)) (.cells #[.bool false,.string ⟨#[]⟩,.slice none 0 0] 53) (by simp)).trans (heap_alloc_new (w.alloc (.cells #[.int .u8 ci,.slice none 0 0] 153)) (.cells #[.int .u64 n,.string (bs b),.slice A m c] 81))
 have hKd:=(heap_alloc_old ((w.alloc (.cells #[.int .u8 ci,.slice none 0 0] 153)).alloc (.cells #[.int .u64 n,.string (bs b),.slice A m c] 81)) (.cells #[.bool false,.string ⟨#[]⟩,.slice none 0 0] 53) (by simp;omega)).trans ((heap_alloc_old (w.alloc (.cells #[.int .u8 ci,.slice none 0 0] 153)) (.cells #[.int .u64 n,.string (bs b),.slice A m c] 81) (by simp)).trans (heap_alloc_new w _))
 simp only [World.size_alloc] at hI hF hKd
 have HB:=qh hB
 have HI:=qh hI
 have HF:=qh hF
 have HK:=qh hKd
 clear hB hI hF hKd
 go_enter Tryz.func147,Tryz.ntmps147
 go_wp2_with fail
 have hbd:Below (((w.alloc (.cells #[.int .u8 ci,.slice none 0 0] 153)).alloc (.cells #[.int .u64 n,.string (bs b),.slice A m c] 81)).alloc (.cells #[.bool false,.string ⟨#[]⟩,.slice none 0 0] 53)).heap.size (((w.alloc (.cells #[.int .u8 ci,.slice none 0 0] 153)).alloc (.cells #[.int .u64 n,.string (bs b),.slice A m c] 81)).alloc (.cells #[.bool false,.string ⟨#[]⟩,.slice none 0 0] 53)) (((w.alloc (.cells #[.int .u8 ci,.slice none 0 0] 153)).alloc (.cells #[.int .u64 n,.string (bs b),.slice A m c] 81)).alloc (.cells #[.bool false,.string ⟨#[]⟩,.slice none 0 0] 53)).drew:=(Below.refl _ _).drew
 have hKd:=(hbd.block _ (qg HK.out)).trans HK.out
 have hF:=(hbd.block _ (qg HF.out)).trans HF.out
 have hI:=(hbd.block _ (qg HI.out)).trans HI.out
 have hB:=qac HB.out HB.out.size hbd
 refine qat [(99,fun w'=>w'.heap[w.heap.size]? = some (.cells #[.int .u8 ci,.slice none 0 0] 153 (0,0))∧w'.heap[w.heap.size+1]? = some (.cells #[.int .u64 n,.string (bs b),.slice A m c] 81 (0,0)))] (by kernel_rfl) ?_
 generalize (((w.alloc (.cells #[.int .u8 ci,.slice none 0 0] 153)).alloc (.cells #[.int .u64 n,.string (bs b),.slice A m c] 81)).alloc (.cells #[.bool false,.string ⟨#[]⟩,.slice none 0 0] 53)).drew=w3 at hKd hF hI hB ⊢
 clear hbd HK HF HI HB
 refine R_p (i:=0) (v:=.pointer (some ⟨w.heap.size+1,1,none⟩)) (Mh ⟨hKd,hF⟩ Mn) ?_
 refine R_l (i:=1) (v:=.string (bs b)) 99 _ List.mem_cons_self rfl (qag rfl rfl rfl (fun w' hS=>rc hS.2 1 rfl) Tryz.underlying9 rfl) (Mh ⟨hKd,hF⟩ Mn) ?_
 refine R_p (i:=2) (v:=.agg #[.bool false,.string (bs b),.slice none 0 0]) (Mh ⟨hKd,hF⟩ Mn) ?_
 refine R_p (i:=3) (v:=.bool false) (Mh ⟨hKd,hF⟩ Mn) ?_
 refine R_p (i:=4) (v:=.bool false) (Mh ⟨hKd,hF⟩ Mn) ?_
 refine R_s (i:=5) (Mh ⟨hKd,hF⟩ Mn) ?_
 refine R_s (i:=6) (Mh ⟨hKd,hF⟩ Mn) ?_
 refine R_s (i:=7) (Mh ⟨hKd,hF⟩ Mn) ?_
 refine R_s (i:=8) (Mh ⟨hKd,hF⟩ Mn) ?_
 refine R_s (i:=9) (Mh ⟨hKd,hF⟩ Mn) ?_
 refine R_s (i:=10) (Mh ⟨hKd,hF⟩ Mn) ?_
 refine R_s (i:=11) (Mh ⟨hKd,hF⟩ Mn) ?_
 refine R_p (i:=12) (v:=.bool false) (Mh ⟨hKd,hF⟩ Mn) ?_
 have d0:w3.cell? ⟨w.heap.size+1+1,0,none⟩=some (.bool false):=rc0 hI
 have d1:w3.cell? ⟨w.heap.size+1+1,1,none⟩=some (.string ⟨#[]⟩):=rc1 hI
 have d2:w3.cell? ⟨w.heap.size+1+1,2,none⟩=some (.slice none 0 0):=rc2 hI
 have f0:=rf hI 0
 have f1:=rf hI 1
 have f2:=rf hI 2
 refine R_now 13 fun K hK=>?_
 obtain ⟨W9,hW9⟩:∃ W9,W9=(((w3.setCell ⟨w.heap.size+1+1,0,none⟩ (.bool false)).setCell ⟨w.heap.size+1+1,1,none⟩ (.string (bs b))).setCell ⟨w.heap.size+1+1,2,none⟩ (.slice none 0 0)):=⟨_,rfl⟩
 have hI9:W9.heap[w.heap.size+1+1]? = some (.cells #[.bool false,.string (bs b),.slice none 0 0] 53 (0,0)):=by rw [hW9];exact qaa (qaa (qaa hI _) _) _
 have hF9:W9.heap[w.heap.size+1]? = some (.cells #[.int .u64 n,.string (bs b),.slice A m c] 81 (0,0)):=by rw [hW9];exact (qab (by omega) _).trans ((qab (by omega) _).trans ((qab (by omega) _).trans hF))
 have hKd9:W9.heap[w.heap.size]? = some (.cells #[.int .u8 ci,.slice none 0 0] 153 (0,0)):=by rw [hW9];exact (qab (by omega) _).trans ((qab (by omega) _).trans ((qab (by omega) _).trans hKd))
 have hB9:Below w.heap.size w W9:=by rw [hW9];exact ((hB.setCell (p:=⟨w.heap.size+1+1,_,_⟩) (by simp;omega) _).setCell (p:=⟨w.heap.size+1+1,_,_⟩) (by simp;omega) _).setCell (p:=⟨w.heap.size+1+1,_,_⟩) (by simp;omega) _
 have HI9:=qh hI9
 have HB9:=qh hB9
 clear hI9 hB9
 go_simp
 rw [← hW9]
 clear hW9 d0 d1 d2 f0 f1 f2
 refine hK.out _ _ (Mh ⟨hKd9,hF9⟩ Mn) (fun hMeets=>?_)
 clear hK K hMeets
 refine lay_R ?_
 refine R_p (i:=14) (v:=.bool false) (Mh ⟨hKd9,hF9⟩ Mn) ?_
 refine qbi (by kernel_rfl) ?_ _
 go_wp2_with fail
 exact bodyPost_ret (v:=.tuple #[.agg #[.bool false,.string (bs b),.slice none 0 0],.bool false]) (qah rfl _ _ (w.heap.size+1+1) _ _ _ _ rfl HI9.out _ rfl Tryz.underlying53 rfl infoI) rfl ⟨rfl,HB9.out⟩
/- The walk of frame.items at a list of plain fields. -/
/-- behind an item of a field: what it is if it fits -/
def FitPost (x:Item) (ok:Bool) (w:World) (e:Ending) (w':World):Prop :=
 ∃ y A c,e=.returned (.tuple #[.agg #[.bool y.l,.string (bs y.b),.slice A y.ks.length c],.bool ok])∧ItemV (From w.heap.size) w' y A c∧(ok=true→y=x)∧Below w.heap.size w w'
theorem qez (c:UInt8) (hc:okC c) (n:Nat) (hn:n < 18446744073709551616) (b:Bytes) (A:Option Addr) (m cf:Nat) (w:World) :
  Calls Tryz.prog 147 #[.agg (cellK c).toArray,.agg #[.int .u64 (n:Int),.string (bs b),.slice A m cf]] w (FitPost (lfI c (n,b)) (m == 0 && fitC c (n,b)) w):=by
 have key:∀ (s:Bytes) (ok:Bool),lfI c (n,b)=leafIt s→(m == 0 && fitC c (n,b))=ok →
   Calls Tryz.prog 147 #[.agg (cellK c).toArray,.agg #[.int .u64 (n:Int),.string (bs b),.slice A m cf]] w (fun e w'=>e=.returned (.tuple #[.agg #[.bool false,.string (bs s),.slice none 0 0],.bool ok])∧Below w.heap.size w w') →
   Calls Tryz.prog 147 #[.agg (cellK c).toArray,.agg #[.int .u64 (n:Int),.string (bs b),.slice A m cf]] w (FitPost (lfI c (n,b)) (m == 0 && fitC c (n,b)) w):=by
  intro s ok h1 h2 h
  refine h.mono ?_
  rintro e w' ⟨rfl,hb⟩
  rw [h1,h2]
  exact ⟨leafIt s,none,0,rfl,ItemV.leaf s false,fun _=>rfl,hb⟩
 have hnB:((n:Int) == 0)=(n == 0):=by rw [Bool.eq_iff_iff];simp
 have hmB:((m:Int) == 0)=(m == 0):=by rw [Bool.eq_iff_iff];simp
 by_cases h110:c=110
 ·subst h110
  refine key (digs n) (m == 0 && b.isEmpty) (by simp [lfI]) (by simp [fitC]) ?_
  have hi:(n:Int).toNat=n:=by simp
  have h0:(0:Int)≤n:=by omega
  have h64:(n:Int) < 18446744073709551616:=by omega
  cases hA:(n == 0) <;> cases hB:(m == 0) <;> cases hC:b.isEmpty
  ·have:=qp6 n b A m cf h0 h64 (by rw [hnB,hA]) (by rw [hmB,hB]) (by cases b <;> simp_all) w;rwa [hi] at this
  ·have:=qs8 n b A m cf h0 h64 (by rw [hnB,hA]) (by rw [hmB,hB]) (by cases b <;> simp_all) w;rwa [hi] at this
  ·have:=qr4 n b A m cf h0 h64 (by rw [hnB,hA]) (by rw [hmB,hB]) (by cases b <;> simp_all) w;rwa [hi] at this
  ·have:=qqz n b A m cf h0 h64 (by rw [hnB,hA]) (by rw [hmB,hB]) (by cases b <;> simp_all) w;rwa [hi] at this
  ·have:=qqc n b A m cf h0 h64 (by rw [hnB,hA]) (by rw [hmB,hB]) (by cases b <;> simp_all) w;rwa [hi] at this
  ·have:=qrx n b A m cf h0 h64 (by rw [hnB,hA]) (by rw [hmB,hB]) (by cases b <;> simp_all) w;rwa [hi] at this
  ·have:=qtv n b A m cf h0 h64 (by rw [hnB,hA]) (by rw [hmB,hB]) (by cases b <;> simp_all) w;rwa [hi] at this
  ·have:=qp5 n b A m cf h0 h64 (by rw [hnB,hA]) (by rw [hmB,hB]) (by cases b <;> simp_all) w;rwa [hi] at this
 ·have hl:lfI c (n,b)=leafIt b:=by simp [lfI,h110]
  by_cases h98:c=98
  ·subst h98
   have hf:fitC 98 (n,b)=((n == 0) && decide (b.length≤64)):=by simp [fitC]
   rcases Bool.eq_false_or_eq_true (n == 0) with hA | hA
   ·rcases Bool.eq_false_or_eq_true (m == 0) with hB | hB
    ·by_cases h64:b.length≤64
     ·exact key b true hl (by rw [hf,hA,hB];simp [h64]) (qpx n b A m cf (by rw [hnB,hA]) (by rw [hmB,hB]) (by omega) w)
     ·exact key b false hl (by rw [hf,hA,hB];simp;omega) (qss n b A m cf (by rw [hnB,hA]) (by rw [hmB,hB]) (by omega) w)
    ·exact key b false hl (by rw [hB];rfl) (qqf n b A m cf (by rw [hnB,hA]) (by rw [hmB,hB]) w)
   ·exact key b false hl (by rw [hf,hA];simp) (qsa n b A m cf (by rw [hnB,hA]) w)
  ·have h3:c=104∨c=97∨c=115:=by
    rcases hc with h | h | h | h | h
    ·exact absurd h h110
    ·exact .inl h
    ·exact .inr (.inl h)
    ·exact .inr (.inr h)
    ·exact absurd h h98
   have hf:fitC c (n,b)=((n == 0) && b.length == sizeC c):=by simp [fitC,h110,h98]
   have hS:=qh (fun w:World=>(qqo c h3 w).mono (R':=fun e w'=>e=.returned (.int .i64 (sizeC c:Nat))∧w=w') fun e w' h=>⟨h.1,h.2.symm⟩)
   have hq:((c.toNat:Int) == 110)=false∧((c.toNat:Int) == 98)=false∧((c.toNat:Int) == 40)=false∧((c.toNat:Int) == 42)=false:=by
    rcases h3 with rfl | rfl | rfl <;> decide
   have hsB:((b.length:Int) == (sizeC c:Int))=(b.length == sizeC c):=by rw [Bool.eq_iff_iff];simp only [beq_iff_eq];omega
   rcases Bool.eq_false_or_eq_true (n == 0) with hA | hA
   ·rcases Bool.eq_false_or_eq_true (m == 0) with hB | hB
    ·rcases Bool.eq_false_or_eq_true (b.length == sizeC c) with hD | hD
     ·exact key b true hl (by rw [hf,hA,hB,hD];rfl) (qr2 c.toNat n b A m cf (by rw [hnB,hA]) (by rw [hmB,hB]) hq.1 hq.2.1 hq.2.2.1 hq.2.2.2 _ hS (by rw [hsB,hD]) w)
     ·exact key b false hl (by rw [hf,hA,hB,hD];rfl) (qpu c.toNat n b A m cf (by rw [hnB,hA]) (by rw [hmB,hB]) hq.1 hq.2.1 hq.2.2.1 hq.2.2.2 _ hS (by rw [hsB,hD]) w)
    ·exact key b false hl (by rw [hB];rfl) (qqu c.toNat n b A m cf (by rw [hnB,hA]) (by rw [hmB,hB]) hq.1 hq.2.1 hq.2.2.1 hq.2.2.2 w)
   ·exact key b false hl (by rw [hf,hA];simp) (qse c.toNat n b A m cf (by rw [hnB,hA]) hq.1 hq.2.1 hq.2.2.1 hq.2.2.2 w)
/- The walk of frame.items. -/
theorem qg0 {S:Nat→Prop} {w:World} {ks:List Kd} {A:Option Addr} {c i:Nat} {k:Kd} (h:KindsV S w ks A c) (hi:ks[i]? = some k) :
  ∃ g o s A1 n1 c1,A=some ⟨g,o,none⟩∧Rep S w (kdD k) [.int .u8 s,.slice A1 n1 c1]∧w.cell? ⟨g,o+i * 2,none⟩=some (.int .u8 s)∧w.cell? ⟨g,o+i * 2+1,none⟩=some (.slice A1 n1 c1):=by
 obtain ⟨g,o,ci,hA,hs,r1,r2,r3⟩:=Rep.slice_at h (by omega) (i:=i) (d:=kdD k) (by unfold kindsD;rw [List.getElem?_map,hi];rfl)
 obtain ⟨n,A1,m,c1,rfl⟩:=kd_len r1
 exact ⟨g,o,n,A1,m,c1,hA,r1,by simpa using r3 0 _ rfl,by simpa [Nat.add_assoc] using r3 1 _ rfl⟩
theorem qov (fs:List Fd) (it:Nat→Item) (ok:Nat→Bool) (kc:UInt8) (kd:Nat→Kd) (hkd:∀ i,kd i=⟨kc,false⟩) (Ak:Option Addr) (ck:Nat) (A:Option Addr) (c:Nat) (w:World) (hkv:∀ W:World,Below w.heap.size w W→∃ gk og,Ak=some ⟨gk,og,none⟩∧W.cell? ⟨gk,og,none⟩=some (.int .u8 kc.toNat)∧W.cell? ⟨gk,og+1,none⟩=some (.slice none 0 0)) (hv:FdsV Any w fs A c)
  (hit:∀ (i:Nat) (f:Fd) (s:Int) (A1:Option Addr) (n1 c1:Nat) (A2:Option Addr) (c2:Nat) (W:World),fs[i]? = some f→Rep Any W (kdD (kd i)) [.int .u8 s,.slice A1 n1 c1]→LfsV Any W f.l A2 c2 →
   Calls Tryz.prog 147 #[.agg #[.int .u8 s,.slice A1 n1 c1],.agg (fdC f A2 c2).toArray] W (FitPost (it i) (ok i) W)) :
  Calls Tryz.prog 95 #[.agg #[.int .u8 42,.slice Ak 1 ck],.slice A fs.length c] w (FitPost (listIt ((List.range fs.length).map it)) (decide (fs.length≤40) && (List.range fs.length).all ok) w):=by
 obtain ⟨OK,hOK⟩:∃ OK,(decide (fs.length≤40) && (List.range fs.length).all ok)=OK:=⟨_,rfl⟩
 rw [hOK]
 have HOK:=qh hOK
 have hb:Below w.heap.size w ((w.alloc (.cells #[.int .u8 42,.slice Ak 1 ck] 153)).alloc (.cells #[.bool false,.string ⟨#[]⟩,.slice none 0 0] 53)):=((Below.refl _ _).alloc qn _).alloc (by simp) _
 have hr:=heap_alloc_new (w.alloc (.cells #[.int .u8 42,.slice Ak 1 ck] 153)) (.cells #[.bool false,.string ⟨#[]⟩,.slice none 0 0] 53)
 have hk0:=(heap_alloc_old (w.alloc (.cells #[.int .u8 42,.slice Ak 1 ck] 153)) (.cells #[.bool false,.string ⟨#[]⟩,.slice none 0 0] 53) (by simp)).trans (heap_alloc_new w (.cells #[.int .u8 42,.slice Ak 1 ck] 153))
 simp only [World.size_alloc] at hr
 have hsz:((w.alloc (.cells #[.int .u8 42,.slice Ak 1 ck] 153)).alloc (.cells #[.bool false,.string ⟨#[]⟩,.slice none 0 0] 53)).heap.size=w.heap.size+2:=by simp
 have HB:=qh hb
 have HR:=qh hr
 have HKB:=qh hk0
 have HV:=qh hv
 have HIT:=qh hit
 have HKV:=qh hkv
 have HSZ:=qh hsz
 clear hOK hb hr hk0 hv hit hkv hsz
 by_cases hlen:fs.length≤40
 case neg =>
  have hok:OK=false:=by rw [← HOK.out];simp [hlen]
  have hlI:(40:Int) < fs.length:=by omega
  clear HIT HV HKV HKB HSZ hlen
  go_enter Tryz.func95,Tryz.ntmps95
  go_wp2_with fail
  refine bodyPost_ret (v:=.tuple #[.agg #[.bool false,.string ⟨#[]⟩,.slice none 0 0],.bool false]) (qah rfl _ _ (w.heap.size+1) _ _ _ _ rfl HR.out _ rfl Tryz.underlying53 rfl infoI) rfl ?_
  rw [hok]
  exact ⟨leafIt [],none,0,rfl,ItemV.leaf [] false,(fun h=>by cases h),HB.out⟩
 have hlI:¬ (40:Int) < fs.length:=by omega
 have hOKi:Hid (OK=((List.range fs.length).all ok)):=qh (by rw [← HOK.out];simp [hlen])
 have hfl:fs.length≤1000:=by omega
 clear HOK hlen
 go_enter Tryz.func95,Tryz.ntmps95
 go_wp2_with fail
 refine (qg9 none 0 0 _).mono ?_
 rintro e w1 ⟨rfl,hb1⟩
 have hR1:=(hb1.block _ (qg HR.out)).trans HR.out
 have hK1:=(hb1.block _ (qg HKB.out)).trans HKB.out
 have hB1:=qac HB.out HB.out.size hb1
 have hw1:w.heap.size+2≤w1.heap.size:=by rw [← HSZ.out];exact hb1.size
 have hba:Below w1.heap.size w1 (w1.alloc (.cells #[.bool true,.string (bs []),.slice none 0 0] 53)):=(Below.refl _ _).alloc qn _
 have HX2:=qh (heap_alloc_new w1 (.cells #[.bool true,.string (bs []),.slice none 0 0] 53))
 have HR2:=qh ((hba.block _ (qg hR1)).trans hR1)
 have HK2:=qh ((hba.block _ (qg hK1)).trans hK1)
 have HB2:=qh (qac hB1 hB1.size hba)
 clear hR1 hK1 hB1 hba hb1 HB HR HKB HSZ
 go_wp2_with fail
 obtain ⟨X,hXe⟩:∃ X,w1.heap.size=X:=⟨_,rfl⟩
 have hX0:=HX2.out
 rw [hXe] at hw1 hX0 ⊢
 have HX0:=qh hX0
 clear hX0 HX2
 go_loopw [37] (fun a wr=>∃ (i:Nat) (ys:List Value) (u:Value),a=.int .i64 i∧i≤fs.length∧Hid ((List.range i).all ok=true)∧wr.heap[X]? = some (.cells #[.bool true,.string (bs []),u] 53 (0,0))∧wr.heap[w.heap.size+1]? = some (.cells #[.bool false,.string ⟨#[]⟩,.slice none 0 0] 53 (0,0))∧wr.heap[w.heap.size]? = some (.cells #[.int .u8 42,.slice Ak 1 ck] 153 (0,0)) ∧
   wr.ownsRow (X+1) 53 3 u i ys∧RepN (RowS (X+1) u) wr 3 (itemsD ((List.range i).map it)) ys∧Below w.heap.size w wr) (fun a _=>fs.length - (intOf a).toNat)
 case atStart=>exact ⟨0,[],_,rfl,Nat.zero_le _,qh rfl,HX0.out,HR2.out,HK2.out,World.ownsRow_nil _ _ _ _,.nil,HB2.out⟩
 case round =>
  clear HX0 HR2 HK2 HB2
  obtain ⟨i,ys,u,rfl,hi,hall,hX,hR,hKd,hown,hrep,hB⟩:=hrel
  obtain ⟨A',c',rfl⟩:=qa4 hown
  have hXl:=(qg hX)
  by_cases hlt:i < fs.length
  ·obtain ⟨f,hf⟩:=qan hlt
   obtain ⟨g,o,A2,c2,rfl,_,hlv,hcf⟩:=qcq (HV.out.keep hB) hf
   have hltI:(i:Int) < fs.length:=by omega
   have q0:=hcf 0 _ rfl
   have q1:=hcf 1 _ rfl
   have q2:=hcf 2 _ rfl
   simp only [Nat.add_zero] at q0
   have k0:wr.cell? ⟨w.heap.size,0,none⟩=some (.int .u8 42):=rc hKd 0 rfl
   have k1:wr.cell? ⟨w.heap.size,1,none⟩=some (.slice Ak 1 ck):=rc hKd 1 rfl
   obtain ⟨gk,og,hgk⟩:∃ gk og,Ak=some ⟨gk,og,none⟩∧wr.cell? ⟨gk,og,none⟩=some (.int .u8 kc.toNat)∧wr.cell? ⟨gk,og+1,none⟩=some (.slice none 0 0):=HKV.out wr hB
   obtain ⟨rfl,z0,z1⟩:=hgk
   have HRK:Hid (Rep Any wr (kdD (kd i)) [.int .u8 kc.toNat,.slice none 0 0]):=qh (by rw [hkd];exact qf2 kc)
   have k1a:=ca k1 (.cells #[.int .u64 (f.n:Int),.string (bs f.b),.slice A2 f.l.length c2] 81)
   have k0b:=ca (ca k0 (.cells #[.int .u64 (f.n:Int),.string (bs f.b),.slice A2 f.l.length c2] 81)) (.cells #[.int .u8 kc.toNat,.slice none 0 0] 153)
   have z0a:=ca z0 (.cells #[.int .u64 (f.n:Int),.string (bs f.b),.slice A2 f.l.length c2] 81)
   have z1a:=ca z1 (.cells #[.int .u64 (f.n:Int),.string (bs f.b),.slice A2 f.l.length c2] 81)
   have HF:=qh hf
   have HX:=qh hX
   have HR:=qh hR
   have HKD:=qh hKd
   have HW:=qh hown
   have HP:=qh hrep
   have HB:=qh hB
   have HLV:=qh hlv
   clear hf hX hR hKd hown hrep hB hlv hcf
   go_wp2_with fail
   have hba:Below wr.heap.size wr ((wr.alloc (.cells #[.int .u64 (f.n:Int),.string (bs f.b),.slice A2 f.l.length c2] 81)).alloc (.cells #[.int .u8 kc.toNat,.slice none 0 0] 153)):=((Below.refl _ _).alloc qn _).alloc (by simp) _
   have hC:=HIT.out i f _ _ _ _ A2 c2 ((wr.alloc (.cells #[.int .u64 (f.n:Int),.string (bs f.b),.slice A2 f.l.length c2] 81)).alloc (.cells #[.int .u8 kc.toNat,.slice none 0 0] 153)) HF.out (Rep.keep HRK.out hba) (HLV.out.keep hba)
   have HX1:=qh ((hba.block _ (qg HX.out)).trans HX.out)
   have HR1:=qh ((hba.block _ (qg HR.out)).trans HR.out)
   have HK1:=qh ((hba.block _ (qg HKD.out)).trans HKD.out)
   have HW1:=qh (qa5 HW.out hba)
   have HP1:=qh (HP.out.keep hba)
   have HB1:=qh (qac HB.out HB.out.size hba)
   have hXl1:=Nat.lt_of_lt_of_le hXl hba.size
   refine hC.mono ?_
   clear hC hba HX HR HKD HW HP HB
   rintro e w4 ⟨y,Ay,cy,rfl,hy,hyx,hb4⟩
   have HX4:=qh ((hb4.block _ (qg HX1.out)).trans HX1.out)
   have HR4:=qh ((hb4.block _ (qg HR1.out)).trans HR1.out)
   have HK4:=qh ((hb4.block _ (qg HK1.out)).trans HK1.out)
   have HW4:=qh (qa5 HW1.out hb4)
   have HB4:=qh (qac HB1.out HB1.out.size hb4)
   have hXl4:=Nat.lt_of_lt_of_le hXl1 hb4.size
   have HP4:Hid (RepN (RowS (X+1) (.slice A' i c')) w4 3 (itemsD ((List.range i).map it ++ [y])) (ys ++ [.bool y.l,.string (bs y.b),.slice Ay y.ks.length cy])):=qh (by
    rw [qcw]
    exact RepN.snoc (hy.mono fun b _ hb=>⟨⟨Nat.le_trans hXl1 hb,fun e=>by have h1:=(HW1.out.lt _ e).2;have h2:_≤b:=hb;omega⟩,rfl⟩) rfl (HP1.out.keep hb4))
   clear hy hb4 HX1 HR1 HK1 HW1 HP1 HB1
   cases hoki:ok i with
   | false =>
    have hno:OK=false:=by
     rw [hOKi.out]
     refine Bool.eq_false_iff.2 fun h=>?_
     have:=List.all_eq_true.1 h i (List.mem_range.2 hlt)
     rw [hoki] at this;cases this
    have r0:w4.cell? ⟨w.heap.size+1,0,none⟩=some (.bool false):=rc0 HR4.out
    have r1:w4.cell? ⟨w.heap.size+1,1,none⟩=some (.string ⟨#[]⟩):=rc1 HR4.out
    have r2:w4.cell? ⟨w.heap.size+1,2,none⟩=some (.slice none 0 0):=rc2 HR4.out
    have f0:=rf HR4.out 0
    have f1:=rf HR4.out 1
    have f2:=rf HR4.out 2
    have HNO:=qh hno
    have hRl4:=(qg HR4.out)
    clear hno hoki hyx
    go_wp2_with fail
    have hfin:=qaa (qaa (qaa HR4.out (i:=0) (.bool false)) (i:=1) (.string ⟨#[]⟩)) (i:=2) (.slice none 0 0)
    have hfin1:=(heap_alloc_old _ (.cells #[.bool y.l,.string (bs y.b),.slice Ay y.ks.length cy] 53) (by simpa using hRl4)).trans hfin
    refine bodyPost_ret (v:=.tuple #[.agg #[.bool false,.string ⟨#[]⟩,.slice none 0 0],.bool false]) (qah rfl _ _ (w.heap.size+1) _ _ _ _ rfl hfin1 _ rfl Tryz.underlying53 rfl infoI) rfl ?_
    rw [HNO.out]
    exact ⟨leafIt [],none,0,rfl,ItemV.leaf [] false,(fun h=>by cases h),(((HB4.out.setCell (p:=⟨w.heap.size+1,_,_⟩) (Nat.le_succ _) _).setCell (p:=⟨w.heap.size+1,_,_⟩) (Nat.le_succ _) _).setCell (p:=⟨w.heap.size+1,_,_⟩) (Nat.le_succ _) _).alloc (by have:=HB4.out.size;simp;omega) _⟩
   | true =>
    have hyi:=hyx hoki
    have HP5:Hid (RepN (RowS (X+1) (.slice A' i c')) w4 3 (itemsD ((List.range (i+1)).map it)) (ys ++ [.bool y.l,.string (bs y.b),.slice Ay y.ks.length cy])):=qh (by
     rw [List.range_succ,List.map_append,List.map_cons,List.map_nil,← hyi];exact HP4.out)
    have hall1:Hid ((List.range (i+1)).all ok=true):=qh (by rw [List.range_succ,List.all_append,hall.out];simp [hoki])
    have x2:w4.cell? ⟨X,2,none⟩=some (.slice A' i c'):=rc2 HX4.out
    have x2a:=ca x2 (.cells #[.bool y.l,.string (bs y.b),.slice Ay y.ks.length cy] 53)
    clear hyi hyx hoki HP4 hall
    have hX5:=(heap_alloc_old w4 (.cells #[.bool y.l,.string (bs y.b),.slice Ay y.ks.length cy] 53) hXl4).trans HX4.out
    go_wp2_with (at_builtin;refine qa0 qi6 rfl rfl (X+1) ((HW4.out.alloc _).alloc _) rfl (m:=1) [.bool y.l,.string (bs y.b),.slice Ay y.ks.length cy] rfl rfl ?_ ?_ ?_ ?_ ?_ ?_;exact (qco _ _ (by simp) _ _);(intro u hu;simp at hu;rcases hu with rfl | rfl | rfl <;> rfl);(simp only [maxLen];omega);omega;(simp;omega);intro v1 w8 hown1 hg1 hat1;obtain ⟨A3,c3,rfl⟩:=qa4 hown1;have hX8:=(hg1.block X (by simp;omega) (fun e=>by have:=(HW4.out.lt _ e.symm).1;omega)).trans ((heap_alloc_old _ _ (by simp;omega)).trans hX5);have d2:=rc2 hX8;have df:=rf hX8 2;have HX8:=qh hX8;clear hX8)
    have hba:Below w4.heap.size w4 ((w4.alloc (.cells #[.bool y.l,.string (bs y.b),.slice Ay y.ks.length cy] 53)).alloc (.cells #[.bool y.l,.string (bs y.b),.slice Ay y.ks.length cy] 53)):=((Below.refl _ _).alloc qn _).alloc (by simp) _
    have hsz:w4.heap.size≤((w4.alloc (.cells #[.bool y.l,.string (bs y.b),.slice Ay y.ks.length cy] 53)).alloc (.cells #[.bool y.l,.string (bs y.b),.slice Ay y.ks.length cy] 53)).heap.size:=hba.size
    have hR8:=(hg1.block (w.heap.size+1) (by omega) (fun e=>by have:=(HW4.out.lt _ e.symm).1;omega)).trans ((hba.block (w.heap.size+1) (by omega)).trans HR4.out)
    have hK8:=(hg1.block w.heap.size (by omega) (fun e=>by have:=(HW4.out.lt _ e.symm).1;omega)).trans ((hba.block w.heap.size (by omega)).trans HK4.out)
    have hB8:=qa7 (qac HB4.out HB4.out.size hba) (qa5 HW4.out hba) hg1 (by omega) (by omega)
    have hP8:=qeq (HP5.out.keep hba) hg1 hat1
    go_roundw
    case rel=>exact ⟨i+1,ys ++ [.bool y.l,.string (bs y.b),.slice Ay y.ks.length cy],.slice A3 (i+1) c3,by go_num,by omega,hall1,qaa HX8.out _,(qab (by omega) _).trans hR8,(qab (by omega) _).trans hK8,qbf hown1 (by omega) _,RepN.mono hP8 (fun b _ hb=>⟨hb,qab (by have:=hb.1;omega) _⟩),hB8.setCell (p:=⟨X,2,none⟩) (by simp;omega) _⟩
    case measure=>simp [intOf];omega
  ·obtain rfl:i=fs.length:=by omega
   have hOKt:OK=true:=by rw [hOKi.out];exact hall.out
   have r0:wr.cell? ⟨w.heap.size+1,0,none⟩=some (.bool false):=rc0 hR
   have r1:wr.cell? ⟨w.heap.size+1,1,none⟩=some (.string ⟨#[]⟩):=rc1 hR
   have r2:wr.cell? ⟨w.heap.size+1,2,none⟩=some (.slice none 0 0):=rc2 hR
   have f0:=rf hR 0
   have f1:=rf hR 1
   have f2:=rf hR 2
   have x0:wr.cell? ⟨X,0,none⟩=some (.bool true):=rc0 hX
   have x1:wr.cell? ⟨X,1,none⟩=some (.string (bs [])):=rc1 hX
   have x2:wr.cell? ⟨X,2,none⟩=some (.slice A' fs.length c'):=rc2 hX
   have HNO:=qh hOKt
   have HR:=qh hR
   have HW:=qh hown
   have HP:=qh hrep
   have HB:=qh hB
   clear hOKt hR hown hrep hB hX hKd hall
   go_wp2_with fail
   have hfin:=qaa (qaa (qaa HR.out (i:=0) (.bool true)) (i:=1) (.string (bs []))) (i:=2) (.slice A' fs.length c')
   refine bodyPost_ret (v:=.tuple #[.agg #[.bool true,.string (bs []),.slice A' fs.length c'],.bool true]) (qah rfl _ _ (w.heap.size+1) _ _ _ _ rfl hfin _ rfl Tryz.underlying53 rfl infoI) rfl ?_
   rw [HNO.out]
   have hO:=qbf (g:=w.heap.size+1) (i:=2) (qbf (g:=w.heap.size+1) (i:=1) (qbf (g:=w.heap.size+1) (i:=0) HW.out (by omega) (.bool true)) (by omega) (.string (bs []))) (by omega) (.slice A' fs.length c')
   have hkl:((List.range fs.length).map it).length=fs.length:=by simp
   have hq:ItemV (From w.heap.size) (((wr.setCell ⟨w.heap.size+1,0,none⟩ (.bool true)).setCell ⟨w.heap.size+1,1,none⟩ (.string (bs []))).setCell ⟨w.heap.size+1,2,none⟩ (.slice A' fs.length c')) (listIt ((List.range fs.length).map it)) A' c':=by
    refine qel ?_
    show Rep _ _ (.sl 3 (itemsD ((List.range fs.length).map it))) [.slice A' ((List.range fs.length).map it).length c']
    rw [hkl]
    refine qck hO (RepN.mono HP.out fun b _ hb=>⟨?_,?_⟩) (by rw [qdj,hkl]) (fun b h1 _=>?_)
    ·have:=hb.1;show w.heap.size≤b;omega
    ·have:=hb.1;rw [qab (by omega),qab (by omega),qab (by omega)]
    ·show w.heap.size≤b;omega
   refine ⟨listIt ((List.range fs.length).map it),A',c',?_,hq,fun _=>rfl,((HB.out.setCell (p:=⟨w.heap.size+1,_,_⟩) (Nat.le_succ _) _).setCell (p:=⟨w.heap.size+1,_,_⟩) (Nat.le_succ _) _).setCell (p:=⟨w.heap.size+1,_,_⟩) (Nat.le_succ _) _⟩
   rw [show (listIt ((List.range fs.length).map it)).ks.length=fs.length from hkl]
   rfl
theorem qq8 (fs:List Fd) (it:Nat→Item) (ok:Nat→Bool) (ks:List Kd) (kd:Nat→Kd) (hkd:∀ i k,ks[i]? = some k→kd i=k) (hkl:ks.length≤1000) (Ak:Option Addr) (ck:Nat) (A:Option Addr) (c:Nat) (w:World) (hkv:KindsV Any w ks Ak ck) (hv:FdsV Any w fs A c)
  (hit:∀ (i:Nat) (f:Fd) (s:Int) (A1:Option Addr) (n1 c1:Nat) (A2:Option Addr) (c2:Nat) (W:World),fs[i]? = some f→(ks[i]?).isSome=true→Rep Any W (kdD (kd i)) [.int .u8 s,.slice A1 n1 c1]→LfsV Any W f.l A2 c2 →
   Calls Tryz.prog 147 #[.agg #[.int .u8 s,.slice A1 n1 c1],.agg (fdC f A2 c2).toArray] W (FitPost (it i) (ok i) W)) :
  Calls Tryz.prog 95 #[.agg #[.int .u8 40,.slice Ak ks.length ck],.slice A fs.length c] w (FitPost (listIt ((List.range fs.length).map it)) (decide (fs.length=ks.length) && (List.range fs.length).all ok) w):=by
 obtain ⟨OK,hOK⟩:∃ OK,(decide (fs.length=ks.length) && (List.range fs.length).all ok)=OK:=⟨_,rfl⟩
 rw [hOK]
 have HOK:=qh hOK
 have hb:Below w.heap.size w ((w.alloc (.cells #[.int .u8 40,.slice Ak ks.length ck] 153)).alloc (.cells #[.bool false,.string ⟨#[]⟩,.slice none 0 0] 53)):=((Below.refl _ _).alloc qn _).alloc (by simp) _
 have hr:=heap_alloc_new (w.alloc (.cells #[.int .u8 40,.slice Ak ks.length ck] 153)) (.cells #[.bool false,.string ⟨#[]⟩,.slice none 0 0] 53)
 have hk0:=(heap_alloc_old (w.alloc (.cells #[.int .u8 40,.slice Ak ks.length ck] 153)) (.cells #[.bool false,.string ⟨#[]⟩,.slice none 0 0] 53) (by simp)).trans (heap_alloc_new w (.cells #[.int .u8 40,.slice Ak ks.length ck] 153))
 simp only [World.size_alloc] at hr
 have hsz:((w.alloc (.cells #[.int .u8 40,.slice Ak ks.length ck] 153)).alloc (.cells #[.bool false,.string ⟨#[]⟩,.slice none 0 0] 53)).heap.size=w.heap.size+2:=by simp
 have HB:=qh hb
 have HR:=qh hr
 have HKB:=qh hk0
 have HV:=qh hv
 have HIT:=qh hit
 have HKV:=qh hkv
 have HSZ:=qh hsz
 clear hOK hb hr hk0 hv hit hkv hsz
 by_cases hlen:fs.length=ks.length
 case neg =>
  have hok:OK=false:=by rw [← HOK.out];simp [hlen]
  have hlI:((fs.length:Int) == (ks.length:Int))=false:=by rw [beq_eq_false_iff_ne];omega
  clear HIT HV HKV HKB HSZ hlen
  go_enter Tryz.func95,Tryz.ntmps95
  go_wp2_with fail
  refine bodyPost_ret (v:=.tuple #[.agg #[.bool false,.string ⟨#[]⟩,.slice none 0 0],.bool false]) (qah rfl _ _ (w.heap.size+1) _ _ _ _ rfl HR.out _ rfl Tryz.underlying53 rfl infoI) rfl ?_
  rw [hok]
  exact ⟨leafIt [],none,0,rfl,ItemV.leaf [] false,(fun h=>by cases h),HB.out⟩
 have hlI:((fs.length:Int) == (ks.length:Int))=true:=by simp [hlen]
 have HLEN:=qh hlen
 have hOKi:Hid (OK=((List.range fs.length).all ok)):=qh (by rw [← HOK.out];simp [hlen])
 have hfl:fs.length≤1000:=by have:=hkl;omega
 clear HOK hlen
 go_enter Tryz.func95,Tryz.ntmps95
 go_wp2_with fail
 refine (qg9 none 0 0 _).mono ?_
 rintro e w1 ⟨rfl,hb1⟩
 have hR1:=(hb1.block _ (qg HR.out)).trans HR.out
 have hK1:=(hb1.block _ (qg HKB.out)).trans HKB.out
 have hB1:=qac HB.out HB.out.size hb1
 have hw1:w.heap.size+2≤w1.heap.size:=by rw [← HSZ.out];exact hb1.size
 have hba:Below w1.heap.size w1 (w1.alloc (.cells #[.bool true,.string (bs []),.slice none 0 0] 53)):=(Below.refl _ _).alloc qn _
 have HX2:=qh (heap_alloc_new w1 (.cells #[.bool true,.string (bs []),.slice none 0 0] 53))
 have HR2:=qh ((hba.block _ (qg hR1)).trans hR1)
 have HK2:=qh ((hba.block _ (qg hK1)).trans hK1)
 have HB2:=qh (qac hB1 hB1.size hba)
 clear hR1 hK1 hB1 hba hb1 HB HR HKB HSZ
 go_wp2_with fail
 obtain ⟨X,hXe⟩:∃ X,w1.heap.size=X:=⟨_,rfl⟩
 have hX0:=HX2.out
 rw [hXe] at hw1 hX0 ⊢
 have HX0:=qh hX0
 clear hX0 HX2
 go_loopw [37] (fun a wr=>∃ (i:Nat) (ys:List Value) (u:Value),a=.int .i64 i∧i≤fs.length∧Hid ((List.range i).all ok=true)∧wr.heap[X]? = some (.cells #[.bool true,.string (bs []),u] 53 (0,0))∧wr.heap[w.heap.size+1]? = some (.cells #[.bool false,.string ⟨#[]⟩,.slice none 0 0] 53 (0,0))∧wr.heap[w.heap.size]? = some (.cells #[.int .u8 40,.slice Ak ks.length ck] 153 (0,0)) ∧
   wr.ownsRow (X+1) 53 3 u i ys∧RepN (RowS (X+1) u) wr 3 (itemsD ((List.range i).map it)) ys∧Below w.heap.size w wr) (fun a _=>fs.length - (intOf a).toNat)
 case atStart=>exact ⟨0,[],_,rfl,Nat.zero_le _,qh rfl,HX0.out,HR2.out,HK2.out,World.ownsRow_nil _ _ _ _,.nil,HB2.out⟩
 case round =>
  clear HX0 HR2 HK2 HB2
  obtain ⟨i,ys,u,rfl,hi,hall,hX,hR,hKd,hown,hrep,hB⟩:=hrel
  obtain ⟨A',c',rfl⟩:=qa4 hown
  have hXl:=(qg hX)
  by_cases hlt:i < fs.length
  ·obtain ⟨f,hf⟩:=qan hlt
   obtain ⟨g,o,A2,c2,rfl,_,hlv,hcf⟩:=qcq (HV.out.keep hB) hf
   have hltI:(i:Int) < fs.length:=by omega
   have q0:=hcf 0 _ rfl
   have q1:=hcf 1 _ rfl
   have q2:=hcf 2 _ rfl
   simp only [Nat.add_zero] at q0
   have k0:wr.cell? ⟨w.heap.size,0,none⟩=some (.int .u8 40):=rc hKd 0 rfl
   have k1:wr.cell? ⟨w.heap.size,1,none⟩=some (.slice Ak ks.length ck):=rc hKd 1 rfl
   have hlk:=HLEN.out
   obtain ⟨k0e,hk0e⟩:∃ k,ks[0]? = some k:=qan (by omega)
   obtain ⟨kie,hkie⟩:∃ k,ks[i]? = some k:=qan (by omega)
   obtain ⟨gk,og,s0,A0,n0,c0,hA0,_,z0,z1⟩:=qg0 (Rep.keep HKV.out hB) hk0e
   obtain ⟨gk2,og2,s1,A1,n1,c1,hA1,hrk,y0,y1⟩:=qg0 (Rep.keep HKV.out hB) hkie
   rw [hA0] at hA1
   injection hA1 with hA1
   injection hA1 with e1 e2
   subst e1;subst e2;subst hA0
   simp only [Nat.zero_mul,Nat.add_zero] at z0 z1
   have hnil:¬ ks = []:=fun e=>by have h0:ks.length=0:=(by rw [e];rfl);omega
   have hikI:(i:Int) < ks.length:=by omega
   have h0kI:(0:Int) < ks.length:=by omega
   have HRK:Hid (Rep Any wr (kdD (kd i)) [.int .u8 s1,.slice A1 n1 c1]):=qh (by rw [hkd i kie hkie];exact hrk)
   have HSM:Hid ((ks[i]?).isSome=true):=qh (by rw [hkie];rfl)
   clear hlk hk0e hkie hrk
   have k1a:=ca k1 (.cells #[.int .u64 (f.n:Int),.string (bs f.b),.slice A2 f.l.length c2] 81)
   have k0b:=ca (ca k0 (.cells #[.int .u64 (f.n:Int),.string (bs f.b),.slice A2 f.l.length c2] 81)) (.cells #[.int .u8 s0,.slice A0 n0 c0] 153)
   have z0a:=ca z0 (.cells #[.int .u64 (f.n:Int),.string (bs f.b),.slice A2 f.l.length c2] 81)
   have z0b:=ca z0a (.cells #[.int .u8 s0,.slice A0 n0 c0] 153)
   have z1a:=ca z1 (.cells #[.int .u64 (f.n:Int),.string (bs f.b),.slice A2 f.l.length c2] 81)
   have z1b:=ca z1a (.cells #[.int .u8 s0,.slice A0 n0 c0] 153)
   have y0a:=ca y0 (.cells #[.int .u64 (f.n:Int),.string (bs f.b),.slice A2 f.l.length c2] 81)
   have y0b:=ca y0a (.cells #[.int .u8 s0,.slice A0 n0 c0] 153)
   have y1a:=ca y1 (.cells #[.int .u64 (f.n:Int),.string (bs f.b),.slice A2 f.l.length c2] 81)
   have y1b:=ca y1a (.cells #[.int .u8 s0,.slice A0 n0 c0] 153)
   have k1b:=ca k1a (.cells #[.int .u8 s0,.slice A0 n0 c0] 153)
   have HF:=qh hf
   have HX:=qh hX
   have HR:=qh hR
   have HKD:=qh hKd
   have HW:=qh hown
   have HP:=qh hrep
   have HB:=qh hB
   have HLV:=qh hlv
   clear hf hX hR hKd hown hrep hB hlv hcf
   go_wp2_with fail
   have hba:Below wr.heap.size wr ((wr.alloc (.cells #[.int .u64 (f.n:Int),.string (bs f.b),.slice A2 f.l.length c2] 81)).alloc (.cells #[.int .u8 s1,.slice A1 n1 c1] 153)):=((Below.refl _ _).alloc qn _).alloc (by simp) _
   have hC:=HIT.out i f _ _ _ _ A2 c2 ((wr.alloc (.cells #[.int .u64 (f.n:Int),.string (bs f.b),.slice A2 f.l.length c2] 81)).alloc (.cells #[.int .u8 s1,.slice A1 n1 c1] 153)) HF.out HSM.out (Rep.keep HRK.out hba) (HLV.out.keep hba)
   have HX1:=qh ((hba.block _ (qg HX.out)).trans HX.out)
   have HR1:=qh ((hba.block _ (qg HR.out)).trans HR.out)
   have HK1:=qh ((hba.block _ (qg HKD.out)).trans HKD.out)
   have HW1:=qh (qa5 HW.out hba)
   have HP1:=qh (HP.out.keep hba)
   have HB1:=qh (qac HB.out HB.out.size hba)
   have hXl1:=Nat.lt_of_lt_of_le hXl hba.size
   refine hC.mono ?_
   clear hC hba HX HR HKD HW HP HB
   rintro e w4 ⟨y,Ay,cy,rfl,hy,hyx,hb4⟩
   have HX4:=qh ((hb4.block _ (qg HX1.out)).trans HX1.out)
   have HR4:=qh ((hb4.block _ (qg HR1.out)).trans HR1.out)
   have HK4:=qh ((hb4.block _ (qg HK1.out)).trans HK1.out)
   have HW4:=qh (qa5 HW1.out hb4)
   have HB4:=qh (qac HB1.out HB1.out.size hb4)
   have hXl4:=Nat.lt_of_lt_of_le hXl1 hb4.size
   have HP4:Hid (RepN (RowS (X+1) (.slice A' i c')) w4 3 (itemsD ((List.range i).map it ++ [y])) (ys ++ [.bool y.l,.string (bs y.b),.slice Ay y.ks.length cy])):=qh (by
    rw [qcw]
    exact RepN.snoc (hy.mono fun b _ hb=>⟨⟨Nat.le_trans hXl1 hb,fun e=>by have h1:=(HW1.out.lt _ e).2;have h2:_≤b:=hb;omega⟩,rfl⟩) rfl (HP1.out.keep hb4))
   clear hy hb4 HX1 HR1 HK1 HW1 HP1 HB1
   cases hoki:ok i with
   | false =>
    have hno:OK=false:=by
     rw [hOKi.out]
     refine Bool.eq_false_iff.2 fun h=>?_
     have:=List.all_eq_true.1 h i (List.mem_range.2 hlt)
     rw [hoki] at this;cases this
    have r0:w4.cell? ⟨w.heap.size+1,0,none⟩=some (.bool false):=rc0 HR4.out
    have r1:w4.cell? ⟨w.heap.size+1,1,none⟩=some (.string ⟨#[]⟩):=rc1 HR4.out
    have r2:w4.cell? ⟨w.heap.size+1,2,none⟩=some (.slice none 0 0):=rc2 HR4.out
    have f0:=rf HR4.out 0
    have f1:=rf HR4.out 1
    have f2:=rf HR4.out 2
    have HNO:=qh hno
    have hRl4:=(qg HR4.out)
    clear hno hoki hyx
    go_wp2_with fail
    have hfin:=qaa (qaa (qaa HR4.out (i:=0) (.bool false)) (i:=1) (.string ⟨#[]⟩)) (i:=2) (.slice none 0 0)
    have hfin1:=(heap_alloc_old _ (.cells #[.bool y.l,.string (bs y.b),.slice Ay y.ks.length cy] 53) (by simpa using hRl4)).trans hfin
    refine bodyPost_ret (v:=.tuple #[.agg #[.bool false,.string ⟨#[]⟩,.slice none 0 0],.bool false]) (qah rfl _ _ (w.heap.size+1) _ _ _ _ rfl hfin1 _ rfl Tryz.underlying53 rfl infoI) rfl ?_
    rw [HNO.out]
    exact ⟨leafIt [],none,0,rfl,ItemV.leaf [] false,(fun h=>by cases h),(((HB4.out.setCell (p:=⟨w.heap.size+1,_,_⟩) (Nat.le_succ _) _).setCell (p:=⟨w.heap.size+1,_,_⟩) (Nat.le_succ _) _).setCell (p:=⟨w.heap.size+1,_,_⟩) (Nat.le_succ _) _).alloc (by have:=HB4.out.size;simp;omega) _⟩
   | true =>
    have hyi:=hyx hoki
    have HP5:Hid (RepN (RowS (X+1) (.slice A' i c')) w4 3 (itemsD ((List.range (i+1)).map it)) (ys ++ [.bool y.l,.string (bs y.b),.slice Ay y.ks.length cy])):=qh (by
     rw [List.range_succ,List.map_append,List.map_cons,List.map_nil,← hyi];exact HP4.out)
    have hall1:Hid ((List.range (i+1)).all ok=true):=qh (by rw [List.range_succ,List.all_append,hall.out];simp [hoki])
    have x2:w4.cell? ⟨X,2,none⟩=some (.slice A' i c'):=rc2 HX4.out
    have x2a:=ca x2 (.cells #[.bool y.l,.string (bs y.b),.slice Ay y.ks.length cy] 53)
    clear hyi hyx hoki HP4 hall
    have hX5:=(heap_alloc_old w4 (.cells #[.bool y.l,.string (bs y.b),.slice Ay y.ks.length cy] 53) hXl4).trans HX4.out
    go_wp2_with (at_builtin;refine qa0 qi6 rfl rfl (X+1) ((HW4.out.alloc _).alloc _) rfl (m:=1) [.bool y.l,.string (bs y.b),.slice Ay y.ks.length cy] rfl rfl ?_ ?_ ?_ ?_ ?_ ?_;exact (qco _ _ (by simp) _ _);(intro u hu;simp at hu;rcases hu with rfl | rfl | rfl <;> rfl);(simp only [maxLen];omega);omega;(simp;omega);intro v1 w8 hown1 hg1 hat1;obtain ⟨A3,c3,rfl⟩:=qa4 hown1;have hX8:=(hg1.block X (by simp;omega) (fun e=>by have:=(HW4.out.lt _ e.symm).1;omega)).trans ((heap_alloc_old _ _ (by simp;omega)).trans hX5);have d2:=rc2 hX8;have df:=rf hX8 2;have HX8:=qh hX8;clear hX8)
    have hba:Below w4.heap.size w4 ((w4.alloc (.cells #[.bool y.l,.string (bs y.b),.slice Ay y.ks.length cy] 53)).alloc (.cells #[.bool y.l,.string (bs y.b),.slice Ay y.ks.length cy] 53)):=((Below.refl _ _).alloc qn _).alloc (by simp) _
    have hsz:w4.heap.size≤((w4.alloc (.cells #[.bool y.l,.string (bs y.b),.slice Ay y.ks.length cy] 53)).alloc (.cells #[.bool y.l,.string (bs y.b),.slice Ay y.ks.length cy] 53)).heap.size:=hba.size
    have hR8:=(hg1.block (w.heap.size+1) (by omega) (fun e=>by have:=(HW4.out.lt _ e.symm).1;omega)).trans ((hba.block (w.heap.size+1) (by omega)).trans HR4.out)
    have hK8:=(hg1.block w.heap.size (by omega) (fun e=>by have:=(HW4.out.lt _ e.symm).1;omega)).trans ((hba.block w.heap.size (by omega)).trans HK4.out)
    have hB8:=qa7 (qac HB4.out HB4.out.size hba) (qa5 HW4.out hba) hg1 (by omega) (by omega)
    have hP8:=qeq (HP5.out.keep hba) hg1 hat1
    go_roundw
    case rel=>exact ⟨i+1,ys ++ [.bool y.l,.string (bs y.b),.slice Ay y.ks.length cy],.slice A3 (i+1) c3,by go_num,by omega,hall1,qaa HX8.out _,(qab (by omega) _).trans hR8,(qab (by omega) _).trans hK8,qbf hown1 (by omega) _,RepN.mono hP8 (fun b _ hb=>⟨hb,qab (by have:=hb.1;omega) _⟩),hB8.setCell (p:=⟨X,2,none⟩) (by simp;omega) _⟩
    case measure=>simp [intOf];omega
  ·obtain rfl:i=fs.length:=by omega
   have hOKt:OK=true:=by rw [hOKi.out];exact hall.out
   have r0:wr.cell? ⟨w.heap.size+1,0,none⟩=some (.bool false):=rc0 hR
   have r1:wr.cell? ⟨w.heap.size+1,1,none⟩=some (.string ⟨#[]⟩):=rc1 hR
   have r2:wr.cell? ⟨w.heap.size+1,2,none⟩=some (.slice none 0 0):=rc2 hR
   have f0:=rf hR 0
   have f1:=rf hR 1
   have f2:=rf hR 2
   have x0:wr.cell? ⟨X,0,none⟩=some (.bool true):=rc0 hX
   have x1:wr.cell? ⟨X,1,none⟩=some (.string (bs [])):=rc1 hX
   have x2:wr.cell? ⟨X,2,none⟩=some (.slice A' fs.length c'):=rc2 hX
   have HNO:=qh hOKt
   have HR:=qh hR
   have HW:=qh hown
   have HP:=qh hrep
   have HB:=qh hB
   clear hOKt hR hown hrep hB hX hKd hall
   go_wp2_with fail
   have hfin:=qaa (qaa (qaa HR.out (i:=0) (.bool true)) (i:=1) (.string (bs []))) (i:=2) (.slice A' fs.length c')
   refine bodyPost_ret (v:=.tuple #[.agg #[.bool true,.string (bs []),.slice A' fs.length c'],.bool true]) (qah rfl _ _ (w.heap.size+1) _ _ _ _ rfl hfin _ rfl Tryz.underlying53 rfl infoI) rfl ?_
   rw [HNO.out]
   have hO:=qbf (g:=w.heap.size+1) (i:=2) (qbf (g:=w.heap.size+1) (i:=1) (qbf (g:=w.heap.size+1) (i:=0) HW.out (by omega) (.bool true)) (by omega) (.string (bs []))) (by omega) (.slice A' fs.length c')
   have hkl:((List.range fs.length).map it).length=fs.length:=by simp
   have hq:ItemV (From w.heap.size) (((wr.setCell ⟨w.heap.size+1,0,none⟩ (.bool true)).setCell ⟨w.heap.size+1,1,none⟩ (.string (bs []))).setCell ⟨w.heap.size+1,2,none⟩ (.slice A' fs.length c')) (listIt ((List.range fs.length).map it)) A' c':=by
    refine qel ?_
    show Rep _ _ (.sl 3 (itemsD ((List.range fs.length).map it))) [.slice A' ((List.range fs.length).map it).length c']
    rw [hkl]
    refine qck hO (RepN.mono HP.out fun b _ hb=>⟨?_,?_⟩) (by rw [qdj,hkl]) (fun b h1 _=>?_)
    ·have:=hb.1;show w.heap.size≤b;omega
    ·have:=hb.1;rw [qab (by omega),qab (by omega),qab (by omega)]
    ·show w.heap.size≤b;omega
   refine ⟨listIt ((List.range fs.length).map it),A',c',?_,hq,fun _=>rfl,((HB.out.setCell (p:=⟨w.heap.size+1,_,_⟩) (Nat.le_succ _) _).setCell (p:=⟨w.heap.size+1,_,_⟩) (Nat.le_succ _) _).setCell (p:=⟨w.heap.size+1,_,_⟩) (Nat.le_succ _) _⟩
   rw [show (listIt ((List.range fs.length).map it)).ks.length=fs.length from hkl]
   rfl
/- The walk of frame.item at a list of plain kinds; items of any kind. -/
theorem qrc (n:Int) (b:Bytes) (A:Option Addr) (m c:Nat) (Ak:Option Addr) (ck:Nat) (x:Item) (ok:Bool) (hok:ok=false) (w:World) (hn:(n == 0)=false)
  (hC:Calls Tryz.prog 95 #[.agg #[.int .u8 42,.slice Ak 1 ck],.slice A m c] (((w.alloc (.cells #[.int .u8 42,.slice Ak 1 ck] 153)).alloc (.cells #[.int .u64 n,.string (bs b),.slice A m c] 81)).alloc (.cells #[.bool false,.string ⟨#[]⟩,.slice none 0 0] 53)) (FitPost x ok (((w.alloc (.cells #[.int .u8 42,.slice Ak 1 ck] 153)).alloc (.cells #[.int .u64 n,.string (bs b),.slice A m c] 81)).alloc (.cells #[.bool false,.string ⟨#[]⟩,.slice none 0 0] 53)))) :
  Calls Tryz.prog 147 #[.agg #[.int .u8 42,.slice Ak 1 ck],.agg #[.int .u64 n,.string (bs b),.slice A m c]] w (FitPost x false w):=by
 subst hok
 have hB:Below w.heap.size w (((w.alloc (.cells #[.int .u8 42,.slice Ak 1 ck] 153)).alloc (.cells #[.int .u64 n,.string (bs b),.slice A m c] 81)).alloc (.cells #[.bool false,.string ⟨#[]⟩,.slice none 0 0] 53)):=(((Below.refl _ _).alloc qn _).alloc (by simp) _).alloc (by simp;omega) _
 have hI:=heap_alloc_new ((w.alloc (.cells #[.int .u8 42,.slice Ak 1 ck] 153)).alloc (.cells #[.int .u64 n,.string (bs b),.slice A m c] 81)) (.cells #[.bool false,.string ⟨#[]⟩,.slice none 0 0] 53)
 have hF:=(heap_alloc_old ((w.alloc (.cells #[.int .u8 42,.slice Ak 1 ck] 153)).alloc (.cells #[.int .u64 n,.string (bs b),.slice A m c] 81)) (.cells #[.bool false,.string ⟨#[]⟩,.slice none 0 0] 53) (by simp)).trans (heap_alloc_new (w.alloc (.cells #[.int .u8 42,.slice Ak 1 ck] 153)) (.cells #[.int .u64 n,.string (bs b),.slice A m c] 81))
 have hsz:(((w.alloc (.cells #[.int .u8 42,.slice Ak 1 ck] 153)).alloc (.cells #[.int .u64 n,.string (bs b),.slice A m c] 81)).alloc (.cells #[.bool false,.string ⟨#[]⟩,.slice none 0 0] 53)).heap.size=w.heap.size+3:=by simp
 simp only [World.size_alloc] at hI hF
 have HB:=qh hB
 have HI:=qh hI
 have HF:=qh hF
 have HSZ:=qh hsz
 have HC:=qh hC
 clear hB hI hF hsz hC
 go_enter Tryz.func147,Tryz.ntmps147
 go_wp2_with fail
 refine HC.out.mono ?_
 clear HC
 rintro e w1 ⟨y,Ay,cy,rfl,hy1,hyx,hb1⟩
 have HYX:=qh hyx
 have hy0:ItemV (From (w.heap.size+3)) w1 y Ay cy:=by rw [← HSZ.out];exact hy1
 have hba:Below w1.heap.size w1 (w1.alloc (.cells #[.bool y.l,.string (bs y.b),.slice Ay y.ks.length cy] 53)):=(Below.refl _ _).alloc qn _
 have hw1:w.heap.size+3≤w1.heap.size:=by rw [← HSZ.out];exact hb1.size
 have HF1:=qh ((hba.block (w.heap.size+1) (by omega)).trans ((hb1.block (w.heap.size+1) (by rw [HSZ.out];omega)).trans HF.out))
 have HI1:=qh ((hba.block (w.heap.size+1+1) (by omega)).trans ((hb1.block (w.heap.size+1+1) (by rw [HSZ.out];omega)).trans HI.out))
 have HB1:=qh (qac (qac HB.out HB.out.size hb1) (by omega) hba)
 have HY1:=qh (hy0.keep hba)
 have HV1:=qh (heap_alloc_new w1 (.cells #[.bool y.l,.string (bs y.b),.slice Ay y.ks.length cy] 53))
 clear hy1 hy0 hyx hb1 hba HB HI HF HSZ
 go_wp2_with fail
 have hbd:Below (w1.alloc (.cells #[.bool y.l,.string (bs y.b),.slice Ay y.ks.length cy] 53)).heap.size (w1.alloc (.cells #[.bool y.l,.string (bs y.b),.slice Ay y.ks.length cy] 53)) (w1.alloc (.cells #[.bool y.l,.string (bs y.b),.slice Ay y.ks.length cy] 53)).drew:=(Below.refl _ _).drew
 have hF:=(hbd.block _ (qg HF1.out)).trans HF1.out
 have hI:=(hbd.block _ (qg HI1.out)).trans HI1.out
 have hV:=(hbd.block _ (qg HV1.out)).trans HV1.out
 have hB:=qac HB1.out HB1.out.size hbd
 have hy:=HY1.out.keep hbd
 obtain ⟨V,hVe⟩:∃ V,w1.heap.size=V:=⟨_,rfl⟩
 rw [hVe] at hV hw1 ⊢
 refine qat [(99,fun w'=>w'.heap[w.heap.size+1]? = some (.cells #[.int .u64 n,.string (bs b),.slice A m c] 81 (0,0))∧w'.heap[V]? = some (.cells #[.bool y.l,.string (bs y.b),.slice Ay y.ks.length cy] 53 (0,0)))] (by kernel_rfl) ?_
 generalize (w1.alloc (.cells #[.bool y.l,.string (bs y.b),.slice Ay y.ks.length cy] 53)).drew=w3 at hF hI hV hB hy ⊢
 clear hbd HF1 HI1 HV1 HB1 HY1
 refine R_l (i:=0) (v:=.agg #[.bool y.l,.string (bs y.b),.slice Ay y.ks.length cy]) 99 _ List.mem_cons_self rfl (qbq rfl rfl rfl (fun w' hS=>hS.2) Tryz.underlying53 rfl infoI) (Mh ⟨hF,hV⟩ Mn) ?_
 refine R_p (i:=1) (v:=.bool false) (Mh ⟨hF,hV⟩ Mn) ?_
 refine R_p (i:=2) (v:=.bool false) (Mh ⟨hF,hV⟩ Mn) ?_
 refine R_s (i:=3) (Mh ⟨hF,hV⟩ Mn) ?_
 refine R_s (i:=4) (Mh ⟨hF,hV⟩ Mn) ?_
 refine R_s (i:=5) (Mh ⟨hF,hV⟩ Mn) ?_
 refine R_p (i:=6) (v:=.bool false) (Mh ⟨hF,hV⟩ Mn) ?_
 refine R_p (i:=7) (v:=.bool false) (Mh ⟨hF,hV⟩ Mn) ?_
 refine R_s (i:=8) (Mh ⟨hF,hV⟩ Mn) ?_
 refine R_s (i:=9) (Mh ⟨hF,hV⟩ Mn) ?_
 refine R_s (i:=10) (Mh ⟨hF,hV⟩ Mn) ?_
 refine R_p (i:=11) (v:=.bool false) (Mh ⟨hF,hV⟩ Mn) ?_
 have d0:w3.cell? ⟨w.heap.size+1+1,0,none⟩=some (.bool false):=rc0 hI
 have d1:w3.cell? ⟨w.heap.size+1+1,1,none⟩=some (.string ⟨#[]⟩):=rc1 hI
 have d2:w3.cell? ⟨w.heap.size+1+1,2,none⟩=some (.slice none 0 0):=rc2 hI
 have f0:=rf hI 0
 have f1:=rf hI 1
 have f2:=rf hI 2
 refine R_now 12 fun K hK=>?_
 obtain ⟨W9,hW9⟩:∃ W9,W9=(((w3.setCell ⟨w.heap.size+1+1,0,none⟩ (.bool y.l)).setCell ⟨w.heap.size+1+1,1,none⟩ (.string (bs y.b))).setCell ⟨w.heap.size+1+1,2,none⟩ (.slice Ay y.ks.length cy)):=⟨_,rfl⟩
 have hI9:W9.heap[w.heap.size+1+1]? = some (.cells #[.bool y.l,.string (bs y.b),.slice Ay y.ks.length cy] 53 (0,0)):=by rw [hW9];exact qaa (qaa (qaa hI _) _) _
 have hF9:W9.heap[w.heap.size+1]? = some (.cells #[.int .u64 n,.string (bs b),.slice A m c] 81 (0,0)):=by rw [hW9];exact (qab (by omega) _).trans ((qab (by omega) _).trans ((qab (by omega) _).trans hF))
 have hV9:W9.heap[V]? = some (.cells #[.bool y.l,.string (bs y.b),.slice Ay y.ks.length cy] 53 (0,0)):=by rw [hW9];exact (qab (by omega) _).trans ((qab (by omega) _).trans ((qab (by omega) _).trans hV))
 have hB9:Below w.heap.size w W9:=by rw [hW9];exact ((hB.setCell (p:=⟨w.heap.size+1+1,_,_⟩) (by simp;omega) _).setCell (p:=⟨w.heap.size+1+1,_,_⟩) (by simp;omega) _).setCell (p:=⟨w.heap.size+1+1,_,_⟩) (by simp;omega) _
 have hy9:ItemV (From w.heap.size) W9 y Ay cy:=by rw [hW9];exact hy.mono fun k _ hk=>⟨by have:w.heap.size+3≤k:=hk;show w.heap.size≤k;omega,by have:w.heap.size+3≤k:=hk;rw [qab (by omega),qab (by omega),qab (by omega)]⟩
 have HI9:=qh hI9
 have HB9:=qh hB9
 have HY9:=qh hy9
 clear hI9 hB9 hy9 hy
 go_simp
 rw [← hW9]
 clear hW9 d0 d1 d2 f0 f1 f2
 refine hK.out _ _ (Mh ⟨hF9,hV9⟩ Mn) (fun hMeets=>?_)
 clear hK K hMeets
 refine lay_R ?_
 refine R_p (i:=13) (v:=.bool false) (Mh ⟨hF9,hV9⟩ Mn) ?_
 refine qbi (by kernel_rfl) ?_ _
 go_wp2_with fail
 refine bodyPost_ret (v:=.tuple #[.agg #[.bool y.l,.string (bs y.b),.slice Ay y.ks.length cy],.bool false]) (qah rfl _ _ (w.heap.size+1+1) _ _ _ _ rfl HI9.out _ rfl Tryz.underlying53 rfl infoI) rfl ?_
 exact ⟨y,Ay,cy,rfl,HY9.out,(fun h=>by cases h),HB9.out⟩
theorem qtf (n:Int) (b:Bytes) (A:Option Addr) (m c:Nat) (Ak:Option Addr) (ck:Nat) (x:Item) (ok:Bool) (hok:ok=true) (w:World) (hn:(n == 0)=false)
  (hC:Calls Tryz.prog 95 #[.agg #[.int .u8 42,.slice Ak 1 ck],.slice A m c] (((w.alloc (.cells #[.int .u8 42,.slice Ak 1 ck] 153)).alloc (.cells #[.int .u64 n,.string (bs b),.slice A m c] 81)).alloc (.cells #[.bool false,.string ⟨#[]⟩,.slice none 0 0] 53)) (FitPost x ok (((w.alloc (.cells #[.int .u8 42,.slice Ak 1 ck] 153)).alloc (.cells #[.int .u64 n,.string (bs b),.slice A m c] 81)).alloc (.cells #[.bool false,.string ⟨#[]⟩,.slice none 0 0] 53)))) :
  Calls Tryz.prog 147 #[.agg #[.int .u8 42,.slice Ak 1 ck],.agg #[.int .u64 n,.string (bs b),.slice A m c]] w (FitPost x false w):=by
 subst hok
 have hB:Below w.heap.size w (((w.alloc (.cells #[.int .u8 42,.slice Ak 1 ck] 153)).alloc (.cells #[.int .u64 n,.string (bs b),.slice A m c] 81)).alloc (.cells #[.bool false,.string ⟨#[]⟩,.slice none 0 0] 53)):=(((Below.refl _ _).alloc qn _).alloc (by simp) _).alloc (by simp;omega) _
 have hI:=heap_alloc_new ((w.alloc (.cells #[.int .u8 42,.slice Ak 1 ck] 153)).alloc (.cells #[.int .u64 n,.string (bs b),.slice A m c] 81)) (.cells #[.bool false,.string ⟨#[]⟩,.slice none 0 0] 53)
 have hF:=(heap_alloc_old ((w.alloc (.cells #[.int .u8 42,.slice Ak 1 ck] 153)).alloc (.cells #[.int .u64 n,.string (bs b),.slice A m c] 81)) (.cells #[.bool false,.string ⟨#[]⟩,.slice none 0 0] 53) (by simp)).trans (heap_alloc_new (w.alloc (.cells #[.int .u8 42,.slice Ak 1 ck] 153)) (.cells #[.int .u64 n,.string (bs b),.slice A m c] 81))
 have hsz:(((w.alloc (.cells #[.int .u8 42,.slice Ak 1 ck] 153)).alloc (.cells #[.int .u64 n,.string (bs b),.slice A m c] 81)).alloc (.cells #[.bool false,.string ⟨#[]⟩,.slice none 0 0] 53)).heap.size=w.heap.size+3:=by simp
 simp only [World.size_alloc] at hI hF
 have HB:=qh hB
 have HI:=qh hI
 have HF:=qh hF
 have HSZ:=qh hsz
 have HC:=qh hC
 clear hB hI hF hsz hC
 go_enter Tryz.func147,Tryz.ntmps147
 go_wp2_with fail
 refine HC.out.mono ?_
 clear HC
 rintro e w1 ⟨y,Ay,cy,rfl,hy1,hyx,hb1⟩
 have HYX:=qh hyx
 have hy0:ItemV (From (w.heap.size+3)) w1 y Ay cy:=by rw [← HSZ.out];exact hy1
 have hba:Below w1.heap.size w1 (w1.alloc (.cells #[.bool y.l,.string (bs y.b),.slice Ay y.ks.length cy] 53)):=(Below.refl _ _).alloc qn _
 have hw1:w.heap.size+3≤w1.heap.size:=by rw [← HSZ.out];exact hb1.size
 have HF1:=qh ((hba.block (w.heap.size+1) (by omega)).trans ((hb1.block (w.heap.size+1) (by rw [HSZ.out];omega)).trans HF.out))
 have HI1:=qh ((hba.block (w.heap.size+1+1) (by omega)).trans ((hb1.block (w.heap.size+1+1) (by rw [HSZ.out];omega)).trans HI.out))
 have HB1:=qh (qac (qac HB.out HB.out.size hb1) (by omega) hba)
 have HY1:=qh (hy0.keep hba)
 have HV1:=qh (heap_alloc_new w1 (.cells #[.bool y.l,.string (bs y.b),.slice Ay y.ks.length cy] 53))
 clear hy1 hy0 hyx hb1 hba HB HI HF HSZ
 go_wp2_with fail
 have hbd:Below (w1.alloc (.cells #[.bool y.l,.string (bs y.b),.slice Ay y.ks.length cy] 53)).heap.size (w1.alloc (.cells #[.bool y.l,.string (bs y.b),.slice Ay y.ks.length cy] 53)) (w1.alloc (.cells #[.bool y.l,.string (bs y.b),.slice Ay y.ks.length cy] 53)).drew:=(Below.refl _ _).drew
 have hF:=(hbd.block _ (qg HF1.out)).trans HF1.out
 have hI:=(hbd.block _ (qg HI1.out)).trans HI1.out
 have hV:=(hbd.block _ (qg HV1.out)).trans HV1.out
 have hB:=qac HB1.out HB1.out.size hbd
 have hy:=HY1.out.keep hbd
 obtain ⟨V,hVe⟩:∃ V,w1.heap.size=V:=⟨_,rfl⟩
 rw [hVe] at hV hw1 ⊢
 refine qat [(99,fun w'=>w'.heap[w.heap.size+1]? = some (.cells #[.int .u64 n,.string (bs b),.slice A m c] 81 (0,0))∧w'.heap[V]? = some (.cells #[.bool y.l,.string (bs y.b),.slice Ay y.ks.length cy] 53 (0,0)))] (by kernel_rfl) ?_
 generalize (w1.alloc (.cells #[.bool y.l,.string (bs y.b),.slice Ay y.ks.length cy] 53)).drew=w3 at hF hI hV hB hy ⊢
 clear hbd HF1 HI1 HV1 HB1 HY1
 refine R_l (i:=0) (v:=.agg #[.bool y.l,.string (bs y.b),.slice Ay y.ks.length cy]) 99 _ List.mem_cons_self rfl (qbq rfl rfl rfl (fun w' hS=>hS.2) Tryz.underlying53 rfl infoI) (Mh ⟨hF,hV⟩ Mn) ?_
 refine R_p (i:=1) (v:=.bool true) (Mh ⟨hF,hV⟩ Mn) ?_
 refine R_p (i:=2) (v:=.bool true) (Mh ⟨hF,hV⟩ Mn) ?_
 refine R_p (i:=3) (v:=.pointer (some ⟨w.heap.size+1,0,none⟩)) (Mh ⟨hF,hV⟩ Mn) ?_
 refine R_l (i:=4) (v:=.int .u64 n) 99 _ List.mem_cons_self rfl (qag rfl rfl rfl (fun w' hS=>rc hS.1 0 rfl) Tryz.underlying22 rfl) (Mh ⟨hF,hV⟩ Mn) ?_
 refine R_p (i:=5) (v:=.bool false) (Mh ⟨hF,hV⟩ Mn) ?_
 refine R_p (i:=6) (v:=.bool false) (Mh ⟨hF,hV⟩ Mn) ?_
 refine R_p (i:=7) (v:=.bool false) (Mh ⟨hF,hV⟩ Mn) ?_
 refine R_s (i:=8) (Mh ⟨hF,hV⟩ Mn) ?_
 refine R_s (i:=9) (Mh ⟨hF,hV⟩ Mn) ?_
 refine R_s (i:=10) (Mh ⟨hF,hV⟩ Mn) ?_
 refine R_p (i:=11) (v:=.bool false) (Mh ⟨hF,hV⟩ Mn) ?_
 have d0:w3.cell? ⟨w.heap.size+1+1,0,none⟩=some (.bool false):=rc0 hI
 have d1:w3.cell? ⟨w.heap.size+1+1,1,none⟩=some (.string ⟨#[]⟩):=rc1 hI
 have d2:w3.cell? ⟨w.heap.size+1+1,2,none⟩=some (.slice none 0 0):=rc2 hI
 have f0:=rf hI 0
 have f1:=rf hI 1
 have f2:=rf hI 2
 refine R_now 12 fun K hK=>?_
 obtain ⟨W9,hW9⟩:∃ W9,W9=(((w3.setCell ⟨w.heap.size+1+1,0,none⟩ (.bool y.l)).setCell ⟨w.heap.size+1+1,1,none⟩ (.string (bs y.b))).setCell ⟨w.heap.size+1+1,2,none⟩ (.slice Ay y.ks.length cy)):=⟨_,rfl⟩
 have hI9:W9.heap[w.heap.size+1+1]? = some (.cells #[.bool y.l,.string (bs y.b),.slice Ay y.ks.length cy] 53 (0,0)):=by rw [hW9];exact qaa (qaa (qaa hI _) _) _
 have hF9:W9.heap[w.heap.size+1]? = some (.cells #[.int .u64 n,.string (bs b),.slice A m c] 81 (0,0)):=by rw [hW9];exact (qab (by omega) _).trans ((qab (by omega) _).trans ((qab (by omega) _).trans hF))
 have hV9:W9.heap[V]? = some (.cells #[.bool y.l,.string (bs y.b),.slice Ay y.ks.length cy] 53 (0,0)):=by rw [hW9];exact (qab (by omega) _).trans ((qab (by omega) _).trans ((qab (by omega) _).trans hV))
 have hB9:Below w.heap.size w W9:=by rw [hW9];exact ((hB.setCell (p:=⟨w.heap.size+1+1,_,_⟩) (by simp;omega) _).setCell (p:=⟨w.heap.size+1+1,_,_⟩) (by simp;omega) _).setCell (p:=⟨w.heap.size+1+1,_,_⟩) (by simp;omega) _
 have hy9:ItemV (From w.heap.size) W9 y Ay cy:=by rw [hW9];exact hy.mono fun k _ hk=>⟨by have:w.heap.size+3≤k:=hk;show w.heap.size≤k;omega,by have:w.heap.size+3≤k:=hk;rw [qab (by omega),qab (by omega),qab (by omega)]⟩
 have HI9:=qh hI9
 have HB9:=qh hB9
 have HY9:=qh hy9
 clear hI9 hB9 hy9 hy
 go_simp
 rw [← hW9]
 clear hW9 d0 d1 d2 f0 f1 f2
 refine hK.out _ _ (Mh ⟨hF9,hV9⟩ Mn) (fun hMeets=>?_)
 clear hK K hMeets
 refine lay_R ?_
 refine R_p (i:=13) (v:=.bool false) (Mh ⟨hF9,hV9⟩ Mn) ?_
 refine qbi (by kernel_rfl) ?_ _
 go_wp2_with fail
 refine bodyPost_ret (v:=.tuple #[.agg #[.bool y.l,.string (bs y.b),.slice Ay y.ks.length cy],.bool false]) (qah rfl _ _ (w.heap.size+1+1) _ _ _ _ rfl HI9.out _ rfl Tryz.underlying53 rfl infoI) rfl ?_
 exact ⟨y,Ay,cy,rfl,HY9.out,(fun h=>by cases h),HB9.out⟩
theorem qts (n:Int) (b:Bytes) (A:Option Addr) (m c:Nat) (Ak:Option Addr) (ck:Nat) (x:Item) (ok:Bool) (hok:ok=false) (w:World) (hn:(n == 0)=true)
  (hC:Calls Tryz.prog 95 #[.agg #[.int .u8 42,.slice Ak 1 ck],.slice A m c] (((w.alloc (.cells #[.int .u8 42,.slice Ak 1 ck] 153)).alloc (.cells #[.int .u64 n,.string (bs b),.slice A m c] 81)).alloc (.cells #[.bool false,.string ⟨#[]⟩,.slice none 0 0] 53)) (FitPost x ok (((w.alloc (.cells #[.int .u8 42,.slice Ak 1 ck] 153)).alloc (.cells #[.int .u64 n,.string (bs b),.slice A m c] 81)).alloc (.cells #[.bool false,.string ⟨#[]⟩,.slice none 0 0] 53)))) :
  Calls Tryz.prog 147 #[.agg #[.int .u8 42,.slice Ak 1 ck],.agg #[.int .u64 n,.string (bs b),.slice A m c]] w (FitPost x false w):=by
 subst hok
 have hB:Below w.heap.size w (((w.alloc (.cells #[.int .u8 42,.slice Ak 1 ck] 153)).alloc (.cells #[.int .u64 n,.string (bs b),.slice A m c] 81)).alloc (.cells #[.bool false,.string ⟨#[]⟩,.slice none 0 0] 53)):=(((Below.refl _ _).alloc qn _).alloc (by simp) _).alloc (by simp;omega) _
 have hI:=heap_alloc_new ((w.alloc (.cells #[.int .u8 42,.slice Ak 1 ck] 153)).alloc (.cells #[.int .u64 n,.string (bs b),.slice A m c] 81)) (.cells #[.bool false,.string ⟨#[]⟩,.slice none 0 0] 53)
 have hF:=(heap_alloc_old ((w.alloc (.cells #[.int .u8 42,.slice Ak 1 ck] 153)).alloc (.cells #[.int .u64 n,.string (bs b),.slice A m c] 81)) (.cells #[.bool false,.string ⟨#[]⟩,.slice none 0 0] 53) (by simp)).trans (heap_alloc_new (w.alloc (.cells #[.int .u8 42,.slice Ak 1 ck] 153)) (.cells #[.int .u64 n,.string (bs b),.slice A m c] 81))
 have hsz:(((w.alloc (.cells #[.int .u8 42,.slice Ak 1 ck] 153)).alloc (.cells #[.int .u64 n,.string (bs b),.slice A m c] 81)).alloc (.cells #[.bool false,.string ⟨#[]⟩,.slice none 0 0] 53)).heap.size=w.heap.size+3:=by simp
 simp only [World.size_alloc] at hI hF
 have HB:=qh hB
 have HI:=qh hI
 have HF:=qh hF
 have HSZ:=qh hsz
 have HC:=qh hC
 clear hB hI hF hsz hC
 go_enter Tryz.func147,Tryz.ntmps147
 go_wp2_with fail
 refine HC.out.mono ?_
 clear HC
 rintro e w1 ⟨y,Ay,cy,rfl,hy1,hyx,hb1⟩
 have HYX:=qh hyx
 have hy0:ItemV (From (w.heap.size+3)) w1 y Ay cy:=by rw [← HSZ.out];exact hy1
 have hba:Below w1.heap.size w1 (w1.alloc (.cells #[.bool y.l,.string (bs y.b),.slice Ay y.ks.length cy] 53)):=(Below.refl _ _).alloc qn _
 have hw1:w.heap.size+3≤w1.heap.size:=by rw [← HSZ.out];exact hb1.size
 have HF1:=qh ((hba.block (w.heap.size+1) (by omega)).trans ((hb1.block (w.heap.size+1) (by rw [HSZ.out];omega)).trans HF.out))
 have HI1:=qh ((hba.block (w.heap.size+1+1) (by omega)).trans ((hb1.block (w.heap.size+1+1) (by rw [HSZ.out];omega)).trans HI.out))
 have HB1:=qh (qac (qac HB.out HB.out.size hb1) (by omega) hba)
 have HY1:=qh (hy0.keep hba)
 have HV1:=qh (heap_alloc_new w1 (.cells #[.bool y.l,.string (bs y.b),.slice Ay y.ks.length cy] 53))
 clear hy1 hy0 hyx hb1 hba HB HI HF HSZ
 go_wp2_with fail
 have hbd:Below (w1.alloc (.cells #[.bool y.l,.string (bs y.b),.slice Ay y.ks.length cy] 53)).heap.size (w1.alloc (.cells #[.bool y.l,.string (bs y.b),.slice Ay y.ks.length cy] 53)) (w1.alloc (.cells #[.bool y.l,.string (bs y.b),.slice Ay y.ks.length cy] 53)).drew:=(Below.refl _ _).drew
 have hF:=(hbd.block _ (qg HF1.out)).trans HF1.out
 have hI:=(hbd.block _ (qg HI1.out)).trans HI1.out
 have hV:=(hbd.block _ (qg HV1.out)).trans HV1.out
 have hB:=qac HB1.out HB1.out.size hbd
 have hy:=HY1.out.keep hbd
 obtain ⟨V,hVe⟩:∃ V,w1.heap.size=V:=⟨_,rfl⟩
 rw [hVe] at hV hw1 ⊢
 refine qat [(99,fun w'=>w'.heap[w.heap.size+1]? = some (.cells #[.int .u64 n,.string (bs b),.slice A m c] 81 (0,0))∧w'.heap[V]? = some (.cells #[.bool y.l,.string (bs y.b),.slice Ay y.ks.length cy] 53 (0,0)))] (by kernel_rfl) ?_
 generalize (w1.alloc (.cells #[.bool y.l,.string (bs y.b),.slice Ay y.ks.length cy] 53)).drew=w3 at hF hI hV hB hy ⊢
 clear hbd HF1 HI1 HV1 HB1 HY1
 refine R_l (i:=0) (v:=.agg #[.bool y.l,.string (bs y.b),.slice Ay y.ks.length cy]) 99 _ List.mem_cons_self rfl (qbq rfl rfl rfl (fun w' hS=>hS.2) Tryz.underlying53 rfl infoI) (Mh ⟨hF,hV⟩ Mn) ?_
 refine R_p (i:=1) (v:=.bool false) (Mh ⟨hF,hV⟩ Mn) ?_
 refine R_p (i:=2) (v:=.bool false) (Mh ⟨hF,hV⟩ Mn) ?_
 refine R_s (i:=3) (Mh ⟨hF,hV⟩ Mn) ?_
 refine R_s (i:=4) (Mh ⟨hF,hV⟩ Mn) ?_
 refine R_s (i:=5) (Mh ⟨hF,hV⟩ Mn) ?_
 refine R_p (i:=6) (v:=.bool false) (Mh ⟨hF,hV⟩ Mn) ?_
 refine R_p (i:=7) (v:=.bool false) (Mh ⟨hF,hV⟩ Mn) ?_
 refine R_s (i:=8) (Mh ⟨hF,hV⟩ Mn) ?_
 refine R_s (i:=9) (Mh ⟨hF,hV⟩ Mn) ?_
 refine R_s (i:=10) (Mh ⟨hF,hV⟩ Mn) ?_
 refine R_p (i:=11) (v:=.bool false) (Mh ⟨hF,hV⟩ Mn) ?_
 have d0:w3.cell? ⟨w.heap.size+1+1,0,none⟩=some (.bool false):=rc0 hI
 have d1:w3.cell? ⟨w.heap.size+1+1,1,none⟩=some (.string ⟨#[]⟩):=rc1 hI
 have d2:w3.cell? ⟨w.heap.size+1+1,2,none⟩=some (.slice none 0 0):=rc2 hI
 have f0:=rf hI 0
 have f1:=rf hI 1
 have f2:=rf hI 2
 refine R_now 12 fun K hK=>?_
 obtain ⟨W9,hW9⟩:∃ W9,W9=(((w3.setCell ⟨w.heap.size+1+1,0,none⟩ (.bool y.l)).setCell ⟨w.heap.size+1+1,1,none⟩ (.string (bs y.b))).setCell ⟨w.heap.size+1+1,2,none⟩ (.slice Ay y.ks.length cy)):=⟨_,rfl⟩
 have hI9:W9.heap[w.heap.size+1+1]? = some (.cells #[.bool y.l,.string (bs y.b),.slice Ay y.ks.length cy] 53 (0,0)):=by rw [hW9];exact qaa (qaa (qaa hI _) _) _
 have hF9:W9.heap[w.heap.size+1]? = some (.cells #[.int .u64 n,.string (bs b),.slice A m c] 81 (0,0)):=by rw [hW9];exact (qab (by omega) _).trans ((qab (by omega) _).trans ((qab (by omega) _).trans hF))
 have hV9:W9.heap[V]? = some (.cells #[.bool y.l,.string (bs y.b),.slice Ay y.ks.length cy] 53 (0,0)):=by rw [hW9];exact (qab (by omega) _).trans ((qab (by omega) _).trans ((qab (by omega) _).trans hV))
 have hB9:Below w.heap.size w W9:=by rw [hW9];exact ((hB.setCell (p:=⟨w.heap.size+1+1,_,_⟩) (by simp;omega) _).setCell (p:=⟨w.heap.size+1+1,_,_⟩) (by simp;omega) _).setCell (p:=⟨w.heap.size+1+1,_,_⟩) (by simp;omega) _
 have hy9:ItemV (From w.heap.size) W9 y Ay cy:=by rw [hW9];exact hy.mono fun k _ hk=>⟨by have:w.heap.size+3≤k:=hk;show w.heap.size≤k;omega,by have:w.heap.size+3≤k:=hk;rw [qab (by omega),qab (by omega),qab (by omega)]⟩
 have HI9:=qh hI9
 have HB9:=qh hB9
 have HY9:=qh hy9
 clear hI9 hB9 hy9 hy
 go_simp
 rw [← hW9]
 clear hW9 d0 d1 d2 f0 f1 f2
 refine hK.out _ _ (Mh ⟨hF9,hV9⟩ Mn) (fun hMeets=>?_)
 clear hK K hMeets
 refine lay_R ?_
 refine R_p (i:=13) (v:=.bool false) (Mh ⟨hF9,hV9⟩ Mn) ?_
 refine qbi (by kernel_rfl) ?_ _
 go_wp2_with fail
 refine bodyPost_ret (v:=.tuple #[.agg #[.bool y.l,.string (bs y.b),.slice Ay y.ks.length cy],.bool false]) (qah rfl _ _ (w.heap.size+1+1) _ _ _ _ rfl HI9.out _ rfl Tryz.underlying53 rfl infoI) rfl ?_
 exact ⟨y,Ay,cy,rfl,HY9.out,(fun h=>by cases h),HB9.out⟩
theorem qq5 (n:Int) (b:Bytes) (A:Option Addr) (m c:Nat) (Ak:Option Addr) (ck:Nat) (x:Item) (ok:Bool) (hok:ok=true) (w:World) (hn:(n == 0)=true) (hb:(b == [])=false)
  (hC:Calls Tryz.prog 95 #[.agg #[.int .u8 42,.slice Ak 1 ck],.slice A m c] (((w.alloc (.cells #[.int .u8 42,.slice Ak 1 ck] 153)).alloc (.cells #[.int .u64 n,.string (bs b),.slice A m c] 81)).alloc (.cells #[.bool false,.string ⟨#[]⟩,.slice none 0 0] 53)) (FitPost x ok (((w.alloc (.cells #[.int .u8 42,.slice Ak 1 ck] 153)).alloc (.cells #[.int .u64 n,.string (bs b),.slice A m c] 81)).alloc (.cells #[.bool false,.string ⟨#[]⟩,.slice none 0 0] 53)))) :
  Calls Tryz.prog 147 #[.agg #[.int .u8 42,.slice Ak 1 ck],.agg #[.int .u64 n,.string (bs b),.slice A m c]] w (FitPost x false w):=by
 subst hok
 have hB:Below w.heap.size w (((w.alloc (.cells #[.int .u8 42,.slice Ak 1 ck] 153)).alloc (.cells #[.int .u64 n,.string (bs b),.slice A m c] 81)).alloc (.cells #[.bool false,.string ⟨#[]⟩,.slice none 0 0] 53)):=(((Below.refl _ _).alloc qn _).alloc (by simp) _).alloc (by simp;omega) _
 have hI:=heap_alloc_new ((w.alloc (.cells #[.int .u8 42,.slice Ak 1 ck] 153)).alloc (.cells #[.int .u64 n,.string (bs b),.slice A m c] 81)) (.cells #[.bool false,.string ⟨#[]⟩,.slice none 0 0] 53)
 have hF:=(heap_alloc_old ((w.alloc (.cells #[.int .u8 42,.slice Ak 1 ck] 153)).alloc (.cells #[.int .u64 n,.string (bs b),.slice A m c] 81)) (.cells #[.bool false,.string ⟨#[]⟩,.slice none 0 0] 53) (by simp)).trans (heap_alloc_new (w.alloc (.cells #[.int .u8 42,.slice Ak 1 ck] 153)) (.cells #[.int .u64 n,.string (bs b),.slice A m c] 81))
 have hsz:(((w.alloc (.cells #[.int .u8 42,.slice Ak 1 ck] 153)).alloc (.cells #[.int .u64 n,.string (bs b),.slice A m c] 81)).alloc (.cells #[.bool false,.string ⟨#[]⟩,.slice none 0 0] 53)).heap.size=w.heap.size+3:=by simp
 simp only [World.size_alloc] at hI hF
 have HB:=qh hB
 have HI:=qh hI
 have HF:=qh hF
 have HSZ:=qh hsz
 have HC:=qh hC
 clear hB hI hF hsz hC
 go_enter Tryz.func147,Tryz.ntmps147
 go_wp2_with fail
 refine HC.out.mono ?_
 clear HC
 rintro e w1 ⟨y,Ay,cy,rfl,hy1,hyx,hb1⟩
 have HYX:=qh hyx
 have hy0:ItemV (From (w.heap.size+3)) w1 y Ay cy:=by rw [← HSZ.out];exact hy1
 have hba:Below w1.heap.size w1 (w1.alloc (.cells #[.bool y.l,.string (bs y.b),.slice Ay y.ks.length cy] 53)):=(Below.refl _ _).alloc qn _
 have hw1:w.heap.size+3≤w1.heap.size:=by rw [← HSZ.out];exact hb1.size
 have HF1:=qh ((hba.block (w.heap.size+1) (by omega)).trans ((hb1.block (w.heap.size+1) (by rw [HSZ.out];omega)).trans HF.out))
 have HI1:=qh ((hba.block (w.heap.size+1+1) (by omega)).trans ((hb1.block (w.heap.size+1+1) (by rw [HSZ.out];omega)).trans HI.out))
 have HB1:=qh (qac (qac HB.out HB.out.size hb1) (by omega) hba)
 have HY1:=qh (hy0.keep hba)
 have HV1:=qh (heap_alloc_new w1 (.cells #[.bool y.l,.string (bs y.b),.slice Ay y.ks.length cy] 53))
 clear hy1 hy0 hyx hb1 hba HB HI HF HSZ
 go_wp2_with fail
 have hbd:Below (w1.alloc (.cells #[.bool y.l,.string (bs y.b),.slice Ay y.ks.length cy] 53)).heap.size (w1.alloc (.cells #[.bool y.l,.string (bs y.b),.slice Ay y.ks.length cy] 53)) (w1.alloc (.cells #[.bool y.l,.string (bs y.b),.slice Ay y.ks.length cy] 53)).drew:=(Below.refl _ _).drew
 have hF:=(hbd.block _ (qg HF1.out)).trans HF1.out
 have hI:=(hbd.block _ (qg HI1.out)).trans HI1.out
 have hV:=(hbd.block _ (qg HV1.out)).trans HV1.out
 have hB:=qac HB1.out HB1.out.size hbd
 have hy:=HY1.out.keep hbd
 obtain ⟨V,hVe⟩:∃ V,w1.heap.size=V:=⟨_,rfl⟩
 rw [hVe] at hV hw1 ⊢
 refine qat [(99,fun w'=>w'.heap[w.heap.size+1]? = some (.cells #[.int .u64 n,.string (bs b),.slice A m c] 81 (0,0))∧w'.heap[V]? = some (.cells #[.bool y.l,.string (bs y.b),.slice Ay y.ks.length cy] 53 (0,0)))] (by kernel_rfl) ?_
 generalize (w1.alloc (.cells #[.bool y.l,.string (bs y.b),.slice Ay y.ks.length cy] 53)).drew=w3 at hF hI hV hB hy ⊢
 clear hbd HF1 HI1 HV1 HB1 HY1
 refine R_l (i:=0) (v:=.agg #[.bool y.l,.string (bs y.b),.slice Ay y.ks.length cy]) 99 _ List.mem_cons_self rfl (qbq rfl rfl rfl (fun w' hS=>hS.2) Tryz.underlying53 rfl infoI) (Mh ⟨hF,hV⟩ Mn) ?_
 refine R_p (i:=1) (v:=.bool true) (Mh ⟨hF,hV⟩ Mn) ?_
 refine R_p (i:=2) (v:=.bool true) (Mh ⟨hF,hV⟩ Mn) ?_
 refine R_p (i:=3) (v:=.pointer (some ⟨w.heap.size+1,0,none⟩)) (Mh ⟨hF,hV⟩ Mn) ?_
 refine R_l (i:=4) (v:=.int .u64 n) 99 _ List.mem_cons_self rfl (qag rfl rfl rfl (fun w' hS=>rc hS.1 0 rfl) Tryz.underlying22 rfl) (Mh ⟨hF,hV⟩ Mn) ?_
 refine R_p (i:=5) (v:=.bool true) (Mh ⟨hF,hV⟩ Mn) ?_
 refine R_p (i:=6) (v:=.bool true) (Mh ⟨hF,hV⟩ Mn) ?_
 refine R_p (i:=7) (v:=.bool true) (Mh ⟨hF,hV⟩ Mn) ?_
 refine R_p (i:=8) (v:=.pointer (some ⟨w.heap.size+1,1,none⟩)) (Mh ⟨hF,hV⟩ Mn) ?_
 refine R_l (i:=9) (v:=.string (bs b)) 99 _ List.mem_cons_self rfl (qag rfl rfl rfl (fun w' hS=>rc hS.1 1 rfl) Tryz.underlying9 rfl) (Mh ⟨hF,hV⟩ Mn) ?_
 refine R_p (i:=10) (v:=.bool false) (Mh ⟨hF,hV⟩ Mn) ?_
 refine R_p (i:=11) (v:=.bool false) (Mh ⟨hF,hV⟩ Mn) ?_
 have d0:w3.cell? ⟨w.heap.size+1+1,0,none⟩=some (.bool false):=rc0 hI
 have d1:w3.cell? ⟨w.heap.size+1+1,1,none⟩=some (.string ⟨#[]⟩):=rc1 hI
 have d2:w3.cell? ⟨w.heap.size+1+1,2,none⟩=some (.slice none 0 0):=rc2 hI
 have f0:=rf hI 0
 have f1:=rf hI 1
 have f2:=rf hI 2
 refine R_now 12 fun K hK=>?_
 obtain ⟨W9,hW9⟩:∃ W9,W9=(((w3.setCell ⟨w.heap.size+1+1,0,none⟩ (.bool y.l)).setCell ⟨w.heap.size+1+1,1,none⟩ (.string (bs y.b))).setCell ⟨w.heap.size+1+1,2,none⟩ (.slice Ay y.ks.length cy)):=⟨_,rfl⟩
 have hI9:W9.heap[w.heap.size+1+1]? = some (.cells #[.bool y.l,.string (bs y.b),.slice Ay y.ks.length cy] 53 (0,0)):=by rw [hW9];exact qaa (qaa (qaa hI _) _) _
 have hF9:W9.heap[w.heap.size+1]? = some (.cells #[.int .u64 n,.string (bs b),.slice A m c] 81 (0,0)):=by rw [hW9];exact (qab (by omega) _).trans ((qab (by omega) _).trans ((qab (by omega) _).trans hF))
 have hV9:W9.heap[V]? = some (.cells #[.bool y.l,.string (bs y.b),.slice Ay y.ks.length cy] 53 (0,0)):=by rw [hW9];exact (qab (by omega) _).trans ((qab (by omega) _).trans ((qab (by omega) _).trans hV))
 have hB9:Below w.heap.size w W9:=by rw [hW9];exact ((hB.setCell (p:=⟨w.heap.size+1+1,_,_⟩) (by simp;omega) _).setCell (p:=⟨w.heap.size+1+1,_,_⟩) (by simp;omega) _).setCell (p:=⟨w.heap.size+1+1,_,_⟩) (by simp;omega) _
 have hy9:ItemV (From w.heap.size) W9 y Ay cy:=by rw [hW9];exact hy.mono fun k _ hk=>⟨by have:w.heap.size+3≤k:=hk;show w.heap.size≤k;omega,by have:w.heap.size+3≤k:=hk;rw [qab (by omega),qab (by omega),qab (by omega)]⟩
 have HI9:=qh hI9
 have HB9:=qh hB9
 have HY9:=qh hy9
 clear hI9 hB9 hy9 hy
 go_simp
 rw [← hW9]
 clear hW9 d0 d1 d2 f0 f1 f2
 refine hK.out _ _ (Mh ⟨hF9,hV9⟩ Mn) (fun hMeets=>?_)
 clear hK K hMeets
 refine lay_R ?_
 refine R_p (i:=13) (v:=.bool false) (Mh ⟨hF9,hV9⟩ Mn) ?_
 refine qbi (by kernel_rfl) ?_ _
 go_wp2_with fail
 refine bodyPost_ret (v:=.tuple #[.agg #[.bool y.l,.string (bs y.b),.slice Ay y.ks.length cy],.bool false]) (qah rfl _ _ (w.heap.size+1+1) _ _ _ _ rfl HI9.out _ rfl Tryz.underlying53 rfl infoI) rfl ?_
 exact ⟨y,Ay,cy,rfl,HY9.out,(fun h=>by cases h),HB9.out⟩
theorem qqa (n:Int) (b:Bytes) (A:Option Addr) (m c:Nat) (Ak:Option Addr) (ck:Nat) (x:Item) (ok:Bool) (hok:ok=true) (w:World) (hn:(n == 0)=true) (hb:(b == [])=true)
  (hC:Calls Tryz.prog 95 #[.agg #[.int .u8 42,.slice Ak 1 ck],.slice A m c] (((w.alloc (.cells #[.int .u8 42,.slice Ak 1 ck] 153)).alloc (.cells #[.int .u64 n,.string (bs b),.slice A m c] 81)).alloc (.cells #[.bool false,.string ⟨#[]⟩,.slice none 0 0] 53)) (FitPost x ok (((w.alloc (.cells #[.int .u8 42,.slice Ak 1 ck] 153)).alloc (.cells #[.int .u64 n,.string (bs b),.slice A m c] 81)).alloc (.cells #[.bool false,.string ⟨#[]⟩,.slice none 0 0] 53)))) :
  Calls Tryz.prog 147 #[.agg #[.int .u8 42,.slice Ak 1 ck],.agg #[.int .u64 n,.string (bs b),.slice A m c]] w (FitPost x true w):=by
 subst hok
 have hB:Below w.heap.size w (((w.alloc (.cells #[.int .u8 42,.slice Ak 1 ck] 153)).alloc (.cells #[.int .u64 n,.string (bs b),.slice A m c] 81)).alloc (.cells #[.bool false,.string ⟨#[]⟩,.slice none 0 0] 53)):=(((Below.refl _ _).alloc qn _).alloc (by simp) _).alloc (by simp;omega) _
 have hI:=heap_alloc_new ((w.alloc (.cells #[.int .u8 42,.slice Ak 1 ck] 153)).alloc (.cells #[.int .u64 n,.string (bs b),.slice A m c] 81)) (.cells #[.bool false,.string ⟨#[]⟩,.slice none 0 0] 53)
 have hF:=(heap_alloc_old ((w.alloc (.cells #[.int .u8 42,.slice Ak 1 ck] 153)).alloc (.cells #[.int .u64 n,.string (bs b),.slice A m c] 81)) (.cells #[.bool false,.string ⟨#[]⟩,.slice none 0 0] 53) (by simp)).trans (heap_alloc_new (w.alloc (.cells #[.int .u8 42,.slice Ak 1 ck] 153)) (.cells #[.int .u64 n,.string (bs b),.slice A m c] 81))
 have hsz:(((w.alloc (.cells #[.int .u8 42,.slice Ak 1 ck] 153)).alloc (.cells #[.int .u64 n,.string (bs b),.slice A m c] 81)).alloc (.cells #[.bool false,.string ⟨#[]⟩,.slice none 0 0] 53)).heap.size=w.heap.size+3:=by simp
 simp only [World.size_alloc] at hI hF
 have HB:=qh hB
 have HI:=qh hI
 have HF:=qh hF
 have HSZ:=qh hsz
 have HC:=qh hC
 clear hB hI hF hsz hC
 go_enter Tryz.func147,Tryz.ntmps147
 go_wp2_with fail
 refine HC.out.mono ?_
 clear HC
 rintro e w1 ⟨y,Ay,cy,rfl,hy1,hyx,hb1⟩
 have HYX:=qh hyx
 have hy0:ItemV (From (w.heap.size+3)) w1 y Ay cy:=by rw [← HSZ.out];exact hy1
 have hba:Below w1.heap.size w1 (w1.alloc (.cells #[.bool y.l,.string (bs y.b),.slice Ay y.ks.length cy] 53)):=(Below.refl _ _).alloc qn _
 have hw1:w.heap.size+3≤w1.heap.size:=by rw [← HSZ.out];exact hb1.size
 have HF1:=qh ((hba.block (w.heap.size+1) (by omega)).trans ((hb1.block (w.heap.size+1) (by rw [HSZ.out];omega)).trans HF.out))
 have HI1:=qh ((hba.block (w.heap.size+1+1) (by omega)).trans ((hb1.block (w.heap.size+1+1) (by rw [HSZ.out];omega)).trans HI.out))
 have HB1:=qh (qac (qac HB.out HB.out.size hb1) (by omega) hba)
 have HY1:=qh (hy0.keep hba)
 have HV1:=qh (heap_alloc_new w1 (.cells #[.bool y.l,.string (bs y.b),.slice Ay y.ks.length cy] 53))
 clear hy1 hy0 hyx hb1 hba HB HI HF HSZ
 go_wp2_with fail
 have hbd:Below (w1.alloc (.cells #[.bool y.l,.string (bs y.b),.slice Ay y.ks.length cy] 53)).heap.size (w1.alloc (.cells #[.bool y.l,.string (bs y.b),.slice Ay y.ks.length cy] 53)) (w1.alloc (.cells #[.bool y.l,.string (bs y.b),.slice Ay y.ks.length cy] 53)).drew:=(Below.refl _ _).drew
 have hF:=(hbd.block _ (qg HF1.out)).trans HF1.out
 have hI:=(hbd.block _ (qg HI1.out)).trans HI1.out
 have hV:=(hbd.block _ (qg HV1.out)).trans HV1.out
 have hB:=qac HB1.out HB1.out.size hbd
 have hy:=HY1.out.keep hbd
 obtain ⟨V,hVe⟩:∃ V,w1.heap.size=V:=⟨_,rfl⟩
 rw [hVe] at hV hw1 ⊢
 refine qat [(99,fun w'=>w'.heap[w.heap.size+1]? = some (.cells #[.int .u64 n,.string (bs b),.slice A m c] 81 (0,0))∧w'.heap[V]? = some (.cells #[.bool y.l,.string (bs y.b),.slice Ay y.ks.length cy] 53 (0,0)))] (by kernel_rfl) ?_
 generalize (w1.alloc (.cells #[.bool y.l,.string (bs y.b),.slice Ay y.ks.length cy] 53)).drew=w3 at hF hI hV hB hy ⊢
 clear hbd HF1 HI1 HV1 HB1 HY1
 refine R_l (i:=0) (v:=.agg #[.bool y.l,.string (bs y.b),.slice Ay y.ks.length cy]) 99 _ List.mem_cons_self rfl (qbq rfl rfl rfl (fun w' hS=>hS.2) Tryz.underlying53 rfl infoI) (Mh ⟨hF,hV⟩ Mn) ?_
 refine R_p (i:=1) (v:=.bool true) (Mh ⟨hF,hV⟩ Mn) ?_
 refine R_p (i:=2) (v:=.bool true) (Mh ⟨hF,hV⟩ Mn) ?_
 refine R_p (i:=3) (v:=.pointer (some ⟨w.heap.size+1,0,none⟩)) (Mh ⟨hF,hV⟩ Mn) ?_
 refine R_l (i:=4) (v:=.int .u64 n) 99 _ List.mem_cons_self rfl (qag rfl rfl rfl (fun w' hS=>rc hS.1 0 rfl) Tryz.underlying22 rfl) (Mh ⟨hF,hV⟩ Mn) ?_
 refine R_p (i:=5) (v:=.bool true) (Mh ⟨hF,hV⟩ Mn) ?_
 refine R_p (i:=6) (v:=.bool true) (Mh ⟨hF,hV⟩ Mn) ?_
 refine R_p (i:=7) (v:=.bool true) (Mh ⟨hF,hV⟩ Mn) ?_
 refine R_p (i:=8) (v:=.pointer (some ⟨w.heap.size+1,1,none⟩)) (Mh ⟨hF,hV⟩ Mn) ?_
 refine R_l (i:=9) (v:=.string (bs b)) 99 _ List.mem_cons_self rfl (qag rfl rfl rfl (fun w' hS=>rc hS.1 1 rfl) Tryz.underlying9 rfl) (Mh ⟨hF,hV⟩ Mn) ?_
 refine R_p (i:=10) (v:=.bool true) (Mh ⟨hF,hV⟩ Mn) ?_
 refine R_p (i:=11) (v:=.bool true) (Mh ⟨hF,hV⟩ Mn) ?_
 have d0:w3.cell? ⟨w.heap.size+1+1,0,none⟩=some (.bool false):=rc0 hI
 have d1:w3.cell? ⟨w.heap.size+1+1,1,none⟩=some (.string ⟨#[]⟩):=rc1 hI
 have d2:w3.cell? ⟨w.heap.size+1+1,2,none⟩=some (.slice none 0 0):=rc2 hI
 have f0:=rf hI 0
 have f1:=rf hI 1
 have f2:=rf hI 2
 refine R_now 12 fun K hK=>?_
 obtain ⟨W9,hW9⟩:∃ W9,W9=(((w3.setCell ⟨w.heap.size+1+1,0,none⟩ (.bool y.l)).setCell ⟨w.heap.size+1+1,1,none⟩ (.string (bs y.b))).setCell ⟨w.heap.size+1+1,2,none⟩ (.slice Ay y.ks.length cy)):=⟨_,rfl⟩
 have hI9:W9.heap[w.heap.size+1+1]? = some (.cells #[.bool y.l,.string (bs y.b),.slice Ay y.ks.length cy] 53 (0,0)):=by rw [hW9];exact qaa (qaa (qaa hI _) _) _
 have hF9:W9.heap[w.heap.size+1]? = some (.cells #[.int .u64 n,.string (bs b),.slice A m c] 81 (0,0)):=by rw [hW9];exact (qab (by omega) _).trans ((qab (by omega) _).trans ((qab (by omega) _).trans hF))
 have hV9:W9.heap[V]? = some (.cells #[.bool y.l,.string (bs y.b),.slice Ay y.ks.length cy] 53 (0,0)):=by rw [hW9];exact (qab (by omega) _).trans ((qab (by omega) _).trans ((qab (by omega) _).trans hV))
 have hB9:Below w.heap.size w W9:=by rw [hW9];exact ((hB.setCell (p:=⟨w.heap.size+1+1,_,_⟩) (by simp;omega) _).setCell (p:=⟨w.heap.size+1+1,_,_⟩) (by simp;omega) _).setCell (p:=⟨w.heap.size+1+1,_,_⟩) (by simp;omega) _
 have hy9:ItemV (From w.heap.size) W9 y Ay cy:=by rw [hW9];exact hy.mono fun k _ hk=>⟨by have:w.heap.size+3≤k:=hk;show w.heap.size≤k;omega,by have:w.heap.size+3≤k:=hk;rw [qab (by omega),qab (by omega),qab (by omega)]⟩
 have HI9:=qh hI9
 have HB9:=qh hB9
 have HY9:=qh hy9
 clear hI9 hB9 hy9 hy
 go_simp
 rw [← hW9]
 clear hW9 d0 d1 d2 f0 f1 f2
 refine hK.out _ _ (Mh ⟨hF9,hV9⟩ Mn) (fun hMeets=>?_)
 clear hK K hMeets
 refine lay_R ?_
 refine R_p (i:=13) (v:=.bool true) (Mh ⟨hF9,hV9⟩ Mn) ?_
 refine qbi (by kernel_rfl) ?_ _
 go_wp2_with fail
 refine bodyPost_ret (v:=.tuple #[.agg #[.bool y.l,.string (bs y.b),.slice Ay y.ks.length cy],.bool true]) (qah rfl _ _ (w.heap.size+1+1) _ _ _ _ rfl HI9.out _ rfl Tryz.underlying53 rfl infoI) rfl ?_
 exact ⟨y,Ay,cy,rfl,HY9.out,fun _=>HYX.out (by simp),HB9.out⟩
theorem qp8 {α β:Type} (l:List α) (d:α) (f:α→β):(List.range l.length).map (fun i=>f (l.getD i d))=l.map f:=by
 apply List.ext_getElem?
 intro i
 by_cases h:i < l.length
 ·simp [h,List.getD_eq_getElem?_getD]
 ·simp [h]
theorem qtw {α:Type} (l:List α) (d:α) (f:α→Bool):(List.range l.length).all (fun i=>f (l.getD i d))=l.all f:=by
 rw [Bool.eq_iff_iff,List.all_eq_true,List.all_eq_true]
 constructor
 ·intro h x hx
  obtain ⟨i,hi⟩:=List.getElem?_of_mem hx
  have:=h i (List.mem_range.2 (List.getElem?_eq_some_iff.1 hi).1)
  rw [List.getD_eq_getElem?_getD,hi] at this
  exact this
 ·intro h i hi
  have hi:=List.mem_range.1 hi
  rw [List.getD_eq_getElem?_getD,List.getElem?_eq_getElem hi]
  exact h _ (List.getElem_mem hi)
theorem qa9 {α:Type} {l:List α} {i:Nat} {d x:α} (h:l[i]? = some x):l.getD i d=x:=by rw [List.getD_eq_getElem?_getD,h];rfl
theorem lfs_up {S:Nat→Prop} {w:World} {l:List Lf} {A:Option Addr} {c:Nat} (h:LfsV S w l A c):FdsV S w (l.map upF) A c:=by
 unfold FdsV;rw [qm3,List.length_map];exact h
theorem qdw {S:Nat→Prop} {w:World} {c:UInt8} {cs:List Value} (h:Rep S w (kdD ⟨c,true⟩) cs):∃ g o ck,cs = [.int .u8 42,.slice (some ⟨g,o,none⟩) 1 ck]∧w.cell? ⟨g,o,none⟩=some (.int .u8 c.toNat)∧w.cell? ⟨g,o+1,none⟩=some (.slice none 0 0):=by
 obtain ⟨a,b,rfl,h1,h2⟩:=h.st_form.cons_form
 obtain ⟨c0,d0,rfl,h3,h4⟩:=h2.cons_form
 obtain ⟨A,m,ck,rfl⟩:=h3.slice_form
 obtain ⟨g,o,ci,hA,_,r1,r2,r3⟩:=Rep.slice_at h3 (by omega) (i:=0) (d:=plainD c) rfl
 have hm:=h3.slice_len.1
 have hci:=qbs r1
 subst hA;subst hm;subst hci
 rw [h1.v_form,h4.nil_form]
 exact ⟨g,o,ck,rfl,by simpa using r3 0 _ rfl,by simpa using r3 1 _ rfl⟩
theorem qjm (kc:UInt8) (hkc:okC kc) (f:Fd) (hn:f.n < 18446744073709551616) (hs:∀ x∈f.l,x.1 < 18446744073709551616) (hl:f.l.length≤100000) (s:Int) (A1:Option Addr) (n1 c1:Nat) (A:Option Addr) (c:Nat) (w:World)
  (hk:Rep Any w (kdD ⟨kc,true⟩) [.int .u8 s,.slice A1 n1 c1]) (hv:LfsV Any w f.l A c) :
  Calls Tryz.prog 147 #[.agg #[.int .u8 s,.slice A1 n1 c1],.agg (fdC f A c).toArray] w (FitPost (itemF ⟨kc,true⟩ f) (fitF ⟨kc,true⟩ f) w):=by
 obtain ⟨g,o,ck,hcs,z0,z1⟩:=qdw hk
 simp only [List.cons.injEq,Value.int.injEq,Value.slice.injEq,true_and,and_true] at hcs
 obtain ⟨rfl,rfl,rfl,rfl⟩:=hcs
 obtain ⟨n,b,l⟩:=f
 simp only [] at hn hs hl hv
 obtain ⟨W,hW⟩:∃ W,W=((w.alloc (.cells #[.int .u8 42,.slice (some ⟨g,o,none⟩) 1 c1] 153)).alloc (.cells #[.int .u64 (n:Int),.string (bs b),.slice A l.length c] 81)).alloc (.cells #[.bool false,.string ⟨#[]⟩,.slice none 0 0] 53):=⟨_,rfl⟩
 have hB:Below w.heap.size w W:=by rw [hW];exact (((Below.refl _ _).alloc qn _).alloc (by simp) _).alloc (by simp;omega) _
 have hit:=qov (l.map upF) (fun i=>lfI kc (l.getD i (0,[]))) (fun i=>fitC kc (l.getD i (0,[]))) kc (fun _=>⟨kc,false⟩) (fun _=>rfl) (some ⟨g,o,none⟩) c1 A c W
  (fun W' hb'=>⟨g,o,rfl,((hB.trans (hb'.mono hB.size)).cell (p:=⟨g,o,none⟩) (qaz z0)).trans z0,((hB.trans (hb'.mono hB.size)).cell (p:=⟨g,o+1,none⟩) (qaz z1)).trans z1⟩)
  (Rep.keep (lfs_up hv) hB) (fun i f s A1 n1 c1 A2 c2 W' hf hr hlv=>by
   rw [List.getElem?_map] at hf
   obtain ⟨x,hx,rfl⟩:=Option.map_eq_some_iff.1 hf
   have hcs:=qbs (c:=kc) hr
   simp only [cellK,List.cons.injEq,Value.int.injEq,Value.slice.injEq,true_and,and_true] at hcs
   obtain ⟨rfl,rfl,rfl,rfl⟩:=hcs
   rw [qa9 hx]
   exact qez kc hkc x.1 (hs x (List.mem_of_getElem? hx)) x.2 A2 0 c2 W')
 rw [List.length_map,qp8,qtw] at hit
 rw [hW] at hit
 have hx:itemF ⟨kc,true⟩ ⟨n,b,l⟩=listIt (l.map (lfI kc)):=rfl
 have hf:fitF ⟨kc,true⟩ ⟨n,b,l⟩=((n == 0) && b.isEmpty && (decide (l.length≤40) && l.all (fitC kc))):=by simp [fitF,Bool.and_assoc]
 have hnB:((n:Int) == 0)=(n == 0):=by rw [Bool.eq_iff_iff];simp only [beq_iff_eq];omega
 rw [hx,hf]
 obtain ⟨OK,hOK⟩:∃ OK,(decide (l.length≤40) && l.all (fitC kc))=OK:=⟨_,rfl⟩
 rw [hOK] at hit ⊢
 cases hA:(n == 0)
 ·cases OK
  ·exact qrc n b A l.length c (some ⟨g,o,none⟩) c1 _ _ rfl w (by rw [hnB,hA]) hit
  ·exact qtf n b A l.length c (some ⟨g,o,none⟩) c1 _ _ rfl w (by rw [hnB,hA]) hit
 ·cases OK
  ·rw [Bool.and_false];exact qts n b A l.length c (some ⟨g,o,none⟩) c1 _ _ rfl w (by rw [hnB,hA]) hit
  ·cases hC:b.isEmpty
   ·exact qq5 n b A l.length c (some ⟨g,o,none⟩) c1 _ _ rfl w (by rw [hnB,hA]) (by cases b <;> simp_all) hit
   ·exact qqa n b A l.length c (some ⟨g,o,none⟩) c1 _ _ rfl w (by rw [hnB,hA]) (by cases b <;> simp_all) hit
theorem qsb (k:Kd) (hkc:okC k.c) (f:Fd) (hn:f.n < 18446744073709551616) (hs:∀ x∈f.l,x.1 < 18446744073709551616) (hl:f.l.length≤100000) (s:Int) (A1:Option Addr) (n1 c1:Nat) (A:Option Addr) (c:Nat) (w:World)
  (hk:Rep Any w (kdD k) [.int .u8 s,.slice A1 n1 c1]) (hv:LfsV Any w f.l A c) :
  Calls Tryz.prog 147 #[.agg #[.int .u8 s,.slice A1 n1 c1],.agg (fdC f A c).toArray] w (FitPost (itemF k f) (fitF k f) w):=by
 obtain ⟨kc,st⟩:=k
 cases st with
 | true=>exact qjm kc hkc f hn hs hl s A1 n1 c1 A c w hk hv
 | false =>
  have hcs:=qbs (c:=kc) hk
  simp only [cellK,List.cons.injEq,Value.int.injEq,Value.slice.injEq,true_and,and_true] at hcs
  obtain ⟨rfl,rfl,rfl,rfl⟩:=hcs
  have:=qez kc hkc f.n hn f.b A f.l.length c w
  have hf:fitF ⟨kc,false⟩ f=((f.l.length == 0) && fitC kc (f.n,f.b)):=by
   unfold fitF;rw [if_neg (by simp)];cases f.l <;> simp
  rw [hf]
  exact this
/- The walk of frame.Write. -/
/-- what frame.Write answers -/
def fwP (ks:List Kd) (fs:List Fd):Bytes×Nat:=if fitsP ks fs=true then encR (recF ks fs) else ([],1)
def noF:Fd:=⟨0,[],[]⟩
def noK:Kd:=⟨0,false⟩
theorem qiv:∀ (ks:List Kd) (fs:List Fd),(decide (fs.length=ks.length) && (List.range fs.length).all fun i=>fitF (ks.getD i noK) (fs.getD i noF))=fitsP ks fs
 | [],[]=>rfl
 | [],f :: fs=>by simp [fitsP]
 | k :: ks,[]=>by simp [fitsP]
 | k :: ks,f :: fs=>by
  rw [fitsP,← qiv ks fs]
  have h:(List.range (f :: fs).length).all (fun i=>fitF ((k :: ks).getD i noK) ((f :: fs).getD i noF))=(fitF k f && (List.range fs.length).all fun i=>fitF (ks.getD i noK) (fs.getD i noF)):=by
   rw [List.length_cons,List.range_succ_eq_map,List.all_cons,List.all_map]
   rfl
  rw [h]
  have h2:decide ((f :: fs).length=(k :: ks).length)=decide (fs.length=ks.length):=by simp
  rw [h2]
  cases decide (fs.length=ks.length) <;> cases fitF k f <;> rfl
theorem qhi:∀ (ks:List Kd) (fs:List Fd),fs.length=ks.length→(List.range fs.length).map (fun i=>itemF (ks.getD i noK) (fs.getD i noF))=itemsF ks fs
 | [],[],_=>rfl
 | [],f :: fs,h=>by simp at h
 | k :: ks,[],h=>by simp at h
 | k :: ks,f :: fs,h=>by
  rw [itemsF,← qhi ks fs (by simpa using h),List.length_cons,List.range_succ_eq_map,List.map_cons,List.map_map]
  rfl
theorem qi4:∀ (ks:List Kd) (fs:List Fd),fitsP ks fs=true→totF fs≤21 * (formP ks).length
 | [],[],_=>by simp [totF,sumL]
 | [],f :: fs,h=>by simp [fitsP] at h
 | k :: ks,[],h=>by simp [fitsP] at h
 | k :: ks,f :: fs,h=>by
  simp only [fitsP,Bool.and_eq_true] at h
  have ih:=qi4 ks fs h.2
  have h1:1+f.l.length≤21 * k.txt.length:=by
   have hf:=h.1
   unfold fitF at hf
   unfold Kd.txt
   cases hs:k.star with
   | true=>rw [hs] at hf;simp at hf;simp;omega
   | false=>rw [hs] at hf;simp at hf;simp [hf.1]
  simp only [totF,sumL,formP,List.length_cons,List.length_append] at ih ⊢
  omega
theorem qnx {fs:List Fd} (h:smallF fs) {i:Nat} {f:Fd} (hi:fs[i]? = some f):f.n < 18446744073709551616∧∀ x∈f.l,x.1 < 18446744073709551616:=h f (List.mem_of_getElem? hi)
theorem qep (ks:List Kd) (hf:OkForm ks) (hl:(formP ks).length≤40) (hk:ks.length≤20) (fs:List Fd) (hn:smallF fs) (hfl:fs.length≤1000) (hll:∀ f∈fs,f.l.length≤100000) (A:Option Addr) (c:Nat) (w:World) (hv:FdsV Any w fs A c) :
  Calls Tryz.prog 42 #[.string (bs (formP ks)),.slice A fs.length c] w fun e w'=>e=.returned (.tuple #[.string (bs (fwP ks fs).1),.int .i64 (fwP ks fs).2])∧Below w.heap.size w w':=by
 have hK:=qlr ks hf hl w
 have hno:¬ totF fs≤1000→fwP ks fs=([],1):=fun h=>by
  unfold fwP
  rw [if_neg]
  intro h1
  have:=qi4 ks fs h1
  omega
 have htop:∀ (Ak:Option Addr) (ck:Nat) (W:World),KindsV Any W ks Ak ck→Below w.heap.size w W→Calls Tryz.prog 95 #[.agg #[.int .u8 40,.slice Ak ks.length ck],.slice A fs.length c] W (FitPost (recF ks fs) (fitsP ks fs) W):=fun Ak ck W hkv hb=>by
  have:=qq8 fs (fun i=>itemF (ks.getD i noK) (fs.getD i noF)) (fun i=>fitF (ks.getD i noK) (fs.getD i noF)) ks (fun i=>ks.getD i noK) (fun i k hi=>qa9 hi) (by omega) Ak ck A c W hkv (Rep.keep hv hb)
   (fun i f s A1 n1 c1 A2 c2 W' hi hks hr hlv=>by
    obtain ⟨k,hki⟩:=Option.isSome_iff_exists.1 hks
    rw [qa9 hi]
    rw [qa9 hki] at hr ⊢
    exact qsb k (hf k (List.mem_of_getElem? hki)) f (qnx hn hi).1 (qnx hn hi).2 (hll f (List.mem_of_getElem? hi)) s A1 n1 c1 A2 c2 W' hr hlv)
  rw [qiv] at this
  refine this.mono fun e w' ⟨y,Ay,cy,h1,h2,h3,h4⟩=>⟨y,Ay,cy,h1,h2,fun h=>?_,h4⟩
  rw [h3 h]
  unfold recF
  rw [qhi ks fs (qhv h).symm]
 have hfine:=fun (h:fitsP ks fs=true)=>qev h hn hk
 obtain ⟨FW,hFW⟩:∃ FW,fwP ks fs=FW:=⟨_,rfl⟩
 have hyes:fitsP ks fs=true→encR (recF ks fs)=FW:=fun h=>by rw [← hFW];unfold fwP;rw [if_pos h]
 have hnot:fitsP ks fs=false→FW=([],1):=fun h=>by rw [← hFW];unfold fwP;rw [if_neg (by rw [h];decide)]
 rw [hFW] at hno ⊢
 obtain ⟨F,hF⟩:∃ F,formP ks=F:=⟨_,rfl⟩
 rw [hF] at hK ⊢
 have HK:=qh hK
 have HT:=qh htop
 have HV:=qh hv
 have HNO:=qh hno
 have HFINE:=qh hfine
 have HYES:=qh hyes
 have HNOT:=qh hnot
 clear hK hno htop hfine hFW hF hv hf hn hll hl hk hyes hnot
 go_enter Tryz.func42,Tryz.ntmps42
 go_wp2_with fail
 refine HK.out.mono ?_
 clear HK
 rintro e w1 ⟨Ak,ck,rfl,hkv1,hb1⟩
 have HKV:=qh hkv1
 have HB1:=qh hb1
 clear hkv1
 go_wp2_with fail
 refine (qr3 fs hfl A c w1 (Rep.keep HV.out hb1)).mono ?_
 clear hb1
 rintro e w2 ⟨b2,rfl,hb2c,hb2⟩
 have HBC:=qh hb2c
 have HB2:=qh (qac HB1.out HB1.out.size hb2)
 have HKV2:=qh (Rep.keep HKV.out hb2)
 clear hb2c hb2 HKV HB1
 cases b2 with
 | false =>
  have hno:FW=([],1):=HNO.out (fun h=>by have:=HBC.out h;cases this)
  have HN:=qh hno
  clear hno
  go_wp2_with fail
  go_ret2
  rw [HN.out]
  exact ⟨rfl,HB2.out⟩
 | true =>
  go_wp2_with fail
  refine (HT.out Ak ck w2 (Rep.any HKV2.out) HB2.out).mono ?_
  rintro e w3 ⟨y,Ay,cy,rfl,hy,hyx,hb3⟩
  have HB3:=qh (qac HB2.out HB2.out.size hb3)
  have HY:=qh hy
  have HYX:=qh hyx
  obtain ⟨OK,hOK⟩:∃ OK,fitsP ks fs=OK:=⟨_,rfl⟩
  rw [hOK] at HYX HFINE HYES HNOT ⊢
  clear hb3 hy hyx HKV2 HB2 hOK HT HV
  cases OK with
  | false =>
   go_wp2_with fail
   go_ret2
   rw [HNOT.out (by simp)]
   exact ⟨rfl,HB3.out.alloc HB3.out.size _⟩
  | true =>
   have hyr:=HYX.out (by simp)
   have hf:=HFINE.out (by simp)
   rw [← hyr] at hf
   have hE:=qi7 y Ay cy (w3.alloc (.cells #[.bool y.l,.string (bs y.b),.slice Ay y.ks.length cy] 53)) (by omega) (HY.out.alloc _).any
   rw [show encR y=FW from by rw [hyr];exact HYES.out (by simp)] at hE
   have HE:=qh hE
   clear hE hyr hf HYX
   go_wp2_with fail
   refine HE.out.mono ?_
   rintro e w4 ⟨rfl,hb4⟩
   go_wp2_with fail
   go_ret2
   exact ⟨rfl,qac (HB3.out.alloc HB3.out.size _) (by have:=HB3.out.size;simp;omega) hb4⟩
/- Rows of texts in memory. -/
def strD (p:Bytes):D:=.v (.string (bs p))
def strsD (ps:List Bytes):List D:=ps.map strD
/-- a row of texts as it lies in memory -/
def StrV (S:Nat→Prop) (w:World) (ps:List Bytes) (A:Option Addr) (c:Nat):Prop:=Rep S w (.sl 1 (strsD ps)) [.slice A ps.length c]
section
variable {S S':Nat→Prop} {w w':World} {ps:List Bytes} {A:Option Addr} {c:Nat}
theorem StrV.keep (h:StrV S w ps A c) (hb:Below w.heap.size w w'):StrV S w' ps A c:=Rep.keep h hb
theorem StrV.any (h:StrV S w ps A c):StrV Any w ps A c:=Rep.any h
theorem StrV.at_ {i:Nat} {p:Bytes} (h:StrV S w ps A c) (hi:ps[i]? = some p):∃ g o,A=some ⟨g,o,none⟩∧S g∧w.cell? ⟨g,o+i,none⟩=some (.string (bs p)):=by
 obtain ⟨g,o,ci,hA,hs,hr,_,hc⟩:=h.slice_at (i:=i) (d:=strD p) (by omega) (by simp [strsD,hi])
 have:=hr.v_form
 subst this
 exact ⟨g,o,hA,hs,by simpa using hc 0 _ rfl⟩
end
theorem elStr:ElemOk Tryz.prog 109 9 (.string (bs [])) 1 16:=⟨Tryz.underlying109,by kernel_rfl,rfl,by omega⟩
end Go.Proofs.YteoednifdpdbnaaGreat
