/- The walk of sign.Bytes. -/
import Derived.Test.YteoednifdpdbnaaGreatZ25
import Derived.Test.YteoednifdpdbnaaGreatZ28
import Derived.Test.YteoednifdpdbnaaGreatZ11
import Derived.Test.YteoednifdpdbnaaGreatZ29
import Derived.Test.YteoednifdpdbnaaGreatZ10
import Derived.Test.YteoednifdpdbnaaGreatZ04
import Derived.Test.YteoednifdpdbnaaGreatZ26
import Derived.Test.YteoednifdpdbnaaGreatZ02
import Derived.Lib.Bytealg
import Derived.Laws.Cover1
import Derived.WalkLawsBesides
import Derived.Test.YteoednifdpdbnaaGreatZ03
namespace Go.Proofs.YteoednifdpdbnaaGreat
set_option linter.unusedVariables false
set_option linter.unusedSimpArgs false
open Go.RowKit
set_option maxHeartbeats 8000000
set_option maxRecDepth 100000
theorem qj9 {w:World} {g:Nat} {cs:Array Value} {e:TypeId} (h:w.heap[g]? = some (.cells cs e (0,0))) (o:Nat) {a b c d:Value} (h0:cs[o+0]? = some a) (h1:cs[o+1]? = some b) (h2:cs[o+2]? = some c) (h3:cs[o+3]? = some d) :
  ∀ (j:Nat) (u:Value),([a,b,c,d]:List Value)[j]? = some u→w.cell? ⟨g,o+j,none⟩=some u:=fun j u hj=>by
 match j,hj with
 | 0,hj=>simp at hj;subst hj;exact rc h _ h0
 | 1,hj=>simp at hj;subst hj;exact rc h _ h1
 | 2,hj=>simp at hj;subst hj;exact rc h _ h2
 | 3,hj=>simp at hj;subst hj;exact rc h _ h3
 | _+4,hj=>simp at hj
theorem byte_v (v:Int):([UInt8.ofNat (v % 256).toNat]:List UInt8).map cellB = [.int .u8 (v % 256)]:=by
 have h:(UInt8.ofNat (v % 256).toNat).toNat=(v % 256).toNat:=by simp;omega
 simp only [List.map_cons,List.map_nil,cellB,h]
 congr 2
 omega
theorem qo2 (v:Int):IntKind.u8.wrap v=v % 256:=by simp [IntKind.wrap,IntKind.signed,IntKind.bits]
theorem qdo {c:Prop} {d:Decidable c} {A B:Prop} (h:c) (ha:A):@ite Prop c d A B:=by rw [if_pos h];exact ha
theorem qje (x:U4) (h:x.Wf) (w:World):Calls Tryz.prog 92 #[.agg #[.int .u64 (x.a:Int),.int .u64 (x.b:Int),.int .u64 (x.c:Int),.int .u64 (x.d:Int)]] w fun e w'=>e=.returned (.string (bs (uB x)))∧Below w.heap.size w w':=qgd x h w
theorem qsg (x:Sg) (hR:∀ W:World,Calls Tryz.prog 91 #[.agg (sgR x)] W fun e w'=>e=.returned (.bool false)∧Below W.heap.size W w') (w:World):Calls Tryz.prog 41 #[.agg (sgR x)] w fun e w'=>e=.returned (.tuple #[.string (bs []),.int .i64 1])∧Below w.heap.size w w':=by
 have HB:=qh ((Below.refl w.heap.size w).alloc qn (.cells (sgR x) 26))
 have HR:=qh hR
 clear hR
 go_enter Tryz.func41,Tryz.ntmps41
 go_wp2_with fail
 refine (HR.out _).mono ?_
 rintro e w1 ⟨rfl,hb1⟩
 have HB1:=qh (qab HB.out HB.out.size hb1)
 clear hb1
 go_wp2_with fail
 go_ret2
 exact ⟨rfl,HB1.out⟩
theorem qp4 (x:Sg) (ta tb:Bytes) (tc:UInt8) (hta:ta.length=32) (htb:tb.length=32) (htc:cellB tc=.int .u8 (x.v % 256)) (hUR:∀ W:World,Calls Tryz.prog 92 #[.agg #[.int .u64 (x.r.a:Int),.int .u64 (x.r.b:Int),.int .u64 (x.r.c:Int),.int .u64 (x.r.d:Int)]] W fun e w'=>e=.returned (.string (bs ta))∧Below W.heap.size W w') (hUS:∀ W:World,Calls Tryz.prog 92 #[.agg #[.int .u64 (x.s.a:Int),.int .u64 (x.s.b:Int),.int .u64 (x.s.c:Int),.int .u64 (x.s.d:Int)]] W fun e w'=>e=.returned (.string (bs tb))∧Below W.heap.size W w')
  (hR:∀ W:World,Calls Tryz.prog 91 #[.agg (sgR x)] W fun e w'=>e=.returned (.bool true)∧Below W.heap.size W w') (w:World):Calls Tryz.prog 41 #[.agg (sgR x)] w fun e w'=>e=.returned (.tuple #[.string (bs (ta ++ tb ++ [tc])),.int .i64 0])∧Below w.heap.size w w':=by
 have hX:=heap_alloc_new w (.cells (sgR x) 26)
 have HB:=qh ((Below.refl w.heap.size w).alloc qn (.cells (sgR x) 26))
 have HX:=qh hX
 have HUR:=qh hUR
 have HUS:=qh hUS
 have HR:=qh hR
 have HTA:=qh hta
 have HTB:=qh htb
 have HTC:=qh htc
 clear hX hUR hUS hR hta htb htc
 go_enter Tryz.func41,Tryz.ntmps41
 go_wp2_with fail
 refine (HR.out _).mono ?_
 rintro e W0 ⟨rfl,hb1⟩
 have hX:=(hb1.block _ (qg HX.out)).trans HX.out
 have hB:=qab HB.out HB.out.size hb1
 have HX1:=qh hX
 have HB1:=qh hB
 clear hb1 HX HB HR hX hB
 go_wp2_with fail
 have hX:W0.drew.heap[w.heap.size]? = some (.cells (sgR x) 26 (0,0)):=HX1.out
 have hB:Below w.heap.size w W0.drew:=HB1.out.drew
 clear HX1 HB1
 refine qao [(99,fun w'=>w'.heap[w.heap.size]? = some (.cells (sgR x) 26 (0,0)))] (by kernel_rfl) ?_
 generalize W0.drew=W at hX hB ⊢
 refine R_p (i:=0) (v:=.pointer (some ⟨w.heap.size,0,none⟩)) (Mh hX Mn) ?_
 refine R_p (i:=3) (v:=.pointer (some ⟨w.heap.size,4,none⟩)) (Mh hX Mn) ?_
 refine R_p (i:=7) (v:=.pointer (some ⟨w.heap.size,8,none⟩)) (Mh hX Mn) ?_
 refine R_l (i:=1) (v:=.agg #[.int .u64 (x.r.a:Int),.int .u64 (x.r.b:Int),.int .u64 (x.r.c:Int),.int .u64 (x.r.d:Int)]) 99 _ List.mem_cons_self rfl (qbm rfl rfl (g:=w.heap.size) (o:=0) rfl [.int .u64 (x.r.a:Int),.int .u64 (x.r.b:Int),.int .u64 (x.r.c:Int),.int .u64 (x.r.d:Int)] (fun w' hS=>qj9 hS 0 rfl rfl rfl rfl) Tryz.underlying24 rfl infoU) (Mh hX Mn) ?_
 refine R_l (i:=4) (v:=.agg #[.int .u64 (x.s.a:Int),.int .u64 (x.s.b:Int),.int .u64 (x.s.c:Int),.int .u64 (x.s.d:Int)]) 99 _ List.mem_cons_self rfl (qbm rfl rfl (g:=w.heap.size) (o:=4) rfl [.int .u64 (x.s.a:Int),.int .u64 (x.s.b:Int),.int .u64 (x.s.c:Int),.int .u64 (x.s.d:Int)] (fun w' hS=>qj9 hS 4 rfl rfl rfl rfl) Tryz.underlying24 rfl infoU) (Mh hX Mn) ?_
 refine R_l (i:=8) (v:=.int .i64 x.v) 99 _ List.mem_cons_self rfl (qae rfl rfl rfl (fun w' hS=>rc hS 8 rfl) Tryz.underlying3 rfl) (Mh hX Mn) ?_
 refine R_p (i:=9) (v:=.int .u8 (x.v % 256)) (Mh hX Mn) ?_ (hy:=by intro w';go_simp;exact qo2 _)
 refine qb1 (rs:=[2,10]) (by kernel_rfl) (by simp) ?_
 refine AllReadyR.cons rfl (fun K hK=>?_) (AllReadyR.cons rfl (fun K hK=>?_) AllReadyR.nil)
 go_simp
 refine (HUR.out _).mono ?_
 rintro e w2 ⟨rfl,hb2⟩
 replace hX:=(hb2.block _ (qg hX)).trans hX
 replace hB:=qab hB hB.size hb2
 clear hb2
 refine hK.out _ _ (Mh hX Mn) (fun hMeets=>?_)
 clear hK K hMeets
 refine lay_R ?_
 refine qb1 (rs:=[5,10]) (by kernel_rfl) (by simp) ?_
 refine AllReadyR.cons rfl (fun K hK=>?_) (AllReadyR.cons rfl (fun K hK=>?_) AllReadyR.nil)
 go_simp
 refine (HUS.out _).mono ?_
 rintro e w5 ⟨rfl,hb5⟩
 replace hX:=(hb5.block _ (qg hX)).trans hX
 replace hB:=qab hB hB.size hb5
 clear hb5
 refine hK.out _ _ (Mh hX Mn) (fun hMeets=>?_)
 clear hK K hMeets
 refine lay_R ?_
 refine R_p (i:=6) (v:=.string (bs (ta ++ tb))) (Mh hX Mn) ?_ (hy:=by intro w';go_simp;rw [HTA.out,HTB.out];decide)
 refine R_now 10 fun K hK=>?_
 have hbb:Below w5.heap.size w5 (w5.alloc (.cells #[.int .u8 (x.v % 256)] 5)):=(Below.refl _ _).alloc qn _
 obtain ⟨b10,hb10⟩:∃ b10,w5.heap.size=b10:=⟨_,rfl⟩
 have hR10:=heap_alloc_new w5 (.cells #[.int .u8 (x.v % 256)] 5)
 rw [hb10] at hR10
 replace hX:=(hbb.block _ (qg hX)).trans hX
 replace hB:=qab hB hB.size hbb
 go_simp
 generalize w5.alloc (.cells #[.int .u8 (x.v % 256)] 5)=w10 at *
 try rw [hb10]
 clear hbb hb10
 refine hK.out _ _ (Mh hX Mn) (fun hMeets=>?_)
 clear hK K hMeets
 refine lay_R ?_
 refine R_now 11 fun K hK=>?_
 have hcv:=qav (P:=Tryz.prog) (w:=w10) (src:=97) (dst:=9) (e:=5) (A:=some ⟨b10,0,none⟩) (c:=1) (l:=[tc]) Tryz.underlying97 Tryz.underlying5 Tryz.underlying9 (qbs hR10 (fun j u hj=>by rw [List.map_cons,List.map_nil,HTC.out] at hj;simpa using hj))
 simp only [List.length_singleton] at hcv
 go_simp
 clear hcv
 refine hK.out _ _ (Mh hX Mn) (fun hMeets=>?_)
 clear hK K hMeets
 refine lay_R ?_
 refine R_p (i:=12) (v:=.string (bs (ta ++ tb ++ [tc]))) (Mh hX Mn) ?_ (hy:=by intro w';go_simp;simp [HTA.out,HTB.out])
 refine R_p (i:=13) (v:=.string (bs (ta ++ tb ++ [tc]))) (Mh hX Mn) ?_
 refine R_p (i:=14) (v:=.int .i64 0) (Mh hX Mn) ?_
 refine qa7 (by kernel_rfl) ?_ _
 ·go_wp2_with fail
  go_ret2
  exact ⟨rfl,hB⟩
 have hbb:Below w2.heap.size w2 (w2.alloc (.cells #[.int .u8 (x.v % 256)] 5)):=(Below.refl _ _).alloc qn _
 obtain ⟨b10,hb10⟩:∃ b10,w2.heap.size=b10:=⟨_,rfl⟩
 have hR10:=heap_alloc_new w2 (.cells #[.int .u8 (x.v % 256)] 5)
 rw [hb10] at hR10
 replace hX:=(hbb.block _ (qg hX)).trans hX
 replace hB:=qab hB hB.size hbb
 go_simp
 generalize w2.alloc (.cells #[.int .u8 (x.v % 256)] 5)=w10 at *
 try rw [hb10]
 clear hbb hb10
 refine hK.out _ _ (Mh hX Mn) (fun hMeets=>?_)
 clear hK K hMeets
 refine lay_R ?_
 refine qb1 (rs:=[5,11]) (by kernel_rfl) (by simp) ?_
 refine AllReadyR.cons rfl (fun K hK=>?_) (AllReadyR.cons rfl (fun K hK=>?_) AllReadyR.nil)
 go_simp
 refine (HUS.out _).mono ?_
 rintro e w5 ⟨rfl,hb5⟩
 replace hX:=(hb5.block _ (qg hX)).trans hX
 replace hB:=qab hB hB.size hb5
 replace hR10:=(hb5.block _ (qg hR10)).trans hR10
 clear hb5
 refine hK.out _ _ (Mh hX Mn) (fun hMeets=>?_)
 clear hK K hMeets
 refine lay_R ?_
 refine R_p (i:=6) (v:=.string (bs (ta ++ tb))) (Mh hX Mn) ?_ (hy:=by intro w';go_simp;rw [HTA.out,HTB.out];decide)
 refine R_now 11 fun K hK=>?_
 have hcv:=qav (P:=Tryz.prog) (w:=w5) (src:=97) (dst:=9) (e:=5) (A:=some ⟨b10,0,none⟩) (c:=1) (l:=[tc]) Tryz.underlying97 Tryz.underlying5 Tryz.underlying9 (qbs hR10 (fun j u hj=>by rw [List.map_cons,List.map_nil,HTC.out] at hj;simpa using hj))
 simp only [List.length_singleton] at hcv
 go_simp
 clear hcv
 refine hK.out _ _ (Mh hX Mn) (fun hMeets=>?_)
 clear hK K hMeets
 refine lay_R ?_
 refine R_p (i:=12) (v:=.string (bs (ta ++ tb ++ [tc]))) (Mh hX Mn) ?_ (hy:=by intro w';go_simp;simp [HTA.out,HTB.out])
 refine R_p (i:=13) (v:=.string (bs (ta ++ tb ++ [tc]))) (Mh hX Mn) ?_
 refine R_p (i:=14) (v:=.int .i64 0) (Mh hX Mn) ?_
 refine qa7 (by kernel_rfl) ?_ _
 ·go_wp2_with fail
  go_ret2
  exact ⟨rfl,hB⟩
 have hcv:=qav (P:=Tryz.prog) (w:=w10) (src:=97) (dst:=9) (e:=5) (A:=some ⟨b10,0,none⟩) (c:=1) (l:=[tc]) Tryz.underlying97 Tryz.underlying5 Tryz.underlying9 (qbs hR10 (fun j u hj=>by rw [List.map_cons,List.map_nil,HTC.out] at hj;simpa using hj))
 simp only [List.length_singleton] at hcv
 go_simp
 clear hcv
 refine hK.out _ _ (Mh hX Mn) (fun hMeets=>?_)
 clear hK K hMeets
 refine lay_R ?_
 refine R_now 5 fun K hK=>?_
 go_simp
 refine (HUS.out _).mono ?_
 rintro e w5 ⟨rfl,hb5⟩
 replace hX:=(hb5.block _ (qg hX)).trans hX
 replace hB:=qab hB hB.size hb5
 replace hR10:=(hb5.block _ (qg hR10)).trans hR10
 clear hb5
 refine hK.out _ _ (Mh hX Mn) (fun hMeets=>?_)
 clear hK K hMeets
 refine lay_R ?_
 refine R_p (i:=6) (v:=.string (bs (ta ++ tb))) (Mh hX Mn) ?_ (hy:=by intro w';go_simp;rw [HTA.out,HTB.out];decide)
 refine R_p (i:=12) (v:=.string (bs (ta ++ tb ++ [tc]))) (Mh hX Mn) ?_ (hy:=by intro w';go_simp;simp [HTA.out,HTB.out])
 refine R_p (i:=13) (v:=.string (bs (ta ++ tb ++ [tc]))) (Mh hX Mn) ?_
 refine R_p (i:=14) (v:=.int .i64 0) (Mh hX Mn) ?_
 refine qa7 (by kernel_rfl) ?_ _
 ·go_wp2_with fail
  go_ret2
  exact ⟨rfl,hB⟩
 have hbb:Below W.heap.size W (W.alloc (.cells #[.int .u8 (x.v % 256)] 5)):=(Below.refl _ _).alloc qn _
 obtain ⟨b10,hb10⟩:∃ b10,W.heap.size=b10:=⟨_,rfl⟩
 have hR10:=heap_alloc_new W (.cells #[.int .u8 (x.v % 256)] 5)
 rw [hb10] at hR10
 replace hX:=(hbb.block _ (qg hX)).trans hX
 replace hB:=qab hB hB.size hbb
 go_simp
 generalize W.alloc (.cells #[.int .u8 (x.v % 256)] 5)=w10 at *
 try rw [hb10]
 clear hbb hb10
 refine hK.out _ _ (Mh hX Mn) (fun hMeets=>?_)
 clear hK K hMeets
 refine lay_R ?_
 refine qb1 (rs:=[2,11]) (by kernel_rfl) (by simp) ?_
 refine AllReadyR.cons rfl (fun K hK=>?_) (AllReadyR.cons rfl (fun K hK=>?_) AllReadyR.nil)
 go_simp
 refine (HUR.out _).mono ?_
 rintro e w2 ⟨rfl,hb2⟩
 replace hX:=(hb2.block _ (qg hX)).trans hX
 replace hB:=qab hB hB.size hb2
 replace hR10:=(hb2.block _ (qg hR10)).trans hR10
 clear hb2
 refine hK.out _ _ (Mh hX Mn) (fun hMeets=>?_)
 clear hK K hMeets
 refine lay_R ?_
 refine qb1 (rs:=[5,11]) (by kernel_rfl) (by simp) ?_
 refine AllReadyR.cons rfl (fun K hK=>?_) (AllReadyR.cons rfl (fun K hK=>?_) AllReadyR.nil)
 go_simp
 refine (HUS.out _).mono ?_
 rintro e w5 ⟨rfl,hb5⟩
 replace hX:=(hb5.block _ (qg hX)).trans hX
 replace hB:=qab hB hB.size hb5
 replace hR10:=(hb5.block _ (qg hR10)).trans hR10
 clear hb5
 refine hK.out _ _ (Mh hX Mn) (fun hMeets=>?_)
 clear hK K hMeets
 refine lay_R ?_
 refine R_p (i:=6) (v:=.string (bs (ta ++ tb))) (Mh hX Mn) ?_ (hy:=by intro w';go_simp;rw [HTA.out,HTB.out];decide)
 refine R_now 11 fun K hK=>?_
 have hcv:=qav (P:=Tryz.prog) (w:=w5) (src:=97) (dst:=9) (e:=5) (A:=some ⟨b10,0,none⟩) (c:=1) (l:=[tc]) Tryz.underlying97 Tryz.underlying5 Tryz.underlying9 (qbs hR10 (fun j u hj=>by rw [List.map_cons,List.map_nil,HTC.out] at hj;simpa using hj))
 simp only [List.length_singleton] at hcv
 go_simp
 clear hcv
 refine hK.out _ _ (Mh hX Mn) (fun hMeets=>?_)
 clear hK K hMeets
 refine lay_R ?_
 refine R_p (i:=12) (v:=.string (bs (ta ++ tb ++ [tc]))) (Mh hX Mn) ?_ (hy:=by intro w';go_simp;simp [HTA.out,HTB.out])
 refine R_p (i:=13) (v:=.string (bs (ta ++ tb ++ [tc]))) (Mh hX Mn) ?_
 refine R_p (i:=14) (v:=.int .i64 0) (Mh hX Mn) ?_
 refine qa7 (by kernel_rfl) ?_ _
 ·go_wp2_with fail
  go_ret2
  exact ⟨rfl,hB⟩
 have hcv:=qav (P:=Tryz.prog) (w:=w2) (src:=97) (dst:=9) (e:=5) (A:=some ⟨b10,0,none⟩) (c:=1) (l:=[tc]) Tryz.underlying97 Tryz.underlying5 Tryz.underlying9 (qbs hR10 (fun j u hj=>by rw [List.map_cons,List.map_nil,HTC.out] at hj;simpa using hj))
 simp only [List.length_singleton] at hcv
 go_simp
 clear hcv
 refine hK.out _ _ (Mh hX Mn) (fun hMeets=>?_)
 clear hK K hMeets
 refine lay_R ?_
 refine R_now 5 fun K hK=>?_
 go_simp
 refine (HUS.out _).mono ?_
 rintro e w5 ⟨rfl,hb5⟩
 replace hX:=(hb5.block _ (qg hX)).trans hX
 replace hB:=qab hB hB.size hb5
 replace hR10:=(hb5.block _ (qg hR10)).trans hR10
 clear hb5
 refine hK.out _ _ (Mh hX Mn) (fun hMeets=>?_)
 clear hK K hMeets
 refine lay_R ?_
 refine R_p (i:=6) (v:=.string (bs (ta ++ tb))) (Mh hX Mn) ?_ (hy:=by intro w';go_simp;rw [HTA.out,HTB.out];decide)
 refine R_p (i:=12) (v:=.string (bs (ta ++ tb ++ [tc]))) (Mh hX Mn) ?_ (hy:=by intro w';go_simp;simp [HTA.out,HTB.out])
 refine R_p (i:=13) (v:=.string (bs (ta ++ tb ++ [tc]))) (Mh hX Mn) ?_
 refine R_p (i:=14) (v:=.int .i64 0) (Mh hX Mn) ?_
 refine qa7 (by kernel_rfl) ?_ _
 ·go_wp2_with fail
  go_ret2
  exact ⟨rfl,hB⟩
 have hcv:=qav (P:=Tryz.prog) (w:=w10) (src:=97) (dst:=9) (e:=5) (A:=some ⟨b10,0,none⟩) (c:=1) (l:=[tc]) Tryz.underlying97 Tryz.underlying5 Tryz.underlying9 (qbs hR10 (fun j u hj=>by rw [List.map_cons,List.map_nil,HTC.out] at hj;simpa using hj))
 simp only [List.length_singleton] at hcv
 go_simp
 clear hcv
 refine hK.out _ _ (Mh hX Mn) (fun hMeets=>?_)
 clear hK K hMeets
 refine lay_R ?_
 refine R_now 2 fun K hK=>?_
 go_simp
 refine (HUR.out _).mono ?_
 rintro e w2 ⟨rfl,hb2⟩
 replace hX:=(hb2.block _ (qg hX)).trans hX
 replace hB:=qab hB hB.size hb2
 replace hR10:=(hb2.block _ (qg hR10)).trans hR10
 clear hb2
 refine hK.out _ _ (Mh hX Mn) (fun hMeets=>?_)
 clear hK K hMeets
 refine lay_R ?_
 refine R_now 5 fun K hK=>?_
 go_simp
 refine (HUS.out _).mono ?_
 rintro e w5 ⟨rfl,hb5⟩
 replace hX:=(hb5.block _ (qg hX)).trans hX
 replace hB:=qab hB hB.size hb5
 replace hR10:=(hb5.block _ (qg hR10)).trans hR10
 clear hb5
 refine hK.out _ _ (Mh hX Mn) (fun hMeets=>?_)
 clear hK K hMeets
 refine lay_R ?_
 refine R_p (i:=6) (v:=.string (bs (ta ++ tb))) (Mh hX Mn) ?_ (hy:=by intro w';go_simp;rw [HTA.out,HTB.out];decide)
 refine R_p (i:=12) (v:=.string (bs (ta ++ tb ++ [tc]))) (Mh hX Mn) ?_ (hy:=by intro w';go_simp;simp [HTA.out,HTB.out])
 refine R_p (i:=13) (v:=.string (bs (ta ++ tb ++ [tc]))) (Mh hX Mn) ?_
 refine R_p (i:=14) (v:=.int .i64 0) (Mh hX Mn) ?_
 refine qa7 (by kernel_rfl) ?_ _
 ·go_wp2_with fail
  go_ret2
  exact ⟨rfl,hB⟩
theorem qjr (x:Sg) (h:x.Wf) (w:World):Calls Tryz.prog 41 #[.agg (sgR x)] w fun e w'=>e=.returned (.tuple #[.string (bs (if okSg x=true then sgB x else [])),.int .i64 (if okSg x=true then 0 else 1)])∧Below w.heap.size w w':=by
 have hR:=fun W:World=>qf0 x h W
 obtain ⟨ok,hok⟩:∃ ok,okSg x=ok:=⟨_,rfl⟩
 rw [hok] at hR ⊢
 cases ok with
 | false=>exact qsg x hR w
 | true =>
  rw [if_pos rfl,if_pos rfl]
  unfold sgB
  have hc:cellB (UInt8.ofNat (x.v % 256).toNat)=.int .u8 (x.v % 256):=by have:=byte_v x.v;simp only [List.map_cons,List.map_nil,List.cons.injEq,and_true] at this;exact this
  generalize UInt8.ofNat (x.v % 256).toNat=tc at hc ⊢
  have h1:=fun W:World=>qje x.r h.r W
  have h2:=fun W:World=>qje x.s h.s W
  have l1:=qd9 x.r
  have l2:=qd9 x.s
  generalize uB x.r=ta at h1 l1 ⊢
  generalize uB x.s=tb at h2 l2 ⊢
  exact qp4 x ta tb tc l1 l2 hc h1 h2 hR w
/- The walk of sign.From. -/
theorem qbv:(Tryz.prog.info? 26).map (·.size)=some 9:=by kernel_rfl
theorem qho (s:Bytes) (hs:s.length≤32) (z:U4) (hz:uOf s=z) (w:World):Calls Tryz.prog 98 #[.string (bs s)] w fun e w'=>e=.returned (.tuple #[.agg #[.int .u64 (z.a:Int),.int .u64 (z.b:Int),.int .u64 (z.c:Int),.int .u64 (z.d:Int)],.int .i64 0])∧Below w.heap.size w w':=by
 subst hz;exact qrn s hs w
theorem one9 (a b c d a' b' c' d' v:Int):(#[.int .u64 a,.int .u64 b,.int .u64 c,.int .u64 d,.int .u64 a',.int .u64 b',.int .u64 c',.int .u64 d',.int .i64 v]:Array Value).all (·.oneCell')=true:=by simp [Value.oneCell']
theorem one9Z:(zqS:Array Value).all (·.oneCell')=true:=one9 _ _ _ _ _ _ _ _ _
/-- what From gives -/
def sfromP (s:Bytes):Sg×Nat:=if s.length=65∧okSg (sgOf s)=true then (sgOf s,0) else (zeroSg,4)
theorem qq2 (s:Bytes) (hs:((s.length:Int) == 65)=false) (w:World):Calls Tryz.prog 46 #[.string (bs s)] w fun e w'=>e=.returned (.tuple #[.agg zqS,.int .i64 4])∧Below w.heap.size w w':=by
 have hs2:((s.length:Int) != 65)=true:=by rw [bne,hs];rfl
 have HX:=qh (heap_alloc_new w (.cells zqS 26))
 have HB:=qh ((Below.refl w.heap.size w).alloc qn (.cells zqS 26))
 go_enter Tryz.func46,Tryz.ntmps46
 go_wp2_with fail
 exact bodyPost_ret (v:=.tuple #[.agg zqS,.int .i64 4]) (qah rfl _ _ w.heap.size _ _ _ _ rfl HX.out _ rfl Tryz.underlying26 rfl qbv) rfl ⟨rfl,HB.out⟩
theorem sfrom_65 (s:Bytes) (c:UInt8) (hs:s.length=65) (hc:s[64]? = some c) (zr zs:U4) (hr:uOf (s.take 32)=zr) (hz:uOf ((s.drop 32).take 32)=zs) (hwr:zr.Wf) (hws:zs.Wf) (ok:Bool) (hok:okSg ⟨zr,zs,(c.toNat:Int)⟩=ok) (cs:Array Value) (no:Int) (hcs:cs=if ok=true then #[.int .u64 (zr.a:Int),.int .u64 (zr.b:Int),.int .u64 (zr.c:Int),.int .u64 (zr.d:Int),.int .u64 (zs.a:Int),.int .u64 (zs.b:Int),.int .u64 (zs.c:Int),.int .u64 (zs.d:Int),.int .i64 (c.toNat:Int)] else zqS) (hno:no=if ok=true then 0 else 4) (w:World) :
  Calls Tryz.prog 46 #[.string (bs s)] w fun e w'=>e=.returned (.tuple #[.agg cs,.int .i64 no])∧Below w.heap.size w w':=by
 obtain ⟨hlt,hci⟩:=List.getElem?_eq_some_iff.1 hc
 have hl:(s.length:Int)=65:=by omega
 have hl1:((s.length:Int) == 65)=true:=by rw [hl];rfl
 have hl2:((s.length:Int) != 65)=false:=by rw [hl];rfl
 have hlt2:(64:Int) < s.length:=by omega
 have h32:(32:Int)≤s.length:=by omega
 have h64:(64:Int)≤s.length:=by omega
 have HF1:=qh (fun W:World=>qho (s.take 32) (by rw [List.length_take];omega) zr hr W)
 have HF2:=qh (fun W:World=>qho ((s.drop 32).take 32) (by rw [List.length_take];omega) zs hz W)
 have hR:=fun W:World=>qf0 ⟨zr,zs,(c.toNat:Int)⟩ ⟨hwr,hws,by have:=c.toNat_lt;show _≤(c.toNat:Int);omega,by have:=c.toNat_lt;show (c.toNat:Int)≤_;omega⟩ W
 rw [hok] at hR
 simp only [] at hR
 have HRT:=qh hR
 have hc8:=c.toNat_lt
 have h0:=heap_alloc_new w (.cells zqS 26)
 have h1:=heap_alloc_new (w.alloc (.cells zqS 26)) (.cells zqS 26)
 have h0:=(heap_alloc_old _ (.cells zqS 26) (qg h0)).trans h0
 simp only [World.size_alloc] at h1
 have hb:=((Below.refl w.heap.size w).alloc qn (.cells zqS 26)).alloc (by simp) (.cells zqS 26)
 have HO:=qh h1
 have HCS:=qh hcs
 have HNO:=qh hno
 have HR:=qh h0
 have HB:=qh hb
 clear h0 h1 hb hs hc hR hr hz hwr hws hok hl hcs hno
 go_enter Tryz.func46,Tryz.ntmps46
 go_wp2_with fail
 refine (HF1.out _).mono ?_
 rintro e w1 ⟨rfl,hb1⟩
 have hO1:=(hb1.block _ (qg HO.out)).trans HO.out
 have HR1:=qh ((hb1.block _ (qg HR.out)).trans HR.out)
 have HB1:=qh (qab HB.out HB.out.size hb1)
 have o0:=rc hO1 0 rfl
 have o1:=rc hO1 1 rfl
 have o2:=rc hO1 2 rfl
 have o3:=rc hO1 3 rfl
 have o4:=rc hO1 4 rfl
 have o5:=rc hO1 5 rfl
 have o6:=rc hO1 6 rfl
 have o7:=rc hO1 7 rfl
 have o8:=rc hO1 8 rfl
 have of0:=rf hO1 0
 have of1:=rf hO1 1
 have of2:=rf hO1 2
 have of3:=rf hO1 3
 have of4:=rf hO1 4
 have of5:=rf hO1 5
 have of6:=rf hO1 6
 have of7:=rf hO1 7
 have of8:=rf hO1 8
 have HO1:=qh hO1
 clear hb1 hO1 HB HO HR
 go_wp2_with fail
 have hO2:(((((w1.setCell ⟨w.heap.size+1,0,none⟩ (.int .u64 (zr.a:Int))).setCell ⟨w.heap.size+1,1,none⟩ (.int .u64 (zr.b:Int))).setCell ⟨w.heap.size+1,2,none⟩ (.int .u64 (zr.c:Int))).setCell ⟨w.heap.size+1,3,none⟩ (.int .u64 (zr.d:Int)))).heap[w.heap.size+1]? = some (.cells #[.int .u64 (zr.a:Int),.int .u64 (zr.b:Int),.int .u64 (zr.c:Int),.int .u64 (zr.d:Int),.int .u64 0,.int .u64 0,.int .u64 0,.int .u64 0,.int .i64 0] 26 (0,0)):=(qaa (qaa (qaa (qaa HO1.out (i:=0) (.int .u64 (zr.a:Int))) (i:=1) (.int .u64 (zr.b:Int))) (i:=2) (.int .u64 (zr.c:Int))) (i:=3) (.int .u64 (zr.d:Int)))
 have hR2:=qpz (g:=w.heap.size+1) (a:=.int .u64 (zr.a:Int)) (b:=.int .u64 (zr.b:Int)) (c:=.int .u64 (zr.c:Int)) (d:=.int .u64 (zr.d:Int)) (show w.heap.size≠w.heap.size+1 by omega) |>.trans HR1.out
 have hB2:=qgi (a:=.int .u64 (zr.a:Int)) (b:=.int .u64 (zr.b:Int)) (c:=.int .u64 (zr.c:Int)) (d:=.int .u64 (zr.d:Int)) HB1.out (Nat.le_succ w.heap.size)
 unfold set4 at hR2 hB2
 generalize ((((w1.setCell ⟨w.heap.size+1,0,none⟩ (.int .u64 (zr.a:Int))).setCell ⟨w.heap.size+1,1,none⟩ (.int .u64 (zr.b:Int))).setCell ⟨w.heap.size+1,2,none⟩ (.int .u64 (zr.c:Int))).setCell ⟨w.heap.size+1,3,none⟩ (.int .u64 (zr.d:Int)))=w2 at hO2 hR2 hB2 ⊢
 have HO2:=qh hO2
 have HR2:=qh hR2
 have HB2:=qh hB2
 clear hO2 hR2 hB2 HR1 HB1 HO1 o0 of0 o1 of1 o2 of2 o3 of3 o4 of4 o5 of5 o6 of6 o7 of7 o8 of8
 refine (HF2.out _).mono ?_
 rintro e w3 ⟨rfl,hb3⟩
 have hO3:=(hb3.block _ (qg HO2.out)).trans HO2.out
 have HR3:=qh ((hb3.block _ (qg HR2.out)).trans HR2.out)
 have HB3:=qh (qab HB2.out HB2.out.size hb3)
 have o0:=rc hO3 0 rfl
 have o1:=rc hO3 1 rfl
 have o2:=rc hO3 2 rfl
 have o3:=rc hO3 3 rfl
 have o4:=rc hO3 4 rfl
 have o5:=rc hO3 5 rfl
 have o6:=rc hO3 6 rfl
 have o7:=rc hO3 7 rfl
 have o8:=rc hO3 8 rfl
 have of0:=rf hO3 0
 have of1:=rf hO3 1
 have of2:=rf hO3 2
 have of3:=rf hO3 3
 have of4:=rf hO3 4
 have of5:=rf hO3 5
 have of6:=rf hO3 6
 have of7:=rf hO3 7
 have of8:=rf hO3 8
 have HO3:=qh hO3
 clear hb3 hO3 HB2 HO2 HR2
 go_wp2_with fail
 have hO5:((((((w3.setCell ⟨w.heap.size+1,4,none⟩ (.int .u64 (zs.a:Int))).setCell ⟨w.heap.size+1,5,none⟩ (.int .u64 (zs.b:Int))).setCell ⟨w.heap.size+1,6,none⟩ (.int .u64 (zs.c:Int))).setCell ⟨w.heap.size+1,7,none⟩ (.int .u64 (zs.d:Int))).setCell ⟨w.heap.size+1,8,none⟩ (.int .i64 (c.toNat:Int)))).heap[w.heap.size+1]? = some (.cells #[.int .u64 (zr.a:Int),.int .u64 (zr.b:Int),.int .u64 (zr.c:Int),.int .u64 (zr.d:Int),.int .u64 (zs.a:Int),.int .u64 (zs.b:Int),.int .u64 (zs.c:Int),.int .u64 (zs.d:Int),.int .i64 (c.toNat:Int)] 26 (0,0)):=qaa (qaa (qaa (qaa (qaa HO3.out (i:=4) (.int .u64 (zs.a:Int))) (i:=5) (.int .u64 (zs.b:Int))) (i:=6) (.int .u64 (zs.c:Int))) (i:=7) (.int .u64 (zs.d:Int))) (i:=8) (.int .i64 (c.toNat:Int))
 have hR5:((((((w3.setCell ⟨w.heap.size+1,4,none⟩ (.int .u64 (zs.a:Int))).setCell ⟨w.heap.size+1,5,none⟩ (.int .u64 (zs.b:Int))).setCell ⟨w.heap.size+1,6,none⟩ (.int .u64 (zs.c:Int))).setCell ⟨w.heap.size+1,7,none⟩ (.int .u64 (zs.d:Int))).setCell ⟨w.heap.size+1,8,none⟩ (.int .i64 (c.toNat:Int)))).heap[w.heap.size]? = some (.cells zqS 26 (0,0)):=(qac (by omega) _).trans ((qac (by omega) _).trans ((qac (by omega) _).trans ((qac (by omega) _).trans ((qac (by omega) _).trans HR3.out))))
 have hB5:Below w.heap.size w (((((w3.setCell ⟨w.heap.size+1,4,none⟩ (.int .u64 (zs.a:Int))).setCell ⟨w.heap.size+1,5,none⟩ (.int .u64 (zs.b:Int))).setCell ⟨w.heap.size+1,6,none⟩ (.int .u64 (zs.c:Int))).setCell ⟨w.heap.size+1,7,none⟩ (.int .u64 (zs.d:Int))).setCell ⟨w.heap.size+1,8,none⟩ (.int .i64 (c.toNat:Int))):=(((((HB3.out.setCell (p:=⟨w.heap.size+1,4,none⟩) (Nat.le_succ _) _).setCell (p:=⟨w.heap.size+1,5,none⟩) (Nat.le_succ _) _).setCell (p:=⟨w.heap.size+1,6,none⟩) (Nat.le_succ _) _).setCell (p:=⟨w.heap.size+1,7,none⟩) (Nat.le_succ _) _).setCell (p:=⟨w.heap.size+1,8,none⟩) (Nat.le_succ _) _)
 generalize (((((w3.setCell ⟨w.heap.size+1,4,none⟩ (.int .u64 (zs.a:Int))).setCell ⟨w.heap.size+1,5,none⟩ (.int .u64 (zs.b:Int))).setCell ⟨w.heap.size+1,6,none⟩ (.int .u64 (zs.c:Int))).setCell ⟨w.heap.size+1,7,none⟩ (.int .u64 (zs.d:Int))).setCell ⟨w.heap.size+1,8,none⟩ (.int .i64 (c.toNat:Int)))=w5 at hO5 hR5 hB5 ⊢
 have HO5:=qh hO5
 have HR5:=qh hR5
 have HB5:=qh hB5
 clear hO5 hR5 hB5 HR3 HB3 HO3 o0 of0 o1 of1 o2 of2 o3 of3 o4 of4 o5 of5 o6 of6 o7 of7 o8 of8
 refine (HRT.out _).mono ?_
 rintro e w6 ⟨rfl,hb6⟩
 have hO6:=(hb6.block _ (qg HO5.out)).trans HO5.out
 have hR6:=(hb6.block _ (qg HR5.out)).trans HR5.out
 have HB6:=qh (qab HB5.out HB5.out.size hb6)
 have HR6:=qh hR6
 have HO6:=qh hO6
 clear hb6 hO6 hR6 HB5 HO5 HR5
 cases ok with
 | false =>
  go_wp2_with (refine wpList_store_row rfl _ _ _ rfl w.heap.size zqS rfl rfl _ _ HR6.out qbv rfl one9Z ?_)
  rw [HCS.out,HNO.out]
  exact bodyPost_ret (v:=.tuple #[.agg zqS,.int .i64 4]) (qah rfl _ _ w.heap.size _ _ _ _ rfl (setRow_heap _ _ _ _ _ _ HR6.out) _ rfl Tryz.underlying26 rfl qbv) rfl ⟨rfl,qak HB6.out qn _⟩
 | true =>
  go_wp2_with (first | (refine wpList_load_row rfl _ _ rfl (w.heap.size+1) rfl _ _ _ _ HO6.out Tryz.underlying26 rfl qbv ?_) | (refine wpList_store_row rfl _ _ _ rfl w.heap.size #[.int .u64 (zr.a:Int),.int .u64 (zr.b:Int),.int .u64 (zr.c:Int),.int .u64 (zr.d:Int),.int .u64 (zs.a:Int),.int .u64 (zs.b:Int),.int .u64 (zs.c:Int),.int .u64 (zs.d:Int),.int .i64 (c.toNat:Int)] rfl rfl _ _ HR6.out qbv rfl (one9 _ _ _ _ _ _ _ _ _) ?_))
  rw [HCS.out,HNO.out]
  exact bodyPost_ret (v:=.tuple #[.agg #[.int .u64 (zr.a:Int),.int .u64 (zr.b:Int),.int .u64 (zr.c:Int),.int .u64 (zr.d:Int),.int .u64 (zs.a:Int),.int .u64 (zs.b:Int),.int .u64 (zs.c:Int),.int .u64 (zs.d:Int),.int .i64 (c.toNat:Int)],.int .i64 0]) (qah rfl _ _ w.heap.size _ _ _ _ rfl (setRow_heap _ _ _ _ _ _ HR6.out) _ rfl Tryz.underlying26 rfl qbv) rfl ⟨rfl,qak HB6.out qn _⟩
theorem qru (s:Bytes) (w:World):Calls Tryz.prog 46 #[.string (bs s)] w fun e w'=>e=.returned (.tuple #[.agg #[.int .u64 ((sfromP s).1.r.a:Int),.int .u64 ((sfromP s).1.r.b:Int),.int .u64 ((sfromP s).1.r.c:Int),.int .u64 ((sfromP s).1.r.d:Int),.int .u64 ((sfromP s).1.s.a:Int),.int .u64 ((sfromP s).1.s.b:Int),.int .u64 ((sfromP s).1.s.c:Int),.int .u64 ((sfromP s).1.s.d:Int),.int .i64 (sfromP s).1.v],.int .i64 (sfromP s).2])∧Below w.heap.size w w':=by
 by_cases hl:s.length=65
 ·obtain ⟨c,hc⟩:∃ c,s[64]? = some c:=qal (by omega)
  have hcd:s.getD 64 0=c:=by rw [List.getD_eq_getElem?_getD,hc];rfl
  have hsg:sgOf s=⟨uOf (s.take 32),uOf ((s.drop 32).take 32),(c.toNat:Int)⟩:=by unfold sgOf;rw [hcd]
  have h:=sfrom_65 s c hl hc _ _ rfl rfl (qjy _) (qjy _) _ rfl _ _ rfl rfl w
  rw [← hsg] at h
  unfold sfromP
  cases hk:okSg (sgOf s) with
  | true=>rw [if_pos ⟨hl,rfl⟩,hsg];rw [hk] at h;exact h
  | false=>rw [if_neg (fun h=>by cases h.2)];rw [hk] at h;exact h
 ·have h:=qq2 s (by rw [beq_eq_false_iff_ne];omega) w
  unfold sfromP
  rw [if_neg (fun h=>hl h.1)]
  exact h
/- The walks of tx.fields, Right, Bytes, Sum. -/
theorem qds {P:Program} {w:World} {d:Nat} {xs ys:Array Value} {f:Field} {fs:List Field} (hne:f.name ≠ "_") {a b:Value} {r:Bool} (ha:(part f.type xs f.offset).run P w=.ok a w) (hb:(part f.type ys f.offset).run P w=.ok b w)
  (hr:(Op.equalIn d f.type a b).run P w=.ok r w):(Op.eqFields d xs ys (f :: fs)).run P w=if r=true then (Op.eqFields d xs ys fs).run P w else .ok false w:=by
 rw [Op.eqFields,if_pos hne]
 cases r with
 | true=>simp [Sem.run_bind,ha,hb,hr]
 | false=>simp [Sem.run_bind,ha,hb,hr]
theorem qou:Tryz.prog.underlying 26 = some (.struct (Tryz.prog.fieldsOf 26)):=by kernel_rfl
theorem qr7:Tryz.prog.stoodInHeld 26 = false:=by kernel_rfl
theorem partU {cs:Array Value} {o:Nat} {ds:Array Value} (h:cs.extract o (o+4)=ds) (w:World):(part 24 cs o).run Tryz.prog w=.ok (.agg ds) w:=by
 have hz:(sizeOf 24).run Tryz.prog w=.ok 4 w:=by
  obtain ⟨i,hi⟩:=info_of_underlying Tryz.underlying24
  rw [run_sizeOf w hi,show Tryz.prog.cellsOf 24 = 4 by kernel_rfl]
 simp only [part,isAgg,Sem.run_bind,run_underlying Tryz.underlying24,Result.andThen_ok,Sem.run_pure,if_true,hz,h]
def eqSg (x y:Sg):Bool:=eqU x.r y.r && (eqU x.s y.s && x.v == y.v)
theorem eqSg_iff (x y:Sg):eqSg x y=true↔x=y:=by
 unfold eqSg eqU
 simp only [Bool.and_eq_true,decide_eq_true_eq,beq_iff_eq]
 obtain ⟨a,b,c⟩:=x
 obtain ⟨a',b',c'⟩:=y
 simp
theorem run_eqSg (x y:Sg) (w:World):(Op.equalIn 10000 26 (.agg (sgR x)) (.agg (sgR y))).run Tryz.prog w=.ok (eqSg x y) w:=by
 rw [show (10000:Nat)=9999+1 from rfl,run_equalIn_agg w 9999 _ _ _ qou qr7]
 have h1:(Op.eqFields 9999 (sgR x) (sgR y) (Tryz.prog.fieldsOf 26).toList).run Tryz.prog w=.ok (eqSg x y) w:=by
  simp only [Program.fieldsOf,Tryz.underlying26]
  refine Eq.trans (qds (by decide) (partU rfl w) (partU rfl w) (qeh 9997 x.r y.r w)) ?_
  unfold eqSg
  cases h1:eqU x.r y.r with
  | false=>rfl
  | true =>
   refine Eq.trans (qds (by decide) (partU rfl w) (partU rfl w) (qeh 9997 x.s y.s w)) ?_
   cases h2:eqU x.s y.s with
   | false=>rfl
   | true =>
    have p2:∀ z:Sg,(part 3 (sgR z) 8).run Tryz.prog w=.ok (.int .i64 z.v) w:=fun z=>by simp [part,isAgg,run_underlying Tryz.underlying3,Sem.run_bind]
    refine Eq.trans (qds (r:=(x.v == y.v)) (by decide) (p2 x) (p2 y) (by
     rw [show (9999:Nat)=9998+1 from rfl,run_equalIn_int w 9998 _ .i64 .i64 _ _ Tryz.underlying3])) ?_
    cases x.v == y.v <;> rfl
 exact h1
theorem qiu (x:Sg) (h:x.Wf) (hk:okSg x=true) (w:World):Calls Tryz.prog 41 #[.agg (sgR x)] w fun e w'=>e=.returned (.tuple #[.string (bs (sgB x)),.int .i64 0])∧Below w.heap.size w w':=by
 have:=qjr x h w
 rw [if_pos hk,if_pos hk] at this
 exact this
theorem qqa (x:Sg) (h:x.Wf) (hk:okSg x=false) (w:World):Calls Tryz.prog 41 #[.agg (sgR x)] w fun e w'=>e=.returned (.tuple #[.string (bs []),.int .i64 1])∧Below w.heap.size w w':=by
 have:=qjr x h w
 rw [hk,if_neg (by decide),if_neg (by decide)] at this
 exact this
theorem qe2 (t:Tr) (h:t.Wf) (h63:t.to.length≤9223372036854775807) (w:World):Calls Tryz.prog 13 #[.agg (trR t)] w fun e w'=>e=.returned (.bool (okTr t))∧Below w.heap.size w w':=by
 have hY:=fun (hk:okSg t.sg=true) (W:World)=>qiu t.sg h.sg hk W
 have hN:=fun (hk:okSg t.sg=false) (W:World)=>qqa t.sg h.sg hk W
 have hok:okTr t=(t.to.length == 20 && okSg t.sg):=rfl
 have heqz:eqSg t.sg zeroSg=true→okSg t.sg=false:=fun e=>by rw [(eqSg_iff _ _).1 e];exact qsu
 obtain ⟨z,hz⟩:∃ z,eqSg t.sg zeroSg=z:=⟨_,rfl⟩
 have heq:∀ W:World,(Op.equalIn 10000 26 (.agg (sgR t.sg)) (.agg zqS)).run Tryz.prog W=.ok z W:=fun W=>by
  have:=run_eqSg t.sg zeroSg W
  rw [hz] at this
  exact this
 rw [hz] at heqz
 obtain ⟨ok,hk⟩:∃ ok,okSg t.sg=ok:=⟨_,rfl⟩
 rw [hk] at hok heqz hY hN
 have hlI:((t.to.length:Int) == 20)=(t.to.length == 20):=by rw [Bool.eq_iff_iff];simp only [beq_iff_eq];omega
 have h63I:(t.to.length:Int)≤9223372036854775807:=by omega
 have HOK:=qh hok
 have HY:=qh hY
 have HN:=qh hN
 have HLI:=qh hlI
 have hX:=heap_alloc_new w (.cells (trR t) 28)
 have HX0:=qh hX
 have HB0:=qh ((Below.refl w.heap.size w).alloc qn (.cells (trR t) 28))
 have c0:=rc (u:=.string (bs t.to)) hX 0 rfl
 have c1:=rc (u:=.int .u64 (t.am:Int)) hX 1 rfl
 have c2:=rc (u:=.int .u64 (t.no:Int)) hX 2 rfl
 have c3:=rc (u:=.int .u64 (t.sg.r.a:Int)) hX 3 rfl
 have c4:=rc (u:=.int .u64 (t.sg.r.b:Int)) hX 4 rfl
 have c5:=rc (u:=.int .u64 (t.sg.r.c:Int)) hX 5 rfl
 have c6:=rc (u:=.int .u64 (t.sg.r.d:Int)) hX 6 rfl
 have c7:=rc (u:=.int .u64 (t.sg.s.a:Int)) hX 7 rfl
 have c8:=rc (u:=.int .u64 (t.sg.s.b:Int)) hX 8 rfl
 have c9:=rc (u:=.int .u64 (t.sg.s.c:Int)) hX 9 rfl
 have c10:=rc (u:=.int .u64 (t.sg.s.d:Int)) hX 10 rfl
 have c11:=rc (u:=.int .i64 t.sg.v) hX 11 rfl
 clear hX hok hY hN hlI h hz hk h63
 cases z with
 | true =>
  obtain rfl:ok=false:=heqz rfl
  clear heqz
  go_enter Tryz.func13,Tryz.ntmps13
  go_wp2_with fail
  go_ret
  exact ⟨by rw [HOK.out,Bool.and_false];rfl,HB0.out⟩
 | false =>
  clear heqz
  cases ok with
  | false =>
   go_enter Tryz.func13,Tryz.ntmps13
   go_wp2_with fail
   refine (HN.out trivial _).mono ?_
   rintro e w1 ⟨rfl,hb1⟩
   have HB1:=qh (qab HB0.out HB0.out.size hb1)
   clear hb1 HB0 HX0
   go_wp2_with fail
   go_ret
   exact ⟨by rw [HOK.out,Bool.and_false];rfl,HB1.out⟩
  | true =>
   go_enter Tryz.func13,Tryz.ntmps13
   go_wp2_with fail
   refine (HY.out trivial _).mono ?_
   rintro e w1 ⟨rfl,hb1⟩
   have hX1:=(hb1.block _ (qg HX0.out)).trans HX0.out
   have HB1:=qh (qab HB0.out HB0.out.size hb1)
   have d0:=rc hX1 0 rfl
   clear hb1 HB0 HX0 hX1
   go_wp2_with fail
   go_ret
   exact ⟨by rw [HOK.out,Bool.and_true];exact congrArg (fun b=>Ending.returned (.bool b)) HLI.out,HB1.out⟩
def trF3 (t:Tr):List Fd:=[⟨0,t.to,[]⟩,⟨t.am,[],[]⟩,⟨t.no,[],[]⟩]
def trC3 (t:Tr):List Value:=[.int .u64 0,.string (bs t.to),.slice none 0 0,.int .u64 (t.am:Int),.string (bs []),.slice none 0 0,.int .u64 (t.no:Int),.string (bs []),.slice none 0 0]
theorem qcc {S:Nat→Prop} {w:World} (n:Nat) (b:Bytes):Rep S w (fdD ⟨n,b,[]⟩) [.int .u64 (n:Int),.string (bs b),.slice none 0 0]:=qix (f:=⟨n,b,[]⟩) (A:=none) (c:=0) (Rep.nil_slice 3)
theorem qkn {S:Nat→Prop} {w:World} (t:Tr):RepN S w 3 (fdsD (trF3 t)) (trC3 t) :=
 .cons (qcc 0 t.to) rfl (.cons (qcc t.am []) rfl (.cons (cs':=[]) (qcc t.no []) rfl .nil))
def FieldsPost (t:Tr) (w:World) (e:Ending) (w':World):Prop:=∃ g,e=.returned (.slice (some ⟨g,0,none⟩) 3 3)∧w'.ownsRow w.heap.size 81 3 (.slice (some ⟨g,0,none⟩) 3 3) 3 (trC3 t)∧Below w.heap.size w w'
theorem qfm (t:Tr) (w:World):Calls Tryz.prog 43 #[.agg (trR t)] w (FieldsPost t w):=by
 have hX:=heap_alloc_new w (.cells (trR t) 28)
 have HX0:=qh hX
 have HB0:=qh ((Below.refl w.heap.size w).alloc qn (.cells (trR t) 28))
 have c0:=rc (u:=.string (bs t.to)) hX 0 rfl
 have c1:=rc (u:=.int .u64 (t.am:Int)) hX 1 rfl
 have c2:=rc (u:=.int .u64 (t.no:Int)) hX 2 rfl
 have c3:=rc (u:=.int .u64 (t.sg.r.a:Int)) hX 3 rfl
 have c4:=rc (u:=.int .u64 (t.sg.r.b:Int)) hX 4 rfl
 have c5:=rc (u:=.int .u64 (t.sg.r.c:Int)) hX 5 rfl
 have c6:=rc (u:=.int .u64 (t.sg.r.d:Int)) hX 6 rfl
 have c7:=rc (u:=.int .u64 (t.sg.s.a:Int)) hX 7 rfl
 have c8:=rc (u:=.int .u64 (t.sg.s.b:Int)) hX 8 rfl
 have c9:=rc (u:=.int .u64 (t.sg.s.c:Int)) hX 9 rfl
 have c10:=rc (u:=.int .u64 (t.sg.s.d:Int)) hX 10 rfl
 have c11:=rc (u:=.int .i64 t.sg.v) hX 11 rfl
 clear hX
 go_enter Tryz.func43,Tryz.ntmps43
 go_wp2_with fail
 go_ret
 refine ⟨w.heap.size+1,rfl,?_,((Below.refl _ _).alloc qn _).alloc (by simp) _⟩
 have:=World.ownsRow_lit (base:=w.heap.size) (e:=81) (size:=3) (w.alloc (.cells (trR t) 28)) (trC3 t).toArray 3 (by simp) (by simp [maxLen]) rfl
 simp only [World.size_alloc] at this
 exact this
theorem qqg (t:Tr) (h:t.Wf) (hk:okTr t=true) (A:Option Addr) (c:Nat) (w:World) (hv:FdsV Any w (trF t) A c) :
  Calls Tryz.prog 42 #[.string ⟨#[97,110,110,115]⟩,.slice A 4 c] w fun e w'=>e=.returned (.tuple #[.string (bs (trB t)),.int .i64 0])∧Below w.heap.size w w':=by
 have h1:=qgh trK qn9 (by decide) (by decide) (trF t) (qcy h) (by show 4≤1000;decide) (fun f hf=>by simp only [trF,List.mem_cons,List.not_mem_nil,or_false] at hf;rcases hf with rfl | rfl | rfl | rfl <;> exact Nat.zero_le _) A c w hv
 have h2:fwP trK (trF t)=(trB t,0):=by
  unfold fwP
  rw [if_pos (qdf hk),qel (by decide) (qdf hk) (qcy h) (by have:=qh5 hk h;unfold trB at this;omega)]
  rfl
 rw [h2] at h1
 exact h1
theorem qmg (t:Tr) (h:t.Wf) (h63:t.to.length≤9223372036854775807) (hk:okTr t=false) (w:World):Calls Tryz.prog 8 #[.agg (trR t)] w fun e w'=>e=.returned (.tuple #[.string (bs []),.int .i64 1])∧Below w.heap.size w w':=by
 have hR:=fun W:World=>qe2 t h h63 W
 rw [hk] at hR
 have HR:=qh hR
 have HB0:=qh ((Below.refl w.heap.size w).alloc qn (.cells (trR t) 28))
 clear hR hk h h63
 go_enter Tryz.func8,Tryz.ntmps8
 go_wp2_with fail
 refine (HR.out _).mono ?_
 rintro e w1 ⟨rfl,hb1⟩
 have HB1:=qh (qab HB0.out HB0.out.size hb1)
 clear hb1 HB0
 go_wp2_with fail
 go_ret2
 exact ⟨rfl,HB1.out⟩
theorem qjl (t:Tr) (h:t.Wf) (hk:okTr t=true) (w:World):Calls Tryz.prog 8 #[.agg (trR t)] w fun e w'=>e=.returned (.tuple #[.string (bs (trB t)),.int .i64 0])∧Below w.heap.size w w':=by
 have hk2:=hk
 unfold okTr at hk2
 simp only [Bool.and_eq_true,beq_iff_eq] at hk2
 have hR:=fun W:World=>qe2 t h (by rw [hk2.1];decide) W
 rw [hk] at hR
 have HR:=qh hR
 have HS:=qh (fun W:World=>qiu t.sg h.sg hk2.2 W)
 have HF:=qh (fun W:World=>qfm t W)
 have HW:=qh (fun A c (W:World) hv=>qqg t h hk A c W hv)
 have hX:=heap_alloc_new w (.cells (trR t) 28)
 have HX0:=qh hX
 have HB0:=qh ((Below.refl w.heap.size w).alloc qn (.cells (trR t) 28))
 clear hX hR hk h hk2
 go_enter Tryz.func8,Tryz.ntmps8
 go_wp2_with fail
 refine (HR.out _).mono ?_
 rintro e w1 ⟨rfl,hb1⟩
 have hX1:=(hb1.block _ (qg HX0.out)).trans HX0.out
 have HB1:=qh (qab HB0.out HB0.out.size hb1)
 have c0:=rc (u:=.string (bs t.to)) hX1 0 rfl
 have c1:=rc (u:=.int .u64 (t.am:Int)) hX1 1 rfl
 have c2:=rc (u:=.int .u64 (t.no:Int)) hX1 2 rfl
 have c3:=rc (u:=.int .u64 (t.sg.r.a:Int)) hX1 3 rfl
 have c4:=rc (u:=.int .u64 (t.sg.r.b:Int)) hX1 4 rfl
 have c5:=rc (u:=.int .u64 (t.sg.r.c:Int)) hX1 5 rfl
 have c6:=rc (u:=.int .u64 (t.sg.r.d:Int)) hX1 6 rfl
 have c7:=rc (u:=.int .u64 (t.sg.s.a:Int)) hX1 7 rfl
 have c8:=rc (u:=.int .u64 (t.sg.s.b:Int)) hX1 8 rfl
 have c9:=rc (u:=.int .u64 (t.sg.s.c:Int)) hX1 9 rfl
 have c10:=rc (u:=.int .u64 (t.sg.s.d:Int)) hX1 10 rfl
 have c11:=rc (u:=.int .i64 t.sg.v) hX1 11 rfl
 have HX1:=qh hX1
 clear hb1 HB0 HX0 hX1
 go_wp2_with fail
 refine (HS.out _).mono ?_
 rintro e w2 ⟨rfl,hb2⟩
 have hX2:=(hb2.block _ (qg HX1.out)).trans HX1.out
 have HB2:=qh (qab HB1.out HB1.out.size hb2)
 clear hb2 HB1 HX1 c0 c1 c2 c3 c4 c5 c6 c7 c8 c9 c10 c11
 have c0:=rc (u:=.string (bs t.to)) hX2 0 rfl
 have c1:=rc (u:=.int .u64 (t.am:Int)) hX2 1 rfl
 have c2:=rc (u:=.int .u64 (t.no:Int)) hX2 2 rfl
 have c3:=rc (u:=.int .u64 (t.sg.r.a:Int)) hX2 3 rfl
 have c4:=rc (u:=.int .u64 (t.sg.r.b:Int)) hX2 4 rfl
 have c5:=rc (u:=.int .u64 (t.sg.r.c:Int)) hX2 5 rfl
 have c6:=rc (u:=.int .u64 (t.sg.r.d:Int)) hX2 6 rfl
 have c7:=rc (u:=.int .u64 (t.sg.s.a:Int)) hX2 7 rfl
 have c8:=rc (u:=.int .u64 (t.sg.s.b:Int)) hX2 8 rfl
 have c9:=rc (u:=.int .u64 (t.sg.s.c:Int)) hX2 9 rfl
 have c10:=rc (u:=.int .u64 (t.sg.s.d:Int)) hX2 10 rfl
 have c11:=rc (u:=.int .i64 t.sg.v) hX2 11 rfl
 clear hX2
 go_wp2_with fail
 refine (HF.out _).mono ?_
 rintro e w3 ⟨g,rfl,hown,hb3⟩
 have HB3:=qh (qab HB2.out HB2.out.size hb3)
 have hle:w2.heap.size≤w3.heap.size:=hb3.size
 have hle2:w.heap.size≤w2.heap.size:=HB2.out.size
 have HO:=qh hown
 clear hb3 HB2 hown c0 c1 c2 c3 c4 c5 c6 c7 c8 c9 c10 c11
 go_wp2_with (at_builtin;refine qaw qck rfl rfl w2.heap.size (HO.out.alloc _) rfl (m:=1) [.int .u64 0,.string (bs (sgB t.sg)),.slice none 0 0] rfl rfl (qbi _ _ _) ?_ ?_ ?_ ?_ ?_;(intro u hu;simp at hu;rcases hu with rfl | rfl | rfl <;> rfl);(simp [maxLen]);omega;(simp;omega);intro v1 w4 hown1 hg1 hat1;obtain ⟨A4,c4,rfl⟩:=qau hown1)
 have hba:Below w3.heap.size w3 (w3.alloc (.cells #[.int .u64 0,.string (bs (sgB t.sg)),.slice none 0 0] 81)):=(Below.refl _ _).alloc qn _
 have hb4:=qay (qab HB3.out HB3.out.size hba) (qax HO.out hba) hg1 (by simp;have:=HB3.out.size;omega) hle2
 have hv:FdsV Any w4 (trF t) A4 c4:=by
  have:=qb2 (S:=Any) hown1 (RepN.snoc (qcc 0 (sgB t.sg)) rfl (qkn t)) (by rfl) (fun _ _ _=>trivial)
  exact this
 have HB4:=qh hb4
 have HV:=qh hv
 clear hba hb4 hv hown1 hg1 hat1 HB3 HO
 refine (HW.out A4 c4 w4 HV.out).mono ?_
 rintro e w5 ⟨rfl,hb5⟩
 have HB5:=qh (qab HB4.out HB4.out.size hb5)
 clear hb5 HB4 HV
 go_wp2_with fail
 go_ret2
 exact ⟨rfl,HB5.out⟩
theorem tsum_no (t:Tr) (h:t.Wf) (h63:t.to.length≤9223372036854775807) (hk:okTr t=false) (w:World):Calls Tryz.prog 9 #[.agg (trR t)] w fun e w'=>e=.returned (.tuple #[.string (bs []),.int .i64 1])∧Below w.heap.size w w':=by
 have HR:=qh (fun W:World=>qmg t h h63 hk W)
 have HB0:=qh ((Below.refl w.heap.size w).alloc qn (.cells (trR t) 28))
 clear hk h h63
 go_enter Tryz.func9,Tryz.ntmps9
 go_wp2_with fail
 refine (HR.out _).mono ?_
 rintro e w1 ⟨rfl,hb1⟩
 have HB1:=qh (qab HB0.out HB0.out.size hb1)
 clear hb1 HB0
 go_wp2_with fail
 go_ret2
 exact ⟨rfl,HB1.out⟩
theorem tsum_yes (t:Tr) (h:t.Wf) (hk:okTr t=true) (w:World):Calls Tryz.prog 9 #[.agg (trR t)] w fun e w'=>e=.returned (.tuple #[.string (bs (sumK (trB t))),.int .i64 0])∧Below w.heap.size w w':=by
 have HR:=qh (fun W:World=>qjl t h hk W)
 have HS:=qh (fun W:World=>qtr (trB t) (by have:=qh5 hk h;omega) W)
 have HB0:=qh ((Below.refl w.heap.size w).alloc qn (.cells (trR t) 28))
 clear hk h
 go_enter Tryz.func9,Tryz.ntmps9
 go_wp2_with fail
 refine (HR.out _).mono ?_
 rintro e w1 ⟨rfl,hb1⟩
 have HB1:=qh (qab HB0.out HB0.out.size hb1)
 clear hb1 HB0
 go_wp2_with fail
 refine (HS.out _).mono ?_
 rintro e w2 ⟨rfl,hb2⟩
 have HB2:=qh (qab HB1.out HB1.out.size hb2)
 clear hb2 HB1
 go_wp2_with fail
 go_ret2
 exact ⟨rfl,HB2.out⟩
/- The walk of header.Right. -/
def sgL (x:Sg):List Value:=[.int .u64 (x.r.a:Int),.int .u64 (x.r.b:Int),.int .u64 (x.r.c:Int),.int .u64 (x.r.d:Int),.int .u64 (x.s.a:Int),.int .u64 (x.s.b:Int),.int .u64 (x.s.c:Int),.int .u64 (x.s.d:Int),.int .i64 x.v]
def SgsV (S:Nat→Prop) (w:World) (l:List Sg) (A:Option Addr) (c:Nat):Prop:=PlV S w 9 (l.map sgL) A c
/-- a header in memory -/
structure HdV (S:Nat→Prop) (w:World) (h:Hd) (Av:Option Addr) (cv:Nat) (As:Option Addr) (cs:Nat):Prop where
 vals:StrV S w h.vals Av cv
 seals:SgsV S w h.seals As cs
theorem HdV.keep {S:Nat→Prop} {w w':World} {h:Hd} {Av As:Option Addr} {cv cs:Nat} (x:HdV S w h Av cv As cs) (hb:Below w.heap.size w w'):HdV S w' h Av cv As cs:=⟨StrV.keep x.vals hb,PlV.keep x.seals hb⟩
/- The walks of header.record, Bytes. -/
def strL (l:List Bytes):List Value:=l.map fun s=>Value.string (bs s)
/- The walk of tx.Digest. -/
def tdK:List Kd:=[⟨98,false⟩,⟨97,false⟩,⟨110,false⟩,⟨110,false⟩]
theorem tdK_ok:OkForm tdK:=by
 intro k hk
 simp only [tdK,List.mem_cons,List.not_mem_nil,or_false] at hk
 rcases hk with rfl | rfl | rfl | rfl <;> simp [okC]
def markF:Fd:=⟨0,[116,120],[]⟩
def tdF (t:Tr):List Fd:=markF :: trF3 t
def tdB (t:Tr):Bytes:=writeP (recF tdK (tdF t))
def digP (t:Tr):Bytes:=sumK (tdB t)
theorem qis {t:Tr} (h:t.Wf):smallF (tdF t):=by
 intro f hf
 simp only [tdF,trF3,List.mem_cons,List.not_mem_nil,or_false] at hf
 rcases hf with rfl | rfl | rfl | rfl
 ·exact ⟨qig,fun x hx=>by cases hx⟩
 ·exact ⟨qig,fun x hx=>by cases hx⟩
 ·exact ⟨h.am,fun x hx=>by cases hx⟩
 ·exact ⟨h.no,fun x hx=>by cases hx⟩
theorem qn6 (t:Tr):fitsP tdK (tdF t)=(t.to.length == 20):=by
 simp [fitsP,tdK,tdF,trF3,markF,fitF,fitC,sizeC]
theorem qno {t:Tr} (h:t.to.length=20) (hw:t.Wf):(tdB t).length≤120:=by
 have h0:=qdj [116,120] (by decide)
 have h1:=qdj t.to (by omega)
 have h2:=qg7 hw.am
 have h3:=qg7 hw.no
 have hl:(writesP (itemsF tdK (tdF t))).length=(writeP (leafIt [116,120])).length+((writeP (leafIt t.to)).length+((writeP (leafIt (digs t.am))).length+((writeP (leafIt (digs t.no))).length+0))):=by
  simp only [tdK,tdF,markF,trF3,itemsF,itemF,lfI,writesP,List.length_append,List.length_nil]
  rfl
 unfold tdB recF
 rw [qg6]
 have:=qb4 192 (writesP (itemsF tdK (tdF t))).length (by simp at h0;omega)
 simp at h0
 omega
theorem fwP_td (t:Tr) (h:t.Wf):fwP tdK (tdF t)=if t.to.length=20 then (tdB t,0) else ([],1):=by
 unfold fwP
 rw [qn6]
 by_cases h20:t.to.length=20
 ·rw [if_pos h20,if_pos (by simp [h20]),qel (by decide) (by rw [qn6];simp [h20]) (qis h) (by have:=qno h20 h;unfold tdB at this;omega)]
  rfl
 ·rw [if_neg h20,if_neg (by simp [h20])]
theorem qr8 (t:Tr) (h:t.Wf) (A:Option Addr) (c:Nat) (w:World) (hv:FdsV Any w (tdF t) A c) :
  Calls Tryz.prog 42 #[.string ⟨#[98,97,110,110]⟩,.slice A 4 c] w fun e w'=>e=.returned (.tuple #[.string (bs (if t.to.length=20 then tdB t else [])),.int .i64 (if t.to.length=20 then 0 else 1)])∧Below w.heap.size w w':=by
 have h1:=qgh tdK tdK_ok (by decide) (by decide) (tdF t) (qis h) (by show 4≤1000;decide) (fun f hf=>by simp only [tdF,trF3,List.mem_cons,List.not_mem_nil,or_false] at hf;rcases hf with rfl | rfl | rfl | rfl <;> exact Nat.zero_le _) A c w hv
 rw [fwP_td t h] at h1
 by_cases h20:t.to.length=20
 ·rw [if_pos h20] at h1;rw [if_pos h20,if_pos h20];exact h1
 ·rw [if_neg h20] at h1;rw [if_neg h20,if_neg h20];exact h1
theorem qhw (t:Tr) (h:t.Wf) (h20:t.to.length=20) (w:World):Calls Tryz.prog 10 #[.agg (trR t)] w fun e w'=>e=.returned (.tuple #[.string (bs (digP t)),.int .i64 0])∧Below w.heap.size w w':=by
 have HF:=qh (fun W:World=>qfm t W)
 have HW:=fun A c (W:World) hv=>qr8 t h A c W hv
 simp only [if_pos h20] at HW
 have HW:=qh HW
 have HS:=qh (fun W:World=>qtr (tdB t) (by have:=qno h20 h;omega) W)
 have hX:=heap_alloc_new w (.cells (trR t) 28)
 have hB0:=(Below.refl w.heap.size w).alloc qn (.cells (trR t) 28)
 have hX1:=(heap_alloc_old (w.alloc (.cells (trR t) 28)) (.cells #[.int .u64 0,.string ⟨#[116,120]⟩,.slice none 0 0] 81) (qg hX)).trans hX
 have hown0:=World.ownsRow_lit (base:=w.heap.size) (e:=81) (size:=3) (w.alloc (.cells (trR t) 28)) #[.int .u64 0,.string ⟨#[116,120]⟩,.slice none 0 0] 1 (by simp) (by simp [maxLen]) rfl
 have hB1:=hB0.alloc (by simp) (.cells #[.int .u64 0,.string ⟨#[116,120]⟩,.slice none 0 0] 81)
 have HO0:=qh (And.intro hown0 hB1)
 have c0:=rc (u:=.string (bs t.to)) hX1 0 rfl
 have c1:=rc (u:=.int .u64 (t.am:Int)) hX1 1 rfl
 have c2:=rc (u:=.int .u64 (t.no:Int)) hX1 2 rfl
 have c3:=rc (u:=.int .u64 (t.sg.r.a:Int)) hX1 3 rfl
 have c4:=rc (u:=.int .u64 (t.sg.r.b:Int)) hX1 4 rfl
 have c5:=rc (u:=.int .u64 (t.sg.r.c:Int)) hX1 5 rfl
 have c6:=rc (u:=.int .u64 (t.sg.r.d:Int)) hX1 6 rfl
 have c7:=rc (u:=.int .u64 (t.sg.s.a:Int)) hX1 7 rfl
 have c8:=rc (u:=.int .u64 (t.sg.s.b:Int)) hX1 8 rfl
 have c9:=rc (u:=.int .u64 (t.sg.s.c:Int)) hX1 9 rfl
 have c10:=rc (u:=.int .u64 (t.sg.s.d:Int)) hX1 10 rfl
 have c11:=rc (u:=.int .i64 t.sg.v) hX1 11 rfl
 clear hX hX1 hB0 hB1 hown0 h h20
 go_enter Tryz.func10,Tryz.ntmps10
 go_wp2_with fail
 refine (HF.out _).mono ?_
 rintro e w3 ⟨g,rfl,hown,hb3⟩
 have hown0:=qax HO0.out.1 hb3
 have hB3:=qab HO0.out.2 (HO0.out.2).size hb3
 simp only [World.size_alloc] at hown0
 have hsz:=hB3.size
 have HL:=qh (qce (S:=Any) hown (fun _ _ _=>trivial))
 have HO:=qh (And.intro hown0 hB3)
 clear hb3 hown hown0 hB3 HO0 c0 c1 c2 c3 c4 c5 c6 c7 c8 c9 c10 c11
 go_wp2_with (at_builtin;refine qaw qck rfl rfl w.heap.size HO.out.1 rfl (m:=3) (trC3 t) rfl rfl HL.out ?_ ?_ ?_ ?_ ?_;(intro u hu;simp [trC3] at hu;rcases hu with rfl | rfl | rfl | rfl | rfl | rfl | rfl | rfl | rfl <;> rfl);(simp [maxLen]);omega;exact hsz;intro v1 w4 hown1 hg1 hat1;obtain ⟨A4,c4,rfl⟩:=qau hown1)
 have hb4:=qay HO.out.2 HO.out.1 hg1 hsz qn
 have hv:FdsV Any w4 (tdF t) A4 c4:=by
  have:=qb2 (S:=Any) hown1 (RepN.cons (qcc 0 [116,120]) rfl (qkn t)) (by rfl) (fun _ _ _=>trivial)
  exact this
 have HB4:=qh hb4
 have HV:=qh hv
 clear hb4 hv hown1 hg1 hat1 HO HL hsz
 refine (HW.out A4 c4 w4 HV.out).mono ?_
 rintro e w5 ⟨rfl,hb5⟩
 have HB5:=qh (qab HB4.out HB4.out.size hb5)
 clear hb5 HB4 HV
 go_wp2_with fail
 refine (HS.out _).mono ?_
 rintro e w6 ⟨rfl,hb6⟩
 have HB6:=qh (qab HB5.out HB5.out.size hb6)
 clear hb6 HB5
 go_wp2_with fail
 go_ret2
 exact ⟨rfl,HB6.out⟩
theorem qpc (t:Tr) (h:t.Wf) (h20:¬ t.to.length=20) (w:World):Calls Tryz.prog 10 #[.agg (trR t)] w fun e w'=>e=.returned (.tuple #[.string (bs []),.int .i64 1])∧Below w.heap.size w w':=by
 have HF:=qh (fun W:World=>qfm t W)
 have HW:=fun A c (W:World) hv=>qr8 t h A c W hv
 simp only [if_neg h20] at HW
 have HW:=qh HW
 have hX:=heap_alloc_new w (.cells (trR t) 28)
 have hB0:=(Below.refl w.heap.size w).alloc qn (.cells (trR t) 28)
 have hX1:=(heap_alloc_old (w.alloc (.cells (trR t) 28)) (.cells #[.int .u64 0,.string ⟨#[116,120]⟩,.slice none 0 0] 81) (qg hX)).trans hX
 have hown0:=World.ownsRow_lit (base:=w.heap.size) (e:=81) (size:=3) (w.alloc (.cells (trR t) 28)) #[.int .u64 0,.string ⟨#[116,120]⟩,.slice none 0 0] 1 (by simp) (by simp [maxLen]) rfl
 have hB1:=hB0.alloc (by simp) (.cells #[.int .u64 0,.string ⟨#[116,120]⟩,.slice none 0 0] 81)
 have HO0:=qh (And.intro hown0 hB1)
 have c0:=rc (u:=.string (bs t.to)) hX1 0 rfl
 have c1:=rc (u:=.int .u64 (t.am:Int)) hX1 1 rfl
 have c2:=rc (u:=.int .u64 (t.no:Int)) hX1 2 rfl
 have c3:=rc (u:=.int .u64 (t.sg.r.a:Int)) hX1 3 rfl
 have c4:=rc (u:=.int .u64 (t.sg.r.b:Int)) hX1 4 rfl
 have c5:=rc (u:=.int .u64 (t.sg.r.c:Int)) hX1 5 rfl
 have c6:=rc (u:=.int .u64 (t.sg.r.d:Int)) hX1 6 rfl
 have c7:=rc (u:=.int .u64 (t.sg.s.a:Int)) hX1 7 rfl
 have c8:=rc (u:=.int .u64 (t.sg.s.b:Int)) hX1 8 rfl
 have c9:=rc (u:=.int .u64 (t.sg.s.c:Int)) hX1 9 rfl
 have c10:=rc (u:=.int .u64 (t.sg.s.d:Int)) hX1 10 rfl
 have c11:=rc (u:=.int .i64 t.sg.v) hX1 11 rfl
 clear hX hX1 hB0 hB1 hown0 h h20
 go_enter Tryz.func10,Tryz.ntmps10
 go_wp2_with fail
 refine (HF.out _).mono ?_
 rintro e w3 ⟨g,rfl,hown,hb3⟩
 have hown0:=qax HO0.out.1 hb3
 have hB3:=qab HO0.out.2 (HO0.out.2).size hb3
 simp only [World.size_alloc] at hown0
 have hsz:=hB3.size
 have HL:=qh (qce (S:=Any) hown (fun _ _ _=>trivial))
 have HO:=qh (And.intro hown0 hB3)
 clear hb3 hown hown0 hB3 HO0 c0 c1 c2 c3 c4 c5 c6 c7 c8 c9 c10 c11
 go_wp2_with (at_builtin;refine qaw qck rfl rfl w.heap.size HO.out.1 rfl (m:=3) (trC3 t) rfl rfl HL.out ?_ ?_ ?_ ?_ ?_;(intro u hu;simp [trC3] at hu;rcases hu with rfl | rfl | rfl | rfl | rfl | rfl | rfl | rfl | rfl <;> rfl);(simp [maxLen]);omega;exact hsz;intro v1 w4 hown1 hg1 hat1;obtain ⟨A4,c4,rfl⟩:=qau hown1)
 have hb4:=qay HO.out.2 HO.out.1 hg1 hsz qn
 have hv:FdsV Any w4 (tdF t) A4 c4:=by
  have:=qb2 (S:=Any) hown1 (RepN.cons (qcc 0 [116,120]) rfl (qkn t)) (by rfl) (fun _ _ _=>trivial)
  exact this
 have HB4:=qh hb4
 have HV:=qh hv
 clear hb4 hv hown1 hg1 hat1 HO HL hsz
 refine (HW.out A4 c4 w4 HV.out).mono ?_
 rintro e w5 ⟨rfl,hb5⟩
 have HB5:=qh (qab HB4.out HB4.out.size hb5)
 clear hb5 HB4 HV
 go_wp2_with fail
 go_ret2
 exact ⟨rfl,HB5.out⟩
end Go.Proofs.YteoednifdpdbnaaGreat
