/- The walk of sign.Bytes. -/
import Derived.Test.YteoednifdpdbnaaGreatZ20
import Derived.Test.YteoednifdpdbnaaGreatZ25
import Derived.Test.YteoednifdpdbnaaGreatZ08
namespace Go.Proofs.YteoednifdpdbnaaGreat
set_option linter.unusedVariables false
set_option linter.unusedSimpArgs false
open Go.RowKit
set_option maxHeartbeats 8000000
set_option maxRecDepth 100000
theorem qsx {w:World} {g:Nat} {cs:Array Value} {e:TypeId} (h:w.heap[g]? = some (.cells cs e (0,0))) (o:Nat) {a b c d:Value} (h0:cs[o+0]? = some a) (h1:cs[o+1]? = some b) (h2:cs[o+2]? = some c) (h3:cs[o+3]? = some d) :
  ∀ (j:Nat) (u:Value),([a,b,c,d]:List Value)[j]? = some u→w.cell? ⟨g,o+j,none⟩=some u:=fun j u hj=>by
 match j,hj with
 | 0,hj=>simp at hj;subst hj;exact rc h _ h0
 | 1,hj=>simp at hj;subst hj;exact rc h _ h1
 | 2,hj=>simp at hj;subst hj;exact rc h _ h2
 | 3,hj=>simp at hj;subst hj;exact rc h _ h3
 | _+4,hj=>simp at hj
theorem byte_v (v:Int):([UInt8.ofNat (v % 256).toNat]:List UInt8).map cellB = [.int .u8 (v % 256)]:=by
 have h:(UInt8.ofNat (v % 256).toNat).toNat=(v % 256).toNat:=by simp;omega
 simp only [List.map_cons,List.map_nil,cellB,h]
 congr 2
 omega
theorem wrap_u8v (v:Int):IntKind.u8.wrap v=v % 256:=by simp [IntKind.wrap,IntKind.signed,IntKind.bits]
theorem qdk {c:Prop} {d:Decidable c} {A B:Prop} (h:c) (ha:A):@ite Prop c d A B:=by rw [if_pos h];exact ha
theorem qi1 (x:U4) (h:x.Wf) (w:World):Calls Tryz.prog 92 #[.agg #[.int .u64 (x.a:Int),.int .u64 (x.b:Int),.int .u64 (x.c:Int),.int .u64 (x.d:Int)]] w fun e w'=>e=.returned (.string (bs (uB x)))∧Below w.heap.size w w':=qgi x h w
theorem qqv (x:Sg) (hR:∀ W:World,Calls Tryz.prog 91 #[.agg (sgR x)] W fun e w'=>e=.returned (.bool false)∧Below W.heap.size W w') (w:World):Calls Tryz.prog 41 #[.agg (sgR x)] w fun e w'=>e=.returned (.tuple #[.string (bs []),.int .i64 1])∧Below w.heap.size w w':=by
 have HB:=qh ((Below.refl w.heap.size w).alloc qn (.cells (sgR x) 26))
 have HR:=qh hR
 clear hR
 go_enter Tryz.func41,Tryz.ntmps41
 go_wp2_with fail
 refine (HR.out _).mono ?_
 rintro e w1 ⟨rfl,hb1⟩
 have HB1:=qh (qac HB.out HB.out.size hb1)
 clear hb1
 go_wp2_with fail
 go_ret2
 exact ⟨rfl,HB1.out⟩
theorem qoq (x:Sg) (ta tb:Bytes) (tc:UInt8) (hta:ta.length=32) (htb:tb.length=32) (htc:cellB tc=.int .u8 (x.v % 256)) (hUR:∀ W:World,Calls Tryz.prog 92 #[.agg #[.int .u64 (x.r.a:Int),.int .u64 (x.r.b:Int),.int .u64 (x.r.c:Int),.int .u64 (x.r.d:Int)]] W fun e w'=>e=.returned (.string (bs ta))∧Below W.heap.size W w') (hUS:∀ W:World,Calls Tryz.prog 92 #[.agg #[.int .u64 (x.s.a:Int),.int .u64 (x.s.b:Int),.int .u64 (x.s.c:Int),.int .u64 (x.s.d:Int)]] W fun e w'=>e=.returned (.string (bs tb))∧Below W.heap.size W w')
  (hR:∀ W:World,Calls Tryz.prog 91 #[.agg (sgR x)] W fun e w'=>e=.returned (.bool true)∧Below W.heap.size W w') (w:World):Calls Tryz.prog 41 #[.agg (sgR x)] w fun e w'=>e=.returned (.tuple #[.string (bs (ta ++ tb ++ [tc])),.int .i64 0])∧Below w.heap.size w w':=by
 have hX:=heap_alloc_new w (.cells (sgR x) 26)
 have HB:=qh ((Below.refl w.heap.size w).alloc qn (.cells (sgR x) 26))
 have HX:=qh hX
 have HUR:=qh hUR
 have HUS:=qh hUS
 have HR:=qh hR
 have HTA:=qh hta
 have HTB:=qh htb
 have HTC:=qh htc
 clear hX hUR hUS hR hta htb htc
 go_enter Tryz.func41,Tryz.ntmps41
 go_wp2_with fail
 refine (HR.out _).mono ?_
 rintro e W0 ⟨rfl,hb1⟩
 have hX:=(hb1.block _ (qg HX.out)).trans HX.out
 have hB:=qac HB.out HB.out.size hb1
 have HX1:=qh hX
 have HB1:=qh hB
 clear hb1 HX HB HR hX hB
 go_wp2_with fail
 have hX:W0.drew.heap[w.heap.size]? = some (.cells (sgR x) 26 (0,0)):=HX1.out
 have hB:Below w.heap.size w W0.drew:=HB1.out.drew
 clear HX1 HB1
 refine qat [(99,fun w'=>w'.heap[w.heap.size]? = some (.cells (sgR x) 26 (0,0)))] (by kernel_rfl) ?_
 generalize W0.drew=W at hX hB ⊢
 refine R_p (i:=0) (v:=.pointer (some ⟨w.heap.size,0,none⟩)) (Mh hX Mn) ?_
 refine R_p (i:=3) (v:=.pointer (some ⟨w.heap.size,4,none⟩)) (Mh hX Mn) ?_
 refine R_p (i:=7) (v:=.pointer (some ⟨w.heap.size,8,none⟩)) (Mh hX Mn) ?_
 refine R_l (i:=1) (v:=.agg #[.int .u64 (x.r.a:Int),.int .u64 (x.r.b:Int),.int .u64 (x.r.c:Int),.int .u64 (x.r.d:Int)]) 99 _ List.mem_cons_self rfl (qd0 rfl rfl (g:=w.heap.size) (o:=0) rfl [.int .u64 (x.r.a:Int),.int .u64 (x.r.b:Int),.int .u64 (x.r.c:Int),.int .u64 (x.r.d:Int)] (fun w' hS=>qsx hS 0 rfl rfl rfl rfl) Tryz.underlying24 rfl infoU) (Mh hX Mn) ?_
 refine R_l (i:=4) (v:=.agg #[.int .u64 (x.s.a:Int),.int .u64 (x.s.b:Int),.int .u64 (x.s.c:Int),.int .u64 (x.s.d:Int)]) 99 _ List.mem_cons_self rfl (qd0 rfl rfl (g:=w.heap.size) (o:=4) rfl [.int .u64 (x.s.a:Int),.int .u64 (x.s.b:Int),.int .u64 (x.s.c:Int),.int .u64 (x.s.d:Int)] (fun w' hS=>qsx hS 4 rfl rfl rfl rfl) Tryz.underlying24 rfl infoU) (Mh hX Mn) ?_
 refine R_l (i:=8) (v:=.int .i64 x.v) 99 _ List.mem_cons_self rfl (qag rfl rfl rfl (fun w' hS=>rc hS 8 rfl) Tryz.underlying3 rfl) (Mh hX Mn) ?_
 refine R_p (i:=9) (v:=.int .u8 (x.v % 256)) (Mh hX Mn) ?_ (hy:=by intro w';go_simp;exact wrap_u8v _)
 refine qeh (rs:=[2,10]) (by kernel_rfl) (by simp) ?_
 refine AllReadyR.cons rfl (fun K hK=>?_) (AllReadyR.cons rfl (fun K hK=>?_) AllReadyR.nil)
 go_simp
 refine (HUR.out _).mono ?_
 rintro e w2 ⟨rfl,hb2⟩
 replace hX:=(hb2.block _ (qg hX)).trans hX
 replace hB:=qac hB hB.size hb2
 clear hb2
 refine hK.out _ _ (Mh hX Mn) (fun hMeets=>?_)
 clear hK K hMeets
 refine lay_R ?_
 refine qeh (rs:=[5,10]) (by kernel_rfl) (by simp) ?_
 refine AllReadyR.cons rfl (fun K hK=>?_) (AllReadyR.cons rfl (fun K hK=>?_) AllReadyR.nil)
 go_simp
 refine (HUS.out _).mono ?_
 rintro e w5 ⟨rfl,hb5⟩
 replace hX:=(hb5.block _ (qg hX)).trans hX
 replace hB:=qac hB hB.size hb5
 clear hb5
 refine hK.out _ _ (Mh hX Mn) (fun hMeets=>?_)
 clear hK K hMeets
 refine lay_R ?_
 refine R_p (i:=6) (v:=.string (bs (ta ++ tb))) (Mh hX Mn) ?_ (hy:=by intro w';go_simp;rw [HTA.out,HTB.out];decide)
 refine R_now 10 fun K hK=>?_
 have hbb:Below w5.heap.size w5 (w5.alloc (.cells #[.int .u8 (x.v % 256)] 5)):=(Below.refl _ _).alloc qn _
 obtain ⟨b10,hb10⟩:∃ b10,w5.heap.size=b10:=⟨_,rfl⟩
 have hR10:=heap_alloc_new w5 (.cells #[.int .u8 (x.v % 256)] 5)
 rw [hb10] at hR10
 replace hX:=(hbb.block _ (qg hX)).trans hX
 replace hB:=qac hB hB.size hbb
 go_simp
 generalize w5.alloc (.cells #[.int .u8 (x.v % 256)] 5)=w10 at *
 try rw [hb10]
 clear hbb hb10
 refine hK.out _ _ (Mh hX Mn) (fun hMeets=>?_)
 clear hK K hMeets
 refine lay_R ?_
 refine R_now 11 fun K hK=>?_
 have hcv:=qa3 (P:=Tryz.prog) (w:=w10) (src:=97) (dst:=9) (e:=5) (A:=some ⟨b10,0,none⟩) (c:=1) (l:=[tc]) Tryz.underlying97 Tryz.underlying5 Tryz.underlying9 (qcn hR10 (fun j u hj=>by rw [List.map_cons,List.map_nil,HTC.out] at hj;simpa using hj))
 simp only [List.length_singleton] at hcv
 go_simp
 clear hcv
 refine hK.out _ _ (Mh hX Mn) (fun hMeets=>?_)
 clear hK K hMeets
 refine lay_R ?_
 refine R_p (i:=12) (v:=.string (bs (ta ++ tb ++ [tc]))) (Mh hX Mn) ?_ (hy:=by intro w';go_simp;simp [HTA.out,HTB.out])
 refine R_p (i:=13) (v:=.string (bs (ta ++ tb ++ [tc]))) (Mh hX Mn) ?_
 refine R_p (i:=14) (v:=.int .i64 0) (Mh hX Mn) ?_
 refine qbi (by kernel_rfl) ?_ _
 ·go_wp2_with fail
  go_ret2
  exact ⟨rfl,hB⟩
 have hbb:Below w2.heap.size w2 (w2.alloc (.cells #[.int .u8 (x.v % 256)] 5)):=(Below.refl _ _).alloc qn _
 obtain ⟨b10,hb10⟩:∃ b10,w2.heap.size=b10:=⟨_,rfl⟩
 have hR10:=heap_alloc_new w2 (.cells #[.int .u8 (x.v % 256)] 5)
 rw [hb10] at hR10
 replace hX:=(hbb.block _ (qg hX)).trans hX
 replace hB:=qac hB hB.size hbb
 go_simp
 generalize w2.alloc (.cells #[.int .u8 (x.v % 256)] 5)=w10 at *
 try rw [hb10]
 clear hbb hb10
 refine hK.out _ _ (Mh hX Mn) (fun hMeets=>?_)
 clear hK K hMeets
 refine lay_R ?_
 refine qeh (rs:=[5,11]) (by kernel_rfl) (by simp) ?_
 refine AllReadyR.cons rfl (fun K hK=>?_) (AllReadyR.cons rfl (fun K hK=>?_) AllReadyR.nil)
 go_simp
 refine (HUS.out _).mono ?_
 rintro e w5 ⟨rfl,hb5⟩
 replace hX:=(hb5.block _ (qg hX)).trans hX
 replace hB:=qac hB hB.size hb5
 replace hR10:=(hb5.block _ (qg hR10)).trans hR10
 clear hb5
 refine hK.out _ _ (Mh hX Mn) (fun hMeets=>?_)
 clear hK K hMeets
 refine lay_R ?_
 refine R_p (i:=6) (v:=.string (bs (ta ++ tb))) (Mh hX Mn) ?_ (hy:=by intro w';go_simp;rw [HTA.out,HTB.out];decide)
 refine R_now 11 fun K hK=>?_
 have hcv:=qa3 (P:=Tryz.prog) (w:=w5) (src:=97) (dst:=9) (e:=5) (A:=some ⟨b10,0,none⟩) (c:=1) (l:=[tc]) Tryz.underlying97 Tryz.underlying5 Tryz.underlying9 (qcn hR10 (fun j u hj=>by rw [List.map_cons,List.map_nil,HTC.out] at hj;simpa using hj))
 simp only [List.length_singleton] at hcv
 go_simp
 clear hcv
 refine hK.out _ _ (Mh hX Mn) (fun hMeets=>?_)
 clear hK K hMeets
 refine lay_R ?_
 refine R_p (i:=12) (v:=.string (bs (ta ++ tb ++ [tc]))) (Mh hX Mn) ?_ (hy:=by intro w';go_simp;simp [HTA.out,HTB.out])
 refine R_p (i:=13) (v:=.string (bs (ta ++ tb ++ [tc]))) (Mh hX Mn) ?_
 refine R_p (i:=14) (v:=.int .i64 0) (Mh hX Mn) ?_
 refine qbi (by kernel_rfl) ?_ _
 ·go_wp2_with fail
  go_ret2
  exact ⟨rfl,hB⟩
 have hcv:=qa3 (P:=Tryz.prog) (w:=w10) (src:=97) (dst:=9) (e:=5) (A:=some ⟨b10,0,none⟩) (c:=1) (l:=[tc]) Tryz.underlying97 Tryz.underlying5 Tryz.underlying9 (qcn hR10 (fun j u hj=>by rw [List.map_cons,List.map_nil,HTC.out] at hj;simpa using hj))
 simp only [List.length_singleton] at hcv
 go_simp
 clear hcv
 refine hK.out _ _ (Mh hX Mn) (fun hMeets=>?_)
 clear hK K hMeets
 refine lay_R ?_
 refine R_now 5 fun K hK=>?_
 go_simp
 refine (HUS.out _).mono ?_
 rintro e w5 ⟨rfl,hb5⟩
 replace hX:=(hb5.block _ (qg hX)).trans hX
 replace hB:=qac hB hB.size hb5
 replace hR10:=(hb5.block _ (qg hR10)).trans hR10
 clear hb5
 refine hK.out _ _ (Mh hX Mn) (fun hMeets=>?_)
 clear hK K hMeets
 refine lay_R ?_
 refine R_p (i:=6) (v:=.string (bs (ta ++ tb))) (Mh hX Mn) ?_ (hy:=by intro w';go_simp;rw [HTA.out,HTB.out];decide)
 refine R_p (i:=12) (v:=.string (bs (ta ++ tb ++ [tc]))) (Mh hX Mn) ?_ (hy:=by intro w';go_simp;simp [HTA.out,HTB.out])
 refine R_p (i:=13) (v:=.string (bs (ta ++ tb ++ [tc]))) (Mh hX Mn) ?_
 refine R_p (i:=14) (v:=.int .i64 0) (Mh hX Mn) ?_
 refine qbi (by kernel_rfl) ?_ _
 ·go_wp2_with fail
  go_ret2
  exact ⟨rfl,hB⟩
 have hbb:Below W.heap.size W (W.alloc (.cells #[.int .u8 (x.v % 256)] 5)):=(Below.refl _ _).alloc qn _
 obtain ⟨b10,hb10⟩:∃ b10,W.heap.size=b10:=⟨_,rfl⟩
 have hR10:=heap_alloc_new W (.cells #[.int .u8 (x.v % 256)] 5)
 rw [hb10] at hR10
 replace hX:=(hbb.block _ (qg hX)).trans hX
 replace hB:=qac hB hB.size hbb
 go_simp
 generalize W.alloc (.cells #[.int .u8 (x.v % 256)] 5)=w10 at *
 try rw [hb10]
 clear hbb hb10
 refine hK.out _ _ (Mh hX Mn) (fun hMeets=>?_)
 clear hK K hMeets
 refine lay_R ?_
 refine qeh (rs:=[2,11]) (by kernel_rfl) (by simp) ?_
 refine AllReadyR.cons rfl (fun K hK=>?_) (AllReadyR.cons rfl (fun K hK=>?_) AllReadyR.nil)
 go_simp
 refine (HUR.out _).mono ?_
 rintro e w2 ⟨rfl,hb2⟩
 replace hX:=(hb2.block _ (qg hX)).trans hX
 replace hB:=qac hB hB.size hb2
 replace hR10:=(hb2.block _ (qg hR10)).trans hR10
 clear hb2
 refine hK.out _ _ (Mh hX Mn) (fun hMeets=>?_)
 clear hK K hMeets
 refine lay_R ?_
 refine qeh (rs:=[5,11]) (by kernel_rfl) (by simp) ?_
 refine AllReadyR.cons rfl (fun K hK=>?_) (AllReadyR.cons rfl (fun K hK=>?_) AllReadyR.nil)
 go_simp
 refine (HUS.out _).mono ?_
 rintro e w5 ⟨rfl,hb5⟩
 replace hX:=(hb5.block _ (qg hX)).trans hX
 replace hB:=qac hB hB.size hb5
 replace hR10:=(hb5.block _ (qg hR10)).trans hR10
 clear hb5
 refine hK.out _ _ (Mh hX Mn) (fun hMeets=>?_)
 clear hK K hMeets
 refine lay_R ?_
 refine R_p (i:=6) (v:=.string (bs (ta ++ tb))) (Mh hX Mn) ?_ (hy:=by intro w';go_simp;rw [HTA.out,HTB.out];decide)
 refine R_now 11 fun K hK=>?_
 have hcv:=qa3 (P:=Tryz.prog) (w:=w5) (src:=97) (dst:=9) (e:=5) (A:=some ⟨b10,0,none⟩) (c:=1) (l:=[tc]) Tryz.underlying97 Tryz.underlying5 Tryz.underlying9 (qcn hR10 (fun j u hj=>by rw [List.map_cons,List.map_nil,HTC.out] at hj;simpa using hj))
 simp only [List.length_singleton] at hcv
 go_simp
 clear hcv
 refine hK.out _ _ (Mh hX Mn) (fun hMeets=>?_)
 clear hK K hMeets
 refine lay_R ?_
 refine R_p (i:=12) (v:=.string (bs (ta ++ tb ++ [tc]))) (Mh hX Mn) ?_ (hy:=by intro w';go_simp;simp [HTA.out,HTB.out])
 refine R_p (i:=13) (v:=.string (bs (ta ++ tb ++ [tc]))) (Mh hX Mn) ?_
 refine R_p (i:=14) (v:=.int .i64 0) (Mh hX Mn) ?_
 refine qbi (by kernel_rfl) ?_ _
 ·go_wp2_with fail
  go_ret2
  exact ⟨rfl,hB⟩
 have hcv:=qa3 (P:=Tryz.prog) (w:=w2) (src:=97) (dst:=9) (e:=5) (A:=some ⟨b10,0,none⟩) (c:=1) (l:=[tc]) Tryz.underlying97 Tryz.underlying5 Tryz.underlying9 (qcn hR10 (fun j u hj=>by rw [List.map_cons,List.map_nil,HTC.out] at hj;simpa using hj))
 simp only [List.length_singleton] at hcv
 go_simp
 clear hcv
 refine hK.out _ _ (Mh hX Mn) (fun hMeets=>?_)
 clear hK K hMeets
 refine lay_R ?_
 refine R_now 5 fun K hK=>?_
 go_simp
 refine (HUS.out _).mono ?_
 rintro e w5 ⟨rfl,hb5⟩
 replace hX:=(hb5.block _ (qg hX)).trans hX
 replace hB:=qac hB hB.size hb5
 replace hR10:=(hb5.block _ (qg hR10)).trans hR10
 clear hb5
 refine hK.out _ _ (Mh hX Mn) (fun hMeets=>?_)
 clear hK K hMeets
 refine lay_R ?_
 refine R_p (i:=6) (v:=.string (bs (ta ++ tb))) (Mh hX Mn) ?_ (hy:=by intro w';go_simp;rw [HTA.out,HTB.out];decide)
 refine R_p (i:=12) (v:=.string (bs (ta ++ tb ++ [tc]))) (Mh hX Mn) ?_ (hy:=by intro w';go_simp;simp [HTA.out,HTB.out])
 refine R_p (i:=13) (v:=.string (bs (ta ++ tb ++ [tc]))) (Mh hX Mn) ?_
 refine R_p (i:=14) (v:=.int .i64 0) (Mh hX Mn) ?_
 refine qbi (by kernel_rfl) ?_ _
 ·go_wp2_with fail
  go_ret2
  exact ⟨rfl,hB⟩
 have hcv:=qa3 (P:=Tryz.prog) (w:=w10) (src:=97) (dst:=9) (e:=5) (A:=some ⟨b10,0,none⟩) (c:=1) (l:=[tc]) Tryz.underlying97 Tryz.underlying5 Tryz.underlying9 (qcn hR10 (fun j u hj=>by rw [List.map_cons,List.map_nil,HTC.out] at hj;simpa using hj))
 simp only [List.length_singleton] at hcv
 go_simp
 clear hcv
 refine hK.out _ _ (Mh hX Mn) (fun hMeets=>?_)
 clear hK K hMeets
 refine lay_R ?_
 refine R_now 2 fun K hK=>?_
 go_simp
 refine (HUR.out _).mono ?_
 rintro e w2 ⟨rfl,hb2⟩
 replace hX:=(hb2.block _ (qg hX)).trans hX
 replace hB:=qac hB hB.size hb2
 replace hR10:=(hb2.block _ (qg hR10)).trans hR10
 clear hb2
 refine hK.out _ _ (Mh hX Mn) (fun hMeets=>?_)
 clear hK K hMeets
 refine lay_R ?_
 refine R_now 5 fun K hK=>?_
 go_simp
 refine (HUS.out _).mono ?_
 rintro e w5 ⟨rfl,hb5⟩
 replace hX:=(hb5.block _ (qg hX)).trans hX
 replace hB:=qac hB hB.size hb5
 replace hR10:=(hb5.block _ (qg hR10)).trans hR10
 clear hb5
 refine hK.out _ _ (Mh hX Mn) (fun hMeets=>?_)
 clear hK K hMeets
 refine lay_R ?_
 refine R_p (i:=6) (v:=.string (bs (ta ++ tb))) (Mh hX Mn) ?_ (hy:=by intro w';go_simp;rw [HTA.out,HTB.out];decide)
 refine R_p (i:=12) (v:=.string (bs (ta ++ tb ++ [tc]))) (Mh hX Mn) ?_ (hy:=by intro w';go_simp;simp [HTA.out,HTB.out])
 refine R_p (i:=13) (v:=.string (bs (ta ++ tb ++ [tc]))) (Mh hX Mn) ?_
 refine R_p (i:=14) (v:=.int .i64 0) (Mh hX Mn) ?_
 refine qbi (by kernel_rfl) ?_ _
 ·go_wp2_with fail
  go_ret2
  exact ⟨rfl,hB⟩
theorem qi8 (x:Sg) (h:x.Wf) (w:World):Calls Tryz.prog 41 #[.agg (sgR x)] w fun e w'=>e=.returned (.tuple #[.string (bs (if okSg x=true then sgB x else [])),.int .i64 (if okSg x=true then 0 else 1)])∧Below w.heap.size w w':=by
 have hR:=fun W:World=>qfn x h W
 obtain ⟨ok,hok⟩:∃ ok,okSg x=ok:=⟨_,rfl⟩
 rw [hok] at hR ⊢
 cases ok with
 | false=>exact qqv x hR w
 | true =>
  rw [if_pos rfl,if_pos rfl]
  unfold sgB
  have hc:cellB (UInt8.ofNat (x.v % 256).toNat)=.int .u8 (x.v % 256):=by have:=byte_v x.v;simp only [List.map_cons,List.map_nil,List.cons.injEq,and_true] at this;exact this
  generalize UInt8.ofNat (x.v % 256).toNat=tc at hc ⊢
  have h1:=fun W:World=>qi1 x.r h.r W
  have h2:=fun W:World=>qi1 x.s h.s W
  have l1:=qgo x.r
  have l2:=qgo x.s
  generalize uB x.r=ta at h1 l1 ⊢
  generalize uB x.s=tb at h2 l2 ⊢
  exact qoq x ta tb tc l1 l2 hc h1 h2 hR w
/- The walk of sign.From. -/
theorem qfj:(Tryz.prog.info? 26).map (·.size)=some 9:=by kernel_rfl
theorem qib (s:Bytes) (hs:s.length≤32) (z:U4) (hz:uOf s=z) (w:World):Calls Tryz.prog 98 #[.string (bs s)] w fun e w'=>e=.returned (.tuple #[.agg #[.int .u64 (z.a:Int),.int .u64 (z.b:Int),.int .u64 (z.c:Int),.int .u64 (z.d:Int)],.int .i64 0])∧Below w.heap.size w w':=by
 subst hz;exact qrh s hs w
theorem one9 (a b c d a' b' c' d' v:Int):(#[.int .u64 a,.int .u64 b,.int .u64 c,.int .u64 d,.int .u64 a',.int .u64 b',.int .u64 c',.int .u64 d',.int .i64 v]:Array Value).all (·.oneCell')=true:=by simp [Value.oneCell']
theorem one9Z:(zqS:Array Value).all (·.oneCell')=true:=one9 _ _ _ _ _ _ _ _ _
/-- what From gives -/
def sfromP (s:Bytes):Sg×Nat:=if s.length=65∧okSg (sgOf s)=true then (sgOf s,0) else (zeroSg,4)
theorem qsn (s:Bytes) (hs:((s.length:Int) == 65)=false) (w:World):Calls Tryz.prog 46 #[.string (bs s)] w fun e w'=>e=.returned (.tuple #[.agg zqS,.int .i64 4])∧Below w.heap.size w w':=by
 have hs2:((s.length:Int) != 65)=true:=by rw [bne,hs];rfl
 have HX:=qh (heap_alloc_new w (.cells zqS 26))
 have HB:=qh ((Below.refl w.heap.size w).alloc qn (.cells zqS 26))
 go_enter Tryz.func46,Tryz.ntmps46
 go_wp2_with fail
 exact bodyPost_ret (v:=.tuple #[.agg zqS,.int .i64 4]) (qah rfl _ _ w.heap.size _ _ _ _ rfl HX.out _ rfl Tryz.underlying26 rfl qfj) rfl ⟨rfl,HB.out⟩
theorem sfrom_65 (s:Bytes) (c:UInt8) (hs:s.length=65) (hc:s[64]? = some c) (zr zs:U4) (hr:uOf (s.take 32)=zr) (hz:uOf ((s.drop 32).take 32)=zs) (hwr:zr.Wf) (hws:zs.Wf) (ok:Bool) (hok:okSg ⟨zr,zs,(c.toNat:Int)⟩=ok) (cs:Array Value) (no:Int) (hcs:cs=if ok=true then #[.int .u64 (zr.a:Int),.int .u64 (zr.b:Int),.int .u64 (zr.c:Int),.int .u64 (zr.d:Int),.int .u64 (zs.a:Int),.int .u64 (zs.b:Int),.int .u64 (zs.c:Int),.int .u64 (zs.d:Int),.int .i64 (c.toNat:Int)] else zqS) (hno:no=if ok=true then 0 else 4) (w:World) :
  Calls Tryz.prog 46 #[.string (bs s)] w fun e w'=>e=.returned (.tuple #[.agg cs,.int .i64 no])∧Below w.heap.size w w':=by
 obtain ⟨hlt,hci⟩:=List.getElem?_eq_some_iff.1 hc
 have hl:(s.length:Int)=65:=by omega
 have hl1:((s.length:Int) == 65)=true:=by rw [hl];rfl
 have hl2:((s.length:Int) != 65)=false:=by rw [hl];rfl
 have hlt2:(64:Int) < s.length:=by omega
 have h32:(32:Int)≤s.length:=by omega
 have h64:(64:Int)≤s.length:=by omega
 have HF1:=qh (fun W:World=>qib (s.take 32) (by rw [List.length_take];omega) zr hr W)
 have HF2:=qh (fun W:World=>qib ((s.drop 32).take 32) (by rw [List.length_take];omega) zs hz W)
 have hR:=fun W:World=>qfn ⟨zr,zs,(c.toNat:Int)⟩ ⟨hwr,hws,by have:=c.toNat_lt;show _≤(c.toNat:Int);omega,by have:=c.toNat_lt;show (c.toNat:Int)≤_;omega⟩ W
 rw [hok] at hR
 simp only [] at hR
 have HRT:=qh hR
 have hc8:=c.toNat_lt
 have h0:=heap_alloc_new w (.cells zqS 26)
 have h1:=heap_alloc_new (w.alloc (.cells zqS 26)) (.cells zqS 26)
 have h0:=(heap_alloc_old _ (.cells zqS 26) (qg h0)).trans h0
 simp only [World.size_alloc] at h1
 have hb:=((Below.refl w.heap.size w).alloc qn (.cells zqS 26)).alloc (by simp) (.cells zqS 26)
 have HO:=qh h1
 have HCS:=qh hcs
 have HNO:=qh hno
 have HR:=qh h0
 have HB:=qh hb
 clear h0 h1 hb hs hc hR hr hz hwr hws hok hl hcs hno
 go_enter Tryz.func46,Tryz.ntmps46
 go_wp2_with fail
 refine (HF1.out _).mono ?_
 rintro e w1 ⟨rfl,hb1⟩
 have hO1:=(hb1.block _ (qg HO.out)).trans HO.out
 have HR1:=qh ((hb1.block _ (qg HR.out)).trans HR.out)
 have HB1:=qh (qac HB.out HB.out.size hb1)
 have o0:=rc hO1 0 rfl
 have o1:=rc hO1 1 rfl
 have o2:=rc hO1 2 rfl
 have o3:=rc hO1 3 rfl
 have o4:=rc hO1 4 rfl
 have o5:=rc hO1 5 rfl
 have o6:=rc hO1 6 rfl
 have o7:=rc hO1 7 rfl
 have o8:=rc hO1 8 rfl
 have of0:=rf hO1 0
 have of1:=rf hO1 1
 have of2:=rf hO1 2
 have of3:=rf hO1 3
 have of4:=rf hO1 4
 have of5:=rf hO1 5
 have of6:=rf hO1 6
 have of7:=rf hO1 7
 have of8:=rf hO1 8
 have HO1:=qh hO1
 clear hb1 hO1 HB HO HR
 go_wp2_with fail
 have hO2:(((((w1.setCell ⟨w.heap.size+1,0,none⟩ (.int .u64 (zr.a:Int))).setCell ⟨w.heap.size+1,1,none⟩ (.int .u64 (zr.b:Int))).setCell ⟨w.heap.size+1,2,none⟩ (.int .u64 (zr.c:Int))).setCell ⟨w.heap.size+1,3,none⟩ (.int .u64 (zr.d:Int)))).heap[w.heap.size+1]? = some (.cells #[.int .u64 (zr.a:Int),.int .u64 (zr.b:Int),.int .u64 (zr.c:Int),.int .u64 (zr.d:Int),.int .u64 0,.int .u64 0,.int .u64 0,.int .u64 0,.int .i64 0] 26 (0,0)):=(qaa (qaa (qaa (qaa HO1.out (i:=0) (.int .u64 (zr.a:Int))) (i:=1) (.int .u64 (zr.b:Int))) (i:=2) (.int .u64 (zr.c:Int))) (i:=3) (.int .u64 (zr.d:Int)))
 have hR2:=qpn (g:=w.heap.size+1) (a:=.int .u64 (zr.a:Int)) (b:=.int .u64 (zr.b:Int)) (c:=.int .u64 (zr.c:Int)) (d:=.int .u64 (zr.d:Int)) (show w.heap.size≠w.heap.size+1 by omega) |>.trans HR1.out
 have hB2:=qgk (a:=.int .u64 (zr.a:Int)) (b:=.int .u64 (zr.b:Int)) (c:=.int .u64 (zr.c:Int)) (d:=.int .u64 (zr.d:Int)) HB1.out (Nat.le_succ w.heap.size)
 unfold set4 at hR2 hB2
 generalize ((((w1.setCell ⟨w.heap.size+1,0,none⟩ (.int .u64 (zr.a:Int))).setCell ⟨w.heap.size+1,1,none⟩ (.int .u64 (zr.b:Int))).setCell ⟨w.heap.size+1,2,none⟩ (.int .u64 (zr.c:Int))).setCell ⟨w.heap.size+1,3,none⟩ (.int .u64 (zr.d:Int)))=w2 at hO2 hR2 hB2 ⊢
 have HO2:=qh hO2
 have HR2:=qh hR2
 have HB2:=qh hB2
 clear hO2 hR2 hB2 HR1 HB1 HO1 o0 of0 o1 of1 o2 of2 o3 of3 o4 of4 o5 of5 o6 of6 o7 of7 o8 of8
 refine (HF2.out _).mono ?_
 rintro e w3 ⟨rfl,hb3⟩
 have hO3:=(hb3.block _ (qg HO2.out)).trans HO2.out
 have HR3:=qh ((hb3.block _ (qg HR2.out)).trans HR2.out)
 have HB3:=qh (qac HB2.out HB2.out.size hb3)
 have o0:=rc hO3 0 rfl
 have o1:=rc hO3 1 rfl
 have o2:=rc hO3 2 rfl
 have o3:=rc hO3 3 rfl
 have o4:=rc hO3 4 rfl
 have o5:=rc hO3 5 rfl
 have o6:=rc hO3 6 rfl
 have o7:=rc hO3 7 rfl
 have o8:=rc hO3 8 rfl
 have of0:=rf hO3 0
 have of1:=rf hO3 1
 have of2:=rf hO3 2
 have of3:=rf hO3 3
 have of4:=rf hO3 4
 have of5:=rf hO3 5
 have of6:=rf hO3 6
 have of7:=rf hO3 7
 have of8:=rf hO3 8
 have HO3:=qh hO3
 clear hb3 hO3 HB2 HO2 HR2
 go_wp2_with fail
 have hO5:((((((w3.setCell ⟨w.heap.size+1,4,none⟩ (.int .u64 (zs.a:Int))).setCell ⟨w.heap.size+1,5,none⟩ (.int .u64 (zs.b:Int))).setCell ⟨w.heap.size+1,6,none⟩ (.int .u64 (zs.c:Int))).setCell ⟨w.heap.size+1,7,none⟩ (.int .u64 (zs.d:Int))).setCell ⟨w.heap.size+1,8,none⟩ (.int .i64 (c.toNat:Int)))).heap[w.heap.size+1]? = some (.cells #[.int .u64 (zr.a:Int),.int .u64 (zr.b:Int),.int .u64 (zr.c:Int),.int .u64 (zr.d:Int),.int .u64 (zs.a:Int),.int .u64 (zs.b:Int),.int .u64 (zs.c:Int),.int .u64 (zs.d:Int),.int .i64 (c.toNat:Int)] 26 (0,0)):=qaa (qaa (qaa (qaa (qaa HO3.out (i:=4) (.int .u64 (zs.a:Int))) (i:=5) (.int .u64 (zs.b:Int))) (i:=6) (.int .u64 (zs.c:Int))) (i:=7) (.int .u64 (zs.d:Int))) (i:=8) (.int .i64 (c.toNat:Int))
 have hR5:((((((w3.setCell ⟨w.heap.size+1,4,none⟩ (.int .u64 (zs.a:Int))).setCell ⟨w.heap.size+1,5,none⟩ (.int .u64 (zs.b:Int))).setCell ⟨w.heap.size+1,6,none⟩ (.int .u64 (zs.c:Int))).setCell ⟨w.heap.size+1,7,none⟩ (.int .u64 (zs.d:Int))).setCell ⟨w.heap.size+1,8,none⟩ (.int .i64 (c.toNat:Int)))).heap[w.heap.size]? = some (.cells zqS 26 (0,0)):=(qab (by omega) _).trans ((qab (by omega) _).trans ((qab (by omega) _).trans ((qab (by omega) _).trans ((qab (by omega) _).trans HR3.out))))
 have hB5:Below w.heap.size w (((((w3.setCell ⟨w.heap.size+1,4,none⟩ (.int .u64 (zs.a:Int))).setCell ⟨w.heap.size+1,5,none⟩ (.int .u64 (zs.b:Int))).setCell ⟨w.heap.size+1,6,none⟩ (.int .u64 (zs.c:Int))).setCell ⟨w.heap.size+1,7,none⟩ (.int .u64 (zs.d:Int))).setCell ⟨w.heap.size+1,8,none⟩ (.int .i64 (c.toNat:Int))):=(((((HB3.out.setCell (p:=⟨w.heap.size+1,4,none⟩) (Nat.le_succ _) _).setCell (p:=⟨w.heap.size+1,5,none⟩) (Nat.le_succ _) _).setCell (p:=⟨w.heap.size+1,6,none⟩) (Nat.le_succ _) _).setCell (p:=⟨w.heap.size+1,7,none⟩) (Nat.le_succ _) _).setCell (p:=⟨w.heap.size+1,8,none⟩) (Nat.le_succ _) _)
 generalize (((((w3.setCell ⟨w.heap.size+1,4,none⟩ (.int .u64 (zs.a:Int))).setCell ⟨w.heap.size+1,5,none⟩ (.int .u64 (zs.b:Int))).setCell ⟨w.heap.size+1,6,none⟩ (.int .u64 (zs.c:Int))).setCell ⟨w.heap.size+1,7,none⟩ (.int .u64 (zs.d:Int))).setCell ⟨w.heap.size+1,8,none⟩ (.int .i64 (c.toNat:Int)))=w5 at hO5 hR5 hB5 ⊢
 have HO5:=qh hO5
 have HR5:=qh hR5
 have HB5:=qh hB5
 clear hO5 hR5 hB5 HR3 HB3 HO3 o0 of0 o1 of1 o2 of2 o3 of3 o4 of4 o5 of5 o6 of6 o7 of7 o8 of8
 refine (HRT.out _).mono ?_
 rintro e w6 ⟨rfl,hb6⟩
 have hO6:=(hb6.block _ (qg HO5.out)).trans HO5.out
 have hR6:=(hb6.block _ (qg HR5.out)).trans HR5.out
 have HB6:=qh (qac HB5.out HB5.out.size hb6)
 have HR6:=qh hR6
 have HO6:=qh hO6
 clear hb6 hO6 hR6 HB5 HO5 HR5
 cases ok with
 | false =>
  go_wp2_with (refine wpList_store_row rfl _ _ _ rfl w.heap.size zqS rfl rfl _ _ HR6.out qfj rfl one9Z ?_)
  rw [HCS.out,HNO.out]
  exact bodyPost_ret (v:=.tuple #[.agg zqS,.int .i64 4]) (qah rfl _ _ w.heap.size _ _ _ _ rfl (setRow_heap _ _ _ _ _ _ HR6.out) _ rfl Tryz.underlying26 rfl qfj) rfl ⟨rfl,qal HB6.out qn _⟩
 | true =>
  go_wp2_with (first | (refine wpList_load_row rfl _ _ rfl (w.heap.size+1) rfl _ _ _ _ HO6.out Tryz.underlying26 rfl qfj ?_) | (refine wpList_store_row rfl _ _ _ rfl w.heap.size #[.int .u64 (zr.a:Int),.int .u64 (zr.b:Int),.int .u64 (zr.c:Int),.int .u64 (zr.d:Int),.int .u64 (zs.a:Int),.int .u64 (zs.b:Int),.int .u64 (zs.c:Int),.int .u64 (zs.d:Int),.int .i64 (c.toNat:Int)] rfl rfl _ _ HR6.out qfj rfl (one9 _ _ _ _ _ _ _ _ _) ?_))
  rw [HCS.out,HNO.out]
  exact bodyPost_ret (v:=.tuple #[.agg #[.int .u64 (zr.a:Int),.int .u64 (zr.b:Int),.int .u64 (zr.c:Int),.int .u64 (zr.d:Int),.int .u64 (zs.a:Int),.int .u64 (zs.b:Int),.int .u64 (zs.c:Int),.int .u64 (zs.d:Int),.int .i64 (c.toNat:Int)],.int .i64 0]) (qah rfl _ _ w.heap.size _ _ _ _ rfl (setRow_heap _ _ _ _ _ _ HR6.out) _ rfl Tryz.underlying26 rfl qfj) rfl ⟨rfl,qal HB6.out qn _⟩
theorem ql4 (s:Bytes) (w:World):Calls Tryz.prog 46 #[.string (bs s)] w fun e w'=>e=.returned (.tuple #[.agg #[.int .u64 ((sfromP s).1.r.a:Int),.int .u64 ((sfromP s).1.r.b:Int),.int .u64 ((sfromP s).1.r.c:Int),.int .u64 ((sfromP s).1.r.d:Int),.int .u64 ((sfromP s).1.s.a:Int),.int .u64 ((sfromP s).1.s.b:Int),.int .u64 ((sfromP s).1.s.c:Int),.int .u64 ((sfromP s).1.s.d:Int),.int .i64 (sfromP s).1.v],.int .i64 (sfromP s).2])∧Below w.heap.size w w':=by
 by_cases hl:s.length=65
 ·obtain ⟨c,hc⟩:∃ c,s[64]? = some c:=qan (by omega)
  have hcd:s.getD 64 0=c:=by rw [List.getD_eq_getElem?_getD,hc];rfl
  have hsg:sgOf s=⟨uOf (s.take 32),uOf ((s.drop 32).take 32),(c.toNat:Int)⟩:=by unfold sgOf;rw [hcd]
  have h:=sfrom_65 s c hl hc _ _ rfl rfl (qn5 _) (qn5 _) _ rfl _ _ rfl rfl w
  rw [← hsg] at h
  unfold sfromP
  cases hk:okSg (sgOf s) with
  | true=>rw [if_pos ⟨hl,rfl⟩,hsg];rw [hk] at h;exact h
  | false=>rw [if_neg (fun h=>by cases h.2)];rw [hk] at h;exact h
 ·have h:=qsn s (by rw [beq_eq_false_iff_ne];omega) w
  unfold sfromP
  rw [if_neg (fun h=>hl h.1)]
  exact h
end Go.Proofs.YteoednifdpdbnaaGreat
