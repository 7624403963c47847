/- The walks of the reference's transfers: Right, Bytes, Sum. -/
import Derived.Test.YteoednifdpdbnaaGreatZ32
import Derived.Test.YteoednifdpdbnaaGreatZ33
import Derived.Test.YteoednifdpdbnaaGreatZ22
namespace Go.Proofs.YteoednifdpdbnaaGreat
set_option linter.unusedVariables false
set_option linter.unusedSimpArgs false
open Go.RowKit
set_option maxHeartbeats 4000000
set_option maxRecDepth 100000
/-- an aggregate loaded in the midst of a block by a guarded operation that is wanted -/
theorem qmc {P:Program} {ops:Array Oper} {rest:List Oper} {op:Oper} {a:Act} {w:World} {Q:Exit→Act→World→Prop} (hw:Region.wanted op (yielded ops a.tmps)=true) {ty:TypeId} {x:Operand} (ho:op.op=.load ty x)
  {g o:Nat} (hx:a.eval x=.pointer (some ⟨g,o,none⟩)) (cs:List Value) {d:TypeDesc} (hc:∀ j u,cs[j]? = some u→w.cell? ⟨g,o+j,none⟩=some u)
  (hu:P.underlying ty=some d) (hd:(match d with | .struct _ | .array _ _=>true | _=>false)=true) (hi:(P.info? ty).map (·.size)=some cs.length)
  (h:wpList P ops Q rest (a.put op.dst (.agg cs.toArray)) w):wpList P ops Q (op :: rest) a w :=
 wpList_step fun _ hK=>by
  rw [if_pos hw]
  unfold Oper.wp execOp
  simp only [ho,hx,Instr.loadAt,Instr.sureAddr,Sem.run_bind,Sem.run_pure,Result.andThen_ok,qe7 w g o ty cs d hc hu hd hi]
  exact hK _ _ h
theorem qsc {w:World} {g:Nat} {t:Tr} {e:TypeId} (h:w.heap[g]? = some (.cells (trR t) e (0,0))):∀ (j:Nat) (u:Value),([.int .u64 (t.sg.r.a:Int),.int .u64 (t.sg.r.b:Int),.int .u64 (t.sg.r.c:Int),.int .u64 (t.sg.r.d:Int),.int .u64 (t.sg.s.a:Int),.int .u64 (t.sg.s.b:Int),.int .u64 (t.sg.s.c:Int),.int .u64 (t.sg.s.d:Int),.int .i64 t.sg.v]:List Value)[j]? = some u→w.cell? ⟨g,3+j,none⟩=some u:=fun j u hj=>by
 have:=(List.getElem?_eq_some_iff.1 hj).1
 match j,this with
 | 0,_=>exact rc h 3 hj
 | 1,_=>exact rc h 4 hj
 | 2,_=>exact rc h 5 hj
 | 3,_=>exact rc h 6 hj
 | 4,_=>exact rc h 7 hj
 | 5,_=>exact rc h 8 hj
 | 6,_=>exact rc h 9 hj
 | 7,_=>exact rc h 10 hj
 | 8,_=>exact rc h 11 hj
theorem qm3 (t:Tr) (h:t.Wf) (h63:t.to.length≤9223372036854775807) (w:World):Calls Tryz.prog 14 #[.agg (trR t)] w fun e w'=>e=.returned (.bool (okTr t))∧Below w.heap.size w w':=by
 have hok:okTr t=(t.to.length == 20 && okSg t.sg):=rfl
 obtain ⟨q,hq⟩:∃ q,(t.to.length == 20)=q:=⟨_,rfl⟩
 have hlI:((t.to.length:Int) == 20)=q:=by rw [← hq,Bool.eq_iff_iff];simp only [beq_iff_eq];omega
 have h63I:(t.to.length:Int)≤9223372036854775807:=by omega
 rw [hq] at hok
 have hX:=heap_alloc_new w (.cells (trR t) 28)
 have HOK:=qh hok
 have HS:=qh (fun W:World=>ql6 t.sg h.sg W)
 have HB:=qh ((Below.refl w.heap.size w).alloc qn (.cells (trR t) 28))
 have c0:=rc (u:=.string (bs t.to)) hX 0 rfl
 have HK:=qh (qsc hX)
 clear hok hX h h63 hq
 cases q with
 | false =>
  go_enter Tryz.func14,Tryz.ntmps14
  go_wp2_with fail
  go_ret
  exact ⟨by rw [HOK.out];rfl,HB.out⟩
 | true =>
  go_enter Tryz.func14,Tryz.ntmps14
  go_wp2_with (refine qmc (by rfl) rfl rfl [.int .u64 (t.sg.r.a:Int),.int .u64 (t.sg.r.b:Int),.int .u64 (t.sg.r.c:Int),.int .u64 (t.sg.r.d:Int),.int .u64 (t.sg.s.a:Int),.int .u64 (t.sg.s.b:Int),.int .u64 (t.sg.s.c:Int),.int .u64 (t.sg.s.d:Int),.int .i64 t.sg.v] HK.out Tryz.underlying26 rfl qbv ?_)
  refine (HS.out _).mono ?_
  rintro e w1 ⟨rfl,hb1⟩
  have HB1:=qh (qab HB.out HB.out.size hb1)
  clear hb1
  go_wp2_with fail
  go_ret
  exact ⟨by rw [HOK.out];rfl,HB1.out⟩
theorem trC4_new (w:World) (t:Tr):FdsV Any (w.alloc (.cells #[.int .u64 0,.string (bs t.to),.slice none 0 0,.int .u64 (t.am:Int),.string ⟨#[]⟩,.slice none 0 0,.int .u64 (t.no:Int),.string ⟨#[]⟩,.slice none 0 0,.int .u64 0,.string (bs (sgB t.sg)),.slice none 0 0] 81)) (trF t) (some ⟨w.heap.size,0,none⟩) 4 :=
 .sl (.cons (qcc 0 t.to) rfl (.cons (qcc t.am []) rfl (.cons (qcc t.no []) rfl (.cons (cs':=[]) (qcc 0 (sgB t.sg)) rfl .nil)))) rfl (qbi w #[.int .u64 0,.string (bs t.to),.slice none 0 0,.int .u64 (t.am:Int),.string ⟨#[]⟩,.slice none 0 0,.int .u64 (t.no:Int),.string ⟨#[]⟩,.slice none 0 0,.int .u64 0,.string (bs (sgB t.sg)),.slice none 0 0] 81) qn (by simp only [maxLen];omega)
theorem qpm (t:Tr) (h:t.Wf) (hk:okTr t=true) (A:Option Addr) (c:Nat) (w:World) (hv:FdsV Any w (trF t) A c) :
  Calls Tryz.prog 51 #[.string ⟨#[97,110,110,115]⟩,.slice A 4 c] w fun e w'=>e=.returned (.tuple #[.string (bs (trB t)),.int .i64 0])∧Below w.heap.size w w':=by
 have h1:=qgb trK qn9 (by decide) (by decide) (trF t) (qcy h) (by show 4≤1000;decide) (fun f hf=>by simp only [trF,List.mem_cons,List.not_mem_nil,or_false] at hf;rcases hf with rfl | rfl | rfl | rfl <;> exact Nat.zero_le _) A c w hv
 have h2:fwP trK (trF t)=(trB t,0):=by
  unfold fwP
  rw [if_pos (qdf hk),qel (by decide) (qdf hk) (qcy h) (by have:=qh5 hk h;unfold trB at this;omega)]
  rfl
 rw [h2] at h1
 exact h1
theorem qir (t:Tr) (h:t.Wf) (hk:okTr t=true) (w:World):Calls Tryz.prog 17 #[.agg (trR t)] w fun e w'=>e=.returned (.string (bs (trB t)))∧Below w.heap.size w w':=by
 have hX0:=heap_alloc_new w (.cells (trR t) 28)
 have HX0:=qh hX0
 have HB0:=qh ((Below.refl w.heap.size w).alloc qn (.cells (trR t) 28))
 have HSB:=qh (fun W:World=>rsgB_any t.sg h.sg W)
 have HW:=qh h
 have HK:=qh hk
 clear hX0 h hk
 go_enter Tryz.func17,Tryz.ntmps17
 go_wp2_with fail
 have hX:(w.alloc (.cells (trR t) 28)).drew.heap[w.heap.size]? = some (.cells (trR t) 28 (0,0)):=HX0.out
 have hB:Below w.heap.size w (w.alloc (.cells (trR t) 28)).drew:=HB0.out.drew
 clear HX0 HB0
 refine qao [(99,fun w'=>w'.heap[w.heap.size]? = some (.cells (trR t) 28 (0,0)))] (by kernel_rfl) ?_
 generalize (w.alloc (.cells (trR t) 28)).drew=WD at hX hB ⊢
 refine R_p (i:=0) (v:=.pointer (some ⟨w.heap.size,0,none⟩)) (Mh hX Mn) ?_
 refine R_p (i:=3) (v:=.pointer (some ⟨w.heap.size,1,none⟩)) (Mh hX Mn) ?_
 refine R_p (i:=6) (v:=.pointer (some ⟨w.heap.size,2,none⟩)) (Mh hX Mn) ?_
 refine R_p (i:=9) (v:=.pointer (some ⟨w.heap.size,3,none⟩)) (Mh hX Mn) ?_
 refine R_l (i:=1) (v:=.string (bs t.to)) 99 _ List.mem_cons_self rfl (qae rfl rfl rfl (fun w' hS=>rc hS 0 rfl) Tryz.underlying9 rfl) (Mh hX Mn) ?_
 refine R_l (i:=4) (v:=.int .u64 (t.am:Int)) 99 _ List.mem_cons_self rfl (qae rfl rfl rfl (fun w' hS=>rc hS 1 rfl) Tryz.underlying22 rfl) (Mh hX Mn) ?_
 refine R_l (i:=7) (v:=.int .u64 (t.no:Int)) 99 _ List.mem_cons_self rfl (qae rfl rfl rfl (fun w' hS=>rc hS 2 rfl) Tryz.underlying22 rfl) (Mh hX Mn) ?_
 refine R_l (i:=10) (v:=.agg (sgR t.sg)) 99 _ List.mem_cons_self rfl (qbm rfl rfl (g:=w.heap.size) (o:=3) rfl [.int .u64 (t.sg.r.a:Int),.int .u64 (t.sg.r.b:Int),.int .u64 (t.sg.r.c:Int),.int .u64 (t.sg.r.d:Int),.int .u64 (t.sg.s.a:Int),.int .u64 (t.sg.s.b:Int),.int .u64 (t.sg.s.c:Int),.int .u64 (t.sg.s.d:Int),.int .i64 t.sg.v] (fun w' hS=>qsc hS) Tryz.underlying26 rfl qbv) (Mh hX Mn) ?_
 refine R_p (i:=2) (v:=.agg #[.int .u64 0,.string (bs t.to),.slice none 0 0]) (Mh hX Mn) ?_
 refine R_p (i:=5) (v:=.agg #[.int .u64 (t.am:Int),.string ⟨#[]⟩,.slice none 0 0]) (Mh hX Mn) ?_
 refine R_p (i:=8) (v:=.agg #[.int .u64 (t.no:Int),.string ⟨#[]⟩,.slice none 0 0]) (Mh hX Mn) ?_
 refine R_now 11 fun K hK=>?_
 go_simp
 refine (HSB.out _).mono ?_
 rintro e w11 ⟨rfl,hb11⟩
 replace hX:=(hb11.block _ (qg hX)).trans hX
 replace hB:=qab hB hB.size hb11
 clear hb11
 refine hK.out _ _ (Mh hX Mn) (fun hMeets=>?_)
 clear hK K hMeets
 refine lay_R ?_
 refine R_p (i:=12) (v:=.agg #[.int .u64 0,.string (bs (sgB t.sg)),.slice none 0 0]) (Mh hX Mn) ?_
 refine R_now 13 fun K hK=>?_
 have hbb:Below w11.heap.size w11 (w11.alloc (.cells #[.int .u64 0,.string (bs t.to),.slice none 0 0,.int .u64 (t.am:Int),.string ⟨#[]⟩,.slice none 0 0,.int .u64 (t.no:Int),.string ⟨#[]⟩,.slice none 0 0,.int .u64 0,.string (bs (sgB t.sg)),.slice none 0 0] 81)):=(Below.refl _ _).alloc qn _
 have hfv:=trC4_new w11 t
 replace hX:=(hbb.block _ (qg hX)).trans hX
 replace hB:=qab hB hB.size hbb
 go_simp
 obtain ⟨N,hN⟩:∃ N,w11.heap.size=N:=⟨_,rfl⟩
 rw [hN] at hfv ⊢
 generalize w11.alloc (.cells #[.int .u64 0,.string (bs t.to),.slice none 0 0,.int .u64 (t.am:Int),.string ⟨#[]⟩,.slice none 0 0,.int .u64 (t.no:Int),.string ⟨#[]⟩,.slice none 0 0,.int .u64 0,.string (bs (sgB t.sg)),.slice none 0 0] 81)=w13 at hfv hX hB ⊢
 clear hbb hN
 refine hK.out _ _ (Mh hX Mn) (fun hMeets=>?_)
 clear hK K hMeets
 refine lay_R ?_
 refine R_now 14 fun K hK=>?_
 go_simp
 refine (qpm t HW.out HK.out (some ⟨N,0,none⟩) 4 _ hfv).mono ?_
 rintro e w14 ⟨rfl,hb14⟩
 replace hX:=(hb14.block _ (qg hX)).trans hX
 replace hB:=qab hB hB.size hb14
 clear hb14
 refine hK.out _ _ (Mh hX Mn) (fun hMeets=>?_)
 clear hK K hMeets
 refine lay_R ?_
 refine R_p (i:=15) (v:=.tuple #[.string (bs (trB t)),.int .i64 0]) (Mh hX Mn) ?_
 refine R_p (i:=16) (v:=.string (bs (trB t))) (Mh hX Mn) ?_
 refine R_p (i:=17) (v:=.int .i64 0) (Mh hX Mn) ?_
 refine R_p (i:=18) (v:=.string (bs (trB t))) (Mh hX Mn) ?_
 refine R_p (i:=19) (v:=.int .i64 0) (Mh hX Mn) ?_
 refine qa7 (by kernel_rfl) ?_ _
 have HB:=qh hB
 clear hX hB
 go_wp2_with fail
 go_ret
 exact ⟨rfl,HB.out⟩
theorem qq8 (t:Tr) (h:t.Wf) (hk:okTr t=true) (w:World):Calls Tryz.prog 18 #[.agg (trR t)] w fun e w'=>e=.returned (.string (bs (sumT t)))∧Below w.heap.size w w':=by
 have HX:=qh (heap_alloc_new w (.cells (trR t) 28))
 have HB:=qh ((Below.refl w.heap.size w).alloc qn (.cells (trR t) 28))
 have HC:=qh (fun W:World=>qir t h hk W)
 have hl:=qh5 hk h
 have HS:=qh (fun W:World=>qjn (trB t) (by omega) W)
 clear h hk hl
 go_enter Tryz.func18,Tryz.ntmps18
 go_wp2_with (refine wpList_load_row rfl _ _ rfl w.heap.size rfl _ _ _ _ HX.out Tryz.underlying28 rfl qdc ?_)
 refine (HC.out _).mono ?_
 rintro e w1 ⟨rfl,hb1⟩
 have HB1:=qh (qab HB.out HB.out.size hb1)
 clear hb1
 go_wp2_with fail
 refine (HS.out _).mono ?_
 rintro e w2 ⟨rfl,hb2⟩
 have HB2:=qh (qab HB1.out HB1.out.size hb2)
 clear hb2
 go_wp2_with fail
 go_ret
 exact ⟨rfl,HB2.out⟩
end Go.Proofs.YteoednifdpdbnaaGreat
