/- The walks of the reference's Digest, law 14's short and alive. -/
import Derived.Test.YteoednifdpdbnaaGreatZ35
import Derived.Test.YteoednifdpdbnaaGreatZ53
namespace Go.Proofs.YteoednifdpdbnaaGreat
set_option linter.unusedVariables false
set_option linter.unusedSimpArgs false
open Go.RowKit
set_option maxHeartbeats 4000000
set_option maxRecDepth 100000
theorem tdC4_new (w:World) (t:Tr):FdsV Any (w.alloc (.cells #[.int .u64 0,.string ⟨#[116,120]⟩,.slice none 0 0,.int .u64 0,.string (bs t.to),.slice none 0 0,.int .u64 (t.am:Int),.string ⟨#[]⟩,.slice none 0 0,.int .u64 (t.no:Int),.string ⟨#[]⟩,.slice none 0 0] 81)) (tdF t) (some ⟨w.heap.size,0,none⟩) 4 :=
 .sl (.cons (qcc 0 [116,120]) rfl (.cons (qcc 0 t.to) rfl (.cons (qcc t.am []) rfl (.cons (cs':=[]) (qcc t.no []) rfl .nil)))) rfl (qbi w #[.int .u64 0,.string ⟨#[116,120]⟩,.slice none 0 0,.int .u64 0,.string (bs t.to),.slice none 0 0,.int .u64 (t.am:Int),.string ⟨#[]⟩,.slice none 0 0,.int .u64 (t.no:Int),.string ⟨#[]⟩,.slice none 0 0] 81) qn (by simp only [maxLen];omega)
theorem rtdwrite (t:Tr) (h:t.Wf) (h20:t.to.length=20) (A:Option Addr) (c:Nat) (w:World) (hv:FdsV Any w (tdF t) A c) :
  Calls Tryz.prog 51 #[.string ⟨#[98,97,110,110]⟩,.slice A 4 c] w fun e w'=>e=.returned (.tuple #[.string (bs (tdB t)),.int .i64 0])∧Below w.heap.size w w':=by
 have h1:=qgb tdK tdK_ok (by decide) (by decide) (tdF t) (qis h) (by show 4≤1000;decide) (fun f hf=>by simp only [tdF,trF3,List.mem_cons,List.not_mem_nil,or_false] at hf;rcases hf with rfl | rfl | rfl | rfl <;> exact Nat.zero_le _) A c w hv
 rw [fwP_td t h,if_pos h20] at h1
 exact h1
theorem qlp (t:Tr) (h:t.Wf) (h20:t.to.length=20) (w:World):Calls Tryz.prog 16 #[.agg (trR t)] w fun e w'=>e=.returned (.string (bs (digP t)))∧Below w.heap.size w w':=by
 have HW:=qh (fun A c (W:World) hv=>rtdwrite t h h20 A c W hv)
 have HS:=qh (fun W:World=>qjn (tdB t) (by have:=qno h20 h;omega) W)
 have hX:=heap_alloc_new w (.cells (trR t) 28)
 have hB0:=(Below.refl w.heap.size w).alloc qn (.cells (trR t) 28)
 have hB1:=qh (hB0.alloc (by simp) (.cells #[.int .u64 0,.string ⟨#[116,120]⟩,.slice none 0 0,.int .u64 0,.string (bs t.to),.slice none 0 0,.int .u64 (t.am:Int),.string ⟨#[]⟩,.slice none 0 0,.int .u64 (t.no:Int),.string ⟨#[]⟩,.slice none 0 0] 81))
 have HV:=qh (tdC4_new (w.alloc (.cells (trR t) 28)) t)
 have c0:=rc (u:=.string (bs t.to)) hX 0 rfl
 have c1:=rc (u:=.int .u64 (t.am:Int)) hX 1 rfl
 have c2:=rc (u:=.int .u64 (t.no:Int)) hX 2 rfl
 clear hX hB0 h h20
 go_enter Tryz.func16,Tryz.ntmps16
 go_wp2_with fail
 refine (HW.out _ _ _ (by have:=HV.out;rwa [World.size_alloc] at this)).mono ?_
 rintro e w1 ⟨rfl,hb1⟩
 have HB1:=qh (qab hB1.out hB1.out.size hb1)
 clear hb1 hB1 HV
 go_wp2_with fail
 refine (HS.out _).mono ?_
 rintro e w2 ⟨rfl,hb2⟩
 have HB2:=qh (qab HB1.out HB1.out.size hb2)
 clear hb2 HB1
 go_wp2_with fail
 go_ret
 exact ⟨rfl,HB2.out⟩
theorem enTRight:Ent Tryz.prog 13:=⟨enters_of Tryz.func13 (by kernel_rfl) rfl⟩
theorem enTSign:Ent Tryz.prog 50:=⟨enters_of Tryz.func50 (by kernel_rfl) rfl⟩
theorem alive14 (w:World):Calls Tryz.prog 15 #[] w fun e w'=>e=.returned (.bool true)∧Below w.heap.size w w':=by
 obtain ⟨t,c_s,ham,c_r⟩:∃ t:Tr,(∀ w,Calls Tryz.prog 50 #[.agg (uC 1),.string ⟨#[49,50,51,52,53,54,55,56,57,48,49,50,51,52,53,54,55,56,57,48]⟩,.int .u64 5,.int .u64 0] w fun e w'=>e=.returned (.tuple #[.agg (trC t),.int .i64 0])∧Below w.heap.size w w')∧(t.am:Int)=5 ∧
   ∀ w,Calls Tryz.prog 13 #[.agg (trC t)] w fun e w'=>e=.returned (.bool true)∧Below w.heap.size w w' :=
  ⟨trtx,signtx,rfl,fun w=>by
   have h:=qe2 trtx ⟨by decide,by decide,wftx⟩ (by decide) w
   rw [oktx] at h
   exact h⟩
 have hM:=Mem.nil w
 go_enter Tryz.func15,Tryz.ntmps15
 go_wp2_with (first
  | (refine qaj 5 rfl hM rfl rfl enTSign (al:=[.agg (uC 1),.string ⟨#[49,50,51,52,53,54,55,56,57,48,49,50,51,52,53,54,55,56,57,48]⟩,.int .u64 5,.int .u64 0]) (c_s _) rfl ?_;clear hM;intro w' hM)
  | (refine qai 1 rfl hM rfl (runTx rfl) ?_;clear hM;intro w' g1 hM)
  | (refine qaf hM rfl rfl tyTx rfl rfl (by exact hau) rfl rfl (oneTx _) ?_;clear hM;intro w' hM)
  | (refine qat hM rfl rfl Tryz.isAgg22 rfl (by exact hat) (v:=.int .u64 (t.am:Int)) rfl ?_)
  | (refine qag hM rfl rfl tyTx rfl (by exact hat) rfl ?_)
  | (refine qaj 17 rfl hM rfl rfl enTRight (al:=[.agg (trC t)]) (c_r _) rfl ?_;clear hM;intro w' hM))
 go_ret
 exact ⟨rfl,hM.below⟩
theorem boxTx (t:Tr) (w:World):(Instr.box 28 (.agg (trC t))).run Tryz.prog w=.ok (.pointer (some ⟨w.heap.size,0,none⟩)) (w.alloc (.cells (trC t) 28)):=by
 unfold trC
 go_simp
theorem storeS {w0 w:World} {L:List Blk} {g k j:Nat} {cs:Array Value} {t:TypeId} {v:Value} (hM:Mem w0 w L) (hk:L[k]? = some (g,cs,t)) (hj:cs[j]? = some v) (s:ByteArray):(storeVar 9 ⟨g,j,none⟩ (.string s)).run Tryz.prog w=.ok () (w.setCell ⟨g,j,none⟩ (.string s)):=by
 have hc:=rc (hM.at_ hk) j hj
 have hf:=rf (hM.at_ hk) j
 go_simp
def cutTe (t:Tr):Tr:=⟨t.to.take 40,t.am,t.no,t.sg⟩
theorem cutTr_wf {t:Tr} (h:t.Wf):(cutTe t).Wf:=⟨h.am,h.no,h.sg⟩
theorem short14 (t:Tr) (h63:t.to.length≤9223372036854775807) (w:World):Calls Tryz.prog 7 #[.agg (trC t)] w fun e w'=>e=.returned (.agg (trC (cutTe t)))∧Below w.heap.size w w':=by
 have hM:=Mem.nil w
 obtain ⟨m,hm⟩:∃ m,min t.to.length 40=m:=⟨_,rfl⟩
 have hmin:min (t.to.length:Int) 40=(m:Int):=by omega
 have hm1:(m:Int)≤(t.to.length:Int):=by omega
 have h63I:(t.to.length:Int)≤9223372036854775807:=by omega
 have htk:t.to.take m=t.to.take 40:=by
  rw [← hm]
  by_cases h:t.to.length≤40
  ·rw [Nat.min_eq_left h,List.take_of_length_le qn,List.take_of_length_le h]
  ·rw [Nat.min_eq_right (by omega)]
 have HT:=qh htk
 clear htk hm
 go_enter Tryz.func7,Tryz.ntmps7
 go_wp2_with (first
  | (refine qa4 1 rfl hM rfl rfl rfl (boxTx t _) ?_;clear hM;intro w' g1 hM)
  | (refine qai 2 rfl hM rfl (runTx rfl) ?_;clear hM;intro w' g2 hM)
  | (refine qat hM rfl rfl Tryz.isAgg9 rfl (by exact hat) (v:=.string (bs t.to)) rfl ?_)
  | (refine qi0 (v:=.string (bs (t.to.take m))) hM rfl rfl rfl rfl (by exact hau) (storeS hM at1 rfl _) ?_;clear hM;intro w' hM;change Mem _ _ [(g2,_,_),(g1,trC ⟨t.to.take m,t.am,t.no,t.sg⟩,_)] at hM)
  | (refine qag hM rfl rfl tyTx rfl (by exact hat) rfl ?_)
  | (refine qaf hM rfl rfl tyTx rfl rfl (by exact hau) rfl rfl (oneTx _) ?_;clear hM;intro w' hM))
 refine res_c hM rfl tyTx rfl (by exact hat) rfl rfl ?_
 have htk:t.to.take m=t.to.take 40:=HT.out
 exact ⟨by rw [htk];rfl,hM.below⟩
/- The walk of law 14's TxBytes. -/
theorem qpi {s:Bytes} {h u:Tr} {n m:Nat} (h1:TrSaid s h n) (h2:TrSaid s u m):h=u∧n=m:=by
 rcases h1 with ⟨rfl,k1,w1,e1⟩ | ⟨rfl,rfl,no1⟩ <;> rcases h2 with ⟨rfl,k2,w2,e2⟩ | ⟨rfl,rfl,no2⟩
 ·exact ⟨trB_inj k1 w1 k2 w2 (e1.symm.trans e2),rfl⟩
 ·exact absurd e1 (no2 _ k1 w1)
 ·exact absurd e2 (no1 _ k2 w2)
 ·exact ⟨rfl,rfl⟩
theorem qpw (s:Bytes):∃ (x:Tr) (n:Nat),(∀ w,Calls Tryz.prog 11 #[.string (bs s)] w fun e w'=>e=.returned (.tuple #[.agg (trC x),.int .i64 n])∧Below w.heap.size w w')∧∀ w,Calls Tryz.prog 12 #[.string (bs s)] w fun e w'=>e=.returned (.tuple #[.agg (trC x),.int .i64 n])∧Below w.heap.size w w':=by
 obtain ⟨x,n,hx⟩:∃ (x:Tr) (n:Nat),TrSaid s x n:=by
  by_cases h:∃ u:Tr,okTr u=true∧u.Wf∧s=trB u
  ·obtain ⟨u,h1,h2,h3⟩:=h
   exact ⟨u,0,.inl ⟨rfl,h1,h2,h3⟩⟩
  ·exact ⟨zeroTr,4,.inr ⟨rfl,rfl,fun u h1 h2 h3=>h ⟨u,h1,h2,h3⟩⟩⟩
 refine ⟨x,n,fun w=>(qsm s w).mono ?_,fun w=>(qqv s w).mono ?_⟩
 all_goals
  rintro e w' ⟨t,no,rfl,hs,hb⟩
  obtain ⟨rfl,rfl⟩:=qpi hs hx
  exact ⟨rfl,hb⟩
theorem qsz:Ent Tryz.prog 8:=⟨enters_of Tryz.func8 (by kernel_rfl) rfl⟩
theorem enTxSum:Ent Tryz.prog 9:=⟨enters_of Tryz.func9 (by kernel_rfl) rfl⟩
theorem qqe:Ent Tryz.prog 10:=⟨enters_of Tryz.func10 (by kernel_rfl) rfl⟩
theorem enTxRead:Ent Tryz.prog 11:=⟨enters_of Tryz.func11 (by kernel_rfl) rfl⟩
theorem enRtRead:Ent Tryz.prog 12:=⟨enters_of Tryz.func12 (by kernel_rfl) rfl⟩
theorem qij:Ent Tryz.prog 14:=⟨enters_of Tryz.func14 (by kernel_rfl) rfl⟩
theorem qjc:Ent Tryz.prog 16:=⟨enters_of Tryz.func16 (by kernel_rfl) rfl⟩
theorem qur:Ent Tryz.prog 17:=⟨enters_of Tryz.func17 (by kernel_rfl) rfl⟩
theorem enRtSum:Ent Tryz.prog 18:=⟨enters_of Tryz.func18 (by kernel_rfl) rfl⟩
/-- the answers of the three that write -/
theorem tans_b (c:Tr) (h:c.Wf) (h63:c.to.length≤9223372036854775807):∃ (sb ss:Bytes) (nb:Int),(∀ w,Calls Tryz.prog 8 #[.agg (trC c)] w fun e w'=>e=.returned (.tuple #[.string (bs sb),.int .i64 nb])∧Below w.heap.size w w')∧(∀ w,Calls Tryz.prog 9 #[.agg (trC c)] w fun e w'=>e=.returned (.tuple #[.string (bs ss),.int .i64 nb])∧Below w.heap.size w w') ∧
  ((okTr c=true∧nb=0∧sb=trB c∧ss=sumT c)∨(okTr c=false∧nb=1∧sb = []∧ss = [])):=by
 by_cases hk:okTr c=true
 ·exact ⟨trB c,sumK (trB c),0,fun w=>qjl c h hk w,fun w=>tsum_yes c h hk w,.inl ⟨hk,rfl,rfl,rfl⟩⟩
 ·have hk:=Bool.eq_false_iff.2 hk
  exact ⟨[],[],1,fun w=>qmg c h h63 hk w,fun w=>tsum_no c h h63 hk w,.inr ⟨hk,rfl,rfl,rfl⟩⟩
theorem tans_d (c:Tr) (h:c.Wf):∃ (sd:Bytes) (nd:Int),(∀ w,Calls Tryz.prog 10 #[.agg (trC c)] w fun e w'=>e=.returned (.tuple #[.string (bs sd),.int .i64 nd])∧Below w.heap.size w w') ∧
  ((c.to.length=20∧nd=0∧sd=digP c)∨(¬ c.to.length=20∧nd=1∧sd = [])):=by
 by_cases hk:c.to.length=20
 ·exact ⟨digP c,0,fun w=>qhw c h hk w,.inl ⟨hk,rfl,rfl⟩⟩
 ·exact ⟨[],1,fun w=>qpc c h hk w,.inr ⟨hk,rfl,rfl⟩⟩
theorem y_neqTr {ops:Array Oper} {S:World→Prop} {oi:Oper} {a:Act} {x y:Operand} (t:Tr) (ho:oi.op=.binOp .neq 28 x y 28:=by rfl) (hx:a.eval x=.agg (trC t):=by rfl) (hy:a.eval y=.agg (trC t):=by rfl) (hw:Region.wanted oi (yielded ops a.tmps)=true:=by rfl):YieldsIf Tryz.prog ops S oi (.bool false) a :=
 .inl ⟨hw,fun w' _=>by
  have h1:(binOp .neq 28 (.agg (trC t)) (.agg (trC t))).run Tryz.prog w'=.ok (.bool false) w':=neqTrE t w'
  have h2:∀ aa bb,_:=fun aa bb=>run_eqGuard_agg w' .neq 28 aa bb (trC t) (trC t) guardTrE
  change ∀ aa bb,(eqGuard .neq 28 aa bb (.agg (trC t)) (.agg (trC t))).run Tryz.prog w'=_ at h2
  unfold execOp
  simp only [ho,hx,hy]
  generalize Value.agg (trC t)=VV at h1 h2 ⊢
  go_simp⟩
theorem qni (t:Tr) (h:t.Wf) (h63:t.to.length≤9223372036854775807) (s:Bytes) (hs:s.length≤9223372036854775807) (w:World):Calls Tryz.prog 3 #[.agg (trC t),.string (bs s)] w fun e w'=>e=.returned (.bool true)∧Below w.heap.size w w':=by
 have c_sh:=fun W:World=>short14 t h63 W
 obtain ⟨c,hc⟩:∃ c,cutTe t=c:=⟨_,rfl⟩
 rw [hc] at c_sh
 have hcw:c.Wf:=hc ▸ cutTr_wf h
 have hcl:c.to.length≤9223372036854775807:=by rw [← hc];unfold cutTe;simp only [List.length_take];omega
 clear hc
 obtain ⟨m,hm⟩:∃ m,min s.length 300=m:=⟨_,rfl⟩
 have hmin:min (s.length:Int) 300=(m:Int):=by omega
 have hm1:(m:Int)≤(s.length:Int):=by omega
 have hsI:(s.length:Int)≤9223372036854775807:=by omega
 clear hm hs
 obtain ⟨x,n,c_rd,c_rr⟩:=qpw (s.take m)
 obtain ⟨sb,ss,nb,c_b,c_s,hbs⟩:=tans_b c hcw hcl
 obtain ⟨sd,nd,c_d,hsd⟩:=tans_d c hcw
 have c_rt:=fun W:World=>qe2 c hcw hcl W
 have c_rrt:=fun W:World=>qm3 c hcw hcl W
 have c_rdg:=fun h20=>fun W:World=>qlp c hcw h20 W
 have c_rb:=fun hk=>fun W:World=>qir c hcw hk W
 have c_rs:=fun hk=>fun W:World=>qq8 c hcw hk W
 change ∀ W:World,Calls Tryz.prog 13 #[.agg (trC c)] W fun e w'=>e=.returned (.bool (okTr c))∧Below W.heap.size W w' at c_rt
 change ∀ W:World,Calls Tryz.prog 14 #[.agg (trC c)] W fun e w'=>e=.returned (.bool (okTr c))∧Below W.heap.size W w' at c_rrt
 change c.to.length=20→∀ W:World,Calls Tryz.prog 16 #[.agg (trC c)] W fun e w'=>e=.returned (.string (bs (digP c)))∧Below W.heap.size W w' at c_rdg
 change okTr c=true→∀ W:World,Calls Tryz.prog 17 #[.agg (trC c)] W fun e w'=>e=.returned (.string (bs (trB c)))∧Below W.heap.size W w' at c_rb
 change okTr c=true→∀ W:World,Calls Tryz.prog 18 #[.agg (trC c)] W fun e w'=>e=.returned (.string (bs (sumT c)))∧Below W.heap.size W w' at c_rs
 have hok20:okTr c=true→c.to.length=20:=fun e=>by
  unfold okTr at e
  simp only [Bool.and_eq_true,beq_iff_eq] at e
  exact e.1
 obtain ⟨ok,hok⟩:∃ k,okTr c=k:=⟨_,rfl⟩
 rw [hok] at c_rt c_rrt c_rb c_rs hbs hok20
 have hcI:(c.to.length:Int)≤9223372036854775807:=by omega
 obtain ⟨q,hq⟩:∃ q,(c.to.length:Int)=q:=⟨_,rfl⟩
 have hq20:c.to.length=20↔q=20:=by omega
 rw [hq20] at hsd c_rdg hok20
 have HD:=qh hsd
 have HBS:=qh hbs
 have H20:=qh hok20
 have CDG:=qh c_rdg
 have CB:=qh c_rb
 have CS:=qh c_rs
 have hM:=Mem.nil w
 clear h hcw hcl h63 hsd hbs hok20 c_rdg c_rb c_rs hq20 hok
 go_enter Tryz.func3,Tryz.ntmps3
 go_wp2_with (first
  | (refine qa4 2 rfl hM rfl rfl rfl (boxTx t _) ?_;clear hM;intro w' g2 hM))
 refine qao [(7,fun v'=>Mem w v' [(g2,trC t,28)])] (by kernel_rfl) ?_
 replace hM:=hM.drew
 generalize w'.drew=w1 at hM ⊢
 refine R_p (i:=2) (v:=.string (bs s)) (Mh hM Mn) ?_
 refine R_p (i:=3) (v:=.string (bs s)) (Mh hM Mn) ?_
 refine R_p (i:=4) (v:=.int .i64 (s.length:Int)) (Mh hM Mn) ?_
 refine R_p (i:=5) (v:=.int .i64 (m:Int)) (Mh hM Mn) ?_
 refine R_p (i:=6) (v:=.string (bs (s.take m))) (Mh hM Mn) ?_
 refine R_l (i:=0) 7 _ List.mem_cons_self rfl (qei tyTx (fun _ h=>Mem.at_ h at0)) (Mh hM Mn) ?_
 refine R_now 1 fun K hK=>?_
 go_simp
 refine (c_sh _).mono ?_
 rintro e w2 ⟨rfl,hb⟩
 replace hM:=hM.call hb
 clear hb
 refine hK.out _ _ (Mh hM Mn) (fun _=>lay_R ?_)
 clear hK K
 refine R_now 7 fun K hK=>?_
 refine qdo (by rfl) ?_
 refine wp_store_row _ _ _ rfl _ (trC c) rfl rfl _ _ (hM.at_ at0) infoTx rfl (oneTx c) ?_
 replace hM:=hM.set at0 (trC c) up0
 refine hK.out _ _ (Meets.past (by kernel_rfl) Mn) (fun _=>lay_R ?_)
 clear hK K
 refine R_p (i:=8) (v:=.string (bs (s.take m))) (Meets.past (by kernel_rfl) Mn) ?_
 refine qa7 (by kernel_rfl) ?_ _
 generalize w2.setRow g2 (trC c)=w3 at hM ⊢
 clear hmin hm1
 obtain ⟨u,hu⟩:∃ u,s.take m=u:=⟨_,rfl⟩
 rw [hu] at c_rd c_rr ⊢
 clear hu
 go_wp2_with (first
  | (refine qaj 24 rfl hM rfl rfl qsz (al:=[.agg (trC c)]) (c_b _) rfl ?_;clear hM;intro w' hM)
  | (refine qaj 29 rfl hM rfl rfl enTxSum (al:=[.agg (trC c)]) (c_s _) rfl ?_;clear hM;intro w' hM)
  | (refine qaj 34 rfl hM rfl rfl qqe (al:=[.agg (trC c)]) (c_d _) rfl ?_;clear hM;intro w' hM)
  | (refine qaj 39 rfl hM rfl rfl enTxRead (al:=[.string (bs u)]) (c_rd _) rfl ?_;clear hM;intro w' hM)
  | (refine qaj 44 rfl hM rfl rfl enRtRead (al:=[.string (bs u)]) (c_rr _) rfl ?_;clear hM;intro w' hM)
  | (refine qai 11 rfl hM rfl (runTx rfl) ?_;clear hM;intro w' g11 hM)
  | (refine qai 13 rfl hM rfl (runTx rfl) ?_;clear hM;intro w' g13 hM)
  | (refine qaf hM rfl rfl tyTx rfl rfl (by exact hau) rfl rfl (oneTx _) ?_;clear hM;intro w' hM)
  | (refine qag hM rfl rfl tyTx rfl (by exact hat) rfl ?_))
 refine wp_region_held_drew (S:=fun v'=>Mem w v' [(g13,trC x,28),(g11,trC x,28),(g2,trC c,28)]) (by kernel_rfl) hM.drew (fun _=>?_)
 replace hM:=hM.drew
 refine H_t (i:=0) rfl (qei tyTx (fun _ h=>Mem.at_ h at1)) hM ?_
 refine H_t (i:=1) rfl (qei tyTx (fun _ h=>Mem.at_ h at0)) hM ?_
 refine H_t (i:=2) rfl (y_neqTr x) hM ?_
 refine H_t (i:=3) (v:=.bool false) rfl (Or.inl ⟨by rfl,fun w' hS=>by go_simp⟩) hM ?_
 refine H_t (i:=4) (v:=.int .i64 (n:Int)) rfl (Or.inl ⟨by rfl,fun w' hS=>by go_simp⟩) hM ?_
 refine H_t (i:=5) (v:=.int .i64 (n:Int)) rfl (Or.inl ⟨by rfl,fun w' hS=>by go_simp⟩) hM ?_
 refine H_t (i:=6) (v:=.bool false) rfl (Or.inl ⟨by rfl,fun w' hS=>by go_simp⟩) hM ?_
 refine H_t (i:=7) (v:=.bool false) rfl (Or.inl ⟨by rfl,fun w' hS=>by go_simp⟩) hM ?_
 refine H_t (i:=8) (v:=.bool false) rfl (Or.inl ⟨by rfl,fun w' hS=>by go_simp⟩) hM ?_
 refine H_t (i:=9) rfl (qei tyTx (fun _ h=>Mem.at_ h at2)) hM ?_
 refine H_t (i:=11) rfl (qei tyTx (fun _ h=>Mem.at_ h at2)) hM ?_
 refine H_now 10 fun K hK=>?_
 go_simp
 refine (c_rt _).mono ?_
 rintro e w1 ⟨rfl,hb⟩
 have hM:=hM.call hb
 clear hb
 refine hK.out _ _ hM (fun _=>lay_H ?_)
 clear hK K
 refine H_now 12 fun K hK=>?_
 go_simp
 refine (c_rrt _).mono ?_
 rintro e w1 ⟨rfl,hb⟩
 have hM:=hM.call hb
 clear hb
 refine hK.out _ _ hM (fun _=>lay_H ?_)
 clear hK K
 refine H_t (i:=13) (v:=.bool false) rfl (Or.inl ⟨by rfl,fun w' hS=>by cases ok <;> go_simp⟩) hM ?_
 refine H_t (i:=14) (v:=.bool false) rfl (Or.inl ⟨by rfl,fun w' hS=>by go_simp⟩) hM ?_
 refine H_t (i:=15) (v:=.bool false) rfl (Or.inl ⟨by rfl,fun w' hS=>by go_simp⟩) hM ?_
 refine H_now 16 fun K hK=>?_
 go_simp
 refine (alive14 _).mono ?_
 rintro e w1 ⟨rfl,hb⟩
 have hM:=hM.call hb
 clear hb
 refine hK.out _ _ hM (fun _=>lay_H ?_)
 clear hK K
 refine H_t (i:=17) (v:=.bool false) rfl (Or.inl ⟨by rfl,fun w' hS=>by go_simp⟩) hM ?_
 refine H_t (i:=18) (v:=.bool false) rfl (Or.inl ⟨by rfl,fun w' hS=>by go_simp⟩) hM ?_
 refine wpAnyH_done (by kernel_rfl) ?_ _
 have hbz:bs []=⟨#[]⟩:=rfl
 have hlen:∀ z:Nat,c.to.length=z→(c.to.length:Int)=(z:Int):=fun z e=>by rw [e]
 rcases HD.out with ⟨h20,hnd,hsd⟩ | ⟨h20,hnd,hsd⟩
 ·rcases HBS.out with ⟨hk,hnb,hsb,hss⟩ | ⟨hk,hnb,hsb,hss⟩
  ·subst hk hnd hnb hsb hss hsd
   have c_rdg:=CDG.out h20
   have c_rb:=CB.out rfl
   have c_rs:=CS.out rfl
   have hl20:(c.to.length:Int)=20:=hq.trans h20
   clear H20 CDG CB CS HD HBS hq h20 hlen
   go_wp2_with (first
    | (refine qat hM rfl rfl Tryz.isAgg9 rfl (by exact hat) (v:=.string (bs c.to)) rfl ?_)
    | (refine qag hM rfl rfl tyTx rfl (by exact hat) rfl ?_)
    | (refine qaj 85 rfl hM rfl rfl qij (al:=[.agg (trC c)]) (c_rrt _) rfl ?_;clear hM;intro w' hM)
    | (refine qaj 81 rfl hM rfl rfl qjc (al:=[.agg (trC c)]) (c_rdg _) rfl ?_;clear hM;intro w' hM)
    | (refine qaj 110 rfl hM rfl rfl qur (al:=[.agg (trC c)]) (c_rb _) rfl ?_;clear hM;intro w' hM)
    | (refine qaj 116 rfl hM rfl rfl enRtSum (al:=[.agg (trC c)]) (c_rs _) rfl ?_;clear hM;intro w' hM))
   go_ret
   exact ⟨rfl,hM.below⟩
  ·subst hk hnd hnb hsb hss hsd
   have c_rdg:=CDG.out h20
   have hl20:(c.to.length:Int)=20:=hq.trans h20
   clear H20 CDG CB CS HD HBS hq h20 hlen
   go_wp2_with (first
    | (refine qat hM rfl rfl Tryz.isAgg9 rfl (by exact hat) (v:=.string (bs c.to)) rfl ?_)
    | (refine qag hM rfl rfl tyTx rfl (by exact hat) rfl ?_)
    | (refine qaj 85 rfl hM rfl rfl qij (al:=[.agg (trC c)]) (c_rrt _) rfl ?_;clear hM;intro w' hM)
    | (refine qaj 81 rfl hM rfl rfl qjc (al:=[.agg (trC c)]) (c_rdg _) rfl ?_;clear hM;intro w' hM))
   go_ret
   exact ⟨rfl,hM.below⟩
 ·rcases HBS.out with ⟨hk,hnb,hsb,hss⟩ | ⟨hk,hnb,hsb,hss⟩
  ·exact absurd (H20.out hk) h20
  ·subst hk hnd hnb hsb hss hsd
   have hl20:¬ (c.to.length:Int)=20:=fun e=>h20 (hq.symm.trans e)
   clear H20 CDG CB CS HD HBS hq h20 hlen
   go_wp2_with (first
    | (refine qat hM rfl rfl Tryz.isAgg9 rfl (by exact hat) (v:=.string (bs c.to)) rfl ?_)
    | (refine qag hM rfl rfl tyTx rfl (by exact hat) rfl ?_)
    | (refine qaj 85 rfl hM rfl rfl qij (al:=[.agg (trC c)]) (c_rrt _) rfl ?_;clear hM;intro w' hM))
   go_ret
   exact ⟨rfl,hM.below⟩
end Go.Proofs.YteoednifdpdbnaaGreat
