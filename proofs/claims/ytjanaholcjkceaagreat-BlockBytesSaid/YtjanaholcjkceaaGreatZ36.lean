/- The walks of tx.fields, Right, Bytes, Sum. -/
import Derived.Test.YtjanaholcjkceaaGreatZ34
import Derived.Test.YtjanaholcjkceaaGreatZ35
import Derived.Test.YtjanaholcjkceaaGreatZ10
namespace Go.Proofs.YtjanaholcjkceaaGreat
set_option linter.unusedVariables false
set_option linter.unusedSimpArgs false
open Go.RowKit
set_option maxHeartbeats 4000000
set_option maxRecDepth 100000
theorem eqFields_step {P:Program} {w:World} {d:Nat} {xs ys:Array Value} {f:Field} {fs:List Field} (hne:f.name ≠ "_") {a b:Value} {r:Bool} (ha:(part f.type xs f.offset).run P w=.ok a w) (hb:(part f.type ys f.offset).run P w=.ok b w)
  (hr:(Op.equalIn d f.type a b).run P w=.ok r w):(Op.eqFields d xs ys (f :: fs)).run P w=if r=true then (Op.eqFields d xs ys fs).run P w else .ok false w:=by
 rw [Op.eqFields,if_pos hne]
 cases r with
 | true=>simp [Sem.run_bind,ha,hb,hr]
 | false=>simp [Sem.run_bind,ha,hb,hr]
theorem fieldsSg:Tryz.prog.underlying 53 = some (.struct (Tryz.prog.fieldsOf 53)):=by kernel_rfl
theorem stoodSg:Tryz.prog.stoodInHeld 53 = false:=by kernel_rfl
theorem guardSg:Tryz.prog.eqGuardType Tryz.prog.depth 53 = false:=by kernel_rfl
theorem partU {cs:Array Value} {o:Nat} {ds:Array Value} (h:cs.extract o (o+4)=ds) (w:World):(part 51 cs o).run Tryz.prog w=.ok (.agg ds) w:=by
 have hz:(sizeOf 51).run Tryz.prog w=.ok 4 w:=by
  obtain ⟨i,hi⟩:=info_of_underlying Tryz.underlying51
  rw [run_sizeOf w hi,show Tryz.prog.cellsOf 51 = 4 by kernel_rfl]
 simp only [part,isAgg,Sem.run_bind,run_underlying Tryz.underlying51,Result.andThen_ok,Sem.run_pure,if_true,hz,h]
def eqSg (x y:Sg):Bool:=eqU x.r y.r && (eqU x.s y.s && x.v == y.v)
theorem eqSg_iff (x y:Sg):eqSg x y=true↔x=y:=by
 unfold eqSg eqU
 simp only [Bool.and_eq_true,decide_eq_true_eq,beq_iff_eq]
 obtain ⟨a,b,c⟩:=x
 obtain ⟨a',b',c'⟩:=y
 simp
theorem run_eqSg (x y:Sg) (w:World):(Op.equalIn 10000 53 (.agg (sgR x)) (.agg (sgR y))).run Tryz.prog w=.ok (eqSg x y) w:=by
 rw [show (10000:Nat)=9999+1 from rfl,run_equalIn_agg w 9999 _ _ _ fieldsSg stoodSg]
 have h1:(Op.eqFields 9999 (sgR x) (sgR y) (Tryz.prog.fieldsOf 53).toList).run Tryz.prog w=.ok (eqSg x y) w:=by
  simp only [Program.fieldsOf,Tryz.underlying53]
  refine Eq.trans (eqFields_step (by decide) (partU rfl w) (partU rfl w) (run_eqU 9997 x.r y.r w)) ?_
  unfold eqSg
  cases h1:eqU x.r y.r with
  | false=>rfl
  | true =>
   refine Eq.trans (eqFields_step (by decide) (partU rfl w) (partU rfl w) (run_eqU 9997 x.s y.s w)) ?_
   cases h2:eqU x.s y.s with
   | false=>rfl
   | true =>
    have p2:∀ z:Sg,(part 3 (sgR z) 8).run Tryz.prog w=.ok (.int .i64 z.v) w:=fun z=>by simp [part,isAgg,run_underlying Tryz.underlying3,Sem.run_bind]
    refine Eq.trans (eqFields_step (r:=(x.v == y.v)) (by decide) (p2 x) (p2 y) (by
     rw [show (9999:Nat)=9998+1 from rfl,run_equalIn_int w 9998 _ .i64 .i64 _ _ Tryz.underlying3])) ?_
    cases x.v == y.v <;> rfl
 exact h1
theorem sbytes_yes1 (x:Sg) (h:x.Wf) (hk:okSg x=true) (w:World):Calls Tryz.prog 43 #[.agg (sgR x)] w fun e w'=>e=.returned (.tuple #[.string (bs (sgB x)),.int .i64 0])∧Below w.heap.size w w':=by
 have:=sbytes_any x h w
 rw [if_pos hk,if_pos hk] at this
 exact this
theorem sbytes_no1 (x:Sg) (h:x.Wf) (hk:okSg x=false) (w:World):Calls Tryz.prog 43 #[.agg (sgR x)] w fun e w'=>e=.returned (.tuple #[.string (bs []),.int .i64 1])∧Below w.heap.size w w':=by
 have:=sbytes_any x h w
 rw [hk,if_neg (by decide),if_neg (by decide)] at this
 exact this
theorem tright_any (t:Tr) (h:t.Wf) (h63:t.to.length≤9223372036854775807) (w:World):Calls Tryz.prog 42 #[.agg (trR t)] w fun e w'=>e=.returned (.bool (okTr t))∧Below w.heap.size w w':=by
 have hY:=fun (hk:okSg t.sg=true) (W:World)=>sbytes_yes1 t.sg h.sg hk W
 have hN:=fun (hk:okSg t.sg=false) (W:World)=>sbytes_no1 t.sg h.sg hk W
 have hok:okTr t=(t.to.length == 20 && okSg t.sg):=rfl
 have heqz:eqSg t.sg zeroSg=true→okSg t.sg=false:=fun e=>by rw [(eqSg_iff _ _).1 e];exact zeroSg_no
 obtain ⟨z,hz⟩:∃ z,eqSg t.sg zeroSg=z:=⟨_,rfl⟩
 have heq:∀ W:World,(Op.equalIn 10000 53 (.agg (sgR t.sg)) (.agg zqS)).run Tryz.prog W=.ok z W:=fun W=>by
  have:=run_eqSg t.sg zeroSg W
  rw [hz] at this
  exact this
 rw [hz] at heqz
 obtain ⟨ok,hk⟩:∃ ok,okSg t.sg=ok:=⟨_,rfl⟩
 rw [hk] at hok heqz hY hN
 have hlI:((t.to.length:Int) == 20)=(t.to.length == 20):=by rw [Bool.eq_iff_iff];simp only [beq_iff_eq];omega
 have h63I:(t.to.length:Int)≤9223372036854775807:=by omega
 have HOK:=qh hok
 have HY:=qh hY
 have HN:=qh hN
 have HLI:=qh hlI
 have hX:=heap_alloc_new w (.cells (trR t) 55)
 have HX0:=qh hX
 have HB0:=qh ((Below.refl w.heap.size w).alloc qn (.cells (trR t) 55))
 have c0:=rc (u:=.string (bs t.to)) hX 0 rfl
 have c1:=rc (u:=.int .u64 (t.am:Int)) hX 1 rfl
 have c2:=rc (u:=.int .u64 (t.no:Int)) hX 2 rfl
 have c3:=rc (u:=.int .u64 (t.sg.r.a:Int)) hX 3 rfl
 have c4:=rc (u:=.int .u64 (t.sg.r.b:Int)) hX 4 rfl
 have c5:=rc (u:=.int .u64 (t.sg.r.c:Int)) hX 5 rfl
 have c6:=rc (u:=.int .u64 (t.sg.r.d:Int)) hX 6 rfl
 have c7:=rc (u:=.int .u64 (t.sg.s.a:Int)) hX 7 rfl
 have c8:=rc (u:=.int .u64 (t.sg.s.b:Int)) hX 8 rfl
 have c9:=rc (u:=.int .u64 (t.sg.s.c:Int)) hX 9 rfl
 have c10:=rc (u:=.int .u64 (t.sg.s.d:Int)) hX 10 rfl
 have c11:=rc (u:=.int .i64 t.sg.v) hX 11 rfl
 clear hX hok hY hN hlI h hz hk h63
 cases z with
 | true =>
  obtain rfl:ok=false:=heqz rfl
  clear heqz
  go_enter Tryz.func42,Tryz.ntmps42
  go_wp2_with fail
  go_ret
  exact ⟨by rw [HOK.out,Bool.and_false];rfl,HB0.out⟩
 | false =>
  clear heqz
  cases ok with
  | false =>
   go_enter Tryz.func42,Tryz.ntmps42
   go_wp2_with fail
   refine (HN.out trivial _).mono ?_
   rintro e w1 ⟨rfl,hb1⟩
   have HB1:=qh (below_call HB0.out HB0.out.size hb1)
   clear hb1 HB0 HX0
   go_wp2_with fail
   go_ret
   exact ⟨by rw [HOK.out,Bool.and_false];rfl,HB1.out⟩
  | true =>
   go_enter Tryz.func42,Tryz.ntmps42
   go_wp2_with fail
   refine (HY.out trivial _).mono ?_
   rintro e w1 ⟨rfl,hb1⟩
   have hX1:=(hb1.block _ (qg HX0.out)).trans HX0.out
   have HB1:=qh (below_call HB0.out HB0.out.size hb1)
   have d0:=rc hX1 0 rfl
   clear hb1 HB0 HX0 hX1
   go_wp2_with fail
   go_ret
   exact ⟨by rw [HOK.out,Bool.and_true];exact congrArg (fun b=>Ending.returned (.bool b)) HLI.out,HB1.out⟩
def trF3 (t:Tr):List Fd:=[⟨0,t.to,[]⟩,⟨t.am,[],[]⟩,⟨t.no,[],[]⟩]
def trC3 (t:Tr):List Value:=[.int .u64 0,.string (bs t.to),.slice none 0 0,.int .u64 (t.am:Int),.string (bs []),.slice none 0 0,.int .u64 (t.no:Int),.string (bs []),.slice none 0 0]
theorem fd_repz {S:Nat→Prop} {w:World} (n:Nat) (b:Bytes):Rep S w (fdD ⟨n,b,[]⟩) [.int .u64 (n:Int),.string (bs b),.slice none 0 0]:=fd_rep (f:=⟨n,b,[]⟩) (A:=none) (c:=0) (Rep.nil_slice 3)
theorem trC3_rep {S:Nat→Prop} {w:World} (t:Tr):RepN S w 3 (fdsD (trF3 t)) (trC3 t) :=
 .cons (fd_repz 0 t.to) rfl (.cons (fd_repz t.am []) rfl (.cons (cs':=[]) (fd_repz t.no []) rfl .nil))
def FieldsPost (t:Tr) (w:World) (e:Ending) (w':World):Prop:=∃ g,e=.returned (.slice (some ⟨g,0,none⟩) 3 3)∧w'.ownsRow w.heap.size 79 3 (.slice (some ⟨g,0,none⟩) 3 3) 3 (trC3 t)∧Below w.heap.size w w'
theorem tfields_any (t:Tr) (w:World):Calls Tryz.prog 45 #[.agg (trR t)] w (FieldsPost t w):=by
 have hX:=heap_alloc_new w (.cells (trR t) 55)
 have HX0:=qh hX
 have HB0:=qh ((Below.refl w.heap.size w).alloc qn (.cells (trR t) 55))
 have c0:=rc (u:=.string (bs t.to)) hX 0 rfl
 have c1:=rc (u:=.int .u64 (t.am:Int)) hX 1 rfl
 have c2:=rc (u:=.int .u64 (t.no:Int)) hX 2 rfl
 have c3:=rc (u:=.int .u64 (t.sg.r.a:Int)) hX 3 rfl
 have c4:=rc (u:=.int .u64 (t.sg.r.b:Int)) hX 4 rfl
 have c5:=rc (u:=.int .u64 (t.sg.r.c:Int)) hX 5 rfl
 have c6:=rc (u:=.int .u64 (t.sg.r.d:Int)) hX 6 rfl
 have c7:=rc (u:=.int .u64 (t.sg.s.a:Int)) hX 7 rfl
 have c8:=rc (u:=.int .u64 (t.sg.s.b:Int)) hX 8 rfl
 have c9:=rc (u:=.int .u64 (t.sg.s.c:Int)) hX 9 rfl
 have c10:=rc (u:=.int .u64 (t.sg.s.d:Int)) hX 10 rfl
 have c11:=rc (u:=.int .i64 t.sg.v) hX 11 rfl
 clear hX
 go_enter Tryz.func45,Tryz.ntmps45
 go_wp2_with fail
 go_ret
 refine ⟨w.heap.size+1,rfl,?_,((Below.refl _ _).alloc qn _).alloc (by simp) _⟩
 have:=World.ownsRow_lit (base:=w.heap.size) (e:=79) (size:=3) (w.alloc (.cells (trR t) 55)) (trC3 t).toArray 3 (by simp) (by simp [maxLen]) rfl
 simp only [World.size_alloc] at this
 exact this
theorem twrite_lit (t:Tr) (h:t.Wf) (hk:okTr t=true) (A:Option Addr) (c:Nat) (w:World) (hv:FdsV Any w (trF t) A c) :
  Calls Tryz.prog 44 #[.string ⟨#[97,110,110,115]⟩,.slice A 4 c] w fun e w'=>e=.returned (.tuple #[.string (bs (trB t)),.int .i64 0])∧Below w.heap.size w w':=by
 have h1:=fWrite_any trK trK_ok (by decide) (by decide) (trF t) (trF_small h) (by show 4≤1000;decide) (fun f hf=>by simp only [trF,List.mem_cons,List.not_mem_nil,or_false] at hf;rcases hf with rfl | rfl | rfl | rfl <;> exact Nat.zero_le _) A c w hv
 have h2:fwP trK (trF t)=(trB t,0):=by
  unfold fwP
  rw [if_pos (trF_fits hk),encR_fine (by decide) (trF_fits hk) (trF_small h) (by have:=trB_len hk h;unfold trB at this;omega)]
  rfl
 rw [h2] at h1
 exact h1
theorem tbytes_no (t:Tr) (h:t.Wf) (h63:t.to.length≤9223372036854775807) (hk:okTr t=false) (w:World):Calls Tryz.prog 19 #[.agg (trR t)] w fun e w'=>e=.returned (.tuple #[.string (bs []),.int .i64 1])∧Below w.heap.size w w':=by
 have hR:=fun W:World=>tright_any t h h63 W
 rw [hk] at hR
 have HR:=qh hR
 have HB0:=qh ((Below.refl w.heap.size w).alloc qn (.cells (trR t) 55))
 clear hR hk h h63
 go_enter Tryz.func19,Tryz.ntmps19
 go_wp2_with fail
 refine (HR.out _).mono ?_
 rintro e w1 ⟨rfl,hb1⟩
 have HB1:=qh (below_call HB0.out HB0.out.size hb1)
 clear hb1 HB0
 go_wp2_with fail
 go_ret2
 exact ⟨rfl,HB1.out⟩
theorem tbytes_yes (t:Tr) (h:t.Wf) (hk:okTr t=true) (w:World):Calls Tryz.prog 19 #[.agg (trR t)] w fun e w'=>e=.returned (.tuple #[.string (bs (trB t)),.int .i64 0])∧Below w.heap.size w w':=by
 have hk2:=hk
 unfold okTr at hk2
 simp only [Bool.and_eq_true,beq_iff_eq] at hk2
 have hR:=fun W:World=>tright_any t h (by rw [hk2.1];decide) W
 rw [hk] at hR
 have HR:=qh hR
 have HS:=qh (fun W:World=>sbytes_yes1 t.sg h.sg hk2.2 W)
 have HF:=qh (fun W:World=>tfields_any t W)
 have HW:=qh (fun A c (W:World) hv=>twrite_lit t h hk A c W hv)
 have hX:=heap_alloc_new w (.cells (trR t) 55)
 have HX0:=qh hX
 have HB0:=qh ((Below.refl w.heap.size w).alloc qn (.cells (trR t) 55))
 clear hX hR hk h hk2
 go_enter Tryz.func19,Tryz.ntmps19
 go_wp2_with fail
 refine (HR.out _).mono ?_
 rintro e w1 ⟨rfl,hb1⟩
 have hX1:=(hb1.block _ (qg HX0.out)).trans HX0.out
 have HB1:=qh (below_call HB0.out HB0.out.size hb1)
 have c0:=rc (u:=.string (bs t.to)) hX1 0 rfl
 have c1:=rc (u:=.int .u64 (t.am:Int)) hX1 1 rfl
 have c2:=rc (u:=.int .u64 (t.no:Int)) hX1 2 rfl
 have c3:=rc (u:=.int .u64 (t.sg.r.a:Int)) hX1 3 rfl
 have c4:=rc (u:=.int .u64 (t.sg.r.b:Int)) hX1 4 rfl
 have c5:=rc (u:=.int .u64 (t.sg.r.c:Int)) hX1 5 rfl
 have c6:=rc (u:=.int .u64 (t.sg.r.d:Int)) hX1 6 rfl
 have c7:=rc (u:=.int .u64 (t.sg.s.a:Int)) hX1 7 rfl
 have c8:=rc (u:=.int .u64 (t.sg.s.b:Int)) hX1 8 rfl
 have c9:=rc (u:=.int .u64 (t.sg.s.c:Int)) hX1 9 rfl
 have c10:=rc (u:=.int .u64 (t.sg.s.d:Int)) hX1 10 rfl
 have c11:=rc (u:=.int .i64 t.sg.v) hX1 11 rfl
 have HX1:=qh hX1
 clear hb1 HB0 HX0 hX1
 go_wp2_with fail
 refine (HS.out _).mono ?_
 rintro e w2 ⟨rfl,hb2⟩
 have hX2:=(hb2.block _ (qg HX1.out)).trans HX1.out
 have HB2:=qh (below_call HB1.out HB1.out.size hb2)
 clear hb2 HB1 HX1 c0 c1 c2 c3 c4 c5 c6 c7 c8 c9 c10 c11
 have c0:=rc (u:=.string (bs t.to)) hX2 0 rfl
 have c1:=rc (u:=.int .u64 (t.am:Int)) hX2 1 rfl
 have c2:=rc (u:=.int .u64 (t.no:Int)) hX2 2 rfl
 have c3:=rc (u:=.int .u64 (t.sg.r.a:Int)) hX2 3 rfl
 have c4:=rc (u:=.int .u64 (t.sg.r.b:Int)) hX2 4 rfl
 have c5:=rc (u:=.int .u64 (t.sg.r.c:Int)) hX2 5 rfl
 have c6:=rc (u:=.int .u64 (t.sg.r.d:Int)) hX2 6 rfl
 have c7:=rc (u:=.int .u64 (t.sg.s.a:Int)) hX2 7 rfl
 have c8:=rc (u:=.int .u64 (t.sg.s.b:Int)) hX2 8 rfl
 have c9:=rc (u:=.int .u64 (t.sg.s.c:Int)) hX2 9 rfl
 have c10:=rc (u:=.int .u64 (t.sg.s.d:Int)) hX2 10 rfl
 have c11:=rc (u:=.int .i64 t.sg.v) hX2 11 rfl
 clear hX2
 go_wp2_with fail
 refine (HF.out _).mono ?_
 rintro e w3 ⟨g,rfl,hown,hb3⟩
 have HB3:=qh (below_call HB2.out HB2.out.size hb3)
 have hle:w2.heap.size≤w3.heap.size:=hb3.size
 have hle2:w.heap.size≤w2.heap.size:=HB2.out.size
 have HO:=qh hown
 clear hb3 HB2 hown c0 c1 c2 c3 c4 c5 c6 c7 c8 c9 c10 c11
 go_wp2_with (at_builtin;refine wpl_append elField rfl rfl w2.heap.size (HO.out.alloc _) rfl (m:=1) [.int .u64 0,.string (bs (sgB t.sg)),.slice none 0 0] rfl rfl (lies_new _ _ _) ?_ ?_ ?_ ?_ ?_;(intro u hu;simp at hu;rcases hu with rfl | rfl | rfl <;> rfl);(simp [maxLen]);omega;(simp;omega);intro v1 w4 hown1 hg1 hat1;obtain ⟨A4,c4,rfl⟩:=own_form hown1)
 have hba:Below w3.heap.size w3 (w3.alloc (.cells #[.int .u64 0,.string (bs (sgB t.sg)),.slice none 0 0] 79)):=(Below.refl _ _).alloc qn _
 have hb4:=below_app (below_call HB3.out HB3.out.size hba) (own_keep HO.out hba) hg1 (by simp;have:=HB3.out.size;omega) hle2
 have hv:FdsV Any w4 (trF t) A4 c4:=by
  have:=rep_own (S:=Any) hown1 (RepN.snoc (fd_repz 0 (sgB t.sg)) rfl (trC3_rep t)) (by rfl) (fun _ _ _=>trivial)
  exact this
 have HB4:=qh hb4
 have HV:=qh hv
 clear hba hb4 hv hown1 hg1 hat1 HB3 HO
 refine (HW.out A4 c4 w4 HV.out).mono ?_
 rintro e w5 ⟨rfl,hb5⟩
 have HB5:=qh (below_call HB4.out HB4.out.size hb5)
 clear hb5 HB4 HV
 go_wp2_with fail
 go_ret2
 exact ⟨rfl,HB5.out⟩
theorem tsum_no (t:Tr) (h:t.Wf) (h63:t.to.length≤9223372036854775807) (hk:okTr t=false) (w:World):Calls Tryz.prog 22 #[.agg (trR t)] w fun e w'=>e=.returned (.tuple #[.string (bs []),.int .i64 1])∧Below w.heap.size w w':=by
 have HR:=qh (fun W:World=>tbytes_no t h h63 hk W)
 have HB0:=qh ((Below.refl w.heap.size w).alloc qn (.cells (trR t) 55))
 clear hk h h63
 go_enter Tryz.func22,Tryz.ntmps22
 go_wp2_with fail
 refine (HR.out _).mono ?_
 rintro e w1 ⟨rfl,hb1⟩
 have HB1:=qh (below_call HB0.out HB0.out.size hb1)
 clear hb1 HB0
 go_wp2_with fail
 go_ret2
 exact ⟨rfl,HB1.out⟩
theorem tsum_yes (t:Tr) (h:t.Wf) (hk:okTr t=true) (w:World):Calls Tryz.prog 22 #[.agg (trR t)] w fun e w'=>e=.returned (.tuple #[.string (bs (sumK (trB t))),.int .i64 0])∧Below w.heap.size w w':=by
 have HR:=qh (fun W:World=>tbytes_yes t h hk W)
 have HS:=qh (fun W:World=>sum_any (trB t) (by have:=trB_len hk h;omega) W)
 have HB0:=qh ((Below.refl w.heap.size w).alloc qn (.cells (trR t) 55))
 clear hk h
 go_enter Tryz.func22,Tryz.ntmps22
 go_wp2_with fail
 refine (HR.out _).mono ?_
 rintro e w1 ⟨rfl,hb1⟩
 have HB1:=qh (below_call HB0.out HB0.out.size hb1)
 clear hb1 HB0
 go_wp2_with fail
 refine (HS.out _).mono ?_
 rintro e w2 ⟨rfl,hb2⟩
 have HB2:=qh (below_call HB1.out HB1.out.size hb2)
 clear hb2 HB1
 go_wp2_with fail
 go_ret2
 exact ⟨rfl,HB2.out⟩
end Go.Proofs.YtjanaholcjkceaaGreat
