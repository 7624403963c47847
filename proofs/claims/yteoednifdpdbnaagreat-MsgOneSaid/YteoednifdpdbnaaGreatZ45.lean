/- The walks of tx.fields, Right, Bytes, Sum. -/
import Derived.Test.YteoednifdpdbnaaGreatZ26
import Derived.Test.YteoednifdpdbnaaGreatZ44
import Derived.Test.YteoednifdpdbnaaGreatZ13
import Derived.Test.YteoednifdpdbnaaGreatZ04
import Derived.Test.YteoednifdpdbnaaGreatZ08
namespace Go.Proofs.YteoednifdpdbnaaGreat
set_option linter.unusedVariables false
set_option linter.unusedSimpArgs false
open Go.RowKit
set_option maxHeartbeats 4000000
set_option maxRecDepth 100000
theorem qdq {P:Program} {w:World} {d:Nat} {xs ys:Array Value} {f:Field} {fs:List Field} (hne:f.name ≠ "_") {a b:Value} {r:Bool} (ha:(part f.type xs f.offset).run P w=.ok a w) (hb:(part f.type ys f.offset).run P w=.ok b w)
  (hr:(Op.equalIn d f.type a b).run P w=.ok r w):(Op.eqFields d xs ys (f :: fs)).run P w=if r=true then (Op.eqFields d xs ys fs).run P w else .ok false w:=by
 rw [Op.eqFields,if_pos hne]
 cases r with
 | true=>simp [Sem.run_bind,ha,hb,hr]
 | false=>simp [Sem.run_bind,ha,hb,hr]
theorem fieldsSg:Tryz.prog.underlying 26 = some (.struct (Tryz.prog.fieldsOf 26)):=by kernel_rfl
theorem stoodSg:Tryz.prog.stoodInHeld 26 = false:=by kernel_rfl
theorem partU {cs:Array Value} {o:Nat} {ds:Array Value} (h:cs.extract o (o+4)=ds) (w:World):(part 24 cs o).run Tryz.prog w=.ok (.agg ds) w:=by
 have hz:(sizeOf 24).run Tryz.prog w=.ok 4 w:=by
  obtain ⟨i,hi⟩:=info_of_underlying Tryz.underlying24
  rw [run_sizeOf w hi,show Tryz.prog.cellsOf 24 = 4 by kernel_rfl]
 simp only [part,isAgg,Sem.run_bind,run_underlying Tryz.underlying24,Result.andThen_ok,Sem.run_pure,if_true,hz,h]
def eqSg (x y:Sg):Bool:=eqU x.r y.r && (eqU x.s y.s && x.v == y.v)
theorem eqSg_iff (x y:Sg):eqSg x y=true↔x=y:=by
 unfold eqSg eqU
 simp only [Bool.and_eq_true,decide_eq_true_eq,beq_iff_eq]
 obtain ⟨a,b,c⟩:=x
 obtain ⟨a',b',c'⟩:=y
 simp
theorem run_eqSg (x y:Sg) (w:World):(Op.equalIn 10000 26 (.agg (sgR x)) (.agg (sgR y))).run Tryz.prog w=.ok (eqSg x y) w:=by
 rw [show (10000:Nat)=9999+1 from rfl,run_equalIn_agg w 9999 _ _ _ fieldsSg stoodSg]
 have h1:(Op.eqFields 9999 (sgR x) (sgR y) (Tryz.prog.fieldsOf 26).toList).run Tryz.prog w=.ok (eqSg x y) w:=by
  simp only [Program.fieldsOf,Tryz.underlying26]
  refine Eq.trans (qdq (by decide) (partU rfl w) (partU rfl w) (qe6 9997 x.r y.r w)) ?_
  unfold eqSg
  cases h1:eqU x.r y.r with
  | false=>rfl
  | true =>
   refine Eq.trans (qdq (by decide) (partU rfl w) (partU rfl w) (qe6 9997 x.s y.s w)) ?_
   cases h2:eqU x.s y.s with
   | false=>rfl
   | true =>
    have p2:∀ z:Sg,(part 3 (sgR z) 8).run Tryz.prog w=.ok (.int .i64 z.v) w:=fun z=>by simp [part,isAgg,run_underlying Tryz.underlying3,Sem.run_bind]
    refine Eq.trans (qdq (r:=(x.v == y.v)) (by decide) (p2 x) (p2 y) (by
     rw [show (9999:Nat)=9998+1 from rfl,run_equalIn_int w 9998 _ .i64 .i64 _ _ Tryz.underlying3])) ?_
    cases x.v == y.v <;> rfl
 exact h1
theorem qb2 (x:Sg) (h:x.Wf) (hk:okSg x=true) (w:World):Calls Tryz.prog 41 #[.agg (sgR x)] w fun e w'=>e=.returned (.tuple #[.string (bs (sgB x)),.int .i64 0])∧Below w.heap.size w w':=by
 have:=qi8 x h w
 rw [if_pos hk,if_pos hk] at this
 exact this
theorem qet (x:Sg) (h:x.Wf) (hk:okSg x=false) (w:World):Calls Tryz.prog 41 #[.agg (sgR x)] w fun e w'=>e=.returned (.tuple #[.string (bs []),.int .i64 1])∧Below w.heap.size w w':=by
 have:=qi8 x h w
 rw [hk,if_neg (by decide),if_neg (by decide)] at this
 exact this
theorem qi5 (t:Tr) (h:t.Wf) (h63:t.to.length≤9223372036854775807) (w:World):Calls Tryz.prog 13 #[.agg (trR t)] w fun e w'=>e=.returned (.bool (okTr t))∧Below w.heap.size w w':=by
 have hY:=fun (hk:okSg t.sg=true) (W:World)=>qb2 t.sg h.sg hk W
 have hN:=fun (hk:okSg t.sg=false) (W:World)=>qet t.sg h.sg hk W
 have hok:okTr t=(t.to.length == 20 && okSg t.sg):=rfl
 have heqz:eqSg t.sg zeroSg=true→okSg t.sg=false:=fun e=>by rw [(eqSg_iff _ _).1 e];exact qla
 obtain ⟨z,hz⟩:∃ z,eqSg t.sg zeroSg=z:=⟨_,rfl⟩
 have heq:∀ W:World,(Op.equalIn 10000 26 (.agg (sgR t.sg)) (.agg zqS)).run Tryz.prog W=.ok z W:=fun W=>by
  have:=run_eqSg t.sg zeroSg W
  rw [hz] at this
  exact this
 rw [hz] at heqz
 obtain ⟨ok,hk⟩:∃ ok,okSg t.sg=ok:=⟨_,rfl⟩
 rw [hk] at hok heqz hY hN
 have hlI:((t.to.length:Int) == 20)=(t.to.length == 20):=by rw [Bool.eq_iff_iff];simp only [beq_iff_eq];omega
 have h63I:(t.to.length:Int)≤9223372036854775807:=by omega
 have HOK:=qh hok
 have HY:=qh hY
 have HN:=qh hN
 have HLI:=qh hlI
 have hX:=heap_alloc_new w (.cells (trR t) 28)
 have HX0:=qh hX
 have HB0:=qh ((Below.refl w.heap.size w).alloc qn (.cells (trR t) 28))
 have c0:=rc (u:=.string (bs t.to)) hX 0 rfl
 have c1:=rc (u:=.int .u64 (t.am:Int)) hX 1 rfl
 have c2:=rc (u:=.int .u64 (t.no:Int)) hX 2 rfl
 have c3:=rc (u:=.int .u64 (t.sg.r.a:Int)) hX 3 rfl
 have c4:=rc (u:=.int .u64 (t.sg.r.b:Int)) hX 4 rfl
 have c5:=rc (u:=.int .u64 (t.sg.r.c:Int)) hX 5 rfl
 have c6:=rc (u:=.int .u64 (t.sg.r.d:Int)) hX 6 rfl
 have c7:=rc (u:=.int .u64 (t.sg.s.a:Int)) hX 7 rfl
 have c8:=rc (u:=.int .u64 (t.sg.s.b:Int)) hX 8 rfl
 have c9:=rc (u:=.int .u64 (t.sg.s.c:Int)) hX 9 rfl
 have c10:=rc (u:=.int .u64 (t.sg.s.d:Int)) hX 10 rfl
 have c11:=rc (u:=.int .i64 t.sg.v) hX 11 rfl
 clear hX hok hY hN hlI h hz hk h63
 cases z with
 | true =>
  obtain rfl:ok=false:=heqz rfl
  clear heqz
  go_enter Tryz.func13,Tryz.ntmps13
  go_wp2_with fail
  go_ret
  exact ⟨by rw [HOK.out,Bool.and_false];rfl,HB0.out⟩
 | false =>
  clear heqz
  cases ok with
  | false =>
   go_enter Tryz.func13,Tryz.ntmps13
   go_wp2_with fail
   refine (HN.out trivial _).mono ?_
   rintro e w1 ⟨rfl,hb1⟩
   have HB1:=qh (qac HB0.out HB0.out.size hb1)
   clear hb1 HB0 HX0
   go_wp2_with fail
   go_ret
   exact ⟨by rw [HOK.out,Bool.and_false];rfl,HB1.out⟩
  | true =>
   go_enter Tryz.func13,Tryz.ntmps13
   go_wp2_with fail
   refine (HY.out trivial _).mono ?_
   rintro e w1 ⟨rfl,hb1⟩
   have hX1:=(hb1.block _ (qg HX0.out)).trans HX0.out
   have HB1:=qh (qac HB0.out HB0.out.size hb1)
   have d0:=rc hX1 0 rfl
   clear hb1 HB0 HX0 hX1
   go_wp2_with fail
   go_ret
   exact ⟨by rw [HOK.out,Bool.and_true];exact congrArg (fun b=>Ending.returned (.bool b)) HLI.out,HB1.out⟩
def trF3 (t:Tr):List Fd:=[⟨0,t.to,[]⟩,⟨t.am,[],[]⟩,⟨t.no,[],[]⟩]
def trC3 (t:Tr):List Value:=[.int .u64 0,.string (bs t.to),.slice none 0 0,.int .u64 (t.am:Int),.string (bs []),.slice none 0 0,.int .u64 (t.no:Int),.string (bs []),.slice none 0 0]
theorem qby {S:Nat→Prop} {w:World} (n:Nat) (b:Bytes):Rep S w (fdD ⟨n,b,[]⟩) [.int .u64 (n:Int),.string (bs b),.slice none 0 0]:=qsk (f:=⟨n,b,[]⟩) (A:=none) (c:=0) (Rep.nil_slice 3)
theorem trC3_rep {S:Nat→Prop} {w:World} (t:Tr):RepN S w 3 (fdsD (trF3 t)) (trC3 t) :=
 .cons (qby 0 t.to) rfl (.cons (qby t.am []) rfl (.cons (cs':=[]) (qby t.no []) rfl .nil))
def FieldsPost (t:Tr) (w:World) (e:Ending) (w':World):Prop:=∃ g,e=.returned (.slice (some ⟨g,0,none⟩) 3 3)∧w'.ownsRow w.heap.size 81 3 (.slice (some ⟨g,0,none⟩) 3 3) 3 (trC3 t)∧Below w.heap.size w w'
theorem qmn (t:Tr) (w:World):Calls Tryz.prog 43 #[.agg (trR t)] w (FieldsPost t w):=by
 have hX:=heap_alloc_new w (.cells (trR t) 28)
 have HX0:=qh hX
 have HB0:=qh ((Below.refl w.heap.size w).alloc qn (.cells (trR t) 28))
 have c0:=rc (u:=.string (bs t.to)) hX 0 rfl
 have c1:=rc (u:=.int .u64 (t.am:Int)) hX 1 rfl
 have c2:=rc (u:=.int .u64 (t.no:Int)) hX 2 rfl
 have c3:=rc (u:=.int .u64 (t.sg.r.a:Int)) hX 3 rfl
 have c4:=rc (u:=.int .u64 (t.sg.r.b:Int)) hX 4 rfl
 have c5:=rc (u:=.int .u64 (t.sg.r.c:Int)) hX 5 rfl
 have c6:=rc (u:=.int .u64 (t.sg.r.d:Int)) hX 6 rfl
 have c7:=rc (u:=.int .u64 (t.sg.s.a:Int)) hX 7 rfl
 have c8:=rc (u:=.int .u64 (t.sg.s.b:Int)) hX 8 rfl
 have c9:=rc (u:=.int .u64 (t.sg.s.c:Int)) hX 9 rfl
 have c10:=rc (u:=.int .u64 (t.sg.s.d:Int)) hX 10 rfl
 have c11:=rc (u:=.int .i64 t.sg.v) hX 11 rfl
 clear hX
 go_enter Tryz.func43,Tryz.ntmps43
 go_wp2_with fail
 go_ret
 refine ⟨w.heap.size+1,rfl,?_,((Below.refl _ _).alloc qn _).alloc (by simp) _⟩
 have:=World.ownsRow_lit (base:=w.heap.size) (e:=81) (size:=3) (w.alloc (.cells (trR t) 28)) (trC3 t).toArray 3 (by simp) (by simp [maxLen]) rfl
 simp only [World.size_alloc] at this
 exact this
theorem qo9 (t:Tr) (h:t.Wf) (hk:okTr t=true) (A:Option Addr) (c:Nat) (w:World) (hv:FdsV Any w (trF t) A c) :
  Calls Tryz.prog 42 #[.string ⟨#[97,110,110,115]⟩,.slice A 4 c] w fun e w'=>e=.returned (.tuple #[.string (bs (trB t)),.int .i64 0])∧Below w.heap.size w w':=by
 have h1:=qep trK trK_ok (by decide) (by decide) (trF t) (qdh h) (by show 4≤1000;decide) (fun f hf=>by simp only [trF,List.mem_cons,List.not_mem_nil,or_false] at hf;rcases hf with rfl | rfl | rfl | rfl <;> exact Nat.zero_le _) A c w hv
 have h2:fwP trK (trF t)=(trB t,0):=by
  unfold fwP
  rw [if_pos (qem hk),qfo (by decide) (qem hk) (qdh h) (by have:=qkd hk h;unfold trB at this;omega)]
  rfl
 rw [h2] at h1
 exact h1
theorem qrk (t:Tr) (h:t.Wf) (h63:t.to.length≤9223372036854775807) (hk:okTr t=false) (w:World):Calls Tryz.prog 8 #[.agg (trR t)] w fun e w'=>e=.returned (.tuple #[.string (bs []),.int .i64 1])∧Below w.heap.size w w':=by
 have hR:=fun W:World=>qi5 t h h63 W
 rw [hk] at hR
 have HR:=qh hR
 have HB0:=qh ((Below.refl w.heap.size w).alloc qn (.cells (trR t) 28))
 clear hR hk h h63
 go_enter Tryz.func8,Tryz.ntmps8
 go_wp2_with fail
 refine (HR.out _).mono ?_
 rintro e w1 ⟨rfl,hb1⟩
 have HB1:=qh (qac HB0.out HB0.out.size hb1)
 clear hb1 HB0
 go_wp2_with fail
 go_ret2
 exact ⟨rfl,HB1.out⟩
theorem qon (t:Tr) (h:t.Wf) (hk:okTr t=true) (w:World):Calls Tryz.prog 8 #[.agg (trR t)] w fun e w'=>e=.returned (.tuple #[.string (bs (trB t)),.int .i64 0])∧Below w.heap.size w w':=by
 have hk2:=hk
 unfold okTr at hk2
 simp only [Bool.and_eq_true,beq_iff_eq] at hk2
 have hR:=fun W:World=>qi5 t h (by rw [hk2.1];decide) W
 rw [hk] at hR
 have HR:=qh hR
 have HS:=qh (fun W:World=>qb2 t.sg h.sg hk2.2 W)
 have HF:=qh (fun W:World=>qmn t W)
 have HW:=qh (fun A c (W:World) hv=>qo9 t h hk A c W hv)
 have hX:=heap_alloc_new w (.cells (trR t) 28)
 have HX0:=qh hX
 have HB0:=qh ((Below.refl w.heap.size w).alloc qn (.cells (trR t) 28))
 clear hX hR hk h hk2
 go_enter Tryz.func8,Tryz.ntmps8
 go_wp2_with fail
 refine (HR.out _).mono ?_
 rintro e w1 ⟨rfl,hb1⟩
 have hX1:=(hb1.block _ (qg HX0.out)).trans HX0.out
 have HB1:=qh (qac HB0.out HB0.out.size hb1)
 have c0:=rc (u:=.string (bs t.to)) hX1 0 rfl
 have c1:=rc (u:=.int .u64 (t.am:Int)) hX1 1 rfl
 have c2:=rc (u:=.int .u64 (t.no:Int)) hX1 2 rfl
 have c3:=rc (u:=.int .u64 (t.sg.r.a:Int)) hX1 3 rfl
 have c4:=rc (u:=.int .u64 (t.sg.r.b:Int)) hX1 4 rfl
 have c5:=rc (u:=.int .u64 (t.sg.r.c:Int)) hX1 5 rfl
 have c6:=rc (u:=.int .u64 (t.sg.r.d:Int)) hX1 6 rfl
 have c7:=rc (u:=.int .u64 (t.sg.s.a:Int)) hX1 7 rfl
 have c8:=rc (u:=.int .u64 (t.sg.s.b:Int)) hX1 8 rfl
 have c9:=rc (u:=.int .u64 (t.sg.s.c:Int)) hX1 9 rfl
 have c10:=rc (u:=.int .u64 (t.sg.s.d:Int)) hX1 10 rfl
 have c11:=rc (u:=.int .i64 t.sg.v) hX1 11 rfl
 have HX1:=qh hX1
 clear hb1 HB0 HX0 hX1
 go_wp2_with fail
 refine (HS.out _).mono ?_
 rintro e w2 ⟨rfl,hb2⟩
 have hX2:=(hb2.block _ (qg HX1.out)).trans HX1.out
 have HB2:=qh (qac HB1.out HB1.out.size hb2)
 clear hb2 HB1 HX1 c0 c1 c2 c3 c4 c5 c6 c7 c8 c9 c10 c11
 have c0:=rc (u:=.string (bs t.to)) hX2 0 rfl
 have c1:=rc (u:=.int .u64 (t.am:Int)) hX2 1 rfl
 have c2:=rc (u:=.int .u64 (t.no:Int)) hX2 2 rfl
 have c3:=rc (u:=.int .u64 (t.sg.r.a:Int)) hX2 3 rfl
 have c4:=rc (u:=.int .u64 (t.sg.r.b:Int)) hX2 4 rfl
 have c5:=rc (u:=.int .u64 (t.sg.r.c:Int)) hX2 5 rfl
 have c6:=rc (u:=.int .u64 (t.sg.r.d:Int)) hX2 6 rfl
 have c7:=rc (u:=.int .u64 (t.sg.s.a:Int)) hX2 7 rfl
 have c8:=rc (u:=.int .u64 (t.sg.s.b:Int)) hX2 8 rfl
 have c9:=rc (u:=.int .u64 (t.sg.s.c:Int)) hX2 9 rfl
 have c10:=rc (u:=.int .u64 (t.sg.s.d:Int)) hX2 10 rfl
 have c11:=rc (u:=.int .i64 t.sg.v) hX2 11 rfl
 clear hX2
 go_wp2_with fail
 refine (HF.out _).mono ?_
 rintro e w3 ⟨g,rfl,hown,hb3⟩
 have HB3:=qh (qac HB2.out HB2.out.size hb3)
 have hle:w2.heap.size≤w3.heap.size:=hb3.size
 have hle2:w.heap.size≤w2.heap.size:=HB2.out.size
 have HO:=qh hown
 clear hb3 HB2 hown c0 c1 c2 c3 c4 c5 c6 c7 c8 c9 c10 c11
 go_wp2_with (at_builtin;refine qa0 qfc rfl rfl w2.heap.size (HO.out.alloc _) rfl (m:=1) [.int .u64 0,.string (bs (sgB t.sg)),.slice none 0 0] rfl rfl (qca _ _ _) ?_ ?_ ?_ ?_ ?_;(intro u hu;simp at hu;rcases hu with rfl | rfl | rfl <;> rfl);(simp [maxLen]);omega;(simp;omega);intro v1 w4 hown1 hg1 hat1;obtain ⟨A4,c4,rfl⟩:=qa4 hown1)
 have hba:Below w3.heap.size w3 (w3.alloc (.cells #[.int .u64 0,.string (bs (sgB t.sg)),.slice none 0 0] 81)):=(Below.refl _ _).alloc qn _
 have hb4:=qa7 (qac HB3.out HB3.out.size hba) (qa5 HO.out hba) hg1 (by simp;have:=HB3.out.size;omega) hle2
 have hv:FdsV Any w4 (trF t) A4 c4:=by
  have:=qck (S:=Any) hown1 (RepN.snoc (qby 0 (sgB t.sg)) rfl (trC3_rep t)) (by rfl) (fun _ _ _=>trivial)
  exact this
 have HB4:=qh hb4
 have HV:=qh hv
 clear hba hb4 hv hown1 hg1 hat1 HB3 HO
 refine (HW.out A4 c4 w4 HV.out).mono ?_
 rintro e w5 ⟨rfl,hb5⟩
 have HB5:=qh (qac HB4.out HB4.out.size hb5)
 clear hb5 HB4 HV
 go_wp2_with fail
 go_ret2
 exact ⟨rfl,HB5.out⟩
theorem tsum_no (t:Tr) (h:t.Wf) (h63:t.to.length≤9223372036854775807) (hk:okTr t=false) (w:World):Calls Tryz.prog 9 #[.agg (trR t)] w fun e w'=>e=.returned (.tuple #[.string (bs []),.int .i64 1])∧Below w.heap.size w w':=by
 have HR:=qh (fun W:World=>qrk t h h63 hk W)
 have HB0:=qh ((Below.refl w.heap.size w).alloc qn (.cells (trR t) 28))
 clear hk h h63
 go_enter Tryz.func9,Tryz.ntmps9
 go_wp2_with fail
 refine (HR.out _).mono ?_
 rintro e w1 ⟨rfl,hb1⟩
 have HB1:=qh (qac HB0.out HB0.out.size hb1)
 clear hb1 HB0
 go_wp2_with fail
 go_ret2
 exact ⟨rfl,HB1.out⟩
theorem tsum_yes (t:Tr) (h:t.Wf) (hk:okTr t=true) (w:World):Calls Tryz.prog 9 #[.agg (trR t)] w fun e w'=>e=.returned (.tuple #[.string (bs (sumK (trB t))),.int .i64 0])∧Below w.heap.size w w':=by
 have HR:=qh (fun W:World=>qon t h hk W)
 have HS:=qh (fun W:World=>qmy (trB t) (by have:=qkd hk h;omega) W)
 have HB0:=qh ((Below.refl w.heap.size w).alloc qn (.cells (trR t) 28))
 clear hk h
 go_enter Tryz.func9,Tryz.ntmps9
 go_wp2_with fail
 refine (HR.out _).mono ?_
 rintro e w1 ⟨rfl,hb1⟩
 have HB1:=qh (qac HB0.out HB0.out.size hb1)
 clear hb1 HB0
 go_wp2_with fail
 refine (HS.out _).mono ?_
 rintro e w2 ⟨rfl,hb2⟩
 have HB2:=qh (qac HB1.out HB1.out.size hb2)
 clear hb2 HB1
 go_wp2_with fail
 go_ret2
 exact ⟨rfl,HB2.out⟩
/- The walk of header.Right. -/
def sgL (x:Sg):List Value:=[.int .u64 (x.r.a:Int),.int .u64 (x.r.b:Int),.int .u64 (x.r.c:Int),.int .u64 (x.r.d:Int),.int .u64 (x.s.a:Int),.int .u64 (x.s.b:Int),.int .u64 (x.s.c:Int),.int .u64 (x.s.d:Int),.int .i64 x.v]
def SgsV (S:Nat→Prop) (w:World) (l:List Sg) (A:Option Addr) (c:Nat):Prop:=PlV S w 9 (l.map sgL) A c
theorem sgL_ok (x:Sg):(sgL x).length=9∧∀ u∈sgL x,u.oneCell'=true:=⟨rfl,fun u hu=>by
 simp only [sgL,List.mem_cons,List.not_mem_nil,or_false] at hu
 rcases hu with rfl | rfl | rfl | rfl | rfl | rfl | rfl | rfl | rfl <;> rfl⟩
theorem sgs_at {S:Nat→Prop} {w:World} {l:List Sg} {A:Option Addr} {c i:Nat} {x:Sg} (h:SgsV S w l A c) (hi:l[i]? = some x):∃ g o,A=some ⟨g,o,none⟩∧∀ j u,(sgL x)[j]? = some u→w.cell? ⟨g,o+i * 9+j,none⟩=some u:=by
 obtain ⟨g,o,hA,_,_,hc⟩:=PlV.at_ h (by decide) (i:=i) (cs:=sgL x) (by rw [List.getElem?_map,hi];rfl)
 exact ⟨g,o,hA,hc⟩
/-- a header in memory -/
structure HdV (S:Nat→Prop) (w:World) (h:Hd) (Av:Option Addr) (cv:Nat) (As:Option Addr) (cs:Nat):Prop where
 vals:StrV S w h.vals Av cv
 seals:SgsV S w h.seals As cs
structure Hd.Fine (h:Hd):Prop where
 wf:h.Wf
 parent:h.parent.length≤9223372036854775807
 root:h.root.length≤9223372036854775807
 txs:h.txs.length≤9223372036854775807
 prop:h.prop.length≤9223372036854775807
 van:h.van.length≤9223372036854775807
 vote:h.vote.length≤9223372036854775807
 vals:∀ a∈h.vals,a.length≤9223372036854775807
theorem HdV.keep {S:Nat→Prop} {w w':World} {h:Hd} {Av As:Option Addr} {cv cs:Nat} (x:HdV S w h Av cv As cs) (hb:Below w.heap.size w w'):HdV S w' h Av cv As cs:=⟨StrV.keep x.vals hb,PlV.keep x.seals hb⟩
theorem qor (h:Hd):okHd h=((h.parent.length == 32 && (h.root.length == 32 && h.txs.length == 32)) && (h.prop.length == 20 && (decide (h.van.length≤8) && (okVals h.vals && (decide (h.seals.length≤16) && ((h.vote.length == 20 || (h.vote == [] && !h.add)) && h.seals.all okSg)))))):=by
 unfold okHd
 rw [Bool.eq_iff_iff]
 simp only [Bool.and_eq_true,and_assoc]
 constructor
 ·rintro ⟨a,b,c,d,e,f,g,i,j⟩;exact ⟨a,b,c,d,e,f,i,g,j⟩
 ·rintro ⟨a,b,c,d,e,f,i,g,j⟩;exact ⟨a,b,c,d,e,f,g,i,j⟩
theorem all32 (a b c:Bytes) (i:Nat) (x:Bytes) (hx:[a,b,c][i]? = some x):([a,b,c].drop i).all (fun y=>y.length == 32)=(x.length == 32 && ([a,b,c].drop (i+1)).all (fun y=>y.length == 32)):=by
 rw [qc0 hx];rfl
theorem qjf (h:Hd) (hf:h.Fine) (Av As:Option Addr) (cv cs:Nat) (w:World) (hv:HdV Any w h Av cv As cs) :
  Calls Tryz.prog 175 #[.agg #[.string (bs h.parent),.int .u64 (h.height:Int),.string (bs h.root),.string (bs h.txs),.string (bs h.prop),.string (bs h.van),.slice Av h.vals.length cv,.string (bs h.vote),.bool h.add,.int .u64 (h.round:Int),.slice As h.seals.length cs]] w fun e w'=>e=.returned (.bool (okHd h))∧Below w.heap.size w w':=by
 have hp:=qor h
 obtain ⟨R,hR⟩:∃ R,okHd h=R:=⟨_,rfl⟩
 rw [hR] at hp ⊢
 have HOK:=qh hp
 have HF:=qh hf
 have HV:=qh hv
 have hl1:=(PlV.len hv.seals).1
 have hl2:=(PlV.len hv.seals).2
 simp only [maxLen,List.length_map] at hl1 hl2
 have hs63:(h.seals.length:Int)≤9223372036854775807:=by omega
 have hq63:(h.prop.length:Int)≤9223372036854775807:=by have:=hf.prop;omega
 have hv63:(h.van.length:Int)≤9223372036854775807:=by have:=hf.van;omega
 have ht63:(h.vote.length:Int)≤9223372036854775807:=by have:=hf.vote;omega
 have h0:=heap_alloc_new w (.cells #[.string (bs h.parent),.int .u64 (h.height:Int),.string (bs h.root),.string (bs h.txs),.string (bs h.prop),.string (bs h.van),.slice Av h.vals.length cv,.string (bs h.vote),.bool h.add,.int .u64 (h.round:Int),.slice As h.seals.length cs] 112)
 have h1:=heap_alloc_new (w.alloc (.cells #[.string (bs h.parent),.int .u64 (h.height:Int),.string (bs h.root),.string (bs h.txs),.string (bs h.prop),.string (bs h.van),.slice Av h.vals.length cv,.string (bs h.vote),.bool h.add,.int .u64 (h.round:Int),.slice As h.seals.length cs] 112)) (.cells #[.string (bs h.parent),.string (bs h.root),.string (bs h.txs)] 9)
 have h0:=(heap_alloc_old _ (.cells #[.string (bs h.parent),.string (bs h.root),.string (bs h.txs)] 9) (qg h0)).trans h0
 simp only [World.size_alloc] at h1
 have hb:=((Below.refl w.heap.size w).alloc qn (.cells #[.string (bs h.parent),.int .u64 (h.height:Int),.string (bs h.root),.string (bs h.txs),.string (bs h.prop),.string (bs h.van),.slice Av h.vals.length cv,.string (bs h.vote),.bool h.add,.int .u64 (h.round:Int),.slice As h.seals.length cs] 112)).alloc (by simp) (.cells #[.string (bs h.parent),.string (bs h.root),.string (bs h.txs)] 9)
 have HX:=qh h0
 have HY:=qh h1
 have HB0:=qh hb
 clear hp hR hf hv hl1 hl2 h0 h1 hb
 go_enter Tryz.func175,Tryz.ntmps175
 go_wp2_with fail
 generalize (w.alloc (.cells #[.string (bs h.parent),.int .u64 (h.height:Int),.string (bs h.root),.string (bs h.txs),.string (bs h.prop),.string (bs h.van),.slice Av h.vals.length cv,.string (bs h.vote),.bool h.add,.int .u64 (h.round:Int),.slice As h.seals.length cs] 112)).alloc (.cells #[.string (bs h.parent),.string (bs h.root),.string (bs h.txs)] 9)=W0 at HX HY HB0 ⊢
 go_loop [17] (fun x=>∃ i:Nat,i≤3∧x=.int .i64 (i:Int)∧Hid ((h.parent.length == 32 && (h.root.length == 32 && h.txs.length == 32))=([h.parent,h.root,h.txs].drop i).all (fun y=>y.length == 32))) (fun x=>3 - (intOf x).toNat)
 case atStart=>exact ⟨0,by omega,rfl,qh (by simp)⟩
 case round =>
  obtain ⟨i,hi,rfl,HI⟩:=hrel
  by_cases hlt:i < 3
  ·obtain ⟨a,ha⟩:=qan (l:=[h.parent,h.root,h.txs]) (i:=i) (by simpa using hlt)
   have hltI:(i:Int) < 3:=by omega
   have hca:W0.cell? ⟨w.heap.size+1,i,none⟩=some (.string (bs a)):=rc HY.out i (by
    match i,hlt,ha with
    | 0,_,ha=>simp at ha;subst ha;rfl
    | 1,_,ha=>simp at ha;subst ha;rfl
    | 2,_,ha=>simp at ha;subst ha;rfl)
   have ha63:(a.length:Int)≤9223372036854775807:=by
    have:=HF.out
    have hm:=List.mem_of_getElem? ha
    simp only [List.mem_cons,List.not_mem_nil,or_false] at hm
    rcases hm with rfl | rfl | rfl
    ·have:=this.parent;omega
    ·have:=this.root;omega
    ·have:=this.txs;omega
   have hst:=HI.out
   rw [all32 _ _ _ i a ha] at hst
   cases hl32:((a.length:Int) == 32) with
   | false =>
    have hl32n:((a.length:Int) != 32)=true:=by rw [bne,hl32];rfl
    have hR:R=false:=by rw [HOK.out,hst,show (a.length == 32)=false by rw [beq_eq_false_iff_ne] at hl32 ⊢;omega];simp
    have HR:=qh hR
    clear hst hR HI ha
    go_wp2_with fail
    go_ret
    exact ⟨by rw [HR.out];rfl,HB0.out⟩
   | true =>
    have hl32n:((a.length:Int) != 32)=false:=by rw [bne,hl32];rfl
    rw [show (a.length == 32)=true by rw [beq_iff_eq] at hl32 ⊢;omega,Bool.true_and] at hst
    have HST:=qh hst
    clear hst HI ha
    go_wp2_with fail
    go_round
    case rel=>exact ⟨i+1,by omega,by go_num,HST⟩
    case measure=>simp [intOf];omega
  ·obtain rfl:i=3:=by omega
   have hp3:=HOK.out
   rw [HI.out,show ([h.parent,h.root,h.txs].drop 3).all (fun y=>y.length == 32)=true from rfl,Bool.true_and] at hp3
   have HOK:=qh hp3
   clear hp3 HI
   have x0:=rc (u:=.string (bs h.parent)) HX.out 0 rfl
   have x1:=rc (u:=.int .u64 (h.height:Int)) HX.out 1 rfl
   have x2:=rc (u:=.string (bs h.root)) HX.out 2 rfl
   have x3:=rc (u:=.string (bs h.txs)) HX.out 3 rfl
   have x4:=rc (u:=.string (bs h.prop)) HX.out 4 rfl
   have x5:=rc (u:=.string (bs h.van)) HX.out 5 rfl
   have x6:=rc (u:=.slice Av h.vals.length cv) HX.out 6 rfl
   have x7:=rc (u:=.string (bs h.vote)) HX.out 7 rfl
   have x8:=rc (u:=.bool h.add) HX.out 8 rfl
   have x9:=rc (u:=.int .u64 (h.round:Int)) HX.out 9 rfl
   have x10:=rc (u:=.slice As h.seals.length cs) HX.out 10 rfl
   cases hq:((h.prop.length:Int) == 20) with
   | false =>
    have hqn:((h.prop.length:Int) != 20)=true:=by rw [bne,hq];rfl
    have hR:R=false:=by rw [HOK.out];rw [show (h.prop.length == 20)=false by rw [beq_eq_false_iff_ne] at hq ⊢;omega];rfl
    have HR:=qh hR
    clear hR
    go_wp2_with fail
    go_ret
    exact ⟨by rw [HR.out];rfl,HB0.out⟩
   | true =>
    have hqn:((h.prop.length:Int) != 20)=false:=by rw [bne,hq];rfl
    have hqq:(h.prop.length == 20)=true:=by rw [beq_iff_eq] at hq ⊢;omega
    have HQ:=qh hqq
    clear hqq
    by_cases hva:(8:Int) < h.van.length
    ·have hR:R=false:=by rw [HOK.out];rw [HQ.out,show decide (h.van.length≤8)=false by rw [decide_eq_false_iff_not];omega];rfl
     have HR:=qh hR
     clear hR
     go_wp2_with fail
     go_ret
     exact ⟨by rw [HR.out];rfl,HB0.out⟩
    ·have HVA:Hid (decide (h.van.length≤8)=true):=qh (by rw [decide_eq_true_iff];omega)
     have hA:=qp0 h.vals HF.out.vals Av cv W0 (StrV.keep HV.out.vals HB0.out)
     obtain ⟨ab,hab⟩:∃ ab,okVals h.vals=ab:=⟨_,rfl⟩
     rw [hab] at hA
     have HA:=qh hA
     have HAB:=qh hab
     clear hA hab
     cases ab with
     | false =>
      have hR:R=false:=by rw [HOK.out,HQ.out,HVA.out,HAB.out];rfl
      have HR:=qh hR
      clear hR
      go_wp2_with fail
      refine HA.out.mono ?_
      rintro e w' ⟨rfl,rfl⟩
      go_wp2_with fail
      go_ret
      exact ⟨by rw [HR.out];rfl,HB0.out⟩
     | true =>
      by_cases hse:(16:Int) < h.seals.length
      ·have hR:R=false:=by rw [HOK.out,HQ.out,HVA.out,HAB.out,show decide (h.seals.length≤16)=false by rw [decide_eq_false_iff_not];omega];rfl
       have HR:=qh hR
       clear hR
       go_wp2_with fail
       refine HA.out.mono ?_
       rintro e w' ⟨rfl,rfl⟩
       go_wp2_with fail
       go_ret
       exact ⟨by rw [HR.out];rfl,HB0.out⟩
      ·have HSE:Hid (decide (h.seals.length≤16)=true):=qh (by rw [decide_eq_true_iff];omega)
       have hok:=HOK.out
       rw [HQ.out,HVA.out,HAB.out,HSE.out] at hok
       simp only [Bool.true_and] at hok
       have HOK:=qh hok
       clear hok
       go_wp2_with fail
       refine HA.out.mono ?_
       rintro e w' ⟨rfl,rfl⟩
       cases hvt:((h.vote.length:Int) == 20) with
       | true =>
        have hvtn:((h.vote.length:Int) != 20)=false:=by rw [bne,hvt];rfl
        have hok:=HOK.out
        rw [show (h.vote.length == 20)=true by rw [beq_iff_eq] at hvt ⊢;omega,Bool.true_or,Bool.true_and] at hok
        have HOK:=qh hok
        clear hok
        go_wp2_with fail
        go_loopw [63] (fun x wr=>∃ k:Nat,k≤h.seals.length∧x=.int .i64 (k:Int)∧Hid ((h.seals.take k).all okSg=true)∧Below w.heap.size w wr) (fun x _=>h.seals.length - (intOf x).toNat)
        case atStart=>exact ⟨0,Nat.zero_le _,rfl,qh rfl,HB0.out⟩
        case round =>
         obtain ⟨k,hk,rfl,HA2,hb⟩:=hrel
         by_cases hlt2:k < h.seals.length
         ·obtain ⟨x,hx⟩:=qan hlt2
          obtain ⟨g,o,rfl,hc⟩:=sgs_at (PlV.keep HV.out.seals hb) hx
          have hlt2I:(k:Int) < h.seals.length:=by omega
          have q0:=hc 0 (.int .u64 (x.r.a:Int)) rfl
          have q1:=hc 1 (.int .u64 (x.r.b:Int)) rfl
          have q2:=hc 2 (.int .u64 (x.r.c:Int)) rfl
          have q3:=hc 3 (.int .u64 (x.r.d:Int)) rfl
          have q4:=hc 4 (.int .u64 (x.s.a:Int)) rfl
          have q5:=hc 5 (.int .u64 (x.s.b:Int)) rfl
          have q6:=hc 6 (.int .u64 (x.s.c:Int)) rfl
          have q7:=hc 7 (.int .u64 (x.s.d:Int)) rfl
          have q8:=hc 8 (.int .i64 x.v) rfl
          simp only [Nat.add_zero] at q0
          have hxw:=HF.out.wf.seals x (List.mem_of_getElem? hx)
          have hbx:Below w.heap.size w (wr.alloc (.cells #[.int .u64 (x.r.a:Int),.int .u64 (x.r.b:Int),.int .u64 (x.r.c:Int),.int .u64 (x.r.d:Int),.int .u64 (x.s.a:Int),.int .u64 (x.s.b:Int),.int .u64 (x.s.c:Int),.int .u64 (x.s.d:Int),.int .i64 x.v] 26)):=hb.alloc hb.size _
          have HBX:=qh hbx
          have HXX:=qh hx
          cases hok:okSg x with
          | false =>
           have hR:R=false:=by
            rw [HOK.out]
            exact Bool.eq_false_iff.2 fun h1=>by rw [List.all_eq_true.1 h1 x (List.mem_of_getElem? HXX.out)] at hok;cases hok
           have HR:=qh hR
           have HC:=qh (fun W:World=>qet x hxw hok W)
           clear hR hok hxw hb hbx hc hx HA2
           go_wp2_with fail
           refine (HC.out _).mono ?_
           rintro e w1 ⟨rfl,hb1⟩
           have HB1:=qh (qac HBX.out HBX.out.size hb1)
           clear hb1
           go_wp2_with fail
           go_ret
           exact ⟨by rw [HR.out];rfl,HB1.out⟩
          | true =>
           have HA3:Hid ((h.seals.take (k+1)).all okSg=true):=qh (by rw [qbk HXX.out,List.all_append,HA2.out];simp [hok])
           have HC:=qh (fun W:World=>qb2 x hxw hok W)
           clear hok hxw hb hbx hc hx HA2
           go_wp2_with fail
           refine (HC.out _).mono ?_
           rintro e w1 ⟨rfl,hb1⟩
           have HB1:=qh (qac HBX.out HBX.out.size hb1)
           clear hb1
           go_wp2_with fail
           go_roundw
           case rel=>exact ⟨k+1,by omega,by go_num,HA3,HB1.out⟩
           case measure=>simp [intOf];omega
         ·obtain rfl:k=h.seals.length:=by omega
          have hR:R=true:=by rw [HOK.out,← HA2.out,List.take_of_length_le qn]
          have HR:=qh hR
          have HB1:=qh hb
          clear hR hb
          go_wp2_with fail
          go_ret
          exact ⟨by rw [HR.out];rfl,HB1.out⟩
       | false =>
        have hvtn:((h.vote.length:Int) != 20)=true:=by rw [bne,hvt];rfl
        have hok:=HOK.out
        rw [show (h.vote.length == 20)=false by rw [beq_eq_false_iff_ne] at hvt ⊢;omega,Bool.false_or] at hok
        cases hve:(h.vote == []) with
        | false =>
         have hven:(h.vote != [])=true:=by rw [bne,hve];rfl
         have hR:R=false:=by rw [hok,hve];rfl
         have HR:=qh hR
         clear hR hok
         go_wp2_with fail
         go_ret
         exact ⟨by rw [HR.out];rfl,HB0.out⟩
        | true =>
         have hven:(h.vote != [])=false:=by rw [bne,hve];rfl
         rw [hve,Bool.true_and] at hok
         obtain ⟨ad,had⟩:∃ ad,h.add=ad:=⟨_,rfl⟩
         rw [had] at hok x8
         cases ad with
         | true =>
          have hR:R=false:=by rw [hok];rfl
          have HR:=qh hR
          clear hR hok had
          go_wp2_with fail
          go_ret
          exact ⟨by rw [HR.out];rfl,HB0.out⟩
         | false =>
          rw [show (!false)=true from rfl,Bool.true_and] at hok
          have HOK:=qh hok
          clear hok had
          go_wp2_with fail
          go_loopw [63] (fun x wr=>∃ k:Nat,k≤h.seals.length∧x=.int .i64 (k:Int)∧Hid ((h.seals.take k).all okSg=true)∧Below w.heap.size w wr) (fun x _=>h.seals.length - (intOf x).toNat)
          case atStart=>exact ⟨0,Nat.zero_le _,rfl,qh rfl,HB0.out⟩
          case round =>
           obtain ⟨k,hk,rfl,HA2,hb⟩:=hrel
           by_cases hlt2:k < h.seals.length
           ·obtain ⟨x,hx⟩:=qan hlt2
            obtain ⟨g,o,rfl,hc⟩:=sgs_at (PlV.keep HV.out.seals hb) hx
            have hlt2I:(k:Int) < h.seals.length:=by omega
            have q0:=hc 0 (.int .u64 (x.r.a:Int)) rfl
            have q1:=hc 1 (.int .u64 (x.r.b:Int)) rfl
            have q2:=hc 2 (.int .u64 (x.r.c:Int)) rfl
            have q3:=hc 3 (.int .u64 (x.r.d:Int)) rfl
            have q4:=hc 4 (.int .u64 (x.s.a:Int)) rfl
            have q5:=hc 5 (.int .u64 (x.s.b:Int)) rfl
            have q6:=hc 6 (.int .u64 (x.s.c:Int)) rfl
            have q7:=hc 7 (.int .u64 (x.s.d:Int)) rfl
            have q8:=hc 8 (.int .i64 x.v) rfl
            simp only [Nat.add_zero] at q0
            have hxw:=HF.out.wf.seals x (List.mem_of_getElem? hx)
            have hbx:Below w.heap.size w (wr.alloc (.cells #[.int .u64 (x.r.a:Int),.int .u64 (x.r.b:Int),.int .u64 (x.r.c:Int),.int .u64 (x.r.d:Int),.int .u64 (x.s.a:Int),.int .u64 (x.s.b:Int),.int .u64 (x.s.c:Int),.int .u64 (x.s.d:Int),.int .i64 x.v] 26)):=hb.alloc hb.size _
            have HBX:=qh hbx
            have HXX:=qh hx
            cases hok:okSg x with
            | false =>
             have hR:R=false:=by
              rw [HOK.out]
              exact Bool.eq_false_iff.2 fun h1=>by rw [List.all_eq_true.1 h1 x (List.mem_of_getElem? HXX.out)] at hok;cases hok
             have HR:=qh hR
             have HC:=qh (fun W:World=>qet x hxw hok W)
             clear hR hok hxw hb hbx hc hx HA2
             go_wp2_with fail
             refine (HC.out _).mono ?_
             rintro e w1 ⟨rfl,hb1⟩
             have HB1:=qh (qac HBX.out HBX.out.size hb1)
             clear hb1
             go_wp2_with fail
             go_ret
             exact ⟨by rw [HR.out];rfl,HB1.out⟩
            | true =>
             have HA3:Hid ((h.seals.take (k+1)).all okSg=true):=qh (by rw [qbk HXX.out,List.all_append,HA2.out];simp [hok])
             have HC:=qh (fun W:World=>qb2 x hxw hok W)
             clear hok hxw hb hbx hc hx HA2
             go_wp2_with fail
             refine (HC.out _).mono ?_
             rintro e w1 ⟨rfl,hb1⟩
             have HB1:=qh (qac HBX.out HBX.out.size hb1)
             clear hb1
             go_wp2_with fail
             go_roundw
             case rel=>exact ⟨k+1,by omega,by go_num,HA3,HB1.out⟩
             case measure=>simp [intOf];omega
           ·obtain rfl:k=h.seals.length:=by omega
            have hR:R=true:=by rw [HOK.out,← HA2.out,List.take_of_length_le qn]
            have HR:=qh hR
            have HB1:=qh hb
            clear hR hb
            go_wp2_with fail
            go_ret
            exact ⟨by rw [HR.out];rfl,HB1.out⟩
/- The walks of header.writer's methods. -/
theorem own_ptr {w:World} {base m n c:Nat} {e:TypeId} {A:Option Addr} {xs:List Value} (h:w.ownsRow base e m (.slice A n c) n xs) (hn:0 < n):∃ g,A=some ⟨g,0,none⟩∧base≤g∧g < w.heap.size:=by
 rcases h.2 with ⟨_,h0⟩ | ⟨g,cap,cur,hv,hb,hh,_⟩
 ·omega
 ·injection hv with h1
  exact ⟨g,h1,hb,(qg hh)⟩
theorem own_row {w:World} {base m n c g:Nat} {e:TypeId} {xs:List Value} (h:w.ownsRow base e m (.slice (some ⟨g,0,none⟩) n c) n xs):∃ cur:Array Value,base≤g∧w.heap[g]? = some (.cells cur e (0,0))∧n≤c∧c≤maxLen∧cur.size=c * m∧cur.toList.take (n * m)=xs:=by
 rcases h.2 with ⟨hv,_⟩ | ⟨g',cap,cur,hv,hb,hh,h1,h2,h3,h4⟩
 ·cases hv
 ·injection hv with a1 a2 a3
  injection a1 with a1
  injection a1 with a1
  subst a1;subst a3
  exact ⟨cur,hb,hh,h1,h2,h3,h4⟩
theorem own_cell {w:World} {base m n c g:Nat} {e:TypeId} {xs:List Value} (h:w.ownsRow base e m (.slice (some ⟨g,0,none⟩) n c) n xs) {j:Nat} {u:Value} (hj:xs[j]? = some u):w.cell? ⟨g,j,none⟩=some u:=by
 obtain ⟨cur,_,hh,_,_,_,h4⟩:=own_row h
 rw [cell_of_row _ _ _ _ _ _ hh]
 rw [← h4,List.getElem?_take] at hj
 split at hj
 ·simpa using hj
 ·cases hj
/- The walks of header.record, Bytes. -/
def Kp (N P:Nat) (w w':World):Prop:=∀ b,b < N→b≠P→w'.heap[b]? = w.heap[b]?
def strL (l:List Bytes):List Value:=l.map fun s=>Value.string (bs s)
theorem qks (l:List Bytes) (a:Bytes):strL (l ++ [a])=strL l ++ [.string (bs a)]:=by simp [strL]
theorem qhe {S:Nat→Prop} {w:World}:∀ l:List Bytes,RepN S w 1 (strsD l) (strL l)
 | []=>.nil
 | a :: l=>.cons (cs:=[.string (bs a)]) (.v _ rfl) rfl (qhe l)
end Go.Proofs.YteoednifdpdbnaaGreat
