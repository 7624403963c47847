/- Notes of messages: plain law, and the walks of msg.well, sealed, Right. -/
import Derived.Test.YteoednifdpdbnaaGreatZ45
import Derived.Test.YteoednifdpdbnaaGreatZ27
import Derived.Test.YteoednifdpdbnaaGreatZ05
namespace Go.Proofs.YteoednifdpdbnaaGreat
set_option linter.unusedVariables false
set_option linter.unusedSimpArgs false
open Go.RowKit
set_option maxHeartbeats 8000000
set_option maxRecDepth 100000
structure Nt where
 kd:Nat
 ht:Nat
 rd:Nat
 id:Bytes
 pr:Nat
 sg:Sg
deriving DecidableEq
structure Nt.Wf (n:Nt):Prop where
 kd:n.kd < 18446744073709551616
 ht:n.ht < 18446744073709551616
 rd:n.rd < 18446744073709551616
 pr:n.pr < 18446744073709551616
 sg:n.sg.Wf
def wellN (kd rd:Nat) (id:Bytes) (pr:Nat):Bool :=
 if kd < 1 then false else if 4 < kd then false else if kd=4 then (if pr=0 then id.length == 0 else decide (pr≤rd) && id.length == 32) else pr == 0 && id.length == 32
def okNt (n:Nt):Bool:=wellN n.kd n.rd n.id n.pr && okSg n.sg
def ntC (n:Nt):Array Value:=#[.int .u64 (n.kd:Int),.int .u64 (n.ht:Int),.int .u64 (n.rd:Int),.string (bs n.id),.int .u64 (n.pr:Int),.int .u64 (n.sg.r.a:Int),.int .u64 (n.sg.r.b:Int),.int .u64 (n.sg.r.c:Int),.int .u64 (n.sg.r.d:Int),.int .u64 (n.sg.s.a:Int),.int .u64 (n.sg.s.b:Int),.int .u64 (n.sg.s.c:Int),.int .u64 (n.sg.s.d:Int),.int .i64 n.sg.v]
def sgCn (s:Sg):Array Value:=(sgR s)
theorem infoNt:(Tryz.prog.info? 40).map (·.size)=some 14:=by kernel_rfl
theorem tyNt:AggT Tryz.prog 40 14:=⟨⟨_,Tryz.underlying40,rfl⟩,infoNt⟩
theorem tySgn:AggT Tryz.prog 26 9:=⟨⟨_,Tryz.underlying26,rfl⟩,by kernel_rfl⟩
theorem oneNt (n:Nt):(ntC n).all (·.oneCell')=true:=by simp [ntC,Value.oneCell']
theorem boxNt (n:Nt) (w:World):(Instr.box 40 (.agg (ntC n))).run Tryz.prog w=.ok (.pointer (some ⟨w.heap.size,0,none⟩)) (w.alloc (.cells (ntC n) 40)):=by
 unfold ntC
 go_simp
theorem boxSgn (s:Sg) (w:World):(Instr.box 26 (.agg (sgCn s))).run Tryz.prog w=.ok (.pointer (some ⟨w.heap.size,0,none⟩)) (w.alloc (.cells (sgCn s) 26)):=by
 unfold sgCn
 go_simp
theorem qpp (b:Bytes):(bs b == (⟨#[]⟩:ByteArray))=(b.length == 0):=by
 cases b with
 | nil=>rfl
 | cons x l=>rfl
theorem qe8 (b:Bytes):b.isEmpty=(b.length == 0):=by cases b <;> rfl
theorem qid:Ent Tryz.prog 41:=⟨enters_of Tryz.func41 (by kernel_rfl) rfl⟩
theorem enWell:Ent Tryz.prog 114:=⟨enters_of Tryz.func114 (by kernel_rfl) rfl⟩
theorem enSealed:Ent Tryz.prog 70:=⟨enters_of Tryz.func70 (by kernel_rfl) rfl⟩
theorem qhd (s:Sg) (h:s.Wf) (w:World):Calls Tryz.prog 70 #[.agg (sgCn s)] w fun e w'=>e=.returned (.bool (okSg s))∧Below w.heap.size w w':=by
 obtain ⟨b,k,c_b,hk⟩:∃ (b:Bytes) (k:Int),(∀ w,Calls Tryz.prog 41 #[.agg (sgCn s)] w fun e w'=>e=.returned (.tuple #[.string (bs b),.int .i64 k])∧Below w.heap.size w w')∧(k == 0)=okSg s:=by
  by_cases hk:okSg s=true
  ·exact ⟨_,0,fun w=>qb2 s h hk w,by rw [hk];rfl⟩
  ·have hk:=Bool.eq_false_iff.2 hk
   exact ⟨[],1,fun w=>qet s h hk w,by rw [hk];rfl⟩
 have hM:=Mem.nil w
 obtain ⟨z,hz⟩:∃ z,okSg s=z:=⟨_,rfl⟩
 rw [hz] at hk ⊢
 clear hz h
 go_enter Tryz.func70,Tryz.ntmps70
 go_wp2_with (first
  | (refine qam 1 rfl hM rfl rfl rfl (boxSgn s _) ?_;clear hM;intro w' g1 hM)
  | (refine qak 7 rfl hM rfl rfl qid (al:=[.agg (sgCn s)]) (c_b _) rfl ?_;clear hM;intro w' hM)
  | (refine qai hM rfl rfl tySgn rfl (by exact hat) rfl ?_))
 go_ret
 exact ⟨rfl,hM.below⟩
theorem qlv (n:Nt) (h63:n.id.length≤9223372036854775807) (w:World):Calls Tryz.prog 114 #[.agg (ntC n)] w fun e w'=>e=.returned (.bool (wellN n.kd n.rd n.id n.pr))∧Below w.heap.size w w':=by
 have hM:=Mem.nil w
 have hbz:=qpp n.id
 obtain ⟨q,hq⟩:∃ q:Int,(n.id.length:Int)=q:=⟨_,rfl⟩
 obtain ⟨z,hz⟩:∃ z,wellN n.kd n.rd n.id n.pr=z:=⟨_,rfl⟩
 have hl0:(n.id.length == 0)=(q == 0):=by rw [Bool.eq_iff_iff,beq_iff_eq,beq_iff_eq];omega
 have hl32:(n.id.length == 32)=(q == 32):=by rw [Bool.eq_iff_iff,beq_iff_eq,beq_iff_eq];omega
 have hp0:(n.pr == 0)=((n.pr:Int) == 0):=by rw [Bool.eq_iff_iff,beq_iff_eq,beq_iff_eq];omega
 have hpr:decide (n.pr≤n.rd)=decide ((n.pr:Int)≤(n.rd:Int)):=by rw [decide_eq_decide];omega
 have hz2:=hz
 unfold wellN at hz2
 rw [hl0,hl32,hp0,hpr] at hz2
 rw [hl0] at hbz
 have HE:=qh ((qe8 n.id).trans hl0)
 rw [hz]
 have HZ:=qh hz2
 have HQ:=qh hq
 clear hz hz2 hl0 hl32 hp0 hpr h63
 by_cases h1:n.kd < 1
 ·
  have hz:=HZ.out
  rw [if_pos h1] at hz
  subst hz
  have d1:((n.kd:Int) < 1):=by omega
  clear h1 hbz
  clear HZ
  go_enter Tryz.func114,Tryz.ntmps114
  go_wp2_with (first
    | (refine qam 1 rfl hM rfl rfl rfl (boxNt n _) ?_;clear hM;intro w' g1 hM)
    | (refine qaf hM rfl rfl Tryz.isAgg22 rfl (by exact hat) (v:=.int .u64 (n.kd:Int)) rfl ?_)
    | (refine qaf hM rfl rfl Tryz.isAgg22 rfl (by exact hat) (v:=.int .u64 (n.rd:Int)) rfl ?_)
    | (refine qaf hM rfl rfl Tryz.isAgg22 rfl (by exact hat) (v:=.int .u64 (n.pr:Int)) rfl ?_)
    | (refine qaf hM rfl rfl Tryz.isAgg9 rfl (by exact hat) (v:=.string (bs n.id)) rfl ?_))
  go_ret
  exact ⟨rfl,hM.below⟩
 rw [if_neg h1] at HZ
 have d1:¬ ((n.kd:Int) < 1):=by omega
 clear h1
 by_cases h1:4 < n.kd
 ·
  have hz:=HZ.out
  rw [if_pos h1] at hz
  subst hz
  have d2:((n.kd:Int) > 4):=by omega
  clear h1 hbz
  clear HZ
  go_enter Tryz.func114,Tryz.ntmps114
  go_wp2_with (first
    | (refine qam 1 rfl hM rfl rfl rfl (boxNt n _) ?_;clear hM;intro w' g1 hM)
    | (refine qaf hM rfl rfl Tryz.isAgg22 rfl (by exact hat) (v:=.int .u64 (n.kd:Int)) rfl ?_)
    | (refine qaf hM rfl rfl Tryz.isAgg22 rfl (by exact hat) (v:=.int .u64 (n.rd:Int)) rfl ?_)
    | (refine qaf hM rfl rfl Tryz.isAgg22 rfl (by exact hat) (v:=.int .u64 (n.pr:Int)) rfl ?_)
    | (refine qaf hM rfl rfl Tryz.isAgg9 rfl (by exact hat) (v:=.string (bs n.id)) rfl ?_))
  go_ret
  exact ⟨rfl,hM.below⟩
 rw [if_neg h1] at HZ
 have d2:¬ ((n.kd:Int) > 4):=by omega
 clear h1
 by_cases h1:n.kd=4
 ·have d3:((n.kd:Int) == 4)=true:=by rw [beq_iff_eq];omega
  have d3':(n.kd:Int)=4:=by omega
  rw [if_pos h1] at HZ
  clear h1
  by_cases h2:n.pr=0
  ·
   have hz:=HZ.out
   rw [if_pos h2] at hz
   subst hz
   have d4:(n.pr:Int)=0:=by omega
   clear h2
   clear HZ
   go_enter Tryz.func114,Tryz.ntmps114
   go_wp2_with (first
     | (refine qam 1 rfl hM rfl rfl rfl (boxNt n _) ?_;clear hM;intro w' g1 hM)
     | (refine qaf hM rfl rfl Tryz.isAgg22 rfl (by exact hat) (v:=.int .u64 (n.kd:Int)) rfl ?_)
     | (refine qaf hM rfl rfl Tryz.isAgg22 rfl (by exact hat) (v:=.int .u64 (n.rd:Int)) rfl ?_)
     | (refine qaf hM rfl rfl Tryz.isAgg22 rfl (by exact hat) (v:=.int .u64 (n.pr:Int)) rfl ?_)
     | (refine qaf hM rfl rfl Tryz.isAgg9 rfl (by exact hat) (v:=.string (bs n.id)) rfl ?_))
   go_ret
   exact ⟨congrArg (fun b=>Ending.returned (Value.bool b)) HE.out,hM.below⟩
  ·have d4:¬ (n.pr:Int)=0:=by omega
   rw [if_neg h2] at HZ
   clear h2
   by_cases h2:(n.pr:Int)≤(n.rd:Int)
   ·
    have hz:=HZ.out
    rw [decide_eq_true h2,Bool.true_and] at hz
    subst hz
    clear hbz
    clear HZ
    go_enter Tryz.func114,Tryz.ntmps114
    go_wp2_with (first
      | (refine qam 1 rfl hM rfl rfl rfl (boxNt n _) ?_;clear hM;intro w' g1 hM)
      | (refine qaf hM rfl rfl Tryz.isAgg22 rfl (by exact hat) (v:=.int .u64 (n.kd:Int)) rfl ?_)
      | (refine qaf hM rfl rfl Tryz.isAgg22 rfl (by exact hat) (v:=.int .u64 (n.rd:Int)) rfl ?_)
      | (refine qaf hM rfl rfl Tryz.isAgg22 rfl (by exact hat) (v:=.int .u64 (n.pr:Int)) rfl ?_)
      | (refine qaf hM rfl rfl Tryz.isAgg9 rfl (by exact hat) (v:=.string (bs n.id)) rfl ?_))
    go_ret
    exact ⟨rfl,hM.below⟩
   ·
    have hz:=HZ.out
    rw [decide_eq_false h2,Bool.false_and] at hz
    subst hz
    clear hbz
    clear HZ
    go_enter Tryz.func114,Tryz.ntmps114
    go_wp2_with (first
      | (refine qam 1 rfl hM rfl rfl rfl (boxNt n _) ?_;clear hM;intro w' g1 hM)
      | (refine qaf hM rfl rfl Tryz.isAgg22 rfl (by exact hat) (v:=.int .u64 (n.kd:Int)) rfl ?_)
      | (refine qaf hM rfl rfl Tryz.isAgg22 rfl (by exact hat) (v:=.int .u64 (n.rd:Int)) rfl ?_)
      | (refine qaf hM rfl rfl Tryz.isAgg22 rfl (by exact hat) (v:=.int .u64 (n.pr:Int)) rfl ?_)
      | (refine qaf hM rfl rfl Tryz.isAgg9 rfl (by exact hat) (v:=.string (bs n.id)) rfl ?_))
    go_ret
    exact ⟨rfl,hM.below⟩
 ·have d3:¬ (n.kd:Int)=4:=by omega
  rw [if_neg h1] at HZ
  clear h1 hbz
  by_cases h2:(n.pr:Int)=0
  ·
   have hz:=HZ.out
   rw [beq_iff_eq.2 h2,Bool.true_and] at hz
   subst hz
   clear HZ
   go_enter Tryz.func114,Tryz.ntmps114
   go_wp2_with (first
     | (refine qam 1 rfl hM rfl rfl rfl (boxNt n _) ?_;clear hM;intro w' g1 hM)
     | (refine qaf hM rfl rfl Tryz.isAgg22 rfl (by exact hat) (v:=.int .u64 (n.kd:Int)) rfl ?_)
     | (refine qaf hM rfl rfl Tryz.isAgg22 rfl (by exact hat) (v:=.int .u64 (n.rd:Int)) rfl ?_)
     | (refine qaf hM rfl rfl Tryz.isAgg22 rfl (by exact hat) (v:=.int .u64 (n.pr:Int)) rfl ?_)
     | (refine qaf hM rfl rfl Tryz.isAgg9 rfl (by exact hat) (v:=.string (bs n.id)) rfl ?_))
   go_ret
   exact ⟨rfl,hM.below⟩
  ·
   have hz:=HZ.out
   rw [beq_eq_false_iff_ne.2 h2,Bool.false_and] at hz
   subst hz
   clear HZ
   go_enter Tryz.func114,Tryz.ntmps114
   go_wp2_with (first
     | (refine qam 1 rfl hM rfl rfl rfl (boxNt n _) ?_;clear hM;intro w' g1 hM)
     | (refine qaf hM rfl rfl Tryz.isAgg22 rfl (by exact hat) (v:=.int .u64 (n.kd:Int)) rfl ?_)
     | (refine qaf hM rfl rfl Tryz.isAgg22 rfl (by exact hat) (v:=.int .u64 (n.rd:Int)) rfl ?_)
     | (refine qaf hM rfl rfl Tryz.isAgg22 rfl (by exact hat) (v:=.int .u64 (n.pr:Int)) rfl ?_)
     | (refine qaf hM rfl rfl Tryz.isAgg9 rfl (by exact hat) (v:=.string (bs n.id)) rfl ?_))
   go_ret
   exact ⟨rfl,hM.below⟩
/- The walks of msg.fields and msg.digest. -/
def ndK:List Kd:=[⟨98,false⟩,⟨110,false⟩,⟨110,false⟩,⟨110,false⟩,⟨98,false⟩,⟨110,false⟩]
theorem ndK_ok:OkForm ndK:=by
 intro k hk
 simp only [ndK,List.mem_cons,List.not_mem_nil,or_false] at hk
 rcases hk with rfl | rfl | rfl | rfl | rfl | rfl <;> simp [okC]
def ndF5 (n:Nt):List Fd:=[⟨n.kd,[],[]⟩,⟨n.ht,[],[]⟩,⟨n.rd,[],[]⟩,⟨0,n.id,[]⟩,⟨n.pr,[],[]⟩]
def ndC5 (n:Nt):List Value:=[.int .u64 (n.kd:Int),.string (bs []),.slice none 0 0,.int .u64 (n.ht:Int),.string (bs []),.slice none 0 0,.int .u64 (n.rd:Int),.string (bs []),.slice none 0 0,.int .u64 0,.string (bs n.id),.slice none 0 0,.int .u64 (n.pr:Int),.string (bs []),.slice none 0 0]
theorem ndC5_rep {S:Nat→Prop} {w:World} (n:Nt):RepN S w 3 (fdsD (ndF5 n)) (ndC5 n) :=
 .cons (qby n.kd []) rfl (.cons (qby n.ht []) rfl (.cons (qby n.rd []) rfl (.cons (qby 0 n.id) rfl (.cons (cs':=[]) (qby n.pr []) rfl .nil))))
def markN:Fd:=⟨0,[110,111,116,101],[]⟩
def ndF (n:Nt):List Fd:=markN :: ndF5 n
def ndB (n:Nt):Bytes:=writeP (recF ndK (ndF n))
def digN (n:Nt):Bytes:=sumK (ndB n)
theorem qkx {n:Nt} (h:n.Wf):smallF (ndF n):=by
 intro f hf
 simp only [ndF,ndF5,markN,List.mem_cons,List.not_mem_nil,or_false] at hf
 rcases hf with rfl | rfl | rfl | rfl | rfl | rfl
 ·exact ⟨qcf,fun x hx=>by cases hx⟩
 ·exact ⟨h.kd,fun x hx=>by cases hx⟩
 ·exact ⟨h.ht,fun x hx=>by cases hx⟩
 ·exact ⟨h.rd,fun x hx=>by cases hx⟩
 ·exact ⟨qcf,fun x hx=>by cases hx⟩
 ·exact ⟨h.pr,fun x hx=>by cases hx⟩
theorem qni (n:Nt) (h:n.id.length≤32):fitsP ndK (ndF n)=true:=by
 simp [fitsP,ndK,ndF,ndF5,markN,fitF,fitC,sizeC]
 omega
theorem qsp {n:Nt} (h:n.id.length≤32) (hw:n.Wf):(ndB n).length≤200:=by
 have h0:=qbj [110,111,116,101] (by decide)
 have h1:=qbj n.id (by omega)
 have h2:=qbv hw.kd
 have h3:=qbv hw.ht
 have h4:=qbv hw.rd
 have h5:=qbv hw.pr
 have hl:(writesP (itemsF ndK (ndF n))).length=(writeP (leafIt [110,111,116,101])).length+((writeP (leafIt (digs n.kd))).length+((writeP (leafIt (digs n.ht))).length+((writeP (leafIt (digs n.rd))).length+((writeP (leafIt n.id)).length+((writeP (leafIt (digs n.pr))).length+0))))):=by
  simp only [ndK,ndF,ndF5,markN,itemsF,itemF,lfI,writesP,List.length_append,List.length_nil]
  rfl
 unfold ndB recF
 rw [qcd]
 have:=qbb 192 (writesP (itemsF ndK (ndF n))).length (by simp at h0;omega)
 simp at h0
 omega
theorem fwP_nd (n:Nt) (h:n.Wf) (h32:n.id.length≤32):fwP ndK (ndF n)=(ndB n,0):=by
 unfold fwP
 rw [if_pos (qni n h32),qfo (by decide) (qni n h32) (qkx h) (by have:=qsp h32 h;unfold ndB at this;omega)]
 rfl
theorem ndwrite (n:Nt) (h:n.Wf) (h32:n.id.length≤32) (A:Option Addr) (c:Nat) (w:World) (hv:FdsV Any w (ndF n) A c) :
  Calls Tryz.prog 42 #[.string ⟨#[98,110,110,110,98,110]⟩,.slice A 6 c] w fun e w'=>e=.returned (.tuple #[.string (bs (ndB n)),.int .i64 0])∧Below w.heap.size w w':=by
 have h1:=qep ndK ndK_ok (by decide) (by decide) (ndF n) (qkx h) (by show 6≤1000;decide) (fun f hf=>by simp only [ndF,ndF5,markN,List.mem_cons,List.not_mem_nil,or_false] at hf;rcases hf with rfl | rfl | rfl | rfl | rfl | rfl <;> exact Nat.zero_le _) A c w hv
 rw [fwP_nd n h h32] at h1
 exact h1
def NFieldsPost (n:Nt) (w:World) (e:Ending) (w':World):Prop:=∃ g,e=.returned (.slice (some ⟨g,0,none⟩) 5 5)∧w'.ownsRow w.heap.size 81 3 (.slice (some ⟨g,0,none⟩) 5 5) 5 (ndC5 n)∧Below w.heap.size w w'
theorem qhp (n:Nt) (w:World):Calls Tryz.prog 113 #[.agg #[.int .u64 (n.kd:Int),.int .u64 (n.ht:Int),.int .u64 (n.rd:Int),.string (bs n.id),.int .u64 (n.pr:Int),.int .u64 (n.sg.r.a:Int),.int .u64 (n.sg.r.b:Int),.int .u64 (n.sg.r.c:Int),.int .u64 (n.sg.r.d:Int),.int .u64 (n.sg.s.a:Int),.int .u64 (n.sg.s.b:Int),.int .u64 (n.sg.s.c:Int),.int .u64 (n.sg.s.d:Int),.int .i64 n.sg.v]] w (NFieldsPost n w):=by
 have hX:=heap_alloc_new w (.cells #[.int .u64 (n.kd:Int),.int .u64 (n.ht:Int),.int .u64 (n.rd:Int),.string (bs n.id),.int .u64 (n.pr:Int),.int .u64 (n.sg.r.a:Int),.int .u64 (n.sg.r.b:Int),.int .u64 (n.sg.r.c:Int),.int .u64 (n.sg.r.d:Int),.int .u64 (n.sg.s.a:Int),.int .u64 (n.sg.s.b:Int),.int .u64 (n.sg.s.c:Int),.int .u64 (n.sg.s.d:Int),.int .i64 n.sg.v] 40)
 have c0:=rc (u:=.int .u64 (n.kd:Int)) hX 0 rfl
 have c1:=rc (u:=.int .u64 (n.ht:Int)) hX 1 rfl
 have c2:=rc (u:=.int .u64 (n.rd:Int)) hX 2 rfl
 have c3:=rc (u:=.string (bs n.id)) hX 3 rfl
 have c4:=rc (u:=.int .u64 (n.pr:Int)) hX 4 rfl
 have c5:=rc (u:=.int .u64 (n.sg.r.a:Int)) hX 5 rfl
 have c6:=rc (u:=.int .u64 (n.sg.r.b:Int)) hX 6 rfl
 have c7:=rc (u:=.int .u64 (n.sg.r.c:Int)) hX 7 rfl
 have c8:=rc (u:=.int .u64 (n.sg.r.d:Int)) hX 8 rfl
 have c9:=rc (u:=.int .u64 (n.sg.s.a:Int)) hX 9 rfl
 have c10:=rc (u:=.int .u64 (n.sg.s.b:Int)) hX 10 rfl
 have c11:=rc (u:=.int .u64 (n.sg.s.c:Int)) hX 11 rfl
 have c12:=rc (u:=.int .u64 (n.sg.s.d:Int)) hX 12 rfl
 have c13:=rc (u:=.int .i64 n.sg.v) hX 13 rfl
 clear hX
 go_enter Tryz.func113,Tryz.ntmps113
 go_wp2_with fail
 go_ret
 refine ⟨w.heap.size+1,rfl,?_,((Below.refl _ _).alloc qn _).alloc (by simp) _⟩
 have:=World.ownsRow_lit (base:=w.heap.size) (e:=81) (size:=3) (w.alloc (.cells #[.int .u64 (n.kd:Int),.int .u64 (n.ht:Int),.int .u64 (n.rd:Int),.string (bs n.id),.int .u64 (n.pr:Int),.int .u64 (n.sg.r.a:Int),.int .u64 (n.sg.r.b:Int),.int .u64 (n.sg.r.c:Int),.int .u64 (n.sg.r.d:Int),.int .u64 (n.sg.s.a:Int),.int .u64 (n.sg.s.b:Int),.int .u64 (n.sg.s.c:Int),.int .u64 (n.sg.s.d:Int),.int .i64 n.sg.v] 40)) (ndC5 n).toArray 5 (by simp) (by simp [maxLen]) rfl
 simp only [World.size_alloc] at this
 exact this
theorem ql9 (n:Nt) (h:n.Wf) (h32:n.id.length≤32) (w:World):Calls Tryz.prog 115 #[.agg #[.int .u64 (n.kd:Int),.int .u64 (n.ht:Int),.int .u64 (n.rd:Int),.string (bs n.id),.int .u64 (n.pr:Int),.int .u64 (n.sg.r.a:Int),.int .u64 (n.sg.r.b:Int),.int .u64 (n.sg.r.c:Int),.int .u64 (n.sg.r.d:Int),.int .u64 (n.sg.s.a:Int),.int .u64 (n.sg.s.b:Int),.int .u64 (n.sg.s.c:Int),.int .u64 (n.sg.s.d:Int),.int .i64 n.sg.v]] w fun e w'=>e=.returned (.string (bs (digN n)))∧Below w.heap.size w w':=by
 have HF:=qh (fun W:World=>qhp n W)
 have HW:=qh (fun A c (W:World) hv=>ndwrite n h h32 A c W hv)
 have HS:=qh (fun W:World=>qmy (ndB n) (by have:=qsp h32 h;omega) W)
 have hX:=heap_alloc_new w (.cells #[.int .u64 (n.kd:Int),.int .u64 (n.ht:Int),.int .u64 (n.rd:Int),.string (bs n.id),.int .u64 (n.pr:Int),.int .u64 (n.sg.r.a:Int),.int .u64 (n.sg.r.b:Int),.int .u64 (n.sg.r.c:Int),.int .u64 (n.sg.r.d:Int),.int .u64 (n.sg.s.a:Int),.int .u64 (n.sg.s.b:Int),.int .u64 (n.sg.s.c:Int),.int .u64 (n.sg.s.d:Int),.int .i64 n.sg.v] 40)
 have hB0:=(Below.refl w.heap.size w).alloc qn (.cells #[.int .u64 (n.kd:Int),.int .u64 (n.ht:Int),.int .u64 (n.rd:Int),.string (bs n.id),.int .u64 (n.pr:Int),.int .u64 (n.sg.r.a:Int),.int .u64 (n.sg.r.b:Int),.int .u64 (n.sg.r.c:Int),.int .u64 (n.sg.r.d:Int),.int .u64 (n.sg.s.a:Int),.int .u64 (n.sg.s.b:Int),.int .u64 (n.sg.s.c:Int),.int .u64 (n.sg.s.d:Int),.int .i64 n.sg.v] 40)
 have hX1:=(heap_alloc_old (w.alloc (.cells #[.int .u64 (n.kd:Int),.int .u64 (n.ht:Int),.int .u64 (n.rd:Int),.string (bs n.id),.int .u64 (n.pr:Int),.int .u64 (n.sg.r.a:Int),.int .u64 (n.sg.r.b:Int),.int .u64 (n.sg.r.c:Int),.int .u64 (n.sg.r.d:Int),.int .u64 (n.sg.s.a:Int),.int .u64 (n.sg.s.b:Int),.int .u64 (n.sg.s.c:Int),.int .u64 (n.sg.s.d:Int),.int .i64 n.sg.v] 40)) (.cells #[.int .u64 0,.string ⟨#[110,111,116,101]⟩,.slice none 0 0] 81) (qg hX)).trans hX
 have hown0:=World.ownsRow_lit (base:=w.heap.size) (e:=81) (size:=3) (w.alloc (.cells #[.int .u64 (n.kd:Int),.int .u64 (n.ht:Int),.int .u64 (n.rd:Int),.string (bs n.id),.int .u64 (n.pr:Int),.int .u64 (n.sg.r.a:Int),.int .u64 (n.sg.r.b:Int),.int .u64 (n.sg.r.c:Int),.int .u64 (n.sg.r.d:Int),.int .u64 (n.sg.s.a:Int),.int .u64 (n.sg.s.b:Int),.int .u64 (n.sg.s.c:Int),.int .u64 (n.sg.s.d:Int),.int .i64 n.sg.v] 40)) #[.int .u64 0,.string ⟨#[110,111,116,101]⟩,.slice none 0 0] 1 (by simp) (by simp [maxLen]) rfl
 have hB1:=hB0.alloc (by simp) (.cells #[.int .u64 0,.string ⟨#[110,111,116,101]⟩,.slice none 0 0] 81)
 have HO0:=qh (And.intro hown0 hB1)
 have c0:=rc (u:=.int .u64 (n.kd:Int)) hX 0 rfl
 have c1:=rc (u:=.int .u64 (n.ht:Int)) hX 1 rfl
 have c2:=rc (u:=.int .u64 (n.rd:Int)) hX 2 rfl
 have c3:=rc (u:=.string (bs n.id)) hX 3 rfl
 have c4:=rc (u:=.int .u64 (n.pr:Int)) hX 4 rfl
 have c5:=rc (u:=.int .u64 (n.sg.r.a:Int)) hX 5 rfl
 have c6:=rc (u:=.int .u64 (n.sg.r.b:Int)) hX 6 rfl
 have c7:=rc (u:=.int .u64 (n.sg.r.c:Int)) hX 7 rfl
 have c8:=rc (u:=.int .u64 (n.sg.r.d:Int)) hX 8 rfl
 have c9:=rc (u:=.int .u64 (n.sg.s.a:Int)) hX 9 rfl
 have c10:=rc (u:=.int .u64 (n.sg.s.b:Int)) hX 10 rfl
 have c11:=rc (u:=.int .u64 (n.sg.s.c:Int)) hX 11 rfl
 have c12:=rc (u:=.int .u64 (n.sg.s.d:Int)) hX 12 rfl
 have c13:=rc (u:=.int .i64 n.sg.v) hX 13 rfl
 clear hX hX1 hB0 hB1 hown0 h h32
 go_enter Tryz.func115,Tryz.ntmps115
 go_wp2_with fail
 refine (HF.out _).mono ?_
 rintro e w3 ⟨g,rfl,hown,hb3⟩
 have hown0:=qa5 HO0.out.1 hb3
 have hB3:=qac HO0.out.2 (HO0.out.2).size hb3
 simp only [World.size_alloc] at hown0
 have hsz:=hB3.size
 have HL:=qh (qdl (S:=Any) hown (fun _ _ _=>trivial))
 have HO:=qh (And.intro hown0 hB3)
 clear hb3 hown hown0 hB3 HO0 c0 c1 c2 c3 c4 c5 c6 c7 c8 c9 c10 c11 c12 c13
 go_wp2_with (at_builtin;refine qa0 qfc rfl rfl w.heap.size HO.out.1 rfl (m:=5) (ndC5 n) rfl rfl HL.out ?_ ?_ ?_ ?_ ?_;(intro u hu;simp [ndC5] at hu;rcases hu with rfl | rfl | rfl | rfl | rfl | rfl | rfl | rfl | rfl | rfl | rfl | rfl | rfl | rfl | rfl <;> rfl);(simp [maxLen]);omega;exact hsz;intro v1 w4 hown1 hg1 hat1;obtain ⟨A4,c4,rfl⟩:=qa4 hown1)
 have hb4:=qa7 HO.out.2 HO.out.1 hg1 hsz qn
 have hv:FdsV Any w4 (ndF n) A4 c4:=by
  have:=qck (S:=Any) hown1 (RepN.cons (qby 0 [110,111,116,101]) rfl (ndC5_rep n)) (by rfl) (fun _ _ _=>trivial)
  exact this
 have HB4:=qh hb4
 have HV:=qh hv
 clear hb4 hv hown1 hg1 hat1 HO HL hsz
 refine (HW.out A4 c4 w4 HV.out).mono ?_
 rintro e w5 ⟨rfl,hb5⟩
 have HB5:=qh (qac HB4.out HB4.out.size hb5)
 clear hb5 HB4 HV
 go_wp2_with fail
 refine (HS.out _).mono ?_
 rintro e w6 ⟨rfl,hb6⟩
 have HB6:=qh (qac HB5.out HB5.out.size hb6)
 clear hb6 HB5
 go_wp2_with fail
 go_ret
 exact ⟨rfl,HB6.out⟩
/- Messages in plain Lean: a note's record, which messages may be, their bytes, and that no two have the same; of no program. -/
def mnK:List Kd:=[⟨110,false⟩,⟨110,false⟩,⟨110,false⟩,⟨98,false⟩,⟨110,false⟩,⟨115,false⟩]
theorem mnK_ok:OkForm mnK:=by
 intro k hk
 simp only [mnK,List.mem_cons,List.not_mem_nil,or_false] at hk
 rcases hk with rfl | rfl | rfl | rfl | rfl | rfl <;> simp [okC]
def mnF (n:Nt):List Fd:=[⟨n.kd,[],[]⟩,⟨n.ht,[],[]⟩,⟨n.rd,[],[]⟩,⟨0,n.id,[]⟩,⟨n.pr,[],[]⟩,⟨0,sgB n.sg,[]⟩]
def mnB (n:Nt):Bytes:=writeP (recF mnK (mnF n))
theorem qf1 {n:Nt} (h:n.Wf):smallF (mnF n):=by
 intro f hf
 simp only [mnF,List.mem_cons,List.not_mem_nil,or_false] at hf
 rcases hf with rfl | rfl | rfl | rfl | rfl | rfl
 ·exact ⟨h.kd,fun x hx=>by cases hx⟩
 ·exact ⟨h.ht,fun x hx=>by cases hx⟩
 ·exact ⟨h.rd,fun x hx=>by cases hx⟩
 ·exact ⟨qcf,fun x hx=>by cases hx⟩
 ·exact ⟨h.pr,fun x hx=>by cases hx⟩
 ·exact ⟨qcf,fun x hx=>by cases hx⟩
theorem qha (n:Nt) (h:n.id.length≤64):fitsP mnK (mnF n)=true:=by
 simp [fitsP,mnK,mnF,fitF,fitC,sizeC,qda]
 omega
theorem qmo {n:Nt} (h:n.id.length≤32) (hw:n.Wf):(mnB n).length≤150:=by
 have h1:=qbj n.id (by omega)
 have h2:=qbv hw.kd
 have h3:=qbv hw.ht
 have h4:=qbv hw.rd
 have h5:=qbv hw.pr
 have h6:=qcm (sgB n.sg) (by rw [qda];decide)
 rw [qda] at h6
 have hl:(writesP (itemsF mnK (mnF n))).length=(writeP (leafIt (digs n.kd))).length+((writeP (leafIt (digs n.ht))).length+((writeP (leafIt (digs n.rd))).length+((writeP (leafIt n.id)).length+((writeP (leafIt (digs n.pr))).length+((writeP (leafIt (sgB n.sg))).length+0))))):=by
  simp only [mnK,mnF,itemsF,itemF,lfI,writesP,List.length_append,List.length_nil]
  rfl
 unfold mnB recF
 rw [qcd]
 have:=qbb 192 (writesP (itemsF mnK (mnF n))).length (by omega)
 omega
def mnOf (l:List Fd):Nt:=⟨(fdAt l 0).n,(fdAt l 1).n,(fdAt l 2).n,(fdAt l 3).b,(fdAt l 4).n,sgOf (fdAt l 5).b⟩
theorem qn1 {n:Nt} (h:okSg n.sg=true) (hw:n.Wf):mnOf (mnF n)=n:=by
 obtain ⟨kd,ht,rd,id,pr,sg⟩:=n
 simp only [mnOf,fdAt,mnF,List.getD_cons_zero,List.getD_cons_succ,Nt.mk.injEq,true_and]
 exact qey hw.sg h
theorem qh7 {n:Nt} (h:okNt n=true):n.id.length≤32∧okSg n.sg=true∧1≤n.kd∧n.kd≤4:=by
 unfold okNt wellN at h
 simp only [Bool.and_eq_true] at h
 obtain ⟨h,h2⟩:=h
 refine ⟨?_,h2,?_⟩
 ·repeat' split at h
  all_goals simp only [Bool.and_eq_true,beq_iff_eq,decide_eq_true_eq,Bool.false_eq_true] at h
  all_goals omega
 ·repeat' split at h
  all_goals simp only [Bool.and_eq_true,beq_iff_eq,decide_eq_true_eq,Bool.false_eq_true] at h
  all_goals omega
theorem qqp {n u:Nt} (h:okNt n=true) (hw:n.Wf) (h':okNt u=true) (hw':u.Wf) (e:mnB n=mnB u):n=u:=by
 obtain ⟨h1,h2,_⟩:=qh7 h
 obtain ⟨g1,g2,_⟩:=qh7 h'
 have:=qig (by decide) (qha n (by omega)) (qf1 hw) (qha u (by omega)) (qf1 hw') e
 rw [← qn1 h2 hw,this,qn1 g2 hw']
/-- a message -/
structure Ms where
 nt:Nt
 se:Sg
 block:Bytes
 chs:List Nt
 pps:List Nt
deriving DecidableEq
structure Ms.Wf (m:Ms):Prop where
 nt:m.nt.Wf
 se:m.se.Wf
 chs:∀ n∈m.chs,n.Wf
 pps:∀ n∈m.pps,n.Wf
def withM (m:Ms):Bool:=m.nt.kd == 1 || (m.nt.kd == 4 && decide (0 < m.nt.pr))
def someN (l:List Nt) (k:Nat) (may:Bool):Bool:=l.all (fun n=>n.kd == k && okNt n) && (l.length == 0 || (may && decide (l.length≤16)))
def VB (s:Bytes):Prop:=∃ b:Bk,OkBk b∧b.Wf∧s=bkB b
def okMs (bo:Bool) (m:Ms):Bool:=okNt m.nt && (if m.nt.kd=3 then okSg m.se else decide (m.se=zeroSg)) && (if withM m=true then bo else m.block.length == 0) && someN m.chs 4 (m.nt.kd == 1) && someN m.pps 2 (withM m)
structure OkMs (m:Ms):Prop where
 nt:okNt m.nt=true
 sl:m.nt.kd=3→okSg m.se=true
 nosl:m.nt.kd≠3→m.se=zeroSg
 bl:withM m=true→VB m.block
 nobl:withM m=false→m.block = []
 chs:someN m.chs 4 (m.nt.kd == 1)=true
 pps:someN m.pps 2 (withM m)=true
theorem okMs_iff {bo:Bool} {m:Ms} (hb:bo=true↔VB m.block):okMs bo m=true↔OkMs m:=by
 unfold okMs
 simp only [Bool.and_eq_true]
 constructor
 ·rintro ⟨⟨⟨⟨a,b⟩,c⟩,d⟩,e⟩
  refine ⟨a,fun h=>?_,fun h=>?_,fun h=>?_,fun h=>?_,d,e⟩
  ·rwa [if_pos h] at b
  ·rw [if_neg h] at b;exact of_decide_eq_true b
  ·rw [if_pos h] at c;exact hb.1 c
  ·rw [if_neg (by rw [h];decide)] at c;exact List.length_eq_zero_iff.1 (beq_iff_eq.1 c)
 ·rintro ⟨a,b,c,d,e,f,g⟩
  refine ⟨⟨⟨⟨a,?_⟩,?_⟩,f⟩,g⟩
  ·split
   ·rename_i h;exact b h
   ·rename_i h;exact decide_eq_true (c h)
  ·split
   ·rename_i h;exact hb.2 (d h)
   ·rename_i h;rw [e (by simpa using h)];rfl
theorem qcc {l:List Nt} {k:Nat} {may:Bool} (h:someN l k may=true):(∀ n∈l,okNt n=true)∧l.length≤16:=by
 unfold someN at h
 simp only [Bool.and_eq_true,Bool.or_eq_true,List.all_eq_true,decide_eq_true_eq,beq_iff_eq] at h
 exact ⟨fun n hn=>(h.1 n hn).2,by rcases h.2 with h | ⟨_,h⟩ <;> omega⟩
def ntIt (n:Nt):Item:=leafIt (mnB n)
def seB (m:Ms):Bytes:=if m.nt.kd=3 then sgB m.se else []
def msL (m:Ms):List Item:=[ntIt m.nt,leafIt (seB m),leafIt m.block,listIt (m.chs.map ntIt),listIt (m.pps.map ntIt)]
def msI (m:Ms):Item:=listIt (msL m)
def msB (m:Ms):Bytes:=writeP (msI m)
theorem qek (l:List Nt):puresP (l.map ntIt)=true∧depthsP (l.map ntIt)≤0∧countsP (l.map ntIt)=l.length:=by
 refine ⟨(qde _).2 (fun x hx=>?_),(qfp _ _).2 (fun x hx=>?_),?_⟩
 ·obtain ⟨n,_,rfl⟩:=List.mem_map.1 hx;rfl
 ·obtain ⟨n,_,rfl⟩:=List.mem_map.1 hx;exact Nat.le_refl _
 ·induction l with
  | nil=>rfl
  | cons a l ih=>rw [List.map_cons,countsP,ih];simp [ntIt,leafIt,countP,countsP];omega
theorem qka (m:Ms):pureP (msI m)=true∧depthP (msI m)≤2:=by
 unfold msI
 rw [qdg,qcx,qde]
 refine ⟨fun x hx=>?_,?_⟩
 ·simp only [msL,List.mem_cons,List.not_mem_nil,or_false] at hx
  rcases hx with rfl | rfl | rfl | rfl | rfl
  ·rfl
  ·rfl
  ·rfl
  ·rw [qdg];exact (qek _).1
  ·rw [qdg];exact (qek _).1
 ·have:depthsP (msL m)≤1:=(qfp _ _).2 (fun x hx=>by
   simp only [msL,List.mem_cons,List.not_mem_nil,or_false] at hx
   rcases hx with rfl | rfl | rfl | rfl | rfl
   ·exact Nat.zero_le _
   ·exact Nat.zero_le _
   ·exact Nat.zero_le _
   ·rw [qcx];have:=(qek m.chs).2.1;omega
   ·rw [qcx];have:=(qek m.pps).2.1;omega)
  omega
theorem qrn {l:List Nt} {k:Nat} {may:Bool} (h:someN l k may=true) (hw:∀ n∈l,n.Wf):(writeP (listIt (l.map ntIt))).length≤2500:=by
 obtain ⟨h1,h2⟩:=qcc h
 have h3:=qec (l.map ntIt) 153 (fun x hx=>by
  obtain ⟨n,hn,rfl⟩:=List.mem_map.1 hx
  have h4:=qmo (qh7 (h1 n hn)).1 (hw n hn)
  have:=qcm (mnB n) (by omega)
  show (writeP (leafIt (mnB n))).length≤153
  omega)
 rw [List.length_map] at h3
 have h5:=qbb 192 (writesP (l.map ntIt)).length (by omega)
 rw [qcd]
 omega
theorem OkMs.len {m:Ms} (h:OkMs m):m.block.length≤2300:=by
 cases hm:withM m with
 | true =>
  obtain ⟨b,h1,h2,h3⟩:=h.bl hm
  rw [h3];exact (qmc h1 h2).1
 | false=>rw [h.nobl hm];exact Nat.zero_le _
theorem qsc (m:Ms):(seB m).length≤65:=by
 unfold seB;split
 ·rw [qda];decide
 ·exact Nat.zero_le _
theorem qjx {m:Ms} (hk:OkMs m) (hw:m.Wf):(msB m).length≤8000∧countP (msI m)≤40:=by
 have h0:=qmo (qh7 hk.nt).1 hw.nt
 have h1:=qcm (mnB m.nt) (by omega)
 have h2:=qcm (seB m) (by have:=qsc m;omega)
 have h2b:=qsc m
 have h3:=qcm m.block (by have:=hk.len;omega)
 have h3b:=hk.len
 have h4:=qrn hk.chs hw.chs
 have h5:=qrn hk.pps hw.pps
 have hl:(writesP (msL m)).length=(writeP (leafIt (mnB m.nt))).length+((writeP (leafIt (seB m))).length+((writeP (leafIt m.block)).length+((writeP (listIt (m.chs.map ntIt))).length+((writeP (listIt (m.pps.map ntIt))).length+0)))):=by
  simp only [msL,ntIt,writesP,List.length_append,List.length_nil]
 have h6:=qbb 192 (writesP (msL m)).length (by omega)
 refine ⟨?_,?_⟩
 ·unfold msB msI
  rw [qcd];omega
 ·show 1+((1+0)+((1+0)+((1+0)+((1+countsP (m.chs.map ntIt))+((1+countsP (m.pps.map ntIt))+0)))))≤40
  rw [(qek _).2.2,(qek _).2.2]
  have:=(qcc hk.chs).2
  have:=(qcc hk.pps).2
  omega
theorem qmm:∀ (l m:List Nt),(∀ t∈l,okNt t=true∧t.Wf)→(∀ t∈m,okNt t=true∧t.Wf)→l.map ntIt=m.map ntIt→l=m
 | [],[],_,_,_=>rfl
 | [],a :: m,_,_,h=>by cases h
 | a :: l,[],_,_,h=>by cases h
 | a :: l,c :: m,hl,hm,h=>by
  simp only [List.map_cons,List.cons.injEq] at h
  have:a=c:=qqp (hl a (by simp)).1 (hl a (by simp)).2 (hm c (by simp)).1 (hm c (by simp)).2 (by have:=h.1;unfold ntIt leafIt at this;injection this)
  rw [this,qmm l m (fun t ht=>hl t (by simp [ht])) (fun t ht=>hm t (by simp [ht])) h.2]
theorem msB_inj {m u:Ms} (hk:OkMs m) (hw:m.Wf) (hk':OkMs u) (hw':u.Wf) (e:msB m=msB u):m=u:=by
 have h1:=(qjx hk hw).1
 have h2:=(qjx hk' hw').1
 unfold msB at h1 h2 e
 have e1:=(qbx _ _ [] [] (qka m).1 (qka u).1 (by omega) (by omega) (by rw [e])).1
 have e2:msL m=msL u:=by
  unfold msI listIt at e1;injection e1
 simp only [msL,List.cons.injEq,and_true] at e2
 obtain ⟨e3,e4,e5,e6,e7⟩:=e2
 have a1:m.nt=u.nt:=qqp hk.nt hw.nt hk'.nt hw'.nt (by unfold ntIt leafIt at e3;injection e3)
 have a2:seB m=seB u:=by unfold leafIt at e4;injection e4
 have a3:m.block=u.block:=by unfold leafIt at e5;injection e5
 have a4:m.chs=u.chs:=qmm _ _ (fun t ht=>⟨(qcc hk.chs).1 t ht,hw.chs t ht⟩) (fun t ht=>⟨(qcc hk'.chs).1 t ht,hw'.chs t ht⟩) (by unfold listIt at e6;injection e6)
 have a5:m.pps=u.pps:=qmm _ _ (fun t ht=>⟨(qcc hk.pps).1 t ht,hw.pps t ht⟩) (fun t ht=>⟨(qcc hk'.pps).1 t ht,hw'.pps t ht⟩) (by unfold listIt at e7;injection e7)
 have a6:m.se=u.se:=by
  by_cases h3:m.nt.kd=3
  ·have h3':u.nt.kd=3:=by rw [← a1];exact h3
   unfold seB at a2
   rw [if_pos h3,if_pos h3'] at a2
   rw [← qey hw.se (hk.sl h3),a2,qey hw'.se (hk'.sl h3')]
  ·have h3':u.nt.kd≠3:=by rw [← a1];exact h3
   rw [hk.nosl h3,hk'.nosl h3']
 obtain ⟨m1,m2,m3,m4,m5⟩:=m
 obtain ⟨u1,u2,u3,u4,u5⟩:=u
 simp only [] at a1 a3 a4 a5 a6
 rw [a1,a3,a4,a5,a6]
end Go.Proofs.YteoednifdpdbnaaGreat
