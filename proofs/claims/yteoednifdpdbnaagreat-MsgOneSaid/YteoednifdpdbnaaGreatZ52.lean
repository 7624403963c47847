/- Notes in rows; the walk of msg.some. -/
import Derived.Test.YteoednifdpdbnaaGreatZ50
import Derived.Test.YteoednifdpdbnaaGreatZ48
import Derived.Test.YteoednifdpdbnaaGreatZ51
namespace Go.Proofs.YteoednifdpdbnaaGreat
set_option linter.unusedVariables false
set_option linter.unusedSimpArgs false
open Go.RowKit
set_option maxHeartbeats 8000000
set_option maxRecDepth 100000
def ntL (n:Nt):List Value:=[.int .u64 (n.kd:Int),.int .u64 (n.ht:Int),.int .u64 (n.rd:Int),.string (bs n.id),.int .u64 (n.pr:Int),.int .u64 (n.sg.r.a:Int),.int .u64 (n.sg.r.b:Int),.int .u64 (n.sg.r.c:Int),.int .u64 (n.sg.r.d:Int),.int .u64 (n.sg.s.a:Int),.int .u64 (n.sg.s.b:Int),.int .u64 (n.sg.s.c:Int),.int .u64 (n.sg.s.d:Int),.int .i64 n.sg.v]
theorem qqr (n:Nt):(ntL n).length=14∧∀ u∈ntL n,u.oneCell'=true:=⟨rfl,fun u hu=>by
 simp only [ntL,List.mem_cons,List.not_mem_nil,or_false] at hu
 rcases hu with rfl | rfl | rfl | rfl | rfl | rfl | rfl | rfl | rfl | rfl | rfl | rfl | rfl | rfl <;> rfl⟩
def NtsV (S:Nat→Prop) (w:World) (l:List Nt) (A:Option Addr) (c:Nat):Prop:=PlV S w 14 (l.map ntL) A c
theorem NtsV.len {S:Nat→Prop} {w:World} {l:List Nt} {A:Option Addr} {c:Nat} (h:NtsV S w l A c):l.length≤c∧c≤maxLen:=by
 have:=PlV.len h;rwa [List.length_map] at this
theorem qnf {S:Nat→Prop} {w:World} {l:List Nt} {A:Option Addr} {c i:Nat} {n:Nt} (h:NtsV S w l A c) (hi:l[i]? = some n):(∃ g o,A=some ⟨g,o,none⟩)∧(l.map ntL)[i]? = some (ntL n):=by
 have h1:(l.map ntL)[i]? = some (ntL n):=by rw [List.getElem?_map,hi];rfl
 obtain ⟨g,o,hA,_⟩:=PlV.at_ h (by decide) h1
 exact ⟨⟨g,o,hA⟩,h1⟩
theorem qlq (l:List Nt) (hf:∀ n∈l,n.Wf∧n.id.length≤9223372036854775807) (k:Nat) (may:Bool) (A:Option Addr) (c:Nat) (w:World) (hv:NtsV Any w l A c) :
  Calls Tryz.prog 72 #[.slice A l.length c,.int .u64 (k:Int),.bool may] w fun e w'=>e=.returned (.bool (someN l k may))∧Below w.heap.size w w':=by
 obtain ⟨R,hR⟩:∃ R,someN l k may=R:=⟨_,rfl⟩
 have hT:R=((l.drop 0).all (fun n=>n.kd == k && okNt n) && (l.length == 0 || (may && decide (l.length≤16)))):=by rw [← hR];rfl
 have hl63:(l.length:Int)≤9223372036854775807:=by have:=hv.len;simp only [maxLen] at this;omega
 rw [hR]
 have HT:=qh hT
 have HF:=qh hf
 have HV:=qh hv
 have hM0:=Mem.nil w
 clear hT hR hf hv
 go_enter Tryz.func72,Tryz.ntmps72
 go_wp2_with fail
 go_loopw [11] (fun a wr=>∃ i:Nat,a=.int .i64 (i:Int)∧i≤l.length∧Hid (R=((l.drop i).all (fun n=>n.kd == k && okNt n) && (l.length == 0 || (may && decide (l.length≤16)))))∧Mem w wr []) (fun a _=>l.length - (intOf a).toNat)
 case atStart=>exact ⟨0,rfl,Nat.zero_le _,HT,hM0⟩
 case round =>
  clear hM0 HT
  obtain ⟨i,rfl,hi,HT,hM⟩:=hrel
  by_cases hlt:i < l.length
  ·obtain ⟨n,hn⟩:=qan hlt
   obtain ⟨⟨g,o,rfl⟩,hat⟩:=qnf HV.out hn
   have hltI:(i:Int) < l.length:=by omega
   have hT:=HT.out
   rw [qc0 hn,List.all_cons] at hT
   obtain ⟨hnw,hnl⟩:=HF.out n (List.mem_of_getElem? hn)
   have c_r:=fun W:World=>qgd n hnw hnl W
   obtain ⟨ok,hok⟩:∃ ok,okNt n=ok:=⟨_,rfl⟩
   rw [hok] at c_r hT
   have hv:PlV Any w 14 (l.map ntL) (some ⟨g,o,none⟩) c:=HV.out
   have HA:=qh hat
   clear hat hn hok hnw hnl HT HV HF
   by_cases hk:n.kd=k
   ·have hkI:(n.kd:Int)=(k:Int):=by omega
    rw [beq_iff_eq.2 hk,Bool.true_and] at hT
    clear hk
    cases ok with
    | false =>
     rw [Bool.false_and,Bool.false_and] at hT
     subst hT
     go_wp2_with (first
      | (refine qfv hM hv HA.out (by decide) rfl rfl tyNt rfl (ntC n) rfl ?_)
      | (refine qaj 8 rfl hM rfl (runNt rfl) ?_;clear hM;intro w' g8 hM)
      | (refine qae hM rfl rfl tyNt rfl rfl (by exact hau) rfl rfl (oneNt _) ?_;clear hM;intro w' hM)
      | (refine qaf hM rfl rfl Tryz.isAgg22 rfl (by exact hat) (v:=.int .u64 (n.kd:Int)) rfl ?_)
      | (refine qai hM rfl rfl tyNt rfl (by exact hat) rfl ?_)
      | (refine qak 21 rfl hM rfl rfl qia (al:=[.agg (ntC n)]) (c_r _) rfl ?_;clear hM;intro w' hM))
     go_ret
     exact ⟨rfl,hM.below⟩
    | true =>
     rw [Bool.true_and] at hT
     have HT:=qh hT
     clear hT
     go_wp2_with (first
      | (refine qfv hM hv HA.out (by decide) rfl rfl tyNt rfl (ntC n) rfl ?_)
      | (refine qaj 8 rfl hM rfl (runNt rfl) ?_;clear hM;intro w' g8 hM)
      | (refine qae hM rfl rfl tyNt rfl rfl (by exact hau) rfl rfl (oneNt _) ?_;clear hM;intro w' hM)
      | (refine qaf hM rfl rfl Tryz.isAgg22 rfl (by exact hat) (v:=.int .u64 (n.kd:Int)) rfl ?_)
      | (refine qai hM rfl rfl tyNt rfl (by exact hat) rfl ?_)
      | (refine qak 21 rfl hM rfl rfl qia (al:=[.agg (ntC n)]) (c_r _) rfl ?_;clear hM;intro w' hM))
     go_roundw
     case rel=>exact ⟨i+1,by go_num,hlt,HT,hM.tail⟩
     case measure=>simp [intOf];omega
   ·have hkI:¬ (n.kd:Int)=(k:Int):=by omega
    rw [beq_eq_false_iff_ne.2 hk,Bool.false_and,Bool.false_and] at hT
    subst hT
    clear hk
    go_wp2_with (first
     | (refine qfv hM hv HA.out (by decide) rfl rfl tyNt rfl (ntC n) rfl ?_)
     | (refine qaj 8 rfl hM rfl (runNt rfl) ?_;clear hM;intro w' g8 hM)
     | (refine qae hM rfl rfl tyNt rfl rfl (by exact hau) rfl rfl (oneNt _) ?_;clear hM;intro w' hM)
     | (refine qaf hM rfl rfl Tryz.isAgg22 rfl (by exact hat) (v:=.int .u64 (n.kd:Int)) rfl ?_))
    go_ret
    exact ⟨rfl,hM.below⟩
  ·obtain rfl:i=l.length:=by omega
   have hT:=HT.out
   rw [List.drop_of_length_le qn,List.all_nil,Bool.true_and] at hT
   by_cases h0:l.length=0
   ·have h0I:(l.length:Int)=0:=by omega
    rw [beq_iff_eq.2 h0,Bool.true_or] at hT
    subst hT
    clear h0 HV HF hi hlt
    go_wp2_with fail
    go_ret
    exact ⟨rfl,hM.below⟩
   ·have h0I:((l.length:Int) == 0)=false:=by rw [beq_eq_false_iff_ne];omega
    rw [beq_eq_false_iff_ne.2 h0,Bool.false_or] at hT
    clear h0 HV HF hi hlt
    cases may with
    | false =>
     rw [Bool.false_and] at hT
     subst hT
     go_wp2_with fail
     go_ret
     exact ⟨rfl,hM.below⟩
    | true =>
     rw [Bool.true_and] at hT
     by_cases h1:(l.length:Int)≤16
     ·rw [decide_eq_true (show l.length≤16 by omega)] at hT
      subst hT
      go_wp2_with fail
      go_ret
      exact ⟨rfl,hM.below⟩
     ·rw [decide_eq_false (show ¬ l.length≤16 by omega)] at hT
      subst hT
      go_wp2_with fail
      go_ret
      exact ⟨rfl,hM.below⟩
/- The walk of msg.Whole. -/
structure Ms.Fine (m:Ms):Prop where
 wf:m.Wf
 id:m.nt.id.length≤9223372036854775807
 block:m.block.length≤9223372036854775807
 chs:∀ n∈m.chs,n.Wf∧n.id.length≤9223372036854775807
 pps:∀ n∈m.pps,n.Wf∧n.id.length≤9223372036854775807
def msC (m:Ms) (Ac:Option Addr) (cc:Nat) (Ap:Option Addr) (cp:Nat):Array Value:=#[.int .u64 (m.nt.kd:Int),.int .u64 (m.nt.ht:Int),.int .u64 (m.nt.rd:Int),.string (bs m.nt.id),.int .u64 (m.nt.pr:Int),.int .u64 (m.nt.sg.r.a:Int),.int .u64 (m.nt.sg.r.b:Int),.int .u64 (m.nt.sg.r.c:Int),.int .u64 (m.nt.sg.r.d:Int),.int .u64 (m.nt.sg.s.a:Int),.int .u64 (m.nt.sg.s.b:Int),.int .u64 (m.nt.sg.s.c:Int),.int .u64 (m.nt.sg.s.d:Int),.int .i64 m.nt.sg.v,.int .u64 (m.se.r.a:Int),.int .u64 (m.se.r.b:Int),.int .u64 (m.se.r.c:Int),.int .u64 (m.se.r.d:Int),.int .u64 (m.se.s.a:Int),.int .u64 (m.se.s.b:Int),.int .u64 (m.se.s.c:Int),.int .u64 (m.se.s.d:Int),.int .i64 m.se.v,.string (bs m.block),.slice Ac m.chs.length cc,.slice Ap m.pps.length cp]
theorem pa_ms (m:Ms) (Ac:Option Addr) (cc:Nat) (Ap:Option Addr) (cp:Nat):PartAt (msC m Ac cc Ap cp) 0 14 (ntC m.nt):=⟨rfl,rfl⟩
theorem qt7 (m:Ms) (Ac:Option Addr) (cc:Nat) (Ap:Option Addr) (cp:Nat):PartAt (msC m Ac cc Ap cp) 14 9 (sgCn m.se):=⟨rfl,rfl⟩
theorem qnh:(Tryz.prog.info? 43).map (·.size)=some 26:=by kernel_rfl
theorem tyMs:AggT Tryz.prog 43 26:=⟨⟨_,Tryz.underlying43,rfl⟩,qnh⟩
theorem oneMs (m:Ms) (Ac:Option Addr) (cc:Nat) (Ap:Option Addr) (cp:Nat):(msC m Ac cc Ap cp).all (·.oneCell')=true:=by simp [msC,Value.oneCell']
theorem boxMs (m:Ms) (Ac:Option Addr) (cc:Nat) (Ap:Option Addr) (cp:Nat) (w:World):(Instr.box 43 (.agg (msC m Ac cc Ap cp))).run Tryz.prog w=.ok (.pointer (some ⟨w.heap.size,0,none⟩)) (w.alloc (.cells (msC m Ac cc Ap cp) 43)):=by
 unfold msC
 go_simp
theorem tyBk:AggT Tryz.prog 114 12:=⟨⟨_,Tryz.underlying114,rfl⟩,by kernel_rfl⟩
theorem runBk {o:Oper} (ho:o.op=.alloc 114) (ρ:Operand→Value) (w:World):(execOp ρ o).run Tryz.prog w=.ok (.value (.pointer (some ⟨w.heap.size,0,none⟩))) (w.alloc (.cells zqB 114)):=by
 unfold execOp
 simp only [ho]
 go_simp
theorem y_ce {ops:Array Oper} {S:World→Prop} {oi:Oper} {a:Act} {ty:TypeId} {x:Operand} {g j:Nat} {v:Value} (hna:∀ w,(isAgg ty).run Tryz.prog w=.ok false w) (hS:∀ w',S w'→w'.cell? ⟨g,j,none⟩=some v) (ho:oi.op=.load ty x:=by rfl) (hx:a.eval x=.pointer (some ⟨g,j,none⟩):=by rfl) (hw:Region.wanted oi (yielded ops a.tmps)=true:=by rfl):YieldsIf Tryz.prog ops S oi v a :=
 .inl ⟨hw,fun w' hS'=>by
  have h:=run_load (P:=Tryz.prog) w' ⟨g,j,none⟩
  rw [hS w' hS'] at h
  unfold execOp
  simp only [ho,hx,Instr.loadAt,Instr.sureAddr,loadVar,Sem.run_bind,Sem.run_pure,Result.andThen_ok,hna,Bool.false_eq_true,if_false,h]⟩
theorem ex_eq {P:Program} {a:Act} {op:Oper} {k:BinOp} {ty ty2:TypeId} {x y:Operand} {v0 v1 v:Value} (hb:∀ w,(binOp k ty v0 v1).run P w=.ok v w) (hg:∀ x y w,(eqGuard k ty x y v0 v1).run P w=.ok () w)
  (ho:op.op=.binOp k ty x y ty2:=by rfl) (h0:a.eval x=v0:=by rfl) (h1:a.eval y=v1:=by rfl):∀ w,(execOp a.eval op).run P w=.ok (.value v) w:=fun w=>by
 unfold execOp
 simp only [ho,h0,h1,Sem.run_bind,hg,hb,Result.andThen_ok,Sem.run_pure]
/-- what block.Read says of a text, in short -/
def BrFix (s:Bytes) (bo:Bool) (no:Int):Prop:=(bo=true↔VB s)∧((bo=true∧no=0)∨(bo=false∧no=4))∧∀ w,Calls Tryz.prog 71 #[.string (bs s)] w fun e w'=>∃ cells:Array Value,e=.returned (.tuple #[.agg cells,.int .i64 no])∧cells.size=12∧cells.all (·.oneCell')=true∧Below w.heap.size w w'
theorem qso (s:Bytes):∃ bo no,BrFix s bo no:=by
 by_cases h:VB s
 ·refine ⟨true,0,by simp [h],.inl ⟨rfl,rfl⟩,fun w=>(ql5 s w).mono ?_⟩
  rintro e w' ⟨b,Av,As,At,cv,cs,ct,no,rfl,_,hs,hb⟩
  rcases hs with ⟨rfl,_⟩ | ⟨_,_,h2⟩
  ·exact ⟨_,rfl,rfl,by simp [Value.oneCell'],hb⟩
  ·obtain ⟨u,h3,h4,h5⟩:=h
   exact absurd h5 (h2 u h3 h4)
 ·refine ⟨false,4,by simp [h],.inr ⟨rfl,rfl⟩,fun w=>(ql5 s w).mono ?_⟩
  rintro e w' ⟨b,Av,As,At,cv,cs,ct,no,rfl,_,hs,hb⟩
  rcases hs with ⟨rfl,h1,h2,h3⟩ | ⟨rfl,_,h2⟩
  ·exact absurd ⟨b,h1,h2,h3⟩ h
  ·exact ⟨_,rfl,rfl,by simp [Value.oneCell'],hb⟩
theorem qto (m:Ms) (hf:m.Fine) (bo:Bool) (no:Int) (hbr:BrFix m.block bo no) (Ac Ap:Option Addr) (cc cp:Nat) (w:World) (hc:NtsV Any w m.chs Ac cc) (hp:NtsV Any w m.pps Ap cp) :
  Calls Tryz.prog 25 #[.agg (msC m Ac cc Ap cp)] w fun e w'=>e=.returned (.bool (okMs bo m))∧Below w.heap.size w w':=by
 obtain ⟨R,hR⟩:∃ R,okMs bo m=R:=⟨_,rfl⟩
 have hRd:R=(okNt m.nt && ((if m.nt.kd=3 then okSg m.se else decide (m.se=zeroSg)) && ((if withM m=true then bo else m.block.length == 0) && (someN m.chs 4 (m.nt.kd == 1) && someN m.pps 2 (withM m))))):=by
  rw [← hR];unfold okMs;simp only [Bool.and_assoc]
 rw [hR]
 have c_r:=fun W:World=>qgd m.nt hf.wf.nt hf.id W
 have c_s:=fun W:World=>qhd m.se hf.wf.se W
 have c_b:=hbr.2.2
 have HNO:=qh hbr.2.1
 have heq:∀ w,(binOp .neq 26 (.agg (sgCn m.se)) (.agg zqS)).run Tryz.prog w=.ok (.bool (!decide (m.se=zeroSg))) w:=fun w=>neqSgD m.se zeroSg w
 have hzz:decide (m.se=zeroSg)=true→okSg m.se=false:=fun e=>by rw [of_decide_eq_true e];exact qla
 have c_1:∀ (p:Bool) (W:World),Below w.heap.size w W→Calls Tryz.prog 72 #[.slice Ac m.chs.length cc,.int .u64 4,.bool p] W fun e w'=>e=.returned (.bool (someN m.chs 4 p))∧Below W.heap.size W w':=fun (p:Bool) (W:World) (hb:Below w.heap.size w W)=>qlq m.chs hf.chs 4 p Ac cc W (PlV.keep hc hb)
 have c_2:∀ (p:Bool) (W:World),Below w.heap.size w W→Calls Tryz.prog 72 #[.slice Ap m.pps.length cp,.int .u64 2,.bool p] W fun e w'=>e=.returned (.bool (someN m.pps 2 p))∧Below W.heap.size W w':=fun (p:Bool) (W:World) (hb:Below w.heap.size w W)=>qlq m.pps hf.pps 2 p Ap cp W (PlV.keep hp hb)
 obtain ⟨x1,hx1⟩:∃ x,okNt m.nt=x:=⟨_,rfl⟩
 obtain ⟨x4,hx4⟩:∃ x,okSg m.se=x:=⟨_,rfl⟩
 obtain ⟨z,hz⟩:∃ x,decide (m.se=zeroSg)=x:=⟨_,rfl⟩
 rw [hx1] at c_r
 rw [hx4] at c_s hzz
 simp only [hz] at heq
 rw [hz] at hzz
 rw [hx1,hx4,hz] at hRd
 have HZ:=qh hzz
 have hM:=Mem.nil w
 clear hR hx1 hx4 hz hzz hbr hf hc hp
 by_cases h1:m.nt.kd=1
 ·have e1:((m.nt.kd:Int) == 1)=true:=by rw [beq_iff_eq];omega
  have e4:((m.nt.kd:Int) == 4)=false:=by rw [beq_eq_false_iff_ne];omega
  have e3:((m.nt.kd:Int) == 3)=false:=by rw [beq_eq_false_iff_ne];omega
  have hw:withM m=true:=by unfold withM;rw [h1];rfl
  rw [if_neg (by omega),hw,if_pos rfl,beq_iff_eq.2 h1] at hRd
  replace c_1:=c_1 true
  replace c_2:=c_2 true
  obtain ⟨y1,hy1⟩:∃ x,someN m.chs 4 true=x:=⟨_,rfl⟩
  obtain ⟨y2,hy2⟩:∃ x,someN m.pps 2 true=x:=⟨_,rfl⟩
  rw [hy1] at hRd c_1
  rw [hy2] at hRd c_2
  have HR:=qh hRd
  clear hw h1 hy1 hy2 hRd
  cases x1 with
  | false =>
   have HR:Hid (R=false):=qh (by rw [HR.out,Bool.false_and])
   go_enter Tryz.func25,Tryz.ntmps25
   go_wp2_with (first
    | (refine qam 1 rfl hM rfl rfl rfl (boxMs m Ac cc Ap cp _) ?_;clear hM;intro w' g1 hM)
    | (refine qaf hM rfl rfl Tryz.isAgg22 rfl (by exact hat) (j:=0) (v:=.int .u64 (m.nt.kd:Int)) rfl ?_)
    | (refine qaf hM rfl rfl Tryz.isAgg22 rfl (by exact hat) (j:=4) (v:=.int .u64 (m.nt.pr:Int)) rfl ?_))
   refine wp_region_held_drew (S:=fun v'=>Mem w v' [(g1,msC m Ac cc Ap cp,43)]) (by kernel_rfl) hM.drew (fun _=>?_)
   replace hM:=hM.drew
   refine H_t (i:=0) (v:=.pointer (some ⟨g1,0,none⟩)) rfl (Or.inl ⟨by rfl,fun w' hS=>by go_simp⟩) hM ?_
   refine H_t (i:=1) rfl (qax tyNt (fun _ h=>Mem.at_ h at0) (ntC m.nt)) hM ?_
   refine H_now 2 fun K hK=>?_
   go_simp
   refine (c_r _).mono ?_
   rintro e wc ⟨rfl,hb⟩
   replace hM:=hM.call hb
   clear hb
   refine hK.out _ _ hM (fun _=>lay_H ?_)
   clear hK K
   refine H_t (i:=3) (v:=.bool true) rfl (Or.inl ⟨by rfl,fun w' hS=>by go_simp⟩) hM ?_
   refine H_t (i:=4) (v:=.bool true) rfl (Or.inl ⟨by rfl,fun w' hS=>by go_simp⟩) hM ?_
   refine H_t (i:=5) (v:=undef) rfl (Or.inr ⟨by rfl,rfl⟩) hM ?_
   refine H_t (i:=6) (v:=undef) rfl (Or.inr ⟨by rfl,rfl⟩) hM ?_
   refine H_t (i:=7) (v:=undef) rfl (Or.inr ⟨by rfl,rfl⟩) hM ?_
   refine H_t (i:=8) (v:=undef) rfl (Or.inr ⟨by rfl,rfl⟩) hM ?_
   refine H_t (i:=9) (v:=undef) rfl (Or.inr ⟨by rfl,rfl⟩) hM ?_
   refine H_t (i:=10) (v:=undef) rfl (Or.inr ⟨by rfl,rfl⟩) hM ?_
   refine H_t (i:=11) (v:=undef) rfl (Or.inr ⟨by rfl,rfl⟩) hM ?_
   refine H_t (i:=12) (v:=undef) rfl (Or.inr ⟨by rfl,rfl⟩) hM ?_
   refine H_t (i:=13) (v:=undef) rfl (Or.inr ⟨by rfl,rfl⟩) hM ?_
   refine H_t (i:=14) (v:=.bool true) rfl (Or.inl ⟨by rfl,fun w' hS=>by go_simp⟩) hM ?_
   refine H_t (i:=15) (v:=.bool true) rfl (Or.inl ⟨by rfl,fun w' hS=>by go_simp⟩) hM ?_
   refine H_t (i:=16) (v:=undef) rfl (Or.inr ⟨by rfl,rfl⟩) hM ?_
   refine H_t (i:=17) (v:=undef) rfl (Or.inr ⟨by rfl,rfl⟩) hM ?_
   refine H_t (i:=18) (v:=undef) rfl (Or.inr ⟨by rfl,rfl⟩) hM ?_
   refine H_t (i:=19) (v:=undef) rfl (Or.inr ⟨by rfl,rfl⟩) hM ?_
   refine H_t (i:=20) (v:=undef) rfl (Or.inr ⟨by rfl,rfl⟩) hM ?_
   refine H_t (i:=21) (v:=undef) rfl (Or.inr ⟨by rfl,rfl⟩) hM ?_
   refine H_t (i:=22) (v:=undef) rfl (Or.inr ⟨by rfl,rfl⟩) hM ?_
   refine H_t (i:=23) (v:=undef) rfl (Or.inr ⟨by rfl,rfl⟩) hM ?_
   refine H_t (i:=24) (v:=undef) rfl (Or.inr ⟨by rfl,rfl⟩) hM ?_
   refine H_t (i:=25) (v:=undef) rfl (Or.inr ⟨by rfl,rfl⟩) hM ?_
   refine H_t (i:=26) (v:=.bool true) rfl (Or.inl ⟨by rfl,fun w' hS=>by go_simp⟩) hM ?_
   refine wpAnyH_done (by kernel_rfl) ?_ _
   go_wp2_with (first
    | fail)
   go_ret
   exact ⟨congrArg (fun b=>Ending.returned (Value.bool b)) HR.out.symm,hM.below⟩
  | true =>
   cases z with
   | false =>
    have HR:Hid (R=false):=qh (by rw [HR.out,Bool.false_and,Bool.and_false])
    go_enter Tryz.func25,Tryz.ntmps25
    go_wp2_with (first
     | (refine qam 1 rfl hM rfl rfl rfl (boxMs m Ac cc Ap cp _) ?_;clear hM;intro w' g1 hM)
     | (refine qaf hM rfl rfl Tryz.isAgg22 rfl (by exact hat) (j:=0) (v:=.int .u64 (m.nt.kd:Int)) rfl ?_)
     | (refine qaf hM rfl rfl Tryz.isAgg22 rfl (by exact hat) (j:=4) (v:=.int .u64 (m.nt.pr:Int)) rfl ?_))
    refine wp_region_held_drew (S:=fun v'=>Mem w v' [(g1,msC m Ac cc Ap cp,43)]) (by kernel_rfl) hM.drew (fun _=>?_)
    replace hM:=hM.drew
    refine H_t (i:=0) (v:=.pointer (some ⟨g1,0,none⟩)) rfl (Or.inl ⟨by rfl,fun w' hS=>by go_simp⟩) hM ?_
    refine H_t (i:=1) rfl (qax tyNt (fun _ h=>Mem.at_ h at0) (ntC m.nt)) hM ?_
    refine H_now 2 fun K hK=>?_
    go_simp
    refine (c_r _).mono ?_
    rintro e wc ⟨rfl,hb⟩
    replace hM:=hM.call hb
    clear hb
    refine hK.out _ _ hM (fun _=>lay_H ?_)
    clear hK K
    refine H_t (i:=3) (v:=.bool false) rfl (Or.inl ⟨by rfl,fun w' hS=>by go_simp⟩) hM ?_
    refine H_t (i:=4) (v:=.bool false) rfl (Or.inl ⟨by rfl,fun w' hS=>by go_simp⟩) hM ?_
    refine H_t (i:=5) (v:=.pointer (some ⟨g1,14,none⟩)) rfl (Or.inl ⟨by rfl,fun w' hS=>by go_simp⟩) hM ?_
    refine H_t (i:=6) rfl (qax tySgn (fun _ h=>Mem.at_ h at0) (sgCn m.se)) hM ?_
    refine H_t (i:=7) (v:=.agg zqS) rfl (Or.inl ⟨by rfl,fun w' hS=>by go_simp⟩) hM ?_
    refine H_t (i:=8) (v:=.bool true) rfl (Or.inl ⟨by rfl,fun w' hS=>ex_eq heq (fun _ _ w=>run_eqGuard_agg w .neq 26 _ _ (sgCn m.se) zqS qbz) (by rfl) (by rfl) (by rfl) w'⟩) hM ?_
    refine H_t (i:=9) (v:=.pointer (some ⟨g1,0,none⟩)) rfl (Or.inl ⟨by rfl,fun w' hS=>by go_simp⟩) hM ?_
    refine H_t (i:=10) (v:=.pointer (some ⟨g1,0,none⟩)) rfl (Or.inl ⟨by rfl,fun w' hS=>by go_simp⟩) hM ?_
    refine H_t (i:=11) rfl (y_ce Tryz.isAgg22 (fun _ h=>rc (Mem.at_ h at0) 0 rfl) (v:=.int .u64 (m.nt.kd:Int))) hM ?_
    refine H_t (i:=12) (v:=.bool false) rfl (Or.inl ⟨by rfl,fun w' hS=>by go_simp⟩) hM ?_
    refine H_t (i:=13) (v:=.bool true) rfl (Or.inl ⟨by rfl,fun w' hS=>by go_simp⟩) hM ?_
    refine H_t (i:=14) (v:=.bool true) rfl (Or.inl ⟨by rfl,fun w' hS=>by go_simp⟩) hM ?_
    refine H_t (i:=15) (v:=.bool true) rfl (Or.inl ⟨by rfl,fun w' hS=>by go_simp⟩) hM ?_
    refine H_t (i:=16) (v:=undef) rfl (Or.inr ⟨by rfl,rfl⟩) hM ?_
    refine H_t (i:=17) (v:=undef) rfl (Or.inr ⟨by rfl,rfl⟩) hM ?_
    refine H_t (i:=18) (v:=undef) rfl (Or.inr ⟨by rfl,rfl⟩) hM ?_
    refine H_t (i:=19) (v:=undef) rfl (Or.inr ⟨by rfl,rfl⟩) hM ?_
    refine H_t (i:=20) (v:=undef) rfl (Or.inr ⟨by rfl,rfl⟩) hM ?_
    refine H_t (i:=21) (v:=undef) rfl (Or.inr ⟨by rfl,rfl⟩) hM ?_
    refine H_t (i:=22) (v:=undef) rfl (Or.inr ⟨by rfl,rfl⟩) hM ?_
    refine H_t (i:=23) (v:=undef) rfl (Or.inr ⟨by rfl,rfl⟩) hM ?_
    refine H_t (i:=24) (v:=undef) rfl (Or.inr ⟨by rfl,rfl⟩) hM ?_
    refine H_t (i:=25) (v:=undef) rfl (Or.inr ⟨by rfl,rfl⟩) hM ?_
    refine H_t (i:=26) (v:=.bool true) rfl (Or.inl ⟨by rfl,fun w' hS=>by go_simp⟩) hM ?_
    refine wpAnyH_done (by kernel_rfl) ?_ _
    go_wp2_with (first
     | fail)
    go_ret
    exact ⟨congrArg (fun b=>Ending.returned (Value.bool b)) HR.out.symm,hM.below⟩
   | true =>
    have HR:=qh (HR.out.trans ((Bool.true_and _).trans (Bool.true_and _)))
    go_enter Tryz.func25,Tryz.ntmps25
    go_wp2_with (first
     | (refine qam 1 rfl hM rfl rfl rfl (boxMs m Ac cc Ap cp _) ?_;clear hM;intro w' g1 hM)
     | (refine qaf hM rfl rfl Tryz.isAgg22 rfl (by exact hat) (j:=0) (v:=.int .u64 (m.nt.kd:Int)) rfl ?_)
     | (refine qaf hM rfl rfl Tryz.isAgg22 rfl (by exact hat) (j:=4) (v:=.int .u64 (m.nt.pr:Int)) rfl ?_))
    refine wp_region_held_drew (S:=fun v'=>Mem w v' [(g1,msC m Ac cc Ap cp,43)]) (by kernel_rfl) hM.drew (fun _=>?_)
    replace hM:=hM.drew
    refine H_t (i:=0) (v:=.pointer (some ⟨g1,0,none⟩)) rfl (Or.inl ⟨by rfl,fun w' hS=>by go_simp⟩) hM ?_
    refine H_t (i:=1) rfl (qax tyNt (fun _ h=>Mem.at_ h at0) (ntC m.nt)) hM ?_
    refine H_now 2 fun K hK=>?_
    go_simp
    refine (c_r _).mono ?_
    rintro e wc ⟨rfl,hb⟩
    replace hM:=hM.call hb
    clear hb
    refine hK.out _ _ hM (fun _=>lay_H ?_)
    clear hK K
    refine H_t (i:=3) (v:=.bool false) rfl (Or.inl ⟨by rfl,fun w' hS=>by go_simp⟩) hM ?_
    refine H_t (i:=4) (v:=.bool false) rfl (Or.inl ⟨by rfl,fun w' hS=>by go_simp⟩) hM ?_
    refine H_t (i:=5) (v:=.pointer (some ⟨g1,14,none⟩)) rfl (Or.inl ⟨by rfl,fun w' hS=>by go_simp⟩) hM ?_
    refine H_t (i:=6) rfl (qax tySgn (fun _ h=>Mem.at_ h at0) (sgCn m.se)) hM ?_
    refine H_t (i:=7) (v:=.agg zqS) rfl (Or.inl ⟨by rfl,fun w' hS=>by go_simp⟩) hM ?_
    refine H_t (i:=8) (v:=.bool false) rfl (Or.inl ⟨by rfl,fun w' hS=>ex_eq heq (fun _ _ w=>run_eqGuard_agg w .neq 26 _ _ (sgCn m.se) zqS qbz) (by rfl) (by rfl) (by rfl) w'⟩) hM ?_
    refine H_t (i:=9) (v:=.pointer (some ⟨g1,0,none⟩)) rfl (Or.inl ⟨by rfl,fun w' hS=>by go_simp⟩) hM ?_
    refine H_t (i:=10) (v:=.pointer (some ⟨g1,0,none⟩)) rfl (Or.inl ⟨by rfl,fun w' hS=>by go_simp⟩) hM ?_
    refine H_t (i:=11) rfl (y_ce Tryz.isAgg22 (fun _ h=>rc (Mem.at_ h at0) 0 rfl) (v:=.int .u64 (m.nt.kd:Int))) hM ?_
    refine H_t (i:=12) (v:=.bool false) rfl (Or.inl ⟨by rfl,fun w' hS=>by go_simp⟩) hM ?_
    refine H_t (i:=13) (v:=.bool false) rfl (Or.inl ⟨by rfl,fun w' hS=>by go_simp⟩) hM ?_
    refine H_t (i:=14) (v:=.bool false) rfl (Or.inl ⟨by rfl,fun w' hS=>by go_simp⟩) hM ?_
    refine H_t (i:=15) (v:=.bool false) rfl (Or.inl ⟨by rfl,fun w' hS=>by go_simp⟩) hM ?_
    refine H_t (i:=16) (v:=.pointer (some ⟨g1,0,none⟩)) rfl (Or.inl ⟨by rfl,fun w' hS=>by go_simp⟩) hM ?_
    refine H_t (i:=17) (v:=.pointer (some ⟨g1,0,none⟩)) rfl (Or.inl ⟨by rfl,fun w' hS=>by go_simp⟩) hM ?_
    refine H_t (i:=18) rfl (y_ce Tryz.isAgg22 (fun _ h=>rc (Mem.at_ h at0) 0 rfl) (v:=.int .u64 (m.nt.kd:Int))) hM ?_
    refine H_t (i:=19) (v:=.bool false) rfl (Or.inl ⟨by rfl,fun w' hS=>by go_simp⟩) hM ?_
    refine H_t (i:=20) (v:=.bool false) rfl (Or.inl ⟨by rfl,fun w' hS=>by go_simp⟩) hM ?_
    refine H_t (i:=21) (v:=undef) rfl (Or.inr ⟨by rfl,rfl⟩) hM ?_
    refine H_t (i:=22) (v:=undef) rfl (Or.inr ⟨by rfl,rfl⟩) hM ?_
    refine H_t (i:=23) (v:=undef) rfl (Or.inr ⟨by rfl,rfl⟩) hM ?_
    refine H_t (i:=24) (v:=undef) rfl (Or.inr ⟨by rfl,rfl⟩) hM ?_
    refine H_t (i:=25) (v:=.bool false) rfl (Or.inl ⟨by rfl,fun w' hS=>by go_simp⟩) hM ?_
    refine H_t (i:=26) (v:=.bool false) rfl (Or.inl ⟨by rfl,fun w' hS=>by go_simp⟩) hM ?_
    refine wpAnyH_done (by kernel_rfl) ?_ _
    go_wp2_with (first
     | (refine qaf hM rfl rfl Tryz.isAgg9 rfl (by exact hat) (j:=23) (v:=.string (bs m.block)) rfl ?_))
    refine (c_b _).mono ?_
    rintro e w3 ⟨cells,rfl,hcs,hco,hb⟩
    replace hM:=hM.call hb
    have HCS:=qh hcs
    have HCO:=qh hco
    clear hb hcs hco
    rcases HNO.out with ⟨hbo,hno⟩ | ⟨hbo,hno⟩
    ·have HR:Hid (R=(y1 && y2)):=qh (by rw [HR.out,hbo,Bool.true_and])
     subst hno
     clear hbo HNO
     cases y1 with
     | false =>
      have HR:Hid (R=false):=qh (by rw [HR.out,Bool.false_and])
      go_wp2_with (first
       | (refine qaj 5 rfl hM rfl (runBk rfl) ?_;clear hM;intro w' g5 hM)
       | (refine qae hM rfl rfl tyBk rfl rfl (new:=cells) (by exact hau) HCS.out rfl HCO.out ?_;clear hM;intro w' hM)
       | (refine qaf hM rfl rfl Tryz.isAgg41 rfl (by exact hat) (j:=24) (v:=.slice Ac m.chs.length cc) rfl ?_))
      refine (c_1 _ hM.below).mono ?_
      rintro e w9 ⟨rfl,hb⟩
      replace hM:=hM.call hb
      clear hb
      go_wp2_with (first
       | fail)
      go_ret
      exact ⟨congrArg (fun b=>Ending.returned (Value.bool b)) HR.out.symm,hM.below⟩
     | true =>
      have HR:Hid (R=y2):=qh (by rw [HR.out,Bool.true_and])
      go_wp2_with (first
       | (refine qaj 5 rfl hM rfl (runBk rfl) ?_;clear hM;intro w' g5 hM)
       | (refine qae hM rfl rfl tyBk rfl rfl (new:=cells) (by exact hau) HCS.out rfl HCO.out ?_;clear hM;intro w' hM)
       | (refine qaf hM rfl rfl Tryz.isAgg41 rfl (by exact hat) (j:=24) (v:=.slice Ac m.chs.length cc) rfl ?_))
      refine (c_1 _ hM.below).mono ?_
      rintro e w9 ⟨rfl,hb⟩
      replace hM:=hM.call hb
      clear hb
      go_wp2_with (first
       | (refine qaf hM rfl rfl Tryz.isAgg41 rfl (by exact hat) (j:=25) (v:=.slice Ap m.pps.length cp) rfl ?_))
      refine (c_2 _ hM.below).mono ?_
      rintro e w9 ⟨rfl,hb⟩
      replace hM:=hM.call hb
      clear hb
      go_wp2_with (first
       | fail)
      go_ret
      exact ⟨congrArg (fun b=>Ending.returned (Value.bool b)) HR.out.symm,hM.below⟩
    ·have HR:Hid (R=false):=qh (by rw [HR.out,hbo,Bool.false_and])
     subst hno
     clear hbo HNO
     go_wp2_with (first
      | (refine qaj 5 rfl hM rfl (runBk rfl) ?_;clear hM;intro w' g5 hM)
      | (refine qae hM rfl rfl tyBk rfl rfl (new:=cells) (by exact hau) HCS.out rfl HCO.out ?_;clear hM;intro w' hM))
     go_ret
     exact ⟨congrArg (fun b=>Ending.returned (Value.bool b)) HR.out.symm,hM.below⟩
 have e1:((m.nt.kd:Int) == 1)=false:=by rw [beq_eq_false_iff_ne];omega
 rw [beq_eq_false_iff_ne.2 h1] at hRd
 replace c_1:=c_1 false
 obtain ⟨y1,hy1⟩:∃ x,someN m.chs 4 false=x:=⟨_,rfl⟩
 rw [hy1] at hRd c_1
 by_cases h4:m.nt.kd=4∧0 < m.nt.pr
 ·have e4:((m.nt.kd:Int) == 4)=true:=by rw [beq_iff_eq];omega
  have e3:((m.nt.kd:Int) == 3)=false:=by rw [beq_eq_false_iff_ne];omega
  have e5:(m.nt.pr:Int) > 0:=by omega
  have hw:withM m=true:=by unfold withM;rw [h4.1,decide_eq_true h4.2];rfl
  rw [if_neg (by omega),hw,if_pos rfl] at hRd
  replace c_2:=c_2 true
  obtain ⟨y2,hy2⟩:∃ x,someN m.pps 2 true=x:=⟨_,rfl⟩
  rw [hy2] at hRd c_2
  have HR:=qh hRd
  clear hw h1 h4 hy1 hy2 hRd
  cases x1 with
  | false =>
   have HR:Hid (R=false):=qh (by rw [HR.out,Bool.false_and])
   go_enter Tryz.func25,Tryz.ntmps25
   go_wp2_with (first
    | (refine qam 1 rfl hM rfl rfl rfl (boxMs m Ac cc Ap cp _) ?_;clear hM;intro w' g1 hM)
    | (refine qaf hM rfl rfl Tryz.isAgg22 rfl (by exact hat) (j:=0) (v:=.int .u64 (m.nt.kd:Int)) rfl ?_)
    | (refine qaf hM rfl rfl Tryz.isAgg22 rfl (by exact hat) (j:=4) (v:=.int .u64 (m.nt.pr:Int)) rfl ?_))
   refine wp_region_held_drew (S:=fun v'=>Mem w v' [(g1,msC m Ac cc Ap cp,43)]) (by kernel_rfl) hM.drew (fun _=>?_)
   replace hM:=hM.drew
   refine H_t (i:=0) (v:=.pointer (some ⟨g1,0,none⟩)) rfl (Or.inl ⟨by rfl,fun w' hS=>by go_simp⟩) hM ?_
   refine H_t (i:=1) rfl (qax tyNt (fun _ h=>Mem.at_ h at0) (ntC m.nt)) hM ?_
   refine H_now 2 fun K hK=>?_
   go_simp
   refine (c_r _).mono ?_
   rintro e wc ⟨rfl,hb⟩
   replace hM:=hM.call hb
   clear hb
   refine hK.out _ _ hM (fun _=>lay_H ?_)
   clear hK K
   refine H_t (i:=3) (v:=.bool true) rfl (Or.inl ⟨by rfl,fun w' hS=>by go_simp⟩) hM ?_
   refine H_t (i:=4) (v:=.bool true) rfl (Or.inl ⟨by rfl,fun w' hS=>by go_simp⟩) hM ?_
   refine H_t (i:=5) (v:=undef) rfl (Or.inr ⟨by rfl,rfl⟩) hM ?_
   refine H_t (i:=6) (v:=undef) rfl (Or.inr ⟨by rfl,rfl⟩) hM ?_
   refine H_t (i:=7) (v:=undef) rfl (Or.inr ⟨by rfl,rfl⟩) hM ?_
   refine H_t (i:=8) (v:=undef) rfl (Or.inr ⟨by rfl,rfl⟩) hM ?_
   refine H_t (i:=9) (v:=undef) rfl (Or.inr ⟨by rfl,rfl⟩) hM ?_
   refine H_t (i:=10) (v:=undef) rfl (Or.inr ⟨by rfl,rfl⟩) hM ?_
   refine H_t (i:=11) (v:=undef) rfl (Or.inr ⟨by rfl,rfl⟩) hM ?_
   refine H_t (i:=12) (v:=undef) rfl (Or.inr ⟨by rfl,rfl⟩) hM ?_
   refine H_t (i:=13) (v:=undef) rfl (Or.inr ⟨by rfl,rfl⟩) hM ?_
   refine H_t (i:=14) (v:=.bool true) rfl (Or.inl ⟨by rfl,fun w' hS=>by go_simp⟩) hM ?_
   refine H_t (i:=15) (v:=.bool true) rfl (Or.inl ⟨by rfl,fun w' hS=>by go_simp⟩) hM ?_
   refine H_t (i:=16) (v:=undef) rfl (Or.inr ⟨by rfl,rfl⟩) hM ?_
   refine H_t (i:=17) (v:=undef) rfl (Or.inr ⟨by rfl,rfl⟩) hM ?_
   refine H_t (i:=18) (v:=undef) rfl (Or.inr ⟨by rfl,rfl⟩) hM ?_
   refine H_t (i:=19) (v:=undef) rfl (Or.inr ⟨by rfl,rfl⟩) hM ?_
   refine H_t (i:=20) (v:=undef) rfl (Or.inr ⟨by rfl,rfl⟩) hM ?_
   refine H_t (i:=21) (v:=undef) rfl (Or.inr ⟨by rfl,rfl⟩) hM ?_
   refine H_t (i:=22) (v:=undef) rfl (Or.inr ⟨by rfl,rfl⟩) hM ?_
   refine H_t (i:=23) (v:=undef) rfl (Or.inr ⟨by rfl,rfl⟩) hM ?_
   refine H_t (i:=24) (v:=undef) rfl (Or.inr ⟨by rfl,rfl⟩) hM ?_
   refine H_t (i:=25) (v:=undef) rfl (Or.inr ⟨by rfl,rfl⟩) hM ?_
   refine H_t (i:=26) (v:=.bool true) rfl (Or.inl ⟨by rfl,fun w' hS=>by go_simp⟩) hM ?_
   refine wpAnyH_done (by kernel_rfl) ?_ _
   go_wp2_with (first
    | fail)
   go_ret
   exact ⟨congrArg (fun b=>Ending.returned (Value.bool b)) HR.out.symm,hM.below⟩
  | true =>
   cases z with
   | false =>
    have HR:Hid (R=false):=qh (by rw [HR.out,Bool.false_and,Bool.and_false])
    go_enter Tryz.func25,Tryz.ntmps25
    go_wp2_with (first
     | (refine qam 1 rfl hM rfl rfl rfl (boxMs m Ac cc Ap cp _) ?_;clear hM;intro w' g1 hM)
     | (refine qaf hM rfl rfl Tryz.isAgg22 rfl (by exact hat) (j:=0) (v:=.int .u64 (m.nt.kd:Int)) rfl ?_)
     | (refine qaf hM rfl rfl Tryz.isAgg22 rfl (by exact hat) (j:=4) (v:=.int .u64 (m.nt.pr:Int)) rfl ?_))
    refine wp_region_held_drew (S:=fun v'=>Mem w v' [(g1,msC m Ac cc Ap cp,43)]) (by kernel_rfl) hM.drew (fun _=>?_)
    replace hM:=hM.drew
    refine H_t (i:=0) (v:=.pointer (some ⟨g1,0,none⟩)) rfl (Or.inl ⟨by rfl,fun w' hS=>by go_simp⟩) hM ?_
    refine H_t (i:=1) rfl (qax tyNt (fun _ h=>Mem.at_ h at0) (ntC m.nt)) hM ?_
    refine H_now 2 fun K hK=>?_
    go_simp
    refine (c_r _).mono ?_
    rintro e wc ⟨rfl,hb⟩
    replace hM:=hM.call hb
    clear hb
    refine hK.out _ _ hM (fun _=>lay_H ?_)
    clear hK K
    refine H_t (i:=3) (v:=.bool false) rfl (Or.inl ⟨by rfl,fun w' hS=>by go_simp⟩) hM ?_
    refine H_t (i:=4) (v:=.bool false) rfl (Or.inl ⟨by rfl,fun w' hS=>by go_simp⟩) hM ?_
    refine H_t (i:=5) (v:=.pointer (some ⟨g1,14,none⟩)) rfl (Or.inl ⟨by rfl,fun w' hS=>by go_simp⟩) hM ?_
    refine H_t (i:=6) rfl (qax tySgn (fun _ h=>Mem.at_ h at0) (sgCn m.se)) hM ?_
    refine H_t (i:=7) (v:=.agg zqS) rfl (Or.inl ⟨by rfl,fun w' hS=>by go_simp⟩) hM ?_
    refine H_t (i:=8) (v:=.bool true) rfl (Or.inl ⟨by rfl,fun w' hS=>ex_eq heq (fun _ _ w=>run_eqGuard_agg w .neq 26 _ _ (sgCn m.se) zqS qbz) (by rfl) (by rfl) (by rfl) w'⟩) hM ?_
    refine H_t (i:=9) (v:=.pointer (some ⟨g1,0,none⟩)) rfl (Or.inl ⟨by rfl,fun w' hS=>by go_simp⟩) hM ?_
    refine H_t (i:=10) (v:=.pointer (some ⟨g1,0,none⟩)) rfl (Or.inl ⟨by rfl,fun w' hS=>by go_simp⟩) hM ?_
    refine H_t (i:=11) rfl (y_ce Tryz.isAgg22 (fun _ h=>rc (Mem.at_ h at0) 0 rfl) (v:=.int .u64 (m.nt.kd:Int))) hM ?_
    refine H_t (i:=12) (v:=.bool false) rfl (Or.inl ⟨by rfl,fun w' hS=>by go_simp⟩) hM ?_
    refine H_t (i:=13) (v:=.bool true) rfl (Or.inl ⟨by rfl,fun w' hS=>by go_simp⟩) hM ?_
    refine H_t (i:=14) (v:=.bool true) rfl (Or.inl ⟨by rfl,fun w' hS=>by go_simp⟩) hM ?_
    refine H_t (i:=15) (v:=.bool true) rfl (Or.inl ⟨by rfl,fun w' hS=>by go_simp⟩) hM ?_
    refine H_t (i:=16) (v:=undef) rfl (Or.inr ⟨by rfl,rfl⟩) hM ?_
    refine H_t (i:=17) (v:=undef) rfl (Or.inr ⟨by rfl,rfl⟩) hM ?_
    refine H_t (i:=18) (v:=undef) rfl (Or.inr ⟨by rfl,rfl⟩) hM ?_
    refine H_t (i:=19) (v:=undef) rfl (Or.inr ⟨by rfl,rfl⟩) hM ?_
    refine H_t (i:=20) (v:=undef) rfl (Or.inr ⟨by rfl,rfl⟩) hM ?_
    refine H_t (i:=21) (v:=undef) rfl (Or.inr ⟨by rfl,rfl⟩) hM ?_
    refine H_t (i:=22) (v:=undef) rfl (Or.inr ⟨by rfl,rfl⟩) hM ?_
    refine H_t (i:=23) (v:=undef) rfl (Or.inr ⟨by rfl,rfl⟩) hM ?_
    refine H_t (i:=24) (v:=undef) rfl (Or.inr ⟨by rfl,rfl⟩) hM ?_
    refine H_t (i:=25) (v:=undef) rfl (Or.inr ⟨by rfl,rfl⟩) hM ?_
    refine H_t (i:=26) (v:=.bool true) rfl (Or.inl ⟨by rfl,fun w' hS=>by go_simp⟩) hM ?_
    refine wpAnyH_done (by kernel_rfl) ?_ _
    go_wp2_with (first
     | fail)
    go_ret
    exact ⟨congrArg (fun b=>Ending.returned (Value.bool b)) HR.out.symm,hM.below⟩
   | true =>
    have HR:=qh (HR.out.trans ((Bool.true_and _).trans (Bool.true_and _)))
    go_enter Tryz.func25,Tryz.ntmps25
    go_wp2_with (first
     | (refine qam 1 rfl hM rfl rfl rfl (boxMs m Ac cc Ap cp _) ?_;clear hM;intro w' g1 hM)
     | (refine qaf hM rfl rfl Tryz.isAgg22 rfl (by exact hat) (j:=0) (v:=.int .u64 (m.nt.kd:Int)) rfl ?_)
     | (refine qaf hM rfl rfl Tryz.isAgg22 rfl (by exact hat) (j:=4) (v:=.int .u64 (m.nt.pr:Int)) rfl ?_))
    refine wp_region_held_drew (S:=fun v'=>Mem w v' [(g1,msC m Ac cc Ap cp,43)]) (by kernel_rfl) hM.drew (fun _=>?_)
    replace hM:=hM.drew
    refine H_t (i:=0) (v:=.pointer (some ⟨g1,0,none⟩)) rfl (Or.inl ⟨by rfl,fun w' hS=>by go_simp⟩) hM ?_
    refine H_t (i:=1) rfl (qax tyNt (fun _ h=>Mem.at_ h at0) (ntC m.nt)) hM ?_
    refine H_now 2 fun K hK=>?_
    go_simp
    refine (c_r _).mono ?_
    rintro e wc ⟨rfl,hb⟩
    replace hM:=hM.call hb
    clear hb
    refine hK.out _ _ hM (fun _=>lay_H ?_)
    clear hK K
    refine H_t (i:=3) (v:=.bool false) rfl (Or.inl ⟨by rfl,fun w' hS=>by go_simp⟩) hM ?_
    refine H_t (i:=4) (v:=.bool false) rfl (Or.inl ⟨by rfl,fun w' hS=>by go_simp⟩) hM ?_
    refine H_t (i:=5) (v:=.pointer (some ⟨g1,14,none⟩)) rfl (Or.inl ⟨by rfl,fun w' hS=>by go_simp⟩) hM ?_
    refine H_t (i:=6) rfl (qax tySgn (fun _ h=>Mem.at_ h at0) (sgCn m.se)) hM ?_
    refine H_t (i:=7) (v:=.agg zqS) rfl (Or.inl ⟨by rfl,fun w' hS=>by go_simp⟩) hM ?_
    refine H_t (i:=8) (v:=.bool false) rfl (Or.inl ⟨by rfl,fun w' hS=>ex_eq heq (fun _ _ w=>run_eqGuard_agg w .neq 26 _ _ (sgCn m.se) zqS qbz) (by rfl) (by rfl) (by rfl) w'⟩) hM ?_
    refine H_t (i:=9) (v:=.pointer (some ⟨g1,0,none⟩)) rfl (Or.inl ⟨by rfl,fun w' hS=>by go_simp⟩) hM ?_
    refine H_t (i:=10) (v:=.pointer (some ⟨g1,0,none⟩)) rfl (Or.inl ⟨by rfl,fun w' hS=>by go_simp⟩) hM ?_
    refine H_t (i:=11) rfl (y_ce Tryz.isAgg22 (fun _ h=>rc (Mem.at_ h at0) 0 rfl) (v:=.int .u64 (m.nt.kd:Int))) hM ?_
    refine H_t (i:=12) (v:=.bool false) rfl (Or.inl ⟨by rfl,fun w' hS=>by go_simp⟩) hM ?_
    refine H_t (i:=13) (v:=.bool false) rfl (Or.inl ⟨by rfl,fun w' hS=>by go_simp⟩) hM ?_
    refine H_t (i:=14) (v:=.bool false) rfl (Or.inl ⟨by rfl,fun w' hS=>by go_simp⟩) hM ?_
    refine H_t (i:=15) (v:=.bool false) rfl (Or.inl ⟨by rfl,fun w' hS=>by go_simp⟩) hM ?_
    refine H_t (i:=16) (v:=.pointer (some ⟨g1,0,none⟩)) rfl (Or.inl ⟨by rfl,fun w' hS=>by go_simp⟩) hM ?_
    refine H_t (i:=17) (v:=.pointer (some ⟨g1,0,none⟩)) rfl (Or.inl ⟨by rfl,fun w' hS=>by go_simp⟩) hM ?_
    refine H_t (i:=18) rfl (y_ce Tryz.isAgg22 (fun _ h=>rc (Mem.at_ h at0) 0 rfl) (v:=.int .u64 (m.nt.kd:Int))) hM ?_
    refine H_t (i:=19) (v:=.bool false) rfl (Or.inl ⟨by rfl,fun w' hS=>by go_simp⟩) hM ?_
    refine H_t (i:=20) (v:=.bool false) rfl (Or.inl ⟨by rfl,fun w' hS=>by go_simp⟩) hM ?_
    refine H_t (i:=21) (v:=undef) rfl (Or.inr ⟨by rfl,rfl⟩) hM ?_
    refine H_t (i:=22) (v:=undef) rfl (Or.inr ⟨by rfl,rfl⟩) hM ?_
    refine H_t (i:=23) (v:=undef) rfl (Or.inr ⟨by rfl,rfl⟩) hM ?_
    refine H_t (i:=24) (v:=undef) rfl (Or.inr ⟨by rfl,rfl⟩) hM ?_
    refine H_t (i:=25) (v:=.bool false) rfl (Or.inl ⟨by rfl,fun w' hS=>by go_simp⟩) hM ?_
    refine H_t (i:=26) (v:=.bool false) rfl (Or.inl ⟨by rfl,fun w' hS=>by go_simp⟩) hM ?_
    refine wpAnyH_done (by kernel_rfl) ?_ _
    go_wp2_with (first
     | (refine qaf hM rfl rfl Tryz.isAgg9 rfl (by exact hat) (j:=23) (v:=.string (bs m.block)) rfl ?_))
    refine (c_b _).mono ?_
    rintro e w3 ⟨cells,rfl,hcs,hco,hb⟩
    replace hM:=hM.call hb
    have HCS:=qh hcs
    have HCO:=qh hco
    clear hb hcs hco
    rcases HNO.out with ⟨hbo,hno⟩ | ⟨hbo,hno⟩
    ·have HR:Hid (R=(y1 && y2)):=qh (by rw [HR.out,hbo,Bool.true_and])
     subst hno
     clear hbo HNO
     cases y1 with
     | false =>
      have HR:Hid (R=false):=qh (by rw [HR.out,Bool.false_and])
      go_wp2_with (first
       | (refine qaj 5 rfl hM rfl (runBk rfl) ?_;clear hM;intro w' g5 hM)
       | (refine qae hM rfl rfl tyBk rfl rfl (new:=cells) (by exact hau) HCS.out rfl HCO.out ?_;clear hM;intro w' hM)
       | (refine qaf hM rfl rfl Tryz.isAgg41 rfl (by exact hat) (j:=24) (v:=.slice Ac m.chs.length cc) rfl ?_))
      refine (c_1 _ hM.below).mono ?_
      rintro e w9 ⟨rfl,hb⟩
      replace hM:=hM.call hb
      clear hb
      go_wp2_with (first
       | fail)
      go_ret
      exact ⟨congrArg (fun b=>Ending.returned (Value.bool b)) HR.out.symm,hM.below⟩
     | true =>
      have HR:Hid (R=y2):=qh (by rw [HR.out,Bool.true_and])
      go_wp2_with (first
       | (refine qaj 5 rfl hM rfl (runBk rfl) ?_;clear hM;intro w' g5 hM)
       | (refine qae hM rfl rfl tyBk rfl rfl (new:=cells) (by exact hau) HCS.out rfl HCO.out ?_;clear hM;intro w' hM)
       | (refine qaf hM rfl rfl Tryz.isAgg41 rfl (by exact hat) (j:=24) (v:=.slice Ac m.chs.length cc) rfl ?_))
      refine (c_1 _ hM.below).mono ?_
      rintro e w9 ⟨rfl,hb⟩
      replace hM:=hM.call hb
      clear hb
      go_wp2_with (first
       | (refine qaf hM rfl rfl Tryz.isAgg41 rfl (by exact hat) (j:=25) (v:=.slice Ap m.pps.length cp) rfl ?_))
      refine (c_2 _ hM.below).mono ?_
      rintro e w9 ⟨rfl,hb⟩
      replace hM:=hM.call hb
      clear hb
      go_wp2_with (first
       | fail)
      go_ret
      exact ⟨congrArg (fun b=>Ending.returned (Value.bool b)) HR.out.symm,hM.below⟩
    ·have HR:Hid (R=false):=qh (by rw [HR.out,hbo,Bool.false_and])
     subst hno
     clear hbo HNO
     go_wp2_with (first
      | (refine qaj 5 rfl hM rfl (runBk rfl) ?_;clear hM;intro w' g5 hM)
      | (refine qae hM rfl rfl tyBk rfl rfl (new:=cells) (by exact hau) HCS.out rfl HCO.out ?_;clear hM;intro w' hM))
     go_ret
     exact ⟨congrArg (fun b=>Ending.returned (Value.bool b)) HR.out.symm,hM.below⟩
 have hw:withM m=false:=by
  unfold withM
  rw [beq_eq_false_iff_ne.2 h1,Bool.false_or]
  by_cases h5:m.nt.kd=4
  ·rw [decide_eq_false (fun h=>h4 ⟨h5,h⟩),Bool.and_false]
  ·rw [beq_eq_false_iff_ne.2 h5,Bool.false_and]
 rw [hw,if_neg (show ¬ (false=true) by decide)] at hRd
 replace c_2:=c_2 false
 obtain ⟨y2,hy2⟩:∃ x,someN m.pps 2 false=x:=⟨_,rfl⟩
 rw [hy2] at hRd c_2
 by_cases h3:m.nt.kd=3
 ·have e3:((m.nt.kd:Int) == 3)=true:=by rw [beq_iff_eq];omega
  have e4:((m.nt.kd:Int) == 4)=false:=by rw [beq_eq_false_iff_ne];omega
  rw [if_pos h3] at hRd
  have HR:=qh hRd
  clear hw h1 h3 h4 hy1 hy2 hRd
  cases x1 with
  | false =>
   have HR:Hid (R=false):=qh (by rw [HR.out,Bool.false_and])
   go_enter Tryz.func25,Tryz.ntmps25
   go_wp2_with (first
    | (refine qam 1 rfl hM rfl rfl rfl (boxMs m Ac cc Ap cp _) ?_;clear hM;intro w' g1 hM)
    | (refine qaf hM rfl rfl Tryz.isAgg22 rfl (by exact hat) (j:=0) (v:=.int .u64 (m.nt.kd:Int)) rfl ?_)
    | (refine qaf hM rfl rfl Tryz.isAgg22 rfl (by exact hat) (j:=4) (v:=.int .u64 (m.nt.pr:Int)) rfl ?_))
   refine wp_region_held_drew (S:=fun v'=>Mem w v' [(g1,msC m Ac cc Ap cp,43)]) (by kernel_rfl) hM.drew (fun _=>?_)
   replace hM:=hM.drew
   refine H_t (i:=0) (v:=.pointer (some ⟨g1,0,none⟩)) rfl (Or.inl ⟨by rfl,fun w' hS=>by go_simp⟩) hM ?_
   refine H_t (i:=1) rfl (qax tyNt (fun _ h=>Mem.at_ h at0) (ntC m.nt)) hM ?_
   refine H_now 2 fun K hK=>?_
   go_simp
   refine (c_r _).mono ?_
   rintro e wc ⟨rfl,hb⟩
   replace hM:=hM.call hb
   clear hb
   refine hK.out _ _ hM (fun _=>lay_H ?_)
   clear hK K
   refine H_t (i:=3) (v:=.bool true) rfl (Or.inl ⟨by rfl,fun w' hS=>by go_simp⟩) hM ?_
   refine H_t (i:=4) (v:=.bool true) rfl (Or.inl ⟨by rfl,fun w' hS=>by go_simp⟩) hM ?_
   refine H_t (i:=5) (v:=undef) rfl (Or.inr ⟨by rfl,rfl⟩) hM ?_
   refine H_t (i:=6) (v:=undef) rfl (Or.inr ⟨by rfl,rfl⟩) hM ?_
   refine H_t (i:=7) (v:=undef) rfl (Or.inr ⟨by rfl,rfl⟩) hM ?_
   refine H_t (i:=8) (v:=undef) rfl (Or.inr ⟨by rfl,rfl⟩) hM ?_
   refine H_t (i:=9) (v:=undef) rfl (Or.inr ⟨by rfl,rfl⟩) hM ?_
   refine H_t (i:=10) (v:=undef) rfl (Or.inr ⟨by rfl,rfl⟩) hM ?_
   refine H_t (i:=11) (v:=undef) rfl (Or.inr ⟨by rfl,rfl⟩) hM ?_
   refine H_t (i:=12) (v:=undef) rfl (Or.inr ⟨by rfl,rfl⟩) hM ?_
   refine H_t (i:=13) (v:=undef) rfl (Or.inr ⟨by rfl,rfl⟩) hM ?_
   refine H_t (i:=14) (v:=.bool true) rfl (Or.inl ⟨by rfl,fun w' hS=>by go_simp⟩) hM ?_
   refine H_t (i:=15) (v:=.bool true) rfl (Or.inl ⟨by rfl,fun w' hS=>by go_simp⟩) hM ?_
   refine H_t (i:=16) (v:=undef) rfl (Or.inr ⟨by rfl,rfl⟩) hM ?_
   refine H_t (i:=17) (v:=undef) rfl (Or.inr ⟨by rfl,rfl⟩) hM ?_
   refine H_t (i:=18) (v:=undef) rfl (Or.inr ⟨by rfl,rfl⟩) hM ?_
   refine H_t (i:=19) (v:=undef) rfl (Or.inr ⟨by rfl,rfl⟩) hM ?_
   refine H_t (i:=20) (v:=undef) rfl (Or.inr ⟨by rfl,rfl⟩) hM ?_
   refine H_t (i:=21) (v:=undef) rfl (Or.inr ⟨by rfl,rfl⟩) hM ?_
   refine H_t (i:=22) (v:=undef) rfl (Or.inr ⟨by rfl,rfl⟩) hM ?_
   refine H_t (i:=23) (v:=undef) rfl (Or.inr ⟨by rfl,rfl⟩) hM ?_
   refine H_t (i:=24) (v:=undef) rfl (Or.inr ⟨by rfl,rfl⟩) hM ?_
   refine H_t (i:=25) (v:=undef) rfl (Or.inr ⟨by rfl,rfl⟩) hM ?_
   refine H_t (i:=26) (v:=.bool true) rfl (Or.inl ⟨by rfl,fun w' hS=>by go_simp⟩) hM ?_
   refine wpAnyH_done (by kernel_rfl) ?_ _
   go_wp2_with (first
    | fail)
   go_ret
   exact ⟨congrArg (fun b=>Ending.returned (Value.bool b)) HR.out.symm,hM.below⟩
  | true =>
   cases z with
   | true =>
    have HR:Hid (R=false):=qh (by rw [HR.out,HZ.out rfl,Bool.false_and,Bool.and_false])
    go_enter Tryz.func25,Tryz.ntmps25
    go_wp2_with (first
     | (refine qam 1 rfl hM rfl rfl rfl (boxMs m Ac cc Ap cp _) ?_;clear hM;intro w' g1 hM)
     | (refine qaf hM rfl rfl Tryz.isAgg22 rfl (by exact hat) (j:=0) (v:=.int .u64 (m.nt.kd:Int)) rfl ?_)
     | (refine qaf hM rfl rfl Tryz.isAgg22 rfl (by exact hat) (j:=4) (v:=.int .u64 (m.nt.pr:Int)) rfl ?_))
    refine wp_region_held_drew (S:=fun v'=>Mem w v' [(g1,msC m Ac cc Ap cp,43)]) (by kernel_rfl) hM.drew (fun _=>?_)
    replace hM:=hM.drew
    refine H_t (i:=0) (v:=.pointer (some ⟨g1,0,none⟩)) rfl (Or.inl ⟨by rfl,fun w' hS=>by go_simp⟩) hM ?_
    refine H_t (i:=1) rfl (qax tyNt (fun _ h=>Mem.at_ h at0) (ntC m.nt)) hM ?_
    refine H_now 2 fun K hK=>?_
    go_simp
    refine (c_r _).mono ?_
    rintro e wc ⟨rfl,hb⟩
    replace hM:=hM.call hb
    clear hb
    refine hK.out _ _ hM (fun _=>lay_H ?_)
    clear hK K
    refine H_t (i:=3) (v:=.bool false) rfl (Or.inl ⟨by rfl,fun w' hS=>by go_simp⟩) hM ?_
    refine H_t (i:=4) (v:=.bool false) rfl (Or.inl ⟨by rfl,fun w' hS=>by go_simp⟩) hM ?_
    refine H_t (i:=5) (v:=.pointer (some ⟨g1,14,none⟩)) rfl (Or.inl ⟨by rfl,fun w' hS=>by go_simp⟩) hM ?_
    refine H_t (i:=6) rfl (qax tySgn (fun _ h=>Mem.at_ h at0) (sgCn m.se)) hM ?_
    refine H_t (i:=7) (v:=.agg zqS) rfl (Or.inl ⟨by rfl,fun w' hS=>by go_simp⟩) hM ?_
    refine H_t (i:=8) (v:=.bool false) rfl (Or.inl ⟨by rfl,fun w' hS=>ex_eq heq (fun _ _ w=>run_eqGuard_agg w .neq 26 _ _ (sgCn m.se) zqS qbz) (by rfl) (by rfl) (by rfl) w'⟩) hM ?_
    refine H_t (i:=9) (v:=.pointer (some ⟨g1,0,none⟩)) rfl (Or.inl ⟨by rfl,fun w' hS=>by go_simp⟩) hM ?_
    refine H_t (i:=10) (v:=.pointer (some ⟨g1,0,none⟩)) rfl (Or.inl ⟨by rfl,fun w' hS=>by go_simp⟩) hM ?_
    refine H_t (i:=11) rfl (y_ce Tryz.isAgg22 (fun _ h=>rc (Mem.at_ h at0) 0 rfl) (v:=.int .u64 (m.nt.kd:Int))) hM ?_
    refine H_t (i:=12) (v:=.bool true) rfl (Or.inl ⟨by rfl,fun w' hS=>by go_simp⟩) hM ?_
    refine H_t (i:=13) (v:=.bool true) rfl (Or.inl ⟨by rfl,fun w' hS=>by go_simp⟩) hM ?_
    refine H_t (i:=14) (v:=.bool true) rfl (Or.inl ⟨by rfl,fun w' hS=>by go_simp⟩) hM ?_
    refine H_t (i:=15) (v:=.bool true) rfl (Or.inl ⟨by rfl,fun w' hS=>by go_simp⟩) hM ?_
    refine H_t (i:=16) (v:=undef) rfl (Or.inr ⟨by rfl,rfl⟩) hM ?_
    refine H_t (i:=17) (v:=undef) rfl (Or.inr ⟨by rfl,rfl⟩) hM ?_
    refine H_t (i:=18) (v:=undef) rfl (Or.inr ⟨by rfl,rfl⟩) hM ?_
    refine H_t (i:=19) (v:=undef) rfl (Or.inr ⟨by rfl,rfl⟩) hM ?_
    refine H_t (i:=20) (v:=undef) rfl (Or.inr ⟨by rfl,rfl⟩) hM ?_
    refine H_t (i:=21) (v:=undef) rfl (Or.inr ⟨by rfl,rfl⟩) hM ?_
    refine H_t (i:=22) (v:=undef) rfl (Or.inr ⟨by rfl,rfl⟩) hM ?_
    refine H_t (i:=23) (v:=undef) rfl (Or.inr ⟨by rfl,rfl⟩) hM ?_
    refine H_t (i:=24) (v:=undef) rfl (Or.inr ⟨by rfl,rfl⟩) hM ?_
    refine H_t (i:=25) (v:=undef) rfl (Or.inr ⟨by rfl,rfl⟩) hM ?_
    refine H_t (i:=26) (v:=.bool true) rfl (Or.inl ⟨by rfl,fun w' hS=>by go_simp⟩) hM ?_
    refine wpAnyH_done (by kernel_rfl) ?_ _
    go_wp2_with (first
     | fail)
    go_ret
    exact ⟨congrArg (fun b=>Ending.returned (Value.bool b)) HR.out.symm,hM.below⟩
   | false =>
    cases x4 with
    | false =>
     have HR:Hid (R=false):=qh (by rw [HR.out,Bool.false_and,Bool.and_false])
     go_enter Tryz.func25,Tryz.ntmps25
     go_wp2_with (first
      | (refine qam 1 rfl hM rfl rfl rfl (boxMs m Ac cc Ap cp _) ?_;clear hM;intro w' g1 hM)
      | (refine qaf hM rfl rfl Tryz.isAgg22 rfl (by exact hat) (j:=0) (v:=.int .u64 (m.nt.kd:Int)) rfl ?_)
      | (refine qaf hM rfl rfl Tryz.isAgg22 rfl (by exact hat) (j:=4) (v:=.int .u64 (m.nt.pr:Int)) rfl ?_))
     refine wp_region_held_drew (S:=fun v'=>Mem w v' [(g1,msC m Ac cc Ap cp,43)]) (by kernel_rfl) hM.drew (fun _=>?_)
     replace hM:=hM.drew
     refine H_t (i:=0) (v:=.pointer (some ⟨g1,0,none⟩)) rfl (Or.inl ⟨by rfl,fun w' hS=>by go_simp⟩) hM ?_
     refine H_t (i:=1) rfl (qax tyNt (fun _ h=>Mem.at_ h at0) (ntC m.nt)) hM ?_
     refine H_now 2 fun K hK=>?_
     go_simp
     refine (c_r _).mono ?_
     rintro e wc ⟨rfl,hb⟩
     replace hM:=hM.call hb
     clear hb
     refine hK.out _ _ hM (fun _=>lay_H ?_)
     clear hK K
     refine H_t (i:=3) (v:=.bool false) rfl (Or.inl ⟨by rfl,fun w' hS=>by go_simp⟩) hM ?_
     refine H_t (i:=4) (v:=.bool false) rfl (Or.inl ⟨by rfl,fun w' hS=>by go_simp⟩) hM ?_
     refine H_t (i:=5) (v:=.pointer (some ⟨g1,14,none⟩)) rfl (Or.inl ⟨by rfl,fun w' hS=>by go_simp⟩) hM ?_
     refine H_t (i:=6) rfl (qax tySgn (fun _ h=>Mem.at_ h at0) (sgCn m.se)) hM ?_
     refine H_t (i:=7) (v:=.agg zqS) rfl (Or.inl ⟨by rfl,fun w' hS=>by go_simp⟩) hM ?_
     refine H_t (i:=8) (v:=.bool true) rfl (Or.inl ⟨by rfl,fun w' hS=>ex_eq heq (fun _ _ w=>run_eqGuard_agg w .neq 26 _ _ (sgCn m.se) zqS qbz) (by rfl) (by rfl) (by rfl) w'⟩) hM ?_
     refine H_t (i:=9) (v:=.pointer (some ⟨g1,0,none⟩)) rfl (Or.inl ⟨by rfl,fun w' hS=>by go_simp⟩) hM ?_
     refine H_t (i:=10) (v:=.pointer (some ⟨g1,0,none⟩)) rfl (Or.inl ⟨by rfl,fun w' hS=>by go_simp⟩) hM ?_
     refine H_t (i:=11) rfl (y_ce Tryz.isAgg22 (fun _ h=>rc (Mem.at_ h at0) 0 rfl) (v:=.int .u64 (m.nt.kd:Int))) hM ?_
     refine H_t (i:=12) (v:=.bool true) rfl (Or.inl ⟨by rfl,fun w' hS=>by go_simp⟩) hM ?_
     refine H_t (i:=13) (v:=.bool false) rfl (Or.inl ⟨by rfl,fun w' hS=>by go_simp⟩) hM ?_
     refine H_t (i:=14) (v:=.bool false) rfl (Or.inl ⟨by rfl,fun w' hS=>by go_simp⟩) hM ?_
     refine H_t (i:=15) (v:=.bool false) rfl (Or.inl ⟨by rfl,fun w' hS=>by go_simp⟩) hM ?_
     refine H_t (i:=16) (v:=.pointer (some ⟨g1,0,none⟩)) rfl (Or.inl ⟨by rfl,fun w' hS=>by go_simp⟩) hM ?_
     refine H_t (i:=17) (v:=.pointer (some ⟨g1,0,none⟩)) rfl (Or.inl ⟨by rfl,fun w' hS=>by go_simp⟩) hM ?_
     refine H_t (i:=18) rfl (y_ce Tryz.isAgg22 (fun _ h=>rc (Mem.at_ h at0) 0 rfl) (v:=.int .u64 (m.nt.kd:Int))) hM ?_
     refine H_t (i:=19) (v:=.bool true) rfl (Or.inl ⟨by rfl,fun w' hS=>by go_simp⟩) hM ?_
     refine H_t (i:=20) (v:=.bool true) rfl (Or.inl ⟨by rfl,fun w' hS=>by go_simp⟩) hM ?_
     refine H_t (i:=21) (v:=.pointer (some ⟨g1,14,none⟩)) rfl (Or.inl ⟨by rfl,fun w' hS=>by go_simp⟩) hM ?_
     refine H_t (i:=22) rfl (qax tySgn (fun _ h=>Mem.at_ h at0) (sgCn m.se)) hM ?_
     refine H_now 23 fun K hK=>?_
     go_simp
     refine (c_s _).mono ?_
     rintro e wc ⟨rfl,hb⟩
     replace hM:=hM.call hb
     clear hb
     refine hK.out _ _ hM (fun _=>lay_H ?_)
     clear hK K
     refine H_t (i:=24) (v:=.bool true) rfl (Or.inl ⟨by rfl,fun w' hS=>by go_simp⟩) hM ?_
     refine H_t (i:=25) (v:=.bool true) rfl (Or.inl ⟨by rfl,fun w' hS=>by go_simp⟩) hM ?_
     refine H_t (i:=26) (v:=.bool true) rfl (Or.inl ⟨by rfl,fun w' hS=>by go_simp⟩) hM ?_
     refine wpAnyH_done (by kernel_rfl) ?_ _
     go_wp2_with (first
      | fail)
     go_ret
     exact ⟨congrArg (fun b=>Ending.returned (Value.bool b)) HR.out.symm,hM.below⟩
    | true =>
     have HR:=qh (HR.out.trans ((Bool.true_and _).trans (Bool.true_and _)))
     go_enter Tryz.func25,Tryz.ntmps25
     go_wp2_with (first
      | (refine qam 1 rfl hM rfl rfl rfl (boxMs m Ac cc Ap cp _) ?_;clear hM;intro w' g1 hM)
      | (refine qaf hM rfl rfl Tryz.isAgg22 rfl (by exact hat) (j:=0) (v:=.int .u64 (m.nt.kd:Int)) rfl ?_)
      | (refine qaf hM rfl rfl Tryz.isAgg22 rfl (by exact hat) (j:=4) (v:=.int .u64 (m.nt.pr:Int)) rfl ?_))
     refine wp_region_held_drew (S:=fun v'=>Mem w v' [(g1,msC m Ac cc Ap cp,43)]) (by kernel_rfl) hM.drew (fun _=>?_)
     replace hM:=hM.drew
     refine H_t (i:=0) (v:=.pointer (some ⟨g1,0,none⟩)) rfl (Or.inl ⟨by rfl,fun w' hS=>by go_simp⟩) hM ?_
     refine H_t (i:=1) rfl (qax tyNt (fun _ h=>Mem.at_ h at0) (ntC m.nt)) hM ?_
     refine H_now 2 fun K hK=>?_
     go_simp
     refine (c_r _).mono ?_
     rintro e wc ⟨rfl,hb⟩
     replace hM:=hM.call hb
     clear hb
     refine hK.out _ _ hM (fun _=>lay_H ?_)
     clear hK K
     refine H_t (i:=3) (v:=.bool false) rfl (Or.inl ⟨by rfl,fun w' hS=>by go_simp⟩) hM ?_
     refine H_t (i:=4) (v:=.bool false) rfl (Or.inl ⟨by rfl,fun w' hS=>by go_simp⟩) hM ?_
     refine H_t (i:=5) (v:=.pointer (some ⟨g1,14,none⟩)) rfl (Or.inl ⟨by rfl,fun w' hS=>by go_simp⟩) hM ?_
     refine H_t (i:=6) rfl (qax tySgn (fun _ h=>Mem.at_ h at0) (sgCn m.se)) hM ?_
     refine H_t (i:=7) (v:=.agg zqS) rfl (Or.inl ⟨by rfl,fun w' hS=>by go_simp⟩) hM ?_
     refine H_t (i:=8) (v:=.bool true) rfl (Or.inl ⟨by rfl,fun w' hS=>ex_eq heq (fun _ _ w=>run_eqGuard_agg w .neq 26 _ _ (sgCn m.se) zqS qbz) (by rfl) (by rfl) (by rfl) w'⟩) hM ?_
     refine H_t (i:=9) (v:=.pointer (some ⟨g1,0,none⟩)) rfl (Or.inl ⟨by rfl,fun w' hS=>by go_simp⟩) hM ?_
     refine H_t (i:=10) (v:=.pointer (some ⟨g1,0,none⟩)) rfl (Or.inl ⟨by rfl,fun w' hS=>by go_simp⟩) hM ?_
     refine H_t (i:=11) rfl (y_ce Tryz.isAgg22 (fun _ h=>rc (Mem.at_ h at0) 0 rfl) (v:=.int .u64 (m.nt.kd:Int))) hM ?_
     refine H_t (i:=12) (v:=.bool true) rfl (Or.inl ⟨by rfl,fun w' hS=>by go_simp⟩) hM ?_
     refine H_t (i:=13) (v:=.bool false) rfl (Or.inl ⟨by rfl,fun w' hS=>by go_simp⟩) hM ?_
     refine H_t (i:=14) (v:=.bool false) rfl (Or.inl ⟨by rfl,fun w' hS=>by go_simp⟩) hM ?_
     refine H_t (i:=15) (v:=.bool false) rfl (Or.inl ⟨by rfl,fun w' hS=>by go_simp⟩) hM ?_
     refine H_t (i:=16) (v:=.pointer (some ⟨g1,0,none⟩)) rfl (Or.inl ⟨by rfl,fun w' hS=>by go_simp⟩) hM ?_
     refine H_t (i:=17) (v:=.pointer (some ⟨g1,0,none⟩)) rfl (Or.inl ⟨by rfl,fun w' hS=>by go_simp⟩) hM ?_
     refine H_t (i:=18) rfl (y_ce Tryz.isAgg22 (fun _ h=>rc (Mem.at_ h at0) 0 rfl) (v:=.int .u64 (m.nt.kd:Int))) hM ?_
     refine H_t (i:=19) (v:=.bool true) rfl (Or.inl ⟨by rfl,fun w' hS=>by go_simp⟩) hM ?_
     refine H_t (i:=20) (v:=.bool true) rfl (Or.inl ⟨by rfl,fun w' hS=>by go_simp⟩) hM ?_
     refine H_t (i:=21) (v:=.pointer (some ⟨g1,14,none⟩)) rfl (Or.inl ⟨by rfl,fun w' hS=>by go_simp⟩) hM ?_
     refine H_t (i:=22) rfl (qax tySgn (fun _ h=>Mem.at_ h at0) (sgCn m.se)) hM ?_
     refine H_now 23 fun K hK=>?_
     go_simp
     refine (c_s _).mono ?_
     rintro e wc ⟨rfl,hb⟩
     replace hM:=hM.call hb
     clear hb
     refine hK.out _ _ hM (fun _=>lay_H ?_)
     clear hK K
     refine H_t (i:=24) (v:=.bool false) rfl (Or.inl ⟨by rfl,fun w' hS=>by go_simp⟩) hM ?_
     refine H_t (i:=25) (v:=.bool false) rfl (Or.inl ⟨by rfl,fun w' hS=>by go_simp⟩) hM ?_
     refine H_t (i:=26) (v:=.bool false) rfl (Or.inl ⟨by rfl,fun w' hS=>by go_simp⟩) hM ?_
     refine wpAnyH_done (by kernel_rfl) ?_ _
     obtain ⟨be,hbe⟩:∃ b,m.block.isEmpty=b:=⟨_,rfl⟩
     have HR:Hid (R=(be && (y1 && y2))):=qh (by rw [HR.out,← hbe,qe8])
     cases be with
     | false =>
      have HR:Hid (R=false):=qh (by rw [HR.out,Bool.false_and])
      go_wp2_with (first
       | (refine qaf hM rfl rfl Tryz.isAgg9 rfl (by exact hat) (j:=23) (v:=.string (bs m.block)) rfl ?_))
      go_ret
      exact ⟨congrArg (fun b=>Ending.returned (Value.bool b)) HR.out.symm,hM.below⟩
     | true =>
      have HR:Hid (R=(y1 && y2)):=qh (by rw [HR.out,Bool.true_and])
      cases y1 with
      | false =>
       have HR:Hid (R=false):=qh (by rw [HR.out,Bool.false_and])
       go_wp2_with (first
        | (refine qaf hM rfl rfl Tryz.isAgg9 rfl (by exact hat) (j:=23) (v:=.string (bs m.block)) rfl ?_)
        | (refine qaf hM rfl rfl Tryz.isAgg41 rfl (by exact hat) (j:=24) (v:=.slice Ac m.chs.length cc) rfl ?_))
       refine (c_1 _ hM.below).mono ?_
       rintro e w9 ⟨rfl,hb⟩
       replace hM:=hM.call hb
       clear hb
       go_wp2_with (first
        | fail)
       go_ret
       exact ⟨congrArg (fun b=>Ending.returned (Value.bool b)) HR.out.symm,hM.below⟩
      | true =>
       have HR:Hid (R=y2):=qh (by rw [HR.out,Bool.true_and])
       go_wp2_with (first
        | (refine qaf hM rfl rfl Tryz.isAgg9 rfl (by exact hat) (j:=23) (v:=.string (bs m.block)) rfl ?_)
        | (refine qaf hM rfl rfl Tryz.isAgg41 rfl (by exact hat) (j:=24) (v:=.slice Ac m.chs.length cc) rfl ?_))
       refine (c_1 _ hM.below).mono ?_
       rintro e w9 ⟨rfl,hb⟩
       replace hM:=hM.call hb
       clear hb
       go_wp2_with (first
        | (refine qaf hM rfl rfl Tryz.isAgg41 rfl (by exact hat) (j:=25) (v:=.slice Ap m.pps.length cp) rfl ?_))
       refine (c_2 _ hM.below).mono ?_
       rintro e w9 ⟨rfl,hb⟩
       replace hM:=hM.call hb
       clear hb
       go_wp2_with (first
        | fail)
       go_ret
       exact ⟨congrArg (fun b=>Ending.returned (Value.bool b)) HR.out.symm,hM.below⟩
 have e3:((m.nt.kd:Int) == 3)=false:=by rw [beq_eq_false_iff_ne];omega
 rw [if_neg h3] at hRd
 have HR:=qh hRd
 clear hw h1 h3 hy1 hy2 hRd
 by_cases h5:m.nt.kd=4
 case' pos =>
  have e4:((m.nt.kd:Int) == 4)=true:=by rw [beq_iff_eq];omega
  have e5:¬ (m.nt.pr:Int) > 0:=by omega
  clear h4 h5
 case' neg =>
  have e4:((m.nt.kd:Int) == 4)=false:=by rw [beq_eq_false_iff_ne];omega
  clear h4 h5
 all_goals
  cases x1 with
  | false =>
   have HR:Hid (R=false):=qh (by rw [HR.out,Bool.false_and])
   go_enter Tryz.func25,Tryz.ntmps25
   go_wp2_with (first
    | (refine qam 1 rfl hM rfl rfl rfl (boxMs m Ac cc Ap cp _) ?_;clear hM;intro w' g1 hM)
    | (refine qaf hM rfl rfl Tryz.isAgg22 rfl (by exact hat) (j:=0) (v:=.int .u64 (m.nt.kd:Int)) rfl ?_)
    | (refine qaf hM rfl rfl Tryz.isAgg22 rfl (by exact hat) (j:=4) (v:=.int .u64 (m.nt.pr:Int)) rfl ?_))
   refine wp_region_held_drew (S:=fun v'=>Mem w v' [(g1,msC m Ac cc Ap cp,43)]) (by kernel_rfl) hM.drew (fun _=>?_)
   replace hM:=hM.drew
   refine H_t (i:=0) (v:=.pointer (some ⟨g1,0,none⟩)) rfl (Or.inl ⟨by rfl,fun w' hS=>by go_simp⟩) hM ?_
   refine H_t (i:=1) rfl (qax tyNt (fun _ h=>Mem.at_ h at0) (ntC m.nt)) hM ?_
   refine H_now 2 fun K hK=>?_
   go_simp
   refine (c_r _).mono ?_
   rintro e wc ⟨rfl,hb⟩
   replace hM:=hM.call hb
   clear hb
   refine hK.out _ _ hM (fun _=>lay_H ?_)
   clear hK K
   refine H_t (i:=3) (v:=.bool true) rfl (Or.inl ⟨by rfl,fun w' hS=>by go_simp⟩) hM ?_
   refine H_t (i:=4) (v:=.bool true) rfl (Or.inl ⟨by rfl,fun w' hS=>by go_simp⟩) hM ?_
   refine H_t (i:=5) (v:=undef) rfl (Or.inr ⟨by rfl,rfl⟩) hM ?_
   refine H_t (i:=6) (v:=undef) rfl (Or.inr ⟨by rfl,rfl⟩) hM ?_
   refine H_t (i:=7) (v:=undef) rfl (Or.inr ⟨by rfl,rfl⟩) hM ?_
   refine H_t (i:=8) (v:=undef) rfl (Or.inr ⟨by rfl,rfl⟩) hM ?_
   refine H_t (i:=9) (v:=undef) rfl (Or.inr ⟨by rfl,rfl⟩) hM ?_
   refine H_t (i:=10) (v:=undef) rfl (Or.inr ⟨by rfl,rfl⟩) hM ?_
   refine H_t (i:=11) (v:=undef) rfl (Or.inr ⟨by rfl,rfl⟩) hM ?_
   refine H_t (i:=12) (v:=undef) rfl (Or.inr ⟨by rfl,rfl⟩) hM ?_
   refine H_t (i:=13) (v:=undef) rfl (Or.inr ⟨by rfl,rfl⟩) hM ?_
   refine H_t (i:=14) (v:=.bool true) rfl (Or.inl ⟨by rfl,fun w' hS=>by go_simp⟩) hM ?_
   refine H_t (i:=15) (v:=.bool true) rfl (Or.inl ⟨by rfl,fun w' hS=>by go_simp⟩) hM ?_
   refine H_t (i:=16) (v:=undef) rfl (Or.inr ⟨by rfl,rfl⟩) hM ?_
   refine H_t (i:=17) (v:=undef) rfl (Or.inr ⟨by rfl,rfl⟩) hM ?_
   refine H_t (i:=18) (v:=undef) rfl (Or.inr ⟨by rfl,rfl⟩) hM ?_
   refine H_t (i:=19) (v:=undef) rfl (Or.inr ⟨by rfl,rfl⟩) hM ?_
   refine H_t (i:=20) (v:=undef) rfl (Or.inr ⟨by rfl,rfl⟩) hM ?_
   refine H_t (i:=21) (v:=undef) rfl (Or.inr ⟨by rfl,rfl⟩) hM ?_
   refine H_t (i:=22) (v:=undef) rfl (Or.inr ⟨by rfl,rfl⟩) hM ?_
   refine H_t (i:=23) (v:=undef) rfl (Or.inr ⟨by rfl,rfl⟩) hM ?_
   refine H_t (i:=24) (v:=undef) rfl (Or.inr ⟨by rfl,rfl⟩) hM ?_
   refine H_t (i:=25) (v:=undef) rfl (Or.inr ⟨by rfl,rfl⟩) hM ?_
   refine H_t (i:=26) (v:=.bool true) rfl (Or.inl ⟨by rfl,fun w' hS=>by go_simp⟩) hM ?_
   refine wpAnyH_done (by kernel_rfl) ?_ _
   go_wp2_with (first
    | fail)
   go_ret
   exact ⟨congrArg (fun b=>Ending.returned (Value.bool b)) HR.out.symm,hM.below⟩
  | true =>
   cases z with
   | false =>
    have HR:Hid (R=false):=qh (by rw [HR.out,Bool.false_and,Bool.and_false])
    go_enter Tryz.func25,Tryz.ntmps25
    go_wp2_with (first
     | (refine qam 1 rfl hM rfl rfl rfl (boxMs m Ac cc Ap cp _) ?_;clear hM;intro w' g1 hM)
     | (refine qaf hM rfl rfl Tryz.isAgg22 rfl (by exact hat) (j:=0) (v:=.int .u64 (m.nt.kd:Int)) rfl ?_)
     | (refine qaf hM rfl rfl Tryz.isAgg22 rfl (by exact hat) (j:=4) (v:=.int .u64 (m.nt.pr:Int)) rfl ?_))
    refine wp_region_held_drew (S:=fun v'=>Mem w v' [(g1,msC m Ac cc Ap cp,43)]) (by kernel_rfl) hM.drew (fun _=>?_)
    replace hM:=hM.drew
    refine H_t (i:=0) (v:=.pointer (some ⟨g1,0,none⟩)) rfl (Or.inl ⟨by rfl,fun w' hS=>by go_simp⟩) hM ?_
    refine H_t (i:=1) rfl (qax tyNt (fun _ h=>Mem.at_ h at0) (ntC m.nt)) hM ?_
    refine H_now 2 fun K hK=>?_
    go_simp
    refine (c_r _).mono ?_
    rintro e wc ⟨rfl,hb⟩
    replace hM:=hM.call hb
    clear hb
    refine hK.out _ _ hM (fun _=>lay_H ?_)
    clear hK K
    refine H_t (i:=3) (v:=.bool false) rfl (Or.inl ⟨by rfl,fun w' hS=>by go_simp⟩) hM ?_
    refine H_t (i:=4) (v:=.bool false) rfl (Or.inl ⟨by rfl,fun w' hS=>by go_simp⟩) hM ?_
    refine H_t (i:=5) (v:=.pointer (some ⟨g1,14,none⟩)) rfl (Or.inl ⟨by rfl,fun w' hS=>by go_simp⟩) hM ?_
    refine H_t (i:=6) rfl (qax tySgn (fun _ h=>Mem.at_ h at0) (sgCn m.se)) hM ?_
    refine H_t (i:=7) (v:=.agg zqS) rfl (Or.inl ⟨by rfl,fun w' hS=>by go_simp⟩) hM ?_
    refine H_t (i:=8) (v:=.bool true) rfl (Or.inl ⟨by rfl,fun w' hS=>ex_eq heq (fun _ _ w=>run_eqGuard_agg w .neq 26 _ _ (sgCn m.se) zqS qbz) (by rfl) (by rfl) (by rfl) w'⟩) hM ?_
    refine H_t (i:=9) (v:=.pointer (some ⟨g1,0,none⟩)) rfl (Or.inl ⟨by rfl,fun w' hS=>by go_simp⟩) hM ?_
    refine H_t (i:=10) (v:=.pointer (some ⟨g1,0,none⟩)) rfl (Or.inl ⟨by rfl,fun w' hS=>by go_simp⟩) hM ?_
    refine H_t (i:=11) rfl (y_ce Tryz.isAgg22 (fun _ h=>rc (Mem.at_ h at0) 0 rfl) (v:=.int .u64 (m.nt.kd:Int))) hM ?_
    refine H_t (i:=12) (v:=.bool false) rfl (Or.inl ⟨by rfl,fun w' hS=>by go_simp⟩) hM ?_
    refine H_t (i:=13) (v:=.bool true) rfl (Or.inl ⟨by rfl,fun w' hS=>by go_simp⟩) hM ?_
    refine H_t (i:=14) (v:=.bool true) rfl (Or.inl ⟨by rfl,fun w' hS=>by go_simp⟩) hM ?_
    refine H_t (i:=15) (v:=.bool true) rfl (Or.inl ⟨by rfl,fun w' hS=>by go_simp⟩) hM ?_
    refine H_t (i:=16) (v:=undef) rfl (Or.inr ⟨by rfl,rfl⟩) hM ?_
    refine H_t (i:=17) (v:=undef) rfl (Or.inr ⟨by rfl,rfl⟩) hM ?_
    refine H_t (i:=18) (v:=undef) rfl (Or.inr ⟨by rfl,rfl⟩) hM ?_
    refine H_t (i:=19) (v:=undef) rfl (Or.inr ⟨by rfl,rfl⟩) hM ?_
    refine H_t (i:=20) (v:=undef) rfl (Or.inr ⟨by rfl,rfl⟩) hM ?_
    refine H_t (i:=21) (v:=undef) rfl (Or.inr ⟨by rfl,rfl⟩) hM ?_
    refine H_t (i:=22) (v:=undef) rfl (Or.inr ⟨by rfl,rfl⟩) hM ?_
    refine H_t (i:=23) (v:=undef) rfl (Or.inr ⟨by rfl,rfl⟩) hM ?_
    refine H_t (i:=24) (v:=undef) rfl (Or.inr ⟨by rfl,rfl⟩) hM ?_
    refine H_t (i:=25) (v:=undef) rfl (Or.inr ⟨by rfl,rfl⟩) hM ?_
    refine H_t (i:=26) (v:=.bool true) rfl (Or.inl ⟨by rfl,fun w' hS=>by go_simp⟩) hM ?_
    refine wpAnyH_done (by kernel_rfl) ?_ _
    go_wp2_with (first
     | fail)
    go_ret
    exact ⟨congrArg (fun b=>Ending.returned (Value.bool b)) HR.out.symm,hM.below⟩
   | true =>
    have HR:=qh (HR.out.trans ((Bool.true_and _).trans (Bool.true_and _)))
    go_enter Tryz.func25,Tryz.ntmps25
    go_wp2_with (first
     | (refine qam 1 rfl hM rfl rfl rfl (boxMs m Ac cc Ap cp _) ?_;clear hM;intro w' g1 hM)
     | (refine qaf hM rfl rfl Tryz.isAgg22 rfl (by exact hat) (j:=0) (v:=.int .u64 (m.nt.kd:Int)) rfl ?_)
     | (refine qaf hM rfl rfl Tryz.isAgg22 rfl (by exact hat) (j:=4) (v:=.int .u64 (m.nt.pr:Int)) rfl ?_))
    refine wp_region_held_drew (S:=fun v'=>Mem w v' [(g1,msC m Ac cc Ap cp,43)]) (by kernel_rfl) hM.drew (fun _=>?_)
    replace hM:=hM.drew
    refine H_t (i:=0) (v:=.pointer (some ⟨g1,0,none⟩)) rfl (Or.inl ⟨by rfl,fun w' hS=>by go_simp⟩) hM ?_
    refine H_t (i:=1) rfl (qax tyNt (fun _ h=>Mem.at_ h at0) (ntC m.nt)) hM ?_
    refine H_now 2 fun K hK=>?_
    go_simp
    refine (c_r _).mono ?_
    rintro e wc ⟨rfl,hb⟩
    replace hM:=hM.call hb
    clear hb
    refine hK.out _ _ hM (fun _=>lay_H ?_)
    clear hK K
    refine H_t (i:=3) (v:=.bool false) rfl (Or.inl ⟨by rfl,fun w' hS=>by go_simp⟩) hM ?_
    refine H_t (i:=4) (v:=.bool false) rfl (Or.inl ⟨by rfl,fun w' hS=>by go_simp⟩) hM ?_
    refine H_t (i:=5) (v:=.pointer (some ⟨g1,14,none⟩)) rfl (Or.inl ⟨by rfl,fun w' hS=>by go_simp⟩) hM ?_
    refine H_t (i:=6) rfl (qax tySgn (fun _ h=>Mem.at_ h at0) (sgCn m.se)) hM ?_
    refine H_t (i:=7) (v:=.agg zqS) rfl (Or.inl ⟨by rfl,fun w' hS=>by go_simp⟩) hM ?_
    refine H_t (i:=8) (v:=.bool false) rfl (Or.inl ⟨by rfl,fun w' hS=>ex_eq heq (fun _ _ w=>run_eqGuard_agg w .neq 26 _ _ (sgCn m.se) zqS qbz) (by rfl) (by rfl) (by rfl) w'⟩) hM ?_
    refine H_t (i:=9) (v:=.pointer (some ⟨g1,0,none⟩)) rfl (Or.inl ⟨by rfl,fun w' hS=>by go_simp⟩) hM ?_
    refine H_t (i:=10) (v:=.pointer (some ⟨g1,0,none⟩)) rfl (Or.inl ⟨by rfl,fun w' hS=>by go_simp⟩) hM ?_
    refine H_t (i:=11) rfl (y_ce Tryz.isAgg22 (fun _ h=>rc (Mem.at_ h at0) 0 rfl) (v:=.int .u64 (m.nt.kd:Int))) hM ?_
    refine H_t (i:=12) (v:=.bool false) rfl (Or.inl ⟨by rfl,fun w' hS=>by go_simp⟩) hM ?_
    refine H_t (i:=13) (v:=.bool false) rfl (Or.inl ⟨by rfl,fun w' hS=>by go_simp⟩) hM ?_
    refine H_t (i:=14) (v:=.bool false) rfl (Or.inl ⟨by rfl,fun w' hS=>by go_simp⟩) hM ?_
    refine H_t (i:=15) (v:=.bool false) rfl (Or.inl ⟨by rfl,fun w' hS=>by go_simp⟩) hM ?_
    refine H_t (i:=16) (v:=.pointer (some ⟨g1,0,none⟩)) rfl (Or.inl ⟨by rfl,fun w' hS=>by go_simp⟩) hM ?_
    refine H_t (i:=17) (v:=.pointer (some ⟨g1,0,none⟩)) rfl (Or.inl ⟨by rfl,fun w' hS=>by go_simp⟩) hM ?_
    refine H_t (i:=18) rfl (y_ce Tryz.isAgg22 (fun _ h=>rc (Mem.at_ h at0) 0 rfl) (v:=.int .u64 (m.nt.kd:Int))) hM ?_
    refine H_t (i:=19) (v:=.bool false) rfl (Or.inl ⟨by rfl,fun w' hS=>by go_simp⟩) hM ?_
    refine H_t (i:=20) (v:=.bool false) rfl (Or.inl ⟨by rfl,fun w' hS=>by go_simp⟩) hM ?_
    refine H_t (i:=21) (v:=undef) rfl (Or.inr ⟨by rfl,rfl⟩) hM ?_
    refine H_t (i:=22) (v:=undef) rfl (Or.inr ⟨by rfl,rfl⟩) hM ?_
    refine H_t (i:=23) (v:=undef) rfl (Or.inr ⟨by rfl,rfl⟩) hM ?_
    refine H_t (i:=24) (v:=undef) rfl (Or.inr ⟨by rfl,rfl⟩) hM ?_
    refine H_t (i:=25) (v:=.bool false) rfl (Or.inl ⟨by rfl,fun w' hS=>by go_simp⟩) hM ?_
    refine H_t (i:=26) (v:=.bool false) rfl (Or.inl ⟨by rfl,fun w' hS=>by go_simp⟩) hM ?_
    refine wpAnyH_done (by kernel_rfl) ?_ _
    obtain ⟨be,hbe⟩:∃ b,m.block.isEmpty=b:=⟨_,rfl⟩
    have HR:Hid (R=(be && (y1 && y2))):=qh (by rw [HR.out,← hbe,qe8])
    cases be with
    | false =>
     have HR:Hid (R=false):=qh (by rw [HR.out,Bool.false_and])
     go_wp2_with (first
      | (refine qaf hM rfl rfl Tryz.isAgg9 rfl (by exact hat) (j:=23) (v:=.string (bs m.block)) rfl ?_))
     go_ret
     exact ⟨congrArg (fun b=>Ending.returned (Value.bool b)) HR.out.symm,hM.below⟩
    | true =>
     have HR:Hid (R=(y1 && y2)):=qh (by rw [HR.out,Bool.true_and])
     cases y1 with
     | false =>
      have HR:Hid (R=false):=qh (by rw [HR.out,Bool.false_and])
      go_wp2_with (first
       | (refine qaf hM rfl rfl Tryz.isAgg9 rfl (by exact hat) (j:=23) (v:=.string (bs m.block)) rfl ?_)
       | (refine qaf hM rfl rfl Tryz.isAgg41 rfl (by exact hat) (j:=24) (v:=.slice Ac m.chs.length cc) rfl ?_))
      refine (c_1 _ hM.below).mono ?_
      rintro e w9 ⟨rfl,hb⟩
      replace hM:=hM.call hb
      clear hb
      go_wp2_with (first
       | fail)
      go_ret
      exact ⟨congrArg (fun b=>Ending.returned (Value.bool b)) HR.out.symm,hM.below⟩
     | true =>
      have HR:Hid (R=y2):=qh (by rw [HR.out,Bool.true_and])
      go_wp2_with (first
       | (refine qaf hM rfl rfl Tryz.isAgg9 rfl (by exact hat) (j:=23) (v:=.string (bs m.block)) rfl ?_)
       | (refine qaf hM rfl rfl Tryz.isAgg41 rfl (by exact hat) (j:=24) (v:=.slice Ac m.chs.length cc) rfl ?_))
      refine (c_1 _ hM.below).mono ?_
      rintro e w9 ⟨rfl,hb⟩
      replace hM:=hM.call hb
      clear hb
      go_wp2_with (first
       | (refine qaf hM rfl rfl Tryz.isAgg41 rfl (by exact hat) (j:=25) (v:=.slice Ap m.pps.length cp) rfl ?_))
      refine (c_2 _ hM.below).mono ?_
      rintro e w9 ⟨rfl,hb⟩
      replace hM:=hM.call hb
      clear hb
      go_wp2_with (first
       | fail)
      go_ret
      exact ⟨congrArg (fun b=>Ending.returned (Value.bool b)) HR.out.symm,hM.below⟩
/- The walks of the reference's SameNotes and Like. -/
theorem ql2 (a b:List Nt) (A A':Option Addr) (c c':Nat) (w:World) (hv:NtsV Any w a A c) (hv':NtsV Any w b A' c') :
  Calls Tryz.prog 62 #[.slice A a.length c,.slice A' b.length c'] w fun e w'=>e=.returned (.bool (decide (a=b)))∧Below w.heap.size w w':=by
 have hn1:(a.length:Int)≤9223372036854775807:=by have:=hv.len;simp only [maxLen] at this;omega
 have hM:=Mem.nil w
 by_cases hl:a.length=b.length
 ·have hlI:(a.length:Int)=b.length:=by omega
  have HL:=qh hl
  have HV:=qh hv
  have HV':=qh hv'
  have hT:decide (a=b)=decide (a.drop 0=b.drop 0):=rfl
  obtain ⟨R,hR⟩:∃ R,decide (a=b)=R:=⟨_,rfl⟩
  rw [hR] at hT ⊢
  have HT:=qh hT
  rw [← hl]
  clear hl hlI hv hv' hR hT
  go_enter Tryz.func62,Tryz.ntmps62
  go_wp2_with fail
  go_loopw [13] (fun j wr=>∃ i:Nat,j=.int .i64 (i:Int)∧i≤a.length∧Hid (R=decide (a.drop i=b.drop i))∧Mem w wr []) (fun j _=>a.length - (intOf j).toNat)
  case atStart=>exact ⟨0,rfl,Nat.zero_le _,HT,hM⟩
  case round =>
   clear hM HT
   obtain ⟨i,rfl,hi,HT,hM⟩:=hrel
   by_cases hlt:i < a.length
   ·obtain ⟨x,hx⟩:=qan hlt
    obtain ⟨y,hy⟩:=qan (show i < b.length by have:=HL.out;omega)
    obtain ⟨⟨g,o,rfl⟩,hat⟩:=qnf HV.out hx
    obtain ⟨⟨g',o',rfl⟩,hat'⟩:=qnf HV'.out hy
    have hltI:(i:Int) < a.length:=by omega
    have hT:=HT.out
    rw [qc0 hx,qc0 hy] at hT
    have hv:PlV Any w 14 (a.map ntL) (some ⟨g,o,none⟩) c:=HV.out
    have hv':PlV Any w 14 (b.map ntL) (some ⟨g',o',none⟩) c':=HV'.out
    have HA:=qh hat
    have HA':=qh hat'
    have heq:∀ w,(binOp .neq 40 (.agg (ntC x)) (.agg (ntC y))).run Tryz.prog w=.ok (.bool (!decide (x=y))) w:=fun w=>neqNtD x y w
    obtain ⟨e,he⟩:∃ e,decide (x=y)=e:=⟨_,rfl⟩
    simp only [he] at heq
    have HE:=qh he
    have HT:=qh hT
    clear hat hat' hx hy hT he
    go_wp2_with fail
    refine qau 8 hM qbc [.slice (some ⟨g,o,none⟩) a.length c,.int .i64 (i:Int),.pointer (some ⟨g,o+i * 14,none⟩),.agg (ntC x),.slice (some ⟨g',o',none⟩) a.length c',.int .i64 (i:Int),.pointer (some ⟨g',o'+i * 14,none⟩),.agg (ntC y)] [] (b:=?b1) ?hb rfl (by kernel_rfl) ?hgo ?hfin
    case hb=>simp only [putAll,Act.put,List.setIfInBounds_toArray,List.set_cons_zero,List.set_cons_succ];rfl
    case hgo =>
     refine GoAll.v (.slice (some ⟨g,o,none⟩) a.length c) (qaq fun w=>by go_simp) ?_
     refine GoAll.v (.int .i64 (i:Int)) (qaq fun w=>by go_simp) ?_
     refine GoAll.v (.pointer (some ⟨g,o+i * 14,none⟩)) (qaq fun w=>by go_simp) ?_
     refine GoAll.v (.agg (ntC x)) (qok hv HA.out (by decide) tyNt (ntC x)) ?_
     refine GoAll.v (.slice (some ⟨g',o',none⟩) a.length c') (qaq fun w=>by go_simp) ?_
     refine GoAll.v (.int .i64 (i:Int)) (qaq fun w=>by go_simp) ?_
     refine GoAll.v (.pointer (some ⟨g',o'+i * 14,none⟩)) (qaq fun w=>by go_simp) ?_
     refine GoAll.v (.agg (ntC y)) (qok hv' HA'.out (by decide) tyNt (ntC y)) ?_
     exact GoAll.nil
    case hfin =>
     clear hM;intro w' G hM
     simp only [putLays,List.drop_succ_cons,List.drop_zero,List.map_nil,List.nil_append] at hM ⊢
     clear G
     cases e with
     | false =>
      have HR:Hid (R=false):=qh (by rw [HT.out];exact decide_eq_false (fun h=>by injection h with h1 _;exact of_decide_eq_false HE.out h1))
      go_wp2_with (first | (refine qcs 24 rfl heq (fun _ _ w=>run_eqGuard_agg w .neq 40 _ _ (ntC x) (ntC y) qht) rfl rfl rfl rfl ?_))
      go_ret
      exact ⟨by rw [HR.out];rfl,hM.below⟩
     | true =>
      have HT2:Hid (R=decide (a.drop (i+1)=b.drop (i+1))):=qh (by rw [HT.out,of_decide_eq_true HE.out,Bool.eq_iff_iff];simp)
      go_wp2_with (first | (refine qcs 24 rfl heq (fun _ _ w=>run_eqGuard_agg w .neq 40 _ _ (ntC x) (ntC y) qht) rfl rfl rfl rfl ?_))
      go_roundw
      case rel=>exact ⟨i+1,by go_num,hlt,HT2,hM⟩
      case measure=>simp [intOf];omega
   ·obtain rfl:i=a.length:=by omega
    have hltI:¬ (a.length:Int) < a.length:=by omega
    have HR:Hid (R=true):=qh (by rw [HT.out,List.drop_of_length_le qn,List.drop_of_length_le (by rw [HL.out];exact Nat.le_refl _)];rfl)
    clear HT HL HV HV'
    go_wp2_with fail
    go_ret
    exact ⟨by rw [HR.out];rfl,hM.below⟩
 ·have hlI:¬ (a.length:Int)=b.length:=by omega
  rw [decide_eq_false (fun e:a=b=>hl (by rw [e]))]
  clear hl hv hv'
  go_enter Tryz.func62,Tryz.ntmps62
  go_wp2_with fail
  go_ret
  exact ⟨rfl,hM.below⟩
section
variable {P:Program} {ops:Array Oper} {rest:List Oper} {op:Oper} {a:Act} {w0 w:World} {Q:Exit→Act→World→Prop} {L:List Blk} {g:Nat} {cs:Array Value} {t:TypeId} {k:Nat}
theorem qbn {a':Act} (s:Nat) (hd:op.dst=some s) (hM:Mem w0 w L) (hgd:Region.wanted op (yielded ops a.tmps)=true) {ty:TypeId} {x:Operand} (ho:op.op=.load ty x) {n o:Nat} (T:AggT P ty n) (hx:a.eval x=.pointer (some ⟨g,o,none⟩)) (hk:L[k]? = some (g,cs,t)) {new:Array Value} (hp:PartAt cs o n new)
  (h:wpList P ops Q rest a' w) (ha:a.put op.dst (.agg new)=a':=by simp only [Act.put,List.setIfInBounds_toArray,List.set_cons_zero,List.set_cons_succ];rfl):wpList P ops Q (op :: rest) a w :=
 qav hM hgd ho T hx hk hp h ha
theorem qbm {a':Act} {v:Value} {j:Nat} (s:Nat) (hd:op.dst=some s) (hM:Mem w0 w L) (hgd:Region.wanted op (yielded ops a.tmps)=true) {ty:TypeId} {x:Operand} (ho:op.op=.load ty x) (hna:∀ w,(isAgg ty).run P w=.ok false w) (hx:a.eval x=.pointer (some ⟨g,j,none⟩)) (hk:L[k]? = some (g,cs,t)) (hj:cs[j]? = some v)
  (h:wpList P ops Q rest a' w) (ha:a.put op.dst v=a':=by simp only [Act.put,List.setIfInBounds_toArray,List.set_cons_zero,List.set_cons_succ];rfl):wpList P ops Q (op :: rest) a w :=
 qaf hM hgd ho hna hx hk hj h ha
end
theorem ms_eq (m u:Ms):decide (m=u)=(decide (m.nt=u.nt) && (decide (m.se=u.se) && (decide (m.block=u.block) && (decide (m.chs=u.chs) && decide (m.pps=u.pps))))):=by
 obtain ⟨a1,a2,a3,a4,a5⟩:=m
 obtain ⟨b1,b2,b3,b4,b5⟩:=u
 rw [Bool.eq_iff_iff]
 simp
theorem eqlStr (a b:Bytes) (w:World):(binOp .eql 9 (.string (bs a)) (.string (bs b))).run Tryz.prog w=.ok (.bool (decide (a=b))) w:=by
 go_simp
 rw [Bool.eq_iff_iff]
 simp
theorem qg5 (x y:Operand) (a b:ByteArray) (w:World):(eqGuard .eql 9 x y (.string a) (.string b)).run Tryz.prog w=.ok () w:=by
 go_simp
theorem qpl (m u:Ms) (Ac Ap Bc Bp:Option Addr) (cc cp dc dp:Nat) (w:World) (hc:NtsV Any w m.chs Ac cc) (hp:NtsV Any w m.pps Ap cp) (hc':NtsV Any w u.chs Bc dc) (hp':NtsV Any w u.pps Bp dp) :
  Calls Tryz.prog 22 #[.agg (msC m Ac cc Ap cp),.agg (msC u Bc dc Bp dp)] w fun e w'=>e=.returned (.bool (decide (m=u)))∧Below w.heap.size w w':=by
 have hM:=Mem.nil w
 have pm:=pa_ms m Ac cc Ap cp
 have pu:=pa_ms u Bc dc Bp dp
 have pms:=qt7 m Ac cc Ap cp
 have pus:=qt7 u Bc dc Bp dp
 have q1:∀ w,(binOp .eql 40 (.agg (ntC m.nt)) (.agg (ntC u.nt))).run Tryz.prog w=.ok (.bool (decide (m.nt=u.nt))) w:=eqlNtD _ _
 have q2:∀ w,(binOp .eql 26 (.agg (sgCn m.se)) (.agg (sgCn u.se))).run Tryz.prog w=.ok (.bool (decide (m.se=u.se))) w:=eqlSgD _ _
 have q3:=eqlStr m.block u.block
 have c_4:=fun (W:World) (hb:Below w.heap.size w W)=>ql2 m.chs u.chs Ac Bc cc dc W (PlV.keep hc hb) (PlV.keep hc' hb)
 have c_5:=fun (W:World) (hb:Below w.heap.size w W)=>ql2 m.pps u.pps Ap Bp cp dp W (PlV.keep hp hb) (PlV.keep hp' hb)
 have hR:=ms_eq m u
 obtain ⟨R,hRe⟩:∃ R,decide (m=u)=R:=⟨_,rfl⟩
 rw [hRe] at hR ⊢
 obtain ⟨e1,h1⟩:∃ e,decide (m.nt=u.nt)=e:=⟨_,rfl⟩
 obtain ⟨e2,h2⟩:∃ e,decide (m.se=u.se)=e:=⟨_,rfl⟩
 obtain ⟨e3,h3⟩:∃ e,decide (m.block=u.block)=e:=⟨_,rfl⟩
 obtain ⟨e4,h4⟩:∃ e,decide (m.chs=u.chs)=e:=⟨_,rfl⟩
 obtain ⟨e5,h5⟩:∃ e,decide (m.pps=u.pps)=e:=⟨_,rfl⟩
 simp only [h1] at q1 hR
 simp only [h2] at q2 hR
 simp only [h3] at q3 hR
 simp only [h4] at c_4 hR
 simp only [h5] at c_5 hR
 have HR:=qh hR
 clear hR h1 h2 h3 h4 h5 hRe hc hp hc' hp'
 replace HR:=qh (HR.out.symm)
 by_cases h123:(e1 && (e2 && e3))=true
 case neg =>
  have h4:e1=false∨(e1=true∧e2=false)∨(e1=true∧e2=true∧e3=false):=by
   revert h123
   cases e1 <;> cases e2 <;> cases e3 <;> decide
  clear h123
  rcases h4 with rfl | ⟨rfl,rfl⟩ | ⟨rfl,rfl,rfl⟩
  all_goals
   go_enter Tryz.func22,Tryz.ntmps22
   go_wp2_with (first
   | (refine qam 2 rfl hM rfl rfl rfl (boxMs m Ac cc Ap cp _) ?_;clear hM;intro w' g2 hM)
   | (refine qam 3 rfl hM rfl rfl rfl (boxMs u Bc dc Bp dp _) ?_;clear hM;intro w' g3 hM)
   | (refine qbn 6 rfl hM rfl rfl tyNt rfl (by exact hat) pm ?_)
   | (refine qbn 8 rfl hM rfl rfl tyNt rfl (by exact hat) pu ?_)
   | (refine qbn 12 rfl hM rfl rfl tySgn rfl (by exact hat) pms ?_)
   | (refine qbn 14 rfl hM rfl rfl tySgn rfl (by exact hat) pus ?_)
   | (refine qbm 19 rfl hM rfl rfl Tryz.isAgg9 rfl (by exact hat) (j:=23) (v:=.string (bs m.block)) rfl ?_)
   | (refine qbm 21 rfl hM rfl rfl Tryz.isAgg9 rfl (by exact hat) (j:=23) (v:=.string (bs u.block)) rfl ?_)
   | (refine qcs 9 rfl q1 (fun _ _ w=>run_eqGuard_agg w .eql 40 _ _ (ntC m.nt) (ntC u.nt) qht) rfl rfl rfl rfl ?_)
   | (refine qcs 15 rfl q2 (fun _ _ w=>run_eqGuard_agg w .eql 26 _ _ (sgCn m.se) (sgCn u.se) qbz) rfl rfl rfl rfl ?_)
   | (refine qcs 22 rfl q3 (fun _ _ w=>qg5 _ _ _ _ w) rfl rfl rfl rfl ?_))
   go_ret
   exact ⟨congrArg (fun b=>Ending.returned (Value.bool b)) HR.out,hM.below⟩
 simp only [Bool.and_eq_true] at h123
 obtain ⟨rfl,rfl,rfl⟩:=h123
 cases e4 with
 | false =>
  go_enter Tryz.func22,Tryz.ntmps22
  go_wp2_with (first
   | (refine qam 2 rfl hM rfl rfl rfl (boxMs m Ac cc Ap cp _) ?_;clear hM;intro w' g2 hM)
   | (refine qam 3 rfl hM rfl rfl rfl (boxMs u Bc dc Bp dp _) ?_;clear hM;intro w' g3 hM)
   | (refine qbn 6 rfl hM rfl rfl tyNt rfl (by exact hat) pm ?_)
   | (refine qbn 8 rfl hM rfl rfl tyNt rfl (by exact hat) pu ?_)
   | (refine qbn 12 rfl hM rfl rfl tySgn rfl (by exact hat) pms ?_)
   | (refine qbn 14 rfl hM rfl rfl tySgn rfl (by exact hat) pus ?_)
   | (refine qbm 19 rfl hM rfl rfl Tryz.isAgg9 rfl (by exact hat) (j:=23) (v:=.string (bs m.block)) rfl ?_)
   | (refine qbm 21 rfl hM rfl rfl Tryz.isAgg9 rfl (by exact hat) (j:=23) (v:=.string (bs u.block)) rfl ?_)
   | (refine qcs 9 rfl q1 (fun _ _ w=>run_eqGuard_agg w .eql 40 _ _ (ntC m.nt) (ntC u.nt) qht) rfl rfl rfl rfl ?_)
   | (refine qcs 15 rfl q2 (fun _ _ w=>run_eqGuard_agg w .eql 26 _ _ (sgCn m.se) (sgCn u.se) qbz) rfl rfl rfl rfl ?_)
   | (refine qcs 22 rfl q3 (fun _ _ w=>qg5 _ _ _ _ w) rfl rfl rfl rfl ?_)
   | (refine qbm 26 rfl hM rfl rfl Tryz.isAgg41 rfl (by exact hat) (j:=24) (v:=.slice Ac m.chs.length cc) rfl ?_)
   | (refine qbm 28 rfl hM rfl rfl Tryz.isAgg41 rfl (by exact hat) (j:=24) (v:=.slice Bc u.chs.length dc) rfl ?_))
  refine (c_4 _ hM.below).mono ?_
  rintro e w9 ⟨rfl,hb⟩
  replace hM:=hM.call hb
  clear hb
  go_wp2_with fail
  go_ret
  exact ⟨congrArg (fun b=>Ending.returned (Value.bool b)) HR.out,hM.below⟩
 | true =>
  go_enter Tryz.func22,Tryz.ntmps22
  go_wp2_with (first
   | (refine qam 2 rfl hM rfl rfl rfl (boxMs m Ac cc Ap cp _) ?_;clear hM;intro w' g2 hM)
   | (refine qam 3 rfl hM rfl rfl rfl (boxMs u Bc dc Bp dp _) ?_;clear hM;intro w' g3 hM)
   | (refine qbn 6 rfl hM rfl rfl tyNt rfl (by exact hat) pm ?_)
   | (refine qbn 8 rfl hM rfl rfl tyNt rfl (by exact hat) pu ?_)
   | (refine qbn 12 rfl hM rfl rfl tySgn rfl (by exact hat) pms ?_)
   | (refine qbn 14 rfl hM rfl rfl tySgn rfl (by exact hat) pus ?_)
   | (refine qbm 19 rfl hM rfl rfl Tryz.isAgg9 rfl (by exact hat) (j:=23) (v:=.string (bs m.block)) rfl ?_)
   | (refine qbm 21 rfl hM rfl rfl Tryz.isAgg9 rfl (by exact hat) (j:=23) (v:=.string (bs u.block)) rfl ?_)
   | (refine qcs 9 rfl q1 (fun _ _ w=>run_eqGuard_agg w .eql 40 _ _ (ntC m.nt) (ntC u.nt) qht) rfl rfl rfl rfl ?_)
   | (refine qcs 15 rfl q2 (fun _ _ w=>run_eqGuard_agg w .eql 26 _ _ (sgCn m.se) (sgCn u.se) qbz) rfl rfl rfl rfl ?_)
   | (refine qcs 22 rfl q3 (fun _ _ w=>qg5 _ _ _ _ w) rfl rfl rfl rfl ?_)
   | (refine qbm 26 rfl hM rfl rfl Tryz.isAgg41 rfl (by exact hat) (j:=24) (v:=.slice Ac m.chs.length cc) rfl ?_)
   | (refine qbm 28 rfl hM rfl rfl Tryz.isAgg41 rfl (by exact hat) (j:=24) (v:=.slice Bc u.chs.length dc) rfl ?_))
  refine (c_4 _ hM.below).mono ?_
  rintro e w9 ⟨rfl,hb⟩
  replace hM:=hM.call hb
  clear hb
  go_wp2_with (first
   | (refine qbm 33 rfl hM rfl rfl Tryz.isAgg41 rfl (by exact hat) (j:=25) (v:=.slice Ap m.pps.length cp) rfl ?_)
   | (refine qbm 35 rfl hM rfl rfl Tryz.isAgg41 rfl (by exact hat) (j:=25) (v:=.slice Bp u.pps.length dp) rfl ?_))
  refine (c_5 _ hM.below).mono ?_
  rintro e w9 ⟨rfl,hb⟩
  replace hM:=hM.call hb
  clear hb
  go_wp2_with fail
  go_ret
  exact ⟨congrArg (fun b=>Ending.returned (Value.bool b)) HR.out,hM.below⟩
end Go.Proofs.YteoednifdpdbnaaGreat
