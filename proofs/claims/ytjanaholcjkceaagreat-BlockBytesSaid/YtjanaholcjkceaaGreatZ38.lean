/- The walk of header.Right. -/
import Derived.Test.YtjanaholcjkceaaGreatZ30
import Derived.Test.YtjanaholcjkceaaGreatZ36
import Derived.Test.YtjanaholcjkceaaGreatZ37
namespace Go.Proofs.YtjanaholcjkceaaGreat
set_option linter.unusedVariables false
set_option linter.unusedSimpArgs false
open Go.RowKit
set_option maxHeartbeats 4000000
set_option maxRecDepth 100000
def sgL (x:Sg):List Value:=[.int .u64 (x.r.a:Int),.int .u64 (x.r.b:Int),.int .u64 (x.r.c:Int),.int .u64 (x.r.d:Int),.int .u64 (x.s.a:Int),.int .u64 (x.s.b:Int),.int .u64 (x.s.c:Int),.int .u64 (x.s.d:Int),.int .i64 x.v]
def SgsV (S:Nat→Prop) (w:World) (l:List Sg) (A:Option Addr) (c:Nat):Prop:=PlV S w 9 (l.map sgL) A c
theorem sgL_ok (x:Sg):(sgL x).length=9∧∀ u∈sgL x,u.oneCell'=true:=⟨rfl,fun u hu=>by
 simp only [sgL,List.mem_cons,List.not_mem_nil,or_false] at hu
 rcases hu with rfl | rfl | rfl | rfl | rfl | rfl | rfl | rfl | rfl <;> rfl⟩
theorem sgs_at {S:Nat→Prop} {w:World} {l:List Sg} {A:Option Addr} {c i:Nat} {x:Sg} (h:SgsV S w l A c) (hi:l[i]? = some x):∃ g o,A=some ⟨g,o,none⟩∧∀ j u,(sgL x)[j]? = some u→w.cell? ⟨g,o+i * 9+j,none⟩=some u:=by
 obtain ⟨g,o,hA,_,_,hc⟩:=PlV.at_ h (by decide) (i:=i) (cs:=sgL x) (by rw [List.getElem?_map,hi];rfl)
 exact ⟨g,o,hA,hc⟩
/-- a header in memory -/
structure HdV (S:Nat→Prop) (w:World) (h:Hd) (Av:Option Addr) (cv:Nat) (As:Option Addr) (cs:Nat):Prop where
 vals:StrV S w h.vals Av cv
 seals:SgsV S w h.seals As cs
structure Hd.Fine (h:Hd):Prop where
 wf:h.Wf
 parent:h.parent.length≤9223372036854775807
 root:h.root.length≤9223372036854775807
 txs:h.txs.length≤9223372036854775807
 prop:h.prop.length≤9223372036854775807
 van:h.van.length≤9223372036854775807
 vote:h.vote.length≤9223372036854775807
 vals:∀ a∈h.vals,a.length≤9223372036854775807
theorem HdV.keep {S:Nat→Prop} {w w':World} {h:Hd} {Av As:Option Addr} {cv cs:Nat} (x:HdV S w h Av cv As cs) (hb:Below w.heap.size w w'):HdV S w' h Av cv As cs:=⟨StrV.keep x.vals hb,PlV.keep x.seals hb⟩
theorem okHd_parts (h:Hd):okHd h=((h.parent.length == 32 && (h.root.length == 32 && h.txs.length == 32)) && (h.prop.length == 20 && (decide (h.van.length≤8) && (okVals h.vals && (decide (h.seals.length≤16) && ((h.vote.length == 20 || (h.vote == [] && !h.add)) && h.seals.all okSg)))))):=by
 unfold okHd
 rw [Bool.eq_iff_iff]
 simp only [Bool.and_eq_true,and_assoc]
 constructor
 ·rintro ⟨a,b,c,d,e,f,g,i,j⟩;exact ⟨a,b,c,d,e,f,i,g,j⟩
 ·rintro ⟨a,b,c,d,e,f,i,g,j⟩;exact ⟨a,b,c,d,e,f,g,i,j⟩
theorem all32 (a b c:Bytes) (i:Nat) (x:Bytes) (hx:[a,b,c][i]? = some x):([a,b,c].drop i).all (fun y=>y.length == 32)=(x.length == 32 && ([a,b,c].drop (i+1)).all (fun y=>y.length == 32)):=by
 rw [drop_cons hx];rfl
theorem hright_any (h:Hd) (hf:h.Fine) (Av As:Option Addr) (cv cs:Nat) (w:World) (hv:HdV Any w h Av cv As cs) :
  Calls Tryz.prog 33 #[.agg #[.string (bs h.parent),.int .u64 (h.height:Int),.string (bs h.root),.string (bs h.txs),.string (bs h.prop),.string (bs h.van),.slice Av h.vals.length cv,.string (bs h.vote),.bool h.add,.int .u64 (h.round:Int),.slice As h.seals.length cs]] w fun e w'=>e=.returned (.bool (okHd h))∧Below w.heap.size w w':=by
 have hp:=okHd_parts h
 obtain ⟨R,hR⟩:∃ R,okHd h=R:=⟨_,rfl⟩
 rw [hR] at hp ⊢
 have HOK:=qh hp
 have HF:=qh hf
 have HV:=qh hv
 have hl1:=(PlV.len hv.seals).1
 have hl2:=(PlV.len hv.seals).2
 simp only [maxLen,List.length_map] at hl1 hl2
 have hs63:(h.seals.length:Int)≤9223372036854775807:=by omega
 have hq63:(h.prop.length:Int)≤9223372036854775807:=by have:=hf.prop;omega
 have hv63:(h.van.length:Int)≤9223372036854775807:=by have:=hf.van;omega
 have ht63:(h.vote.length:Int)≤9223372036854775807:=by have:=hf.vote;omega
 have h0:=heap_alloc_new w (.cells #[.string (bs h.parent),.int .u64 (h.height:Int),.string (bs h.root),.string (bs h.txs),.string (bs h.prop),.string (bs h.van),.slice Av h.vals.length cv,.string (bs h.vote),.bool h.add,.int .u64 (h.round:Int),.slice As h.seals.length cs] 26)
 have h1:=heap_alloc_new (w.alloc (.cells #[.string (bs h.parent),.int .u64 (h.height:Int),.string (bs h.root),.string (bs h.txs),.string (bs h.prop),.string (bs h.van),.slice Av h.vals.length cv,.string (bs h.vote),.bool h.add,.int .u64 (h.round:Int),.slice As h.seals.length cs] 26)) (.cells #[.string (bs h.parent),.string (bs h.root),.string (bs h.txs)] 9)
 have h0:=(heap_alloc_old _ (.cells #[.string (bs h.parent),.string (bs h.root),.string (bs h.txs)] 9) (qg h0)).trans h0
 simp only [World.size_alloc] at h1
 have hb:=((Below.refl w.heap.size w).alloc qn (.cells #[.string (bs h.parent),.int .u64 (h.height:Int),.string (bs h.root),.string (bs h.txs),.string (bs h.prop),.string (bs h.van),.slice Av h.vals.length cv,.string (bs h.vote),.bool h.add,.int .u64 (h.round:Int),.slice As h.seals.length cs] 26)).alloc (by simp) (.cells #[.string (bs h.parent),.string (bs h.root),.string (bs h.txs)] 9)
 have HX:=qh h0
 have HY:=qh h1
 have HB0:=qh hb
 clear hp hR hf hv hl1 hl2 h0 h1 hb
 go_enter Tryz.func33,Tryz.ntmps33
 go_wp2_with fail
 generalize (w.alloc (.cells #[.string (bs h.parent),.int .u64 (h.height:Int),.string (bs h.root),.string (bs h.txs),.string (bs h.prop),.string (bs h.van),.slice Av h.vals.length cv,.string (bs h.vote),.bool h.add,.int .u64 (h.round:Int),.slice As h.seals.length cs] 26)).alloc (.cells #[.string (bs h.parent),.string (bs h.root),.string (bs h.txs)] 9)=W0 at HX HY HB0 ⊢
 go_loop [17] (fun x=>∃ i:Nat,i≤3∧x=.int .i64 (i:Int)∧Hid ((h.parent.length == 32 && (h.root.length == 32 && h.txs.length == 32))=([h.parent,h.root,h.txs].drop i).all (fun y=>y.length == 32))) (fun x=>3 - (intOf x).toNat)
 case atStart=>exact ⟨0,by omega,rfl,qh (by simp)⟩
 case round =>
  obtain ⟨i,hi,rfl,HI⟩:=hrel
  by_cases hlt:i < 3
  ·obtain ⟨a,ha⟩:=getElem_ex (l:=[h.parent,h.root,h.txs]) (i:=i) (by simpa using hlt)
   have hltI:(i:Int) < 3:=by omega
   have hca:W0.cell? ⟨w.heap.size+1,i,none⟩=some (.string (bs a)):=rc HY.out i (by
    match i,hlt,ha with
    | 0,_,ha=>simp at ha;subst ha;rfl
    | 1,_,ha=>simp at ha;subst ha;rfl
    | 2,_,ha=>simp at ha;subst ha;rfl)
   have ha63:(a.length:Int)≤9223372036854775807:=by
    have:=HF.out
    have hm:=List.mem_of_getElem? ha
    simp only [List.mem_cons,List.not_mem_nil,or_false] at hm
    rcases hm with rfl | rfl | rfl
    ·have:=this.parent;omega
    ·have:=this.root;omega
    ·have:=this.txs;omega
   have hst:=HI.out
   rw [all32 _ _ _ i a ha] at hst
   cases hl32:((a.length:Int) == 32) with
   | false =>
    have hl32n:((a.length:Int) != 32)=true:=by rw [bne,hl32];rfl
    have hR:R=false:=by rw [HOK.out,hst,show (a.length == 32)=false by rw [beq_eq_false_iff_ne] at hl32 ⊢;omega];simp
    have HR:=qh hR
    clear hst hR HI ha
    go_wp2_with fail
    go_ret
    exact ⟨by rw [HR.out];rfl,HB0.out⟩
   | true =>
    have hl32n:((a.length:Int) != 32)=false:=by rw [bne,hl32];rfl
    rw [show (a.length == 32)=true by rw [beq_iff_eq] at hl32 ⊢;omega,Bool.true_and] at hst
    have HST:=qh hst
    clear hst HI ha
    go_wp2_with fail
    go_round
    case rel=>exact ⟨i+1,by omega,by go_num,HST⟩
    case measure=>simp [intOf];omega
  ·obtain rfl:i=3:=by omega
   have hp3:=HOK.out
   rw [HI.out,show ([h.parent,h.root,h.txs].drop 3).all (fun y=>y.length == 32)=true from rfl,Bool.true_and] at hp3
   have HOK:=qh hp3
   clear hp3 HI
   have x0:=rc (u:=.string (bs h.parent)) HX.out 0 rfl
   have x1:=rc (u:=.int .u64 (h.height:Int)) HX.out 1 rfl
   have x2:=rc (u:=.string (bs h.root)) HX.out 2 rfl
   have x3:=rc (u:=.string (bs h.txs)) HX.out 3 rfl
   have x4:=rc (u:=.string (bs h.prop)) HX.out 4 rfl
   have x5:=rc (u:=.string (bs h.van)) HX.out 5 rfl
   have x6:=rc (u:=.slice Av h.vals.length cv) HX.out 6 rfl
   have x7:=rc (u:=.string (bs h.vote)) HX.out 7 rfl
   have x8:=rc (u:=.bool h.add) HX.out 8 rfl
   have x9:=rc (u:=.int .u64 (h.round:Int)) HX.out 9 rfl
   have x10:=rc (u:=.slice As h.seals.length cs) HX.out 10 rfl
   cases hq:((h.prop.length:Int) == 20) with
   | false =>
    have hqn:((h.prop.length:Int) != 20)=true:=by rw [bne,hq];rfl
    have hR:R=false:=by rw [HOK.out];rw [show (h.prop.length == 20)=false by rw [beq_eq_false_iff_ne] at hq ⊢;omega];rfl
    have HR:=qh hR
    clear hR
    go_wp2_with fail
    go_ret
    exact ⟨by rw [HR.out];rfl,HB0.out⟩
   | true =>
    have hqn:((h.prop.length:Int) != 20)=false:=by rw [bne,hq];rfl
    have hqq:(h.prop.length == 20)=true:=by rw [beq_iff_eq] at hq ⊢;omega
    have HQ:=qh hqq
    clear hqq
    by_cases hva:(8:Int) < h.van.length
    ·have hR:R=false:=by rw [HOK.out];rw [HQ.out,show decide (h.van.length≤8)=false by rw [decide_eq_false_iff_not];omega];rfl
     have HR:=qh hR
     clear hR
     go_wp2_with fail
     go_ret
     exact ⟨by rw [HR.out];rfl,HB0.out⟩
    ·have HVA:Hid (decide (h.van.length≤8)=true):=qh (by rw [decide_eq_true_iff];omega)
     have hA:=addrs_any h.vals HF.out.vals Av cv W0 (StrV.keep HV.out.vals HB0.out)
     obtain ⟨ab,hab⟩:∃ ab,okVals h.vals=ab:=⟨_,rfl⟩
     rw [hab] at hA
     have HA:=qh hA
     have HAB:=qh hab
     clear hA hab
     cases ab with
     | false =>
      have hR:R=false:=by rw [HOK.out,HQ.out,HVA.out,HAB.out];rfl
      have HR:=qh hR
      clear hR
      go_wp2_with fail
      refine HA.out.mono ?_
      rintro e w' ⟨rfl,rfl⟩
      go_wp2_with fail
      go_ret
      exact ⟨by rw [HR.out];rfl,HB0.out⟩
     | true =>
      by_cases hse:(16:Int) < h.seals.length
      ·have hR:R=false:=by rw [HOK.out,HQ.out,HVA.out,HAB.out,show decide (h.seals.length≤16)=false by rw [decide_eq_false_iff_not];omega];rfl
       have HR:=qh hR
       clear hR
       go_wp2_with fail
       refine HA.out.mono ?_
       rintro e w' ⟨rfl,rfl⟩
       go_wp2_with fail
       go_ret
       exact ⟨by rw [HR.out];rfl,HB0.out⟩
      ·have HSE:Hid (decide (h.seals.length≤16)=true):=qh (by rw [decide_eq_true_iff];omega)
       have hok:=HOK.out
       rw [HQ.out,HVA.out,HAB.out,HSE.out] at hok
       simp only [Bool.true_and] at hok
       have HOK:=qh hok
       clear hok
       go_wp2_with fail
       refine HA.out.mono ?_
       rintro e w' ⟨rfl,rfl⟩
       cases hvt:((h.vote.length:Int) == 20) with
       | true =>
        have hvtn:((h.vote.length:Int) != 20)=false:=by rw [bne,hvt];rfl
        have hok:=HOK.out
        rw [show (h.vote.length == 20)=true by rw [beq_iff_eq] at hvt ⊢;omega,Bool.true_or,Bool.true_and] at hok
        have HOK:=qh hok
        clear hok
        go_wp2_with fail
        go_loopw [63] (fun x wr=>∃ k:Nat,k≤h.seals.length∧x=.int .i64 (k:Int)∧Hid ((h.seals.take k).all okSg=true)∧Below w.heap.size w wr) (fun x _=>h.seals.length - (intOf x).toNat)
        case atStart=>exact ⟨0,Nat.zero_le _,rfl,qh rfl,HB0.out⟩
        case round =>
         obtain ⟨k,hk,rfl,HA2,hb⟩:=hrel
         by_cases hlt2:k < h.seals.length
         ·obtain ⟨x,hx⟩:=getElem_ex hlt2
          obtain ⟨g,o,rfl,hc⟩:=sgs_at (PlV.keep HV.out.seals hb) hx
          have hlt2I:(k:Int) < h.seals.length:=by omega
          have q0:=hc 0 (.int .u64 (x.r.a:Int)) rfl
          have q1:=hc 1 (.int .u64 (x.r.b:Int)) rfl
          have q2:=hc 2 (.int .u64 (x.r.c:Int)) rfl
          have q3:=hc 3 (.int .u64 (x.r.d:Int)) rfl
          have q4:=hc 4 (.int .u64 (x.s.a:Int)) rfl
          have q5:=hc 5 (.int .u64 (x.s.b:Int)) rfl
          have q6:=hc 6 (.int .u64 (x.s.c:Int)) rfl
          have q7:=hc 7 (.int .u64 (x.s.d:Int)) rfl
          have q8:=hc 8 (.int .i64 x.v) rfl
          simp only [Nat.add_zero] at q0
          have hxw:=HF.out.wf.seals x (List.mem_of_getElem? hx)
          have hbx:Below w.heap.size w (wr.alloc (.cells #[.int .u64 (x.r.a:Int),.int .u64 (x.r.b:Int),.int .u64 (x.r.c:Int),.int .u64 (x.r.d:Int),.int .u64 (x.s.a:Int),.int .u64 (x.s.b:Int),.int .u64 (x.s.c:Int),.int .u64 (x.s.d:Int),.int .i64 x.v] 53)):=hb.alloc hb.size _
          have HBX:=qh hbx
          have HXX:=qh hx
          cases hok:okSg x with
          | false =>
           have hR:R=false:=by
            rw [HOK.out]
            exact Bool.eq_false_iff.2 fun h1=>by rw [List.all_eq_true.1 h1 x (List.mem_of_getElem? HXX.out)] at hok;cases hok
           have HR:=qh hR
           have HC:=qh (fun W:World=>sbytes_no1 x hxw hok W)
           clear hR hok hxw hb hbx hc hx HA2
           go_wp2_with fail
           refine (HC.out _).mono ?_
           rintro e w1 ⟨rfl,hb1⟩
           have HB1:=qh (below_call HBX.out HBX.out.size hb1)
           clear hb1
           go_wp2_with fail
           go_ret
           exact ⟨by rw [HR.out];rfl,HB1.out⟩
          | true =>
           have HA3:Hid ((h.seals.take (k+1)).all okSg=true):=qh (by rw [take_snoc HXX.out,List.all_append,HA2.out];simp [hok])
           have HC:=qh (fun W:World=>sbytes_yes1 x hxw hok W)
           clear hok hxw hb hbx hc hx HA2
           go_wp2_with fail
           refine (HC.out _).mono ?_
           rintro e w1 ⟨rfl,hb1⟩
           have HB1:=qh (below_call HBX.out HBX.out.size hb1)
           clear hb1
           go_wp2_with fail
           go_roundw
           case rel=>exact ⟨k+1,by omega,by go_num,HA3,HB1.out⟩
           case measure=>simp [intOf];omega
         ·obtain rfl:k=h.seals.length:=by omega
          have hR:R=true:=by rw [HOK.out,← HA2.out,List.take_of_length_le qn]
          have HR:=qh hR
          have HB1:=qh hb
          clear hR hb
          go_wp2_with fail
          go_ret
          exact ⟨by rw [HR.out];rfl,HB1.out⟩
       | false =>
        have hvtn:((h.vote.length:Int) != 20)=true:=by rw [bne,hvt];rfl
        have hok:=HOK.out
        rw [show (h.vote.length == 20)=false by rw [beq_eq_false_iff_ne] at hvt ⊢;omega,Bool.false_or] at hok
        cases hve:(h.vote == []) with
        | false =>
         have hven:(h.vote != [])=true:=by rw [bne,hve];rfl
         have hR:R=false:=by rw [hok,hve];rfl
         have HR:=qh hR
         clear hR hok
         go_wp2_with fail
         go_ret
         exact ⟨by rw [HR.out];rfl,HB0.out⟩
        | true =>
         have hven:(h.vote != [])=false:=by rw [bne,hve];rfl
         rw [hve,Bool.true_and] at hok
         obtain ⟨ad,had⟩:∃ ad,h.add=ad:=⟨_,rfl⟩
         rw [had] at hok x8
         cases ad with
         | true =>
          have hR:R=false:=by rw [hok];rfl
          have HR:=qh hR
          clear hR hok had
          go_wp2_with fail
          go_ret
          exact ⟨by rw [HR.out];rfl,HB0.out⟩
         | false =>
          rw [show (!false)=true from rfl,Bool.true_and] at hok
          have HOK:=qh hok
          clear hok had
          go_wp2_with fail
          go_loopw [63] (fun x wr=>∃ k:Nat,k≤h.seals.length∧x=.int .i64 (k:Int)∧Hid ((h.seals.take k).all okSg=true)∧Below w.heap.size w wr) (fun x _=>h.seals.length - (intOf x).toNat)
          case atStart=>exact ⟨0,Nat.zero_le _,rfl,qh rfl,HB0.out⟩
          case round =>
           obtain ⟨k,hk,rfl,HA2,hb⟩:=hrel
           by_cases hlt2:k < h.seals.length
           ·obtain ⟨x,hx⟩:=getElem_ex hlt2
            obtain ⟨g,o,rfl,hc⟩:=sgs_at (PlV.keep HV.out.seals hb) hx
            have hlt2I:(k:Int) < h.seals.length:=by omega
            have q0:=hc 0 (.int .u64 (x.r.a:Int)) rfl
            have q1:=hc 1 (.int .u64 (x.r.b:Int)) rfl
            have q2:=hc 2 (.int .u64 (x.r.c:Int)) rfl
            have q3:=hc 3 (.int .u64 (x.r.d:Int)) rfl
            have q4:=hc 4 (.int .u64 (x.s.a:Int)) rfl
            have q5:=hc 5 (.int .u64 (x.s.b:Int)) rfl
            have q6:=hc 6 (.int .u64 (x.s.c:Int)) rfl
            have q7:=hc 7 (.int .u64 (x.s.d:Int)) rfl
            have q8:=hc 8 (.int .i64 x.v) rfl
            simp only [Nat.add_zero] at q0
            have hxw:=HF.out.wf.seals x (List.mem_of_getElem? hx)
            have hbx:Below w.heap.size w (wr.alloc (.cells #[.int .u64 (x.r.a:Int),.int .u64 (x.r.b:Int),.int .u64 (x.r.c:Int),.int .u64 (x.r.d:Int),.int .u64 (x.s.a:Int),.int .u64 (x.s.b:Int),.int .u64 (x.s.c:Int),.int .u64 (x.s.d:Int),.int .i64 x.v] 53)):=hb.alloc hb.size _
            have HBX:=qh hbx
            have HXX:=qh hx
            cases hok:okSg x with
            | false =>
             have hR:R=false:=by
              rw [HOK.out]
              exact Bool.eq_false_iff.2 fun h1=>by rw [List.all_eq_true.1 h1 x (List.mem_of_getElem? HXX.out)] at hok;cases hok
             have HR:=qh hR
             have HC:=qh (fun W:World=>sbytes_no1 x hxw hok W)
             clear hR hok hxw hb hbx hc hx HA2
             go_wp2_with fail
             refine (HC.out _).mono ?_
             rintro e w1 ⟨rfl,hb1⟩
             have HB1:=qh (below_call HBX.out HBX.out.size hb1)
             clear hb1
             go_wp2_with fail
             go_ret
             exact ⟨by rw [HR.out];rfl,HB1.out⟩
            | true =>
             have HA3:Hid ((h.seals.take (k+1)).all okSg=true):=qh (by rw [take_snoc HXX.out,List.all_append,HA2.out];simp [hok])
             have HC:=qh (fun W:World=>sbytes_yes1 x hxw hok W)
             clear hok hxw hb hbx hc hx HA2
             go_wp2_with fail
             refine (HC.out _).mono ?_
             rintro e w1 ⟨rfl,hb1⟩
             have HB1:=qh (below_call HBX.out HBX.out.size hb1)
             clear hb1
             go_wp2_with fail
             go_roundw
             case rel=>exact ⟨k+1,by omega,by go_num,HA3,HB1.out⟩
             case measure=>simp [intOf];omega
           ·obtain rfl:k=h.seals.length:=by omega
            have hR:R=true:=by rw [HOK.out,← HA2.out,List.take_of_length_le qn]
            have HR:=qh hR
            have HB1:=qh hb
            clear hR hb
            go_wp2_with fail
            go_ret
            exact ⟨by rw [HR.out];rfl,HB1.out⟩
/- The walks of header.writer's methods. -/
theorem own_ptr {w:World} {base m n c:Nat} {e:TypeId} {A:Option Addr} {xs:List Value} (h:w.ownsRow base e m (.slice A n c) n xs) (hn:0 < n):∃ g,A=some ⟨g,0,none⟩∧base≤g∧g < w.heap.size:=by
 rcases h.2 with ⟨_,h0⟩ | ⟨g,cap,cur,hv,hb,hh,_⟩
 ·omega
 ·injection hv with h1
  exact ⟨g,h1,hb,(qg hh)⟩
theorem own_row {w:World} {base m n c g:Nat} {e:TypeId} {xs:List Value} (h:w.ownsRow base e m (.slice (some ⟨g,0,none⟩) n c) n xs):∃ cur:Array Value,base≤g∧w.heap[g]? = some (.cells cur e (0,0))∧n≤c∧c≤maxLen∧cur.size=c * m∧cur.toList.take (n * m)=xs:=by
 rcases h.2 with ⟨hv,_⟩ | ⟨g',cap,cur,hv,hb,hh,h1,h2,h3,h4⟩
 ·cases hv
 ·injection hv with a1 a2 a3
  injection a1 with a1
  injection a1 with a1
  subst a1;subst a3
  exact ⟨cur,hb,hh,h1,h2,h3,h4⟩
theorem own_cell {w:World} {base m n c g:Nat} {e:TypeId} {xs:List Value} (h:w.ownsRow base e m (.slice (some ⟨g,0,none⟩) n c) n xs) {j:Nat} {u:Value} (hj:xs[j]? = some u):w.cell? ⟨g,j,none⟩=some u:=by
 obtain ⟨cur,_,hh,_,_,_,h4⟩:=own_row h
 rw [cell_of_row _ _ _ _ _ _ hh]
 rw [← h4,List.getElem?_take] at hj
 split at hj
 ·simpa using hj
 ·cases hj
theorem own_free {w:World} {base m n c g:Nat} {e:TypeId} {xs:List Value} (h:w.ownsRow base e m (.slice (some ⟨g,0,none⟩) n c) n xs) (j:Nat):w.frozen? ⟨g,j,none⟩=false:=by
 obtain ⟨cur,_,hh,_⟩:=own_row h
 exact rf hh j
theorem own_set {w:World} {base m n c g:Nat} {e:TypeId} {xs:List Value} (h:w.ownsRow base e m (.slice (some ⟨g,0,none⟩) n c) n xs) (j:Nat) (u:Value):(w.setCell ⟨g,j,none⟩ u).ownsRow base e m (.slice (some ⟨g,0,none⟩) n c) n (xs.set j u):=by
 obtain ⟨cur,hb,hh,h1,h2,h3,h4⟩:=own_row h
 refine ⟨by rw [List.length_set];exact h.1,.inr ⟨g,c,cur.setIfInBounds j u,rfl,hb,heap_setCell_here hh u,h1,h2,by simpa using h3,?_⟩⟩
 rw [Array.toList_setIfInBounds,List.take_set,h4]
theorem app_get0 {xs:List Value} {k:Nat} {a b c:Value} (h:xs.length=k * 3):(xs ++ [a,b,c])[k * 3]? = some a:=by rw [List.getElem?_append_right (by omega),h,Nat.sub_self];rfl
theorem app_get1 {xs:List Value} {k:Nat} {a b c:Value} (h:xs.length=k * 3):(xs ++ [a,b,c])[k * 3+1]? = some b:=by rw [List.getElem?_append_right (by omega),h,Nat.add_sub_cancel_left];rfl
theorem app_get2 {xs:List Value} {k:Nat} {a b c:Value} (h:xs.length=k * 3):(xs ++ [a,b,c])[k * 3+2]? = some c:=by rw [List.getElem?_append_right (by omega),h,Nat.add_sub_cancel_left];rfl
/-- a writer in memory: its fields in blocks from N on, itself at P -/
structure WrV (N P:Nat) (w:World) (fs:List Fd) (A:Option Addr) (c:Nat) (xs:List Value):Prop where
 cell:w.heap[P]? = some (.cells #[.slice A fs.length c] 105 (0,0))
 own:w.ownsRow N 79 3 (.slice A fs.length c) fs.length xs
 rep:RepN (RowS N (.slice A fs.length c)) w 3 (fdsD fs) xs
 le:N≤w.heap.size
 lt:P < N
def Aside (N P:Nat) (w w':World):Prop:=Below P w w'∧∀ b,b < N→b≠P→w'.heap[b]? = w.heap[b]?
def WrPost (N P:Nat) (fs:List Fd) (w:World) (e:Ending) (w':World):Prop:=e=.returned (.tuple #[])∧(∃ A c xs,WrV N P w' fs A c xs)∧Aside N P w w'
theorem app_set3 {xs:List Value} {k:Nat} {a b c a' b' c':Value} (h:xs.length=k * 3):(((xs ++ [a,b,c]).set (k * 3) a').set (k * 3+1) b').set (k * 3+2) c'=xs ++ [a',b',c']:=by
 rw [List.set_append_right _ _ (by omega),h,Nat.sub_self,List.set_cons_zero,List.set_append_right _ _ (by omega),h,Nat.add_sub_cancel_left,List.set_append_right _ _ (by omega),h,Nat.add_sub_cancel_left]
 rfl
/-- what a field stored behind the others, and the row stored in the writer, make -/
theorem wr_done {N P g k c:Nat} {w w4 W:World} {fs:List Fd} {f:Fd} {xs:List Value} {u a b d a' b' d':Value} (hk:fs.length=k) (hxl:xs.length=k * 3) (hN:N≤g) (hPN:P < N) (hle:N≤w4.heap.size)
  (hcell:w4.heap[P]? = some (.cells #[u] 105 (0,0))) (hown:w4.ownsRow N 79 3 (.slice (some ⟨g,0,none⟩) (k+1) c) (k+1) (xs ++ [a,b,d]))
  (hrep:RepN (RowS N (.slice (some ⟨g,0,none⟩) (k+1) c)) w4 3 (fdsD fs) xs) (hfd:Rep (RowS N (.slice (some ⟨g,0,none⟩) (k+1) c)) w4 (fdD f) [a',b',d'])
  (has:Aside N P w w4)
  (hW:W=(((w4.setCell ⟨P,0,none⟩ (.slice (some ⟨g,0,none⟩) (k+1) c)).setCell ⟨g,k * 3,none⟩ a').setCell ⟨g,k * 3+1,none⟩ b').setCell ⟨g,k * 3+2,none⟩ d' ∨
   W=(((w4.setCell ⟨g,k * 3,none⟩ a').setCell ⟨g,k * 3+1,none⟩ b').setCell ⟨g,k * 3+2,none⟩ d').setCell ⟨P,0,none⟩ (.slice (some ⟨g,0,none⟩) (k+1) c)) :
  (∃ A c xs,WrV N P W (fs ++ [f]) A c xs)∧Aside N P w W:=by
 have hne:P≠g:=by omega
 have hother:∀ q,q≠P→q≠g→W.heap[q]? = w4.heap[q]?:=fun q h1 h2=>by
  rcases hW with rfl | rfl
  ·rw [heap_set_ne h2,heap_set_ne h2,heap_set_ne h2,heap_set_ne h1]
  ·rw [heap_set_ne h1,heap_set_ne h2,heap_set_ne h2,heap_set_ne h2]
 have hsz:W.heap.size=w4.heap.size:=by rcases hW with rfl | rfl <;> simp [World.setCell]
 have hlen:(fs ++ [f]).length=k+1:=by simp [hk]
 have hB:Below P w4 W:=by
  rcases hW with rfl | rfl
  ·exact ((((Below.refl P w4).setCell (p:=⟨P,0,none⟩) qn _).setCell (p:=⟨g,k * 3,none⟩) (by show P≤g;omega) _).setCell (p:=⟨g,k * 3+1,none⟩) (by show P≤g;omega) _).setCell (p:=⟨g,k * 3+2,none⟩) (by show P≤g;omega) _
  ·exact ((((Below.refl P w4).setCell (p:=⟨g,k * 3,none⟩) (by show P≤g;omega) _).setCell (p:=⟨g,k * 3+1,none⟩) (by show P≤g;omega) _).setCell (p:=⟨g,k * 3+2,none⟩) (by show P≤g;omega) _).setCell (p:=⟨P,0,none⟩) qn _
 refine ⟨⟨some ⟨g,0,none⟩,c,xs ++ [a',b',d'],⟨?_,?_,?_,by omega,hPN⟩⟩,has.1.trans hB,fun q h1 h2=>(hother q h2 (by omega)).trans (has.2 q h1 h2)⟩
 ·rw [hlen]
  rcases hW with rfl | rfl
  ·rw [heap_set_ne hne,heap_set_ne hne,heap_set_ne hne]
   exact heap_setCell_here hcell (i:=0) _
  ·exact heap_setCell_here ((heap_set_ne hne _).trans ((heap_set_ne hne _).trans ((heap_set_ne hne _).trans hcell))) (i:=0) _
 ·rw [hlen,← app_set3 (a:=a) (b:=b) (c:=d) hxl]
  rcases hW with rfl | rfl
  ·exact own_set (own_set (own_set (own_setOther hown hPN _) _ _) _ _) _ _
  ·exact own_setOther (own_set (own_set (own_set hown _ _) _ _) _ _) hPN _
 ·have hm:∀ q,q < w4.heap.size→RowS N (.slice (some ⟨g,0,none⟩) (k+1) c) q→RowS N (.slice (some ⟨g,0,none⟩) (fs ++ [f]).length c) q∧W.heap[q]? = w4.heap[q]?:=fun q _ hq=>by
   have h2:q≠g:=fun e=>hq.2 (by rw [e];rfl)
   exact ⟨⟨hq.1,fun e=>h2 (by injection e with e;exact e.symm)⟩,hother q (by have:=hq.1;omega) h2⟩
  rw [fdsD_append]
  exact RepN.snoc (Rep.mono hfd hm) rfl (RepN.mono hrep hm)
theorem aside_app {N P n m:Nat} {w w1 w2:World} {v:Value} {xs:List Value} {e:TypeId} (hle:N≤w.heap.size) (hPN:P < N) (hb:Below w.heap.size w w1) (hown:w1.ownsRow N e m v n xs) (hg:w1.grownBy w2 v.ownBlock):Aside N P w w2 :=
 ⟨below_app (hb.mono (by omega)) hown hg (by have:=hb.size;omega) (by omega),fun q h1 h2=>(hg.block q (by have:=hb.size;omega) (fun e=>by have:=(hown.lt _ e.symm).1;omega)).trans (hb.block q (by omega))⟩
theorem text_any (s:Bytes) (N P:Nat) (fs:List Fd) (hk:fs.length≤1000) (A:Option Addr) (c:Nat) (xs:List Value) (w:World) (hw:WrV N P w fs A c xs) :
  Calls Tryz.prog 67 #[.pointer (some ⟨P,0,none⟩),.string (bs s)] w (WrPost N P (fs ++ [⟨0,s,[]⟩]) w):=by
 obtain ⟨hP,hown,hrep,hle,hlt⟩:=hw
 obtain ⟨k,hkk⟩:∃ k,fs.length=k:=⟨_,rfl⟩
 rw [hkk] at hP hown hrep hk
 have hxl:xs.length=k * 3:=hown.1
 have cP:w.cell? ⟨P,0,none⟩=some (.slice A k c):=rc hP 0 rfl
 have fP:=rf hP 0
 have hPl:P < w.heap.size:=(qg hP)
 have HP:=qh hP
 have HO:=qh hown
 have HR:=qh hrep
 have HKK:=qh hkk
 have HXL:=qh hxl
 clear hP hown hrep hkk hxl
 go_enter Tryz.func67,Tryz.ntmps67
 go_wp2_with fail
 go_region_law (refine stl_append elField rfl rfl N ((HO.out.drew).alloc _) rfl (m:=1) [.int .u64 0,.string (bs []),.slice none 0 0] rfl rfl (lies_new _ _ _) ?_ ?_ ?_ ?_ ?_;(intro u hu;simp at hu;rcases hu with rfl | rfl | rfl <;> rfl);(simp only [maxLen];omega);omega;(simp;omega);intro v1 w4 hown1 hg1 hat1;obtain ⟨A4,c4,rfl⟩:=own_form hown1;obtain ⟨g4,rfl,hg4,hgl4⟩:=own_ptr hown1 (by omega);have e0:=own_cell hown1 (j:=k * 3) (app_get0 HXL.out);have e1:=own_cell hown1 (j:=k * 3+1) (app_get1 HXL.out);have e2:=own_cell hown1 (j:=k * 3+2) (app_get2 HXL.out);have q0:=own_free hown1 (k * 3);have q1:=own_free hown1 (k * 3+1);have q2:=own_free hown1 (k * 3+2);have hP4:=(hg1.block P (Nat.lt_of_lt_of_le hPl (by simp)) (fun e=>by have:=(HO.out.lt _ e.symm).1;omega)).trans ((heap_alloc_old _ _ hPl).trans HP.out);have cP4:=rc (u:=.slice A k c) hP4 0 rfl;have fP4:=rf hP4 0;have hne:¬ g4=P:=(by omega);have hne2:¬ P=g4:=(by omega);have hkI:(k:Int) < (k:Int)+1:=(by omega);have HP4:=qh hP4;have HO1:=qh hown1;clear hP4)
 all_goals (go_end0;refine ⟨rfl,wr_done HKK.out HXL.out hg4 hlt (Nat.le_trans hle (Nat.le_trans (by simp) hg1.size)) HP4.out HO1.out (repN_app (HR.out.keep ((Below.refl _ _).drew.alloc qn _)) hg1 hat1) (fd_rep0 0 s) (aside_app hle hlt ((Below.refl _ _).drew.alloc qn _) ((HO.out.drew).alloc _) hg1) ?_⟩;first | exact .inl rfl | exact .inr rfl)
theorem number_any (n:Nat) (N P:Nat) (fs:List Fd) (hk:fs.length≤1000) (A:Option Addr) (c:Nat) (xs:List Value) (w:World) (hw:WrV N P w fs A c xs) :
  Calls Tryz.prog 68 #[.pointer (some ⟨P,0,none⟩),.int .u64 (n:Int)] w (WrPost N P (fs ++ [⟨n,[],[]⟩]) w):=by
 obtain ⟨hP,hown,hrep,hle,hlt⟩:=hw
 obtain ⟨k,hkk⟩:∃ k,fs.length=k:=⟨_,rfl⟩
 rw [hkk] at hP hown hrep hk
 have hxl:xs.length=k * 3:=hown.1
 have cP:w.cell? ⟨P,0,none⟩=some (.slice A k c):=rc hP 0 rfl
 have fP:=rf hP 0
 have hPl:P < w.heap.size:=(qg hP)
 have HP:=qh hP
 have HO:=qh hown
 have HR:=qh hrep
 have HKK:=qh hkk
 have HXL:=qh hxl
 clear hP hown hrep hkk hxl
 go_enter Tryz.func68,Tryz.ntmps68
 go_wp2_with fail
 go_region_law (refine stl_append elField rfl rfl N ((HO.out.drew).alloc _) rfl (m:=1) [.int .u64 0,.string (bs []),.slice none 0 0] rfl rfl (lies_new _ _ _) ?_ ?_ ?_ ?_ ?_;(intro u hu;simp at hu;rcases hu with rfl | rfl | rfl <;> rfl);(simp only [maxLen];omega);omega;(simp;omega);intro v1 w4 hown1 hg1 hat1;obtain ⟨A4,c4,rfl⟩:=own_form hown1;obtain ⟨g4,rfl,hg4,hgl4⟩:=own_ptr hown1 (by omega);have e0:=own_cell hown1 (j:=k * 3) (app_get0 HXL.out);have e1:=own_cell hown1 (j:=k * 3+1) (app_get1 HXL.out);have e2:=own_cell hown1 (j:=k * 3+2) (app_get2 HXL.out);have q0:=own_free hown1 (k * 3);have q1:=own_free hown1 (k * 3+1);have q2:=own_free hown1 (k * 3+2);have hP4:=(hg1.block P (Nat.lt_of_lt_of_le hPl (by simp)) (fun e=>by have:=(HO.out.lt _ e.symm).1;omega)).trans ((heap_alloc_old _ _ hPl).trans HP.out);have cP4:=rc (u:=.slice A k c) hP4 0 rfl;have fP4:=rf hP4 0;have hne:¬ g4=P:=(by omega);have hne2:¬ P=g4:=(by omega);have hkI:(k:Int) < (k:Int)+1:=(by omega);have HP4:=qh hP4;have HO1:=qh hown1;clear hP4)
 all_goals (go_end0;refine ⟨rfl,wr_done HKK.out HXL.out hg4 hlt (Nat.le_trans hle (Nat.le_trans (by simp) hg1.size)) HP4.out HO1.out (repN_app (HR.out.keep ((Below.refl _ _).drew.alloc qn _)) hg1 hat1) (fd_rep0 n []) (aside_app hle hlt ((Below.refl _ _).drew.alloc qn _) ((HO.out.drew).alloc _) hg1) ?_⟩;first | exact .inl rfl | exact .inr rfl)
def valsC (l:List Bytes):List Value:=l.flatMap fun a=>[.int .u64 0,.string (bs a),.slice none 0 0]
theorem valsC_snoc (l:List Bytes) (a:Bytes):valsC (l ++ [a])=valsC l ++ [.int .u64 0,.string (bs a),.slice none 0 0]:=by simp [valsC]
theorem rep_val {S:Nat→Prop} {w:World} (a:Bytes):Rep S w (lfD (valF a)) [.int .u64 0,.string (bs a),.slice none 0 0]:=fd_rep0 0 a
theorem repN_valsC {S:Nat→Prop} {w:World}:∀ l:List Bytes,RepN S w 3 (l.map fun a=>lfD (valF a)) (valsC l)
 | []=>.nil
 | a :: l=>.cons (rep_val a) rfl (repN_valsC l)
theorem wlist_any (l:List Bytes) (hl:l.length≤1000) (Al:Option Addr) (cl:Nat) (N P:Nat) (fs:List Fd) (hk:fs.length≤1000) (A:Option Addr) (c:Nat) (xs:List Value) (w:World) (hw:WrV N P w fs A c xs) (hv:StrV Any w l Al cl) :
  Calls Tryz.prog 69 #[.pointer (some ⟨P,0,none⟩),.slice Al l.length cl] w (WrPost N P (fs ++ [⟨0,[],l.map valF⟩]) w):=by
 have HWR:=qh hw
 have hX:=heap_alloc_new w (.cells #[.int .u64 0,.string ⟨#[]⟩,.slice none 0 0] 79)
 have HX:=qh hX
 have HB:=qh ((Below.refl w.heap.size w).alloc qn (.cells #[.int .u64 0,.string ⟨#[]⟩,.slice none 0 0] 79))
 have HV:=qh hv
 clear hX hw hv
 have hl63:(l.length:Int)≤1000:=by omega
 go_enter Tryz.func69,Tryz.ntmps69
 go_wp2_with fail
 generalize hW0:w.alloc (.cells #[.int .u64 0,.string ⟨#[]⟩,.slice none 0 0] 79)=W0 at HX HB ⊢
 have hz0:W0.heap.size=w.heap.size+1:=by rw [← hW0];simp
 have HZ0:=qh hz0
 clear hW0 hz0
 go_loopw [9] (fun x wr=>∃ (i:Nat) (u:Value),x=.int .i64 (i:Int)∧i≤l.length∧wr.heap[w.heap.size]? = some (.cells #[.int .u64 0,.string ⟨#[]⟩,u] 79 (0,0))∧wr.ownsRow (w.heap.size+1) 79 3 u i (valsC (l.take i))∧Below w.heap.size w wr∧w.heap.size+1≤wr.heap.size) (fun x _=>l.length - (intOf x).toNat)
 case atStart=>exact ⟨0,_,rfl,Nat.zero_le _,HX.out,World.ownsRow_nil _ _ _ _,HB.out,by rw [HZ0.out];omega⟩
 case round =>
  clear HX HB HZ0
  obtain ⟨i,u,rfl,hi,hX,hown,hB,hsz⟩:=hrel
  obtain ⟨A',c',rfl⟩:=own_form hown
  have hXl:=(qg hX)
  by_cases hlt:i < l.length
  ·obtain ⟨a,ha⟩:=getElem_ex hlt
   obtain ⟨g,o,rfl,_,hc⟩:=StrV.at_ (StrV.keep HV.out hB) ha
   have hltI:(i:Int) < l.length:=by omega
   have x2:wr.cell? ⟨w.heap.size,2,none⟩=some (.slice A' i c'):=rc2 hX
   have HA:=qh (take_snoc ha)
   have HX:=qh hX
   have HO:=qh hown
   have HB:=qh hB
   clear hX hown hB ha
   go_wp2_with (at_builtin;refine wpl_append elField rfl rfl (w.heap.size+1) (HO.out.alloc _) rfl (m:=1) [.int .u64 0,.string (bs a),.slice none 0 0] rfl rfl (lies_new _ _ _) ?_ ?_ ?_ ?_ ?_;(intro u hu;simp at hu;rcases hu with rfl | rfl | rfl <;> rfl);(simp only [maxLen];omega);omega;(simp;omega);intro v1 w8 hown1 hg1 hat1;obtain ⟨A3,c3,rfl⟩:=own_form hown1;have hX8:=(hg1.block w.heap.size (by simp;omega) (fun e=>by have:=(HO.out.lt _ e.symm).1;omega)).trans ((heap_alloc_old _ _ hXl).trans HX.out);have d2:=rc2 hX8;have df:=rf hX8 2;have HX8:=qh hX8;clear hX8)
   have hba:Below wr.heap.size wr (wr.alloc (.cells #[.int .u64 0,.string (bs a),.slice none 0 0] 79)):=(Below.refl _ _).alloc qn _
   have hB8:=below_app (below_call HB.out HB.out.size hba) (own_keep HO.out hba) hg1 (by simp;omega) (by omega)
   have hs8:=hg1.size
   rw [show valsC (l.take i) ++ [.int .u64 0,.string (bs a),.slice none 0 0]=valsC (l.take (i+1)) by rw [HA.out,valsC_snoc]] at hown1
   have HO1:=qh hown1
   clear hown1
   go_roundw
   case rel=>exact ⟨i+1,_,by go_num,hlt,heap_setCell_here HX8.out _,own_setOther HO1.out (Nat.lt_succ_self _) _,hB8.setCell (p:=⟨w.heap.size,2,none⟩) qn _,by have h9:=hba.size;simp [World.setCell];omega⟩
   case measure=>simp [intOf];omega
  ·obtain rfl:i=l.length:=by omega
   rw [List.take_of_length_le qn] at hown
   obtain ⟨hP,hwo,hwr,hle,hltP⟩:=HWR.out
   obtain ⟨k,hkk⟩:∃ k,fs.length=k:=⟨_,rfl⟩
   rw [hkk] at hP hwo hwr hk
   have hxl:xs.length=k * 3:=hwo.1
   have hPl:P < w.heap.size:=(qg hP)
   have hPr:=(hB.block P hPl).trans hP
   have cP:wr.cell? ⟨P,0,none⟩=some (.slice A k c):=rc hPr 0 rfl
   have fP:=rf hPr 0
   have x0:wr.cell? ⟨w.heap.size,0,none⟩=some (.int .u64 0):=rc0 hX
   have x1:wr.cell? ⟨w.heap.size,1,none⟩=some (.string ⟨#[]⟩):=rc1 hX
   have x2:wr.cell? ⟨w.heap.size,2,none⟩=some (.slice A' l.length c'):=rc2 hX
   have hPlr:P < wr.heap.size:=Nat.lt_of_lt_of_le hPl hB.size
   have HFD:Hid (Rep (fun b=>w.heap.size+1≤b∧b < wr.heap.size) wr (fdD ⟨0,[],l.map valF⟩) [.int .u64 0,.string (bs []),.slice A' l.length c']):=qh (by
    have h1:=rep_own (S:=fun b=>w.heap.size+1≤b∧b < wr.heap.size) (es:=(l.map valF).map lfD) hown (by rw [List.map_map];exact repN_valsC l) (by simp) (fun b h1 h2=>⟨h1,h2⟩)
    have h2:=fd_rep (f:=⟨0,[],l.map valF⟩) (A:=A') (c:=c') (S:=fun b=>w.heap.size+1≤b∧b < wr.heap.size) (w:=wr) (by unfold LfsV;rw [List.length_map];exact h1)
    unfold fdC at h2
    simp only [List.length_map] at h2
    exact h2)
   have HP:=qh hPr
   have HO:=qh (own_keep hwo hB)
   have HR:=qh (hwr.keep hB)
   have HKK:=qh hkk
   have HXL:=qh hxl
   have HB:=qh hB
   have HWO:=qh hwo
   clear hP hwo hwr hkk hxl hPr hX hown hB
   go_wp2_with fail
   go_region_law (refine stl_append elField rfl rfl N ((HO.out.drew).alloc _) rfl (m:=1) [.int .u64 0,.string (bs []),.slice none 0 0] rfl rfl (lies_new _ _ _) ?_ ?_ ?_ ?_ ?_;(intro u hu;simp at hu;rcases hu with rfl | rfl | rfl <;> rfl);(simp only [maxLen];omega);omega;(simp;omega);intro v1 w4 hown1 hg1 hat1;obtain ⟨A4,c4,rfl⟩:=own_form hown1;obtain ⟨g4,rfl,hg4,hgl4⟩:=own_ptr hown1 (by omega);have e0:=own_cell hown1 (j:=k * 3) (app_get0 HXL.out);have e1:=own_cell hown1 (j:=k * 3+1) (app_get1 HXL.out);have e2:=own_cell hown1 (j:=k * 3+2) (app_get2 HXL.out);have q0:=own_free hown1 (k * 3);have q1:=own_free hown1 (k * 3+1);have q2:=own_free hown1 (k * 3+2);have hP4:=(hg1.block P (Nat.lt_of_lt_of_le hPlr (by simp)) (fun e=>by have:=(HO.out.lt _ e.symm).1;omega)).trans ((heap_alloc_old _ _ hPlr).trans HP.out);have cP4:=rc (u:=.slice A k c) hP4 0 rfl;have fP4:=rf hP4 0;have hne:¬ g4=P:=(by omega);have hne2:¬ P=g4:=(by omega);have hkI:(k:Int) < (k:Int)+1:=(by omega);have HP4:=qh hP4;have HO1:=qh hown1;clear hP4)
   all_goals
    have hfd4:Rep (RowS N (.slice (some ⟨g4,0,none⟩) (k+1) c4)) w4 (fdD ⟨0,[],l.map valF⟩) [.int .u64 0,.string (bs []),.slice A' l.length c']:=HFD.out.mono fun b hb hs=>by
     have hg4b:g4≠b:=fun e=>by
      rcases hat1 with h1 | h1
      ·have h2:(Value.slice A k c).ownBlock=some g4:=h1.symm
       have:=(HWO.out.lt _ h2).2
       omega
      ·injection h1 with h1
       simp at h1
       omega
     exact ⟨⟨by omega,fun e=>hg4b (by injection e)⟩,(hg1.block b (Nat.lt_of_lt_of_le hb (by simp)) (fun e=>by have:=(HWO.out.lt _ e.symm).2;omega)).trans (heap_alloc_old _ _ hb)⟩
    go_end0
    refine ⟨rfl,wr_done HKK.out HXL.out hg4 hltP (by have:=hg1.size;have:=HB.out.size;simp at this ⊢;omega) HP4.out HO1.out (repN_app (HR.out.keep ((Below.refl _ _).drew.alloc qn _)) hg1 hat1) hfd4 (aside_app hle hltP ((HB.out.drew).alloc HB.out.size _) ((HO.out.drew).alloc _) hg1) ?_⟩
    first | exact .inl rfl | exact .inr rfl
/- The walks of header.record, Bytes. -/
def Kp (N P:Nat) (w w':World):Prop:=∀ b,b < N→b≠P→w'.heap[b]? = w.heap[b]?
def strL (l:List Bytes):List Value:=l.map fun s=>Value.string (bs s)
theorem strL_snoc (l:List Bytes) (a:Bytes):strL (l ++ [a])=strL l ++ [.string (bs a)]:=by simp [strL]
theorem repN_strL {S:Nat→Prop} {w:World}:∀ l:List Bytes,RepN S w 1 (strsD l) (strL l)
 | []=>.nil
 | a :: l=>.cons (cs:=[.string (bs a)]) (.v _ rfl) rfl (repN_strL l)
theorem seals_val (l:List Sg):(l.map sgB).map valF=l.map sealF:=by rw [List.map_map];rfl
theorem hwrite_lit (h:Hd) (hw:h.Wf) (hk:OkHd h) (A:Option Addr) (c:Nat) (w:World) (hv:FdsV Any w (hdF h) A c) :
  Calls Tryz.prog 44 #[.string ⟨#[104,110,104,104,97,98,42,97,98,110,110,42,115]⟩,.slice A 11 c] w fun e w'=>e=.returned (.tuple #[.string (bs (hdB h)),.int .i64 0])∧Below w.heap.size w w':=by
 have hv6:h.vals.length≤16:=(okVals_len hk.vals).2
 have hs16:=hk.seals
 have h1:=fWrite_any hdK hdK_ok (by decide) (by decide) (hdF h) (hdF_small hw) (by show 11≤1000;decide) (fun f hf=>by
  simp only [hdF,List.mem_cons,List.not_mem_nil,or_false] at hf
  rcases hf with rfl | rfl | rfl | rfl | rfl | rfl | rfl | rfl | rfl | rfl | rfl <;> first | exact Nat.zero_le _ | (simp only [List.length_map];omega)) A c w hv
 have h2:fwP hdK (hdF h)=(hdB h,0):=by
  unfold fwP
  rw [if_pos (hdF_fits hk),encR_fine (by decide) (hdF_fits hk) (hdF_small hw) (by have:=hdB_len hk hw;unfold hdB at this;omega)]
  rfl
 rw [h2] at h1
 exact h1
theorem record_true (h:Hd) (hw:h.Wf) (hk:OkHd h) (had:h.add=true) (Av As:Option Addr) (cv cs:Nat) (w:World) (hv:HdV Any w h Av cv As cs) :
  Calls Tryz.prog 41 #[.agg #[.string (bs h.parent),.int .u64 (h.height:Int),.string (bs h.root),.string (bs h.txs),.string (bs h.prop),.string (bs h.van),.slice Av h.vals.length cv,.string (bs h.vote),.bool true,.int .u64 (h.round:Int),.slice As h.seals.length cs]] w fun e w'=>e=.returned (.tuple #[.string (bs (hdB h)),.int .i64 0])∧Below w.heap.size w w':=by
 have HVL:Hid (h.vals.length≤1000):=qh (by have:=(okVals_len hk.vals).2;omega)
 have HSL:Hid ((h.seals.map sgB).length≤1000):=qh (by have:=hk.seals;rw [List.length_map];omega)
 have hs16:=hk.seals
 have hs63:(h.seals.length:Int)≤16:=by omega
 have HV:=qh hv
 have HSW:=qh (fun x hx=>(⟨hw.seals x hx,hk.each x hx⟩:x.Wf∧okSg x=true))
 have HWR:=qh (fun A c W hv=>hwrite_lit h hw hk A c W hv)
 have h0:=heap_alloc_new w (.cells #[.string (bs h.parent),.int .u64 (h.height:Int),.string (bs h.root),.string (bs h.txs),.string (bs h.prop),.string (bs h.van),.slice Av h.vals.length cv,.string (bs h.vote),.bool true,.int .u64 (h.round:Int),.slice As h.seals.length cs] 26)
 have h1:=heap_alloc_new (w.alloc (.cells #[.string (bs h.parent),.int .u64 (h.height:Int),.string (bs h.root),.string (bs h.txs),.string (bs h.prop),.string (bs h.van),.slice Av h.vals.length cv,.string (bs h.vote),.bool true,.int .u64 (h.round:Int),.slice As h.seals.length cs] 26)) (.cells #[.slice none 0 0] 105)
 have h0:=(heap_alloc_old _ (.cells #[.slice none 0 0] 105) (qg h0)).trans h0
 simp only [World.size_alloc] at h1
 have hb:=((Below.refl w.heap.size w).alloc qn (.cells #[.string (bs h.parent),.int .u64 (h.height:Int),.string (bs h.root),.string (bs h.txs),.string (bs h.prop),.string (bs h.van),.slice Av h.vals.length cv,.string (bs h.vote),.bool true,.int .u64 (h.round:Int),.slice As h.seals.length cs] 26)).alloc (by simp) (.cells #[.slice none 0 0] 105)
 have hz:((w.alloc (.cells #[.string (bs h.parent),.int .u64 (h.height:Int),.string (bs h.root),.string (bs h.txs),.string (bs h.prop),.string (bs h.van),.slice Av h.vals.length cv,.string (bs h.vote),.bool true,.int .u64 (h.round:Int),.slice As h.seals.length cs] 26)).alloc (.cells #[.slice none 0 0] 105)).heap.size=w.heap.size+2:=by simp
 have HX:=qh h0
 have HP:=qh h1
 have HB:=qh hb
 have HZ:=qh hz
 have x0:=rc (u:=.string (bs h.parent)) h0 0 rfl
 have x1:=rc (u:=.int .u64 (h.height:Int)) h0 1 rfl
 have x2:=rc (u:=.string (bs h.root)) h0 2 rfl
 have x3:=rc (u:=.string (bs h.txs)) h0 3 rfl
 have x4:=rc (u:=.string (bs h.prop)) h0 4 rfl
 have x5:=rc (u:=.string (bs h.van)) h0 5 rfl
 have x6:=rc (u:=.slice Av h.vals.length cv) h0 6 rfl
 have x7:=rc (u:=.string (bs h.vote)) h0 7 rfl
 have x8:=rc (u:=.bool true) h0 8 rfl
 have x9:=rc (u:=.int .u64 (h.round:Int)) h0 9 rfl
 have x10:=rc (u:=.slice As h.seals.length cs) h0 10 rfl
 clear h0 h1 hb hz hv hw hk hs16
 have hmf:∀ (fn:Fn) (first cap:Array Value) (w:World),(Instr.makeFunc fn first cap).run Tryz.prog w=.ok (.func fn first cap) w:=fun _ _ _ _=>rfl
 have HAD:=qh had
 clear had
 go_enter Tryz.func41,Tryz.ntmps41
 go_wp2_with fail
 generalize (w.alloc (.cells #[.string (bs h.parent),.int .u64 (h.height:Int),.string (bs h.root),.string (bs h.txs),.string (bs h.prop),.string (bs h.van),.slice Av h.vals.length cv,.string (bs h.vote),.bool true,.int .u64 (h.round:Int),.slice As h.seals.length cs] 26)).alloc (.cells #[.slice none 0 0] 105)=W0 at HX HP HB HZ ⊢
 go_loopw [8,24] (fun u a wr=>∃ (k:Nat) ,a=.int .i64 (k:Int)∧k≤h.seals.length∧wr.heap[w.heap.size]? = some (.cells #[.string (bs h.parent),.int .u64 (h.height:Int),.string (bs h.root),.string (bs h.txs),.string (bs h.prop),.string (bs h.van),.slice Av h.vals.length cv,.string (bs h.vote),.bool true,.int .u64 (h.round:Int),.slice As h.seals.length cs] 26 (0,0))∧wr.heap[w.heap.size+1]? = some (.cells #[.slice none 0 0] 105 (0,0))∧wr.ownsRow (w.heap.size+2) 9 1 u k (strL ((h.seals.take k).map sgB))∧Below w.heap.size w wr∧w.heap.size+2≤wr.heap.size) (fun _ a _=>h.seals.length - (intOf a).toNat)
 case atStart=>exact ⟨0,rfl,Nat.zero_le _,HX.out,HP.out,World.ownsRow_nil _ _ _ _,HB.out,by rw [HZ.out];omega⟩
 case round =>
  clear HX HP HB HZ
  obtain ⟨k,rfl,hk,hX,hP,hown,hB,hsz⟩:=hrel
  obtain ⟨A',c',rfl⟩:=own_form hown
  by_cases hlt:k < h.seals.length
  ·obtain ⟨x,hx⟩:=getElem_ex hlt
   obtain ⟨g,o,rfl,hc⟩:=sgs_at (PlV.keep HV.out.seals hB) hx
   have hltI:(k:Int) < h.seals.length:=by omega
   have q0:=hc 0 (.int .u64 (x.r.a:Int)) rfl
   have q1:=hc 1 (.int .u64 (x.r.b:Int)) rfl
   have q2:=hc 2 (.int .u64 (x.r.c:Int)) rfl
   have q3:=hc 3 (.int .u64 (x.r.d:Int)) rfl
   have q4:=hc 4 (.int .u64 (x.s.a:Int)) rfl
   have q5:=hc 5 (.int .u64 (x.s.b:Int)) rfl
   have q6:=hc 6 (.int .u64 (x.s.c:Int)) rfl
   have q7:=hc 7 (.int .u64 (x.s.d:Int)) rfl
   have q8:=hc 8 (.int .i64 x.v) rfl
   simp only [Nat.add_zero] at q0
   obtain ⟨hxw,hxk⟩:=HSW.out x (List.mem_of_getElem? hx)
   have HA:=qh (take_snoc hx)
   have HC:=qh (fun W:World=>sbytes_yes1 x hxw hxk W)
   have HX:=qh hX
   have HP:=qh hP
   have HO:=qh hown
   have HB:=qh hB
   clear hX hP hown hB hc hx hxw hxk
   go_wp2_with fail
   refine (HC.out _).mono ?_
   rintro e w2 ⟨rfl,hb2⟩
   have hb2':=below_call ((Below.refl wr.heap.size wr).alloc qn (.cells #[.int .u64 (x.r.a:Int),.int .u64 (x.r.b:Int),.int .u64 (x.r.c:Int),.int .u64 (x.r.d:Int),.int .u64 (x.s.a:Int),.int .u64 (x.s.b:Int),.int .u64 (x.s.c:Int),.int .u64 (x.s.d:Int),.int .i64 x.v] 53)) (by simp) hb2
   have HO2:=qh (own_keep HO.out hb2')
   have HX2:=qh ((hb2'.block _ (qg HX.out)).trans HX.out)
   have HP2:=qh ((hb2'.block _ (qg HP.out)).trans HP.out)
   have HB2:=qh (below_call HB.out HB.out.size hb2')
   have hs2:=Nat.le_trans hsz hb2'.size
   clear hb2 hb2' HO HX HP HB
   go_wp2_with (at_builtin;refine wpl_append elStr rfl rfl (w.heap.size+2) (HO2.out.alloc _) rfl (m:=1) [.string (bs (sgB x))] rfl rfl (lies_new _ _ _) ?_ ?_ ?_ ?_ ?_;(intro u hu;simp at hu;rcases hu with rfl;rfl);(simp only [maxLen];omega);omega;(simp;omega);intro v1 w8 hown1 hg1 hat1;obtain ⟨A3,c3,rfl⟩:=own_form hown1)
   have hba:Below w2.heap.size w2 (w2.alloc (.cells #[.string (bs (sgB x))] 9)):=(Below.refl _ _).alloc qn _
   have hX8:=(hg1.block w.heap.size (Nat.lt_of_lt_of_le (by omega) hba.size) (fun e=>by have:=(HO2.out.lt _ e.symm).1;omega)).trans ((hba.block w.heap.size (by omega)).trans HX2.out)
   have hP8:=(hg1.block (w.heap.size+1) (Nat.lt_of_lt_of_le (by omega) hba.size) (fun e=>by have:=(HO2.out.lt _ e.symm).1;omega)).trans ((hba.block (w.heap.size+1) (by omega)).trans HP2.out)
   have hB8:=below_app (below_call HB2.out HB2.out.size hba) (own_keep HO2.out hba) hg1 (by simp;omega) (by omega)
   have hs8:=Nat.le_trans hs2 (Nat.le_trans hba.size hg1.size)
   rw [show strL ((h.seals.take k).map sgB) ++ [.string (bs (sgB x))]=strL ((h.seals.take (k+1)).map sgB) by rw [HA.out,List.map_append,List.map_singleton,strL_snoc]] at hown1
   go_roundw
   case rel=>exact ⟨k+1,by go_num,hlt,hX8,hP8,hown1,hB8,hs8⟩
   case measure=>simp [intOf];omega
  ·obtain rfl:k=h.seals.length:=by omega
   rw [List.take_of_length_le qn] at hown
   have HSV:Hid (StrV (fun b=>b < wr.heap.size∧b≠w.heap.size+1) wr (h.seals.map sgB) A' c'):=qh (by
    have:=rep_own (S:=fun b=>b < wr.heap.size∧b≠w.heap.size+1) (es:=strsD (h.seals.map sgB)) hown (repN_strL _) (by simp [strsD]) (fun b h1 h2=>⟨h2,by omega⟩)
    unfold StrV
    rw [List.length_map]
    exact this)
   have HX:=qh hX
   have HB0:=qh hB
   have HK0:Kp wr.heap.size (w.heap.size+1) wr wr:=(fun _ _ _=>rfl)
   obtain ⟨A0,c0,x0,HW0⟩:∃ A c x,Hid (WrV wr.heap.size (w.heap.size+1) wr [] A c x):=⟨none,0,[],qh ⟨hP,World.ownsRow_nil _ _ _ _,.nil,Nat.le_refl _,by omega⟩⟩
   clear hX hP hown hB
   have xc:=rc (u:=.string (bs h.parent)) ((HK0 w.heap.size (by omega) (by omega)).trans HX.out) 0 rfl
   go_wp2_with fail
   have hcc:=text_any h.parent wr.heap.size (w.heap.size+1) [] (by simp) A0 c0 x0 _ HW0.out
   refine hcc.mono ?_
   clear hcc
   rintro e W1 ⟨rfl,⟨A1,c1,x1,hw⟩,has⟩
   have HK1:Kp wr.heap.size (w.heap.size+1) wr W1:=(fun b h1 h2=>(has.2 b h1 h2).trans (HK0 b h1 h2))
   have HB1:Hid (Below w.heap.size w W1):=qh (HB0.out.trans (has.1.mono (Nat.le_succ _)))
   have HW1:=qh hw
   clear hw has HK0 HB0 HW0 xc
   have xc:=rc (u:=.int .u64 (h.height:Int)) ((HK1 w.heap.size (by omega) (by omega)).trans HX.out) 1 rfl
   go_wp2_with fail
   have hcc:=number_any h.height wr.heap.size (w.heap.size+1) [⟨0,h.parent,[]⟩] (by simp) A1 c1 x1 _ HW1.out
   refine hcc.mono ?_
   clear hcc
   rintro e W2 ⟨rfl,⟨A2,c2,x2,hw⟩,has⟩
   have HK2:Kp wr.heap.size (w.heap.size+1) wr W2:=(fun b h1 h2=>(has.2 b h1 h2).trans (HK1 b h1 h2))
   have HB2:Hid (Below w.heap.size w W2):=qh (HB1.out.trans (has.1.mono (Nat.le_succ _)))
   have HW2:=qh hw
   clear hw has HK1 HB1 HW1 xc
   have xc:=rc (u:=.string (bs h.root)) ((HK2 w.heap.size (by omega) (by omega)).trans HX.out) 2 rfl
   go_wp2_with fail
   have hcc:=text_any h.root wr.heap.size (w.heap.size+1) [⟨0,h.parent,[]⟩,⟨h.height,[],[]⟩] (by simp) A2 c2 x2 _ HW2.out
   refine hcc.mono ?_
   clear hcc
   rintro e W3 ⟨rfl,⟨A3,c3,x3,hw⟩,has⟩
   have HK3:Kp wr.heap.size (w.heap.size+1) wr W3:=(fun b h1 h2=>(has.2 b h1 h2).trans (HK2 b h1 h2))
   have HB3:Hid (Below w.heap.size w W3):=qh (HB2.out.trans (has.1.mono (Nat.le_succ _)))
   have HW3:=qh hw
   clear hw has HK2 HB2 HW2 xc
   have xc:=rc (u:=.string (bs h.txs)) ((HK3 w.heap.size (by omega) (by omega)).trans HX.out) 3 rfl
   go_wp2_with fail
   have hcc:=text_any h.txs wr.heap.size (w.heap.size+1) [⟨0,h.parent,[]⟩,⟨h.height,[],[]⟩,⟨0,h.root,[]⟩] (by simp) A3 c3 x3 _ HW3.out
   refine hcc.mono ?_
   clear hcc
   rintro e W4 ⟨rfl,⟨A4,c4,x4,hw⟩,has⟩
   have HK4:Kp wr.heap.size (w.heap.size+1) wr W4:=(fun b h1 h2=>(has.2 b h1 h2).trans (HK3 b h1 h2))
   have HB4:Hid (Below w.heap.size w W4):=qh (HB3.out.trans (has.1.mono (Nat.le_succ _)))
   have HW4:=qh hw
   clear hw has HK3 HB3 HW3 xc
   have xc:=rc (u:=.string (bs h.prop)) ((HK4 w.heap.size (by omega) (by omega)).trans HX.out) 4 rfl
   go_wp2_with fail
   have hcc:=text_any h.prop wr.heap.size (w.heap.size+1) [⟨0,h.parent,[]⟩,⟨h.height,[],[]⟩,⟨0,h.root,[]⟩,⟨0,h.txs,[]⟩] (by simp) A4 c4 x4 _ HW4.out
   refine hcc.mono ?_
   clear hcc
   rintro e W5 ⟨rfl,⟨A5,c5,x5,hw⟩,has⟩
   have HK5:Kp wr.heap.size (w.heap.size+1) wr W5:=(fun b h1 h2=>(has.2 b h1 h2).trans (HK4 b h1 h2))
   have HB5:Hid (Below w.heap.size w W5):=qh (HB4.out.trans (has.1.mono (Nat.le_succ _)))
   have HW5:=qh hw
   clear hw has HK4 HB4 HW4 xc
   have xc:=rc (u:=.string (bs h.van)) ((HK5 w.heap.size (by omega) (by omega)).trans HX.out) 5 rfl
   go_wp2_with fail
   have hcc:=text_any h.van wr.heap.size (w.heap.size+1) [⟨0,h.parent,[]⟩,⟨h.height,[],[]⟩,⟨0,h.root,[]⟩,⟨0,h.txs,[]⟩,⟨0,h.prop,[]⟩] (by simp) A5 c5 x5 _ HW5.out
   refine hcc.mono ?_
   clear hcc
   rintro e W6 ⟨rfl,⟨A6,c6,x6,hw⟩,has⟩
   have HK6:Kp wr.heap.size (w.heap.size+1) wr W6:=(fun b h1 h2=>(has.2 b h1 h2).trans (HK5 b h1 h2))
   have HB6:Hid (Below w.heap.size w W6):=qh (HB5.out.trans (has.1.mono (Nat.le_succ _)))
   have HW6:=qh hw
   clear hw has HK5 HB5 HW5 xc
   have xc:=rc (u:=.slice Av h.vals.length cv) ((HK6 w.heap.size (by omega) (by omega)).trans HX.out) 6 rfl
   go_wp2_with fail
   have hcc:=wlist_any h.vals HVL.out Av cv wr.heap.size (w.heap.size+1) [⟨0,h.parent,[]⟩,⟨h.height,[],[]⟩,⟨0,h.root,[]⟩,⟨0,h.txs,[]⟩,⟨0,h.prop,[]⟩,⟨0,h.van,[]⟩] (by simp) A6 c6 x6 _ HW6.out (StrV.keep HV.out.vals HB6.out)
   refine hcc.mono ?_
   clear hcc
   rintro e W7 ⟨rfl,⟨A7,c7,x7,hw⟩,has⟩
   have HK7:Kp wr.heap.size (w.heap.size+1) wr W7:=(fun b h1 h2=>(has.2 b h1 h2).trans (HK6 b h1 h2))
   have HB7:Hid (Below w.heap.size w W7):=qh (HB6.out.trans (has.1.mono (Nat.le_succ _)))
   have HW7:=qh hw
   clear hw has HK6 HB6 HW6 xc
   have xc:=rc (u:=.string (bs h.vote)) ((HK7 w.heap.size (by omega) (by omega)).trans HX.out) 7 rfl
   go_wp2_with fail
   have hcc:=text_any h.vote wr.heap.size (w.heap.size+1) [⟨0,h.parent,[]⟩,⟨h.height,[],[]⟩,⟨0,h.root,[]⟩,⟨0,h.txs,[]⟩,⟨0,h.prop,[]⟩,⟨0,h.van,[]⟩,⟨0,[],h.vals.map valF⟩] (by simp) A7 c7 x7 _ HW7.out
   refine hcc.mono ?_
   clear hcc
   rintro e W8 ⟨rfl,⟨A8,c8,x8,hw⟩,has⟩
   have HK8:Kp wr.heap.size (w.heap.size+1) wr W8:=(fun b h1 h2=>(has.2 b h1 h2).trans (HK7 b h1 h2))
   have HB8:Hid (Below w.heap.size w W8):=qh (HB7.out.trans (has.1.mono (Nat.le_succ _)))
   have HW8:=qh hw
   clear hw has HK7 HB7 HW7 xc
   go_wp2_with fail
   have hcc:=number_any 1 wr.heap.size (w.heap.size+1) [⟨0,h.parent,[]⟩,⟨h.height,[],[]⟩,⟨0,h.root,[]⟩,⟨0,h.txs,[]⟩,⟨0,h.prop,[]⟩,⟨0,h.van,[]⟩,⟨0,[],h.vals.map valF⟩,⟨0,h.vote,[]⟩] (by simp) A8 c8 x8 _ HW8.out
   refine hcc.mono ?_
   clear hcc
   rintro e W9 ⟨rfl,⟨A9,c9,x9,hw⟩,has⟩
   have HK9:Kp wr.heap.size (w.heap.size+1) wr W9:=(fun b h1 h2=>(has.2 b h1 h2).trans (HK8 b h1 h2))
   have HB9:Hid (Below w.heap.size w W9):=qh (HB8.out.trans (has.1.mono (Nat.le_succ _)))
   have HW9:=qh hw
   clear hw has HK8 HB8 HW8
   have xc:=rc (u:=.int .u64 (h.round:Int)) ((HK9 w.heap.size (by omega) (by omega)).trans HX.out) 9 rfl
   go_wp2_with fail
   have hcc:=number_any h.round wr.heap.size (w.heap.size+1) [⟨0,h.parent,[]⟩,⟨h.height,[],[]⟩,⟨0,h.root,[]⟩,⟨0,h.txs,[]⟩,⟨0,h.prop,[]⟩,⟨0,h.van,[]⟩,⟨0,[],h.vals.map valF⟩,⟨0,h.vote,[]⟩,⟨1,[],[]⟩] (by simp) A9 c9 x9 _ HW9.out
   refine hcc.mono ?_
   clear hcc
   rintro e W10 ⟨rfl,⟨A10,c10,x10,hw⟩,has⟩
   have HK10:Kp wr.heap.size (w.heap.size+1) wr W10:=(fun b h1 h2=>(has.2 b h1 h2).trans (HK9 b h1 h2))
   have HB10:Hid (Below w.heap.size w W10):=qh (HB9.out.trans (has.1.mono (Nat.le_succ _)))
   have HW10:=qh hw
   clear hw has HK9 HB9 HW9 xc
   go_wp2_with fail
   have hcc:=wlist_any (h.seals.map sgB) HSL.out _ _ wr.heap.size (w.heap.size+1) [⟨0,h.parent,[]⟩,⟨h.height,[],[]⟩,⟨0,h.root,[]⟩,⟨0,h.txs,[]⟩,⟨0,h.prop,[]⟩,⟨0,h.van,[]⟩,⟨0,[],h.vals.map valF⟩,⟨0,h.vote,[]⟩,⟨1,[],[]⟩,⟨h.round,[],[]⟩] (by simp) A10 c10 x10 _ HW10.out (Rep.mono HSV.out fun b _ hb=>⟨trivial,HK10 b hb.1 hb.2⟩)
   rw [List.length_map] at hcc
   refine hcc.mono ?_
   clear hcc
   rintro e W11 ⟨rfl,⟨A11,c11,x11,hw⟩,has⟩
   have HK11:Kp wr.heap.size (w.heap.size+1) wr W11:=(fun b h1 h2=>(has.2 b h1 h2).trans (HK10 b h1 h2))
   have HB11:Hid (Below w.heap.size w W11):=qh (HB10.out.trans (has.1.mono (Nat.le_succ _)))
   have HW11:=qh hw
   clear hw has HK10 HB10 HW10
   have cP:=rc (u:=.slice A11 11 c11) HW11.out.cell 0 rfl
   have hfv:FdsV Any W11 (hdF h) A11 c11:=by
    obtain ⟨_,ho,hr,_,_⟩:=HW11.out
    have:=rep_own (S:=Any) ho (RepN.mono hr fun b _ _=>⟨trivial,rfl⟩) (by rfl) (fun _ _ _=>trivial)
    unfold FdsV
    unfold hdF
    rw [HAD.out,← seals_val]
    exact this
   have HFV:=qh hfv
   clear hfv HW11
   go_wp2_with fail
   refine (HWR.out A11 c11 W11 HFV.out).mono ?_
   rintro e w9 ⟨rfl,hb9⟩
   have HB9:=qh (below_call HB11.out HB11.out.size hb9)
   clear hb9 HB11
   go_wp2_with fail
   go_ret2
   exact ⟨rfl,HB9.out⟩
theorem record_false (h:Hd) (hw:h.Wf) (hk:OkHd h) (had:h.add=false) (Av As:Option Addr) (cv cs:Nat) (w:World) (hv:HdV Any w h Av cv As cs) :
  Calls Tryz.prog 41 #[.agg #[.string (bs h.parent),.int .u64 (h.height:Int),.string (bs h.root),.string (bs h.txs),.string (bs h.prop),.string (bs h.van),.slice Av h.vals.length cv,.string (bs h.vote),.bool false,.int .u64 (h.round:Int),.slice As h.seals.length cs]] w fun e w'=>e=.returned (.tuple #[.string (bs (hdB h)),.int .i64 0])∧Below w.heap.size w w':=by
 have HVL:Hid (h.vals.length≤1000):=qh (by have:=(okVals_len hk.vals).2;omega)
 have HSL:Hid ((h.seals.map sgB).length≤1000):=qh (by have:=hk.seals;rw [List.length_map];omega)
 have hs16:=hk.seals
 have hs63:(h.seals.length:Int)≤16:=by omega
 have HV:=qh hv
 have HSW:=qh (fun x hx=>(⟨hw.seals x hx,hk.each x hx⟩:x.Wf∧okSg x=true))
 have HWR:=qh (fun A c W hv=>hwrite_lit h hw hk A c W hv)
 have h0:=heap_alloc_new w (.cells #[.string (bs h.parent),.int .u64 (h.height:Int),.string (bs h.root),.string (bs h.txs),.string (bs h.prop),.string (bs h.van),.slice Av h.vals.length cv,.string (bs h.vote),.bool false,.int .u64 (h.round:Int),.slice As h.seals.length cs] 26)
 have h1:=heap_alloc_new (w.alloc (.cells #[.string (bs h.parent),.int .u64 (h.height:Int),.string (bs h.root),.string (bs h.txs),.string (bs h.prop),.string (bs h.van),.slice Av h.vals.length cv,.string (bs h.vote),.bool false,.int .u64 (h.round:Int),.slice As h.seals.length cs] 26)) (.cells #[.slice none 0 0] 105)
 have h0:=(heap_alloc_old _ (.cells #[.slice none 0 0] 105) (qg h0)).trans h0
 simp only [World.size_alloc] at h1
 have hb:=((Below.refl w.heap.size w).alloc qn (.cells #[.string (bs h.parent),.int .u64 (h.height:Int),.string (bs h.root),.string (bs h.txs),.string (bs h.prop),.string (bs h.van),.slice Av h.vals.length cv,.string (bs h.vote),.bool false,.int .u64 (h.round:Int),.slice As h.seals.length cs] 26)).alloc (by simp) (.cells #[.slice none 0 0] 105)
 have hz:((w.alloc (.cells #[.string (bs h.parent),.int .u64 (h.height:Int),.string (bs h.root),.string (bs h.txs),.string (bs h.prop),.string (bs h.van),.slice Av h.vals.length cv,.string (bs h.vote),.bool false,.int .u64 (h.round:Int),.slice As h.seals.length cs] 26)).alloc (.cells #[.slice none 0 0] 105)).heap.size=w.heap.size+2:=by simp
 have HX:=qh h0
 have HP:=qh h1
 have HB:=qh hb
 have HZ:=qh hz
 have x0:=rc (u:=.string (bs h.parent)) h0 0 rfl
 have x1:=rc (u:=.int .u64 (h.height:Int)) h0 1 rfl
 have x2:=rc (u:=.string (bs h.root)) h0 2 rfl
 have x3:=rc (u:=.string (bs h.txs)) h0 3 rfl
 have x4:=rc (u:=.string (bs h.prop)) h0 4 rfl
 have x5:=rc (u:=.string (bs h.van)) h0 5 rfl
 have x6:=rc (u:=.slice Av h.vals.length cv) h0 6 rfl
 have x7:=rc (u:=.string (bs h.vote)) h0 7 rfl
 have x8:=rc (u:=.bool false) h0 8 rfl
 have x9:=rc (u:=.int .u64 (h.round:Int)) h0 9 rfl
 have x10:=rc (u:=.slice As h.seals.length cs) h0 10 rfl
 clear h0 h1 hb hz hv hw hk hs16
 have hmf:∀ (fn:Fn) (first cap:Array Value) (w:World),(Instr.makeFunc fn first cap).run Tryz.prog w=.ok (.func fn first cap) w:=fun _ _ _ _=>rfl
 have HAD:=qh had
 clear had
 go_enter Tryz.func41,Tryz.ntmps41
 go_wp2_with fail
 generalize (w.alloc (.cells #[.string (bs h.parent),.int .u64 (h.height:Int),.string (bs h.root),.string (bs h.txs),.string (bs h.prop),.string (bs h.van),.slice Av h.vals.length cv,.string (bs h.vote),.bool false,.int .u64 (h.round:Int),.slice As h.seals.length cs] 26)).alloc (.cells #[.slice none 0 0] 105)=W0 at HX HP HB HZ ⊢
 go_loopw [8,24] (fun u a wr=>∃ (k:Nat) ,a=.int .i64 (k:Int)∧k≤h.seals.length∧wr.heap[w.heap.size]? = some (.cells #[.string (bs h.parent),.int .u64 (h.height:Int),.string (bs h.root),.string (bs h.txs),.string (bs h.prop),.string (bs h.van),.slice Av h.vals.length cv,.string (bs h.vote),.bool false,.int .u64 (h.round:Int),.slice As h.seals.length cs] 26 (0,0))∧wr.heap[w.heap.size+1]? = some (.cells #[.slice none 0 0] 105 (0,0))∧wr.ownsRow (w.heap.size+2) 9 1 u k (strL ((h.seals.take k).map sgB))∧Below w.heap.size w wr∧w.heap.size+2≤wr.heap.size) (fun _ a _=>h.seals.length - (intOf a).toNat)
 case atStart=>exact ⟨0,rfl,Nat.zero_le _,HX.out,HP.out,World.ownsRow_nil _ _ _ _,HB.out,by rw [HZ.out];omega⟩
 case round =>
  clear HX HP HB HZ
  obtain ⟨k,rfl,hk,hX,hP,hown,hB,hsz⟩:=hrel
  obtain ⟨A',c',rfl⟩:=own_form hown
  by_cases hlt:k < h.seals.length
  ·obtain ⟨x,hx⟩:=getElem_ex hlt
   obtain ⟨g,o,rfl,hc⟩:=sgs_at (PlV.keep HV.out.seals hB) hx
   have hltI:(k:Int) < h.seals.length:=by omega
   have q0:=hc 0 (.int .u64 (x.r.a:Int)) rfl
   have q1:=hc 1 (.int .u64 (x.r.b:Int)) rfl
   have q2:=hc 2 (.int .u64 (x.r.c:Int)) rfl
   have q3:=hc 3 (.int .u64 (x.r.d:Int)) rfl
   have q4:=hc 4 (.int .u64 (x.s.a:Int)) rfl
   have q5:=hc 5 (.int .u64 (x.s.b:Int)) rfl
   have q6:=hc 6 (.int .u64 (x.s.c:Int)) rfl
   have q7:=hc 7 (.int .u64 (x.s.d:Int)) rfl
   have q8:=hc 8 (.int .i64 x.v) rfl
   simp only [Nat.add_zero] at q0
   obtain ⟨hxw,hxk⟩:=HSW.out x (List.mem_of_getElem? hx)
   have HA:=qh (take_snoc hx)
   have HC:=qh (fun W:World=>sbytes_yes1 x hxw hxk W)
   have HX:=qh hX
   have HP:=qh hP
   have HO:=qh hown
   have HB:=qh hB
   clear hX hP hown hB hc hx hxw hxk
   go_wp2_with fail
   refine (HC.out _).mono ?_
   rintro e w2 ⟨rfl,hb2⟩
   have hb2':=below_call ((Below.refl wr.heap.size wr).alloc qn (.cells #[.int .u64 (x.r.a:Int),.int .u64 (x.r.b:Int),.int .u64 (x.r.c:Int),.int .u64 (x.r.d:Int),.int .u64 (x.s.a:Int),.int .u64 (x.s.b:Int),.int .u64 (x.s.c:Int),.int .u64 (x.s.d:Int),.int .i64 x.v] 53)) (by simp) hb2
   have HO2:=qh (own_keep HO.out hb2')
   have HX2:=qh ((hb2'.block _ (qg HX.out)).trans HX.out)
   have HP2:=qh ((hb2'.block _ (qg HP.out)).trans HP.out)
   have HB2:=qh (below_call HB.out HB.out.size hb2')
   have hs2:=Nat.le_trans hsz hb2'.size
   clear hb2 hb2' HO HX HP HB
   go_wp2_with (at_builtin;refine wpl_append elStr rfl rfl (w.heap.size+2) (HO2.out.alloc _) rfl (m:=1) [.string (bs (sgB x))] rfl rfl (lies_new _ _ _) ?_ ?_ ?_ ?_ ?_;(intro u hu;simp at hu;rcases hu with rfl;rfl);(simp only [maxLen];omega);omega;(simp;omega);intro v1 w8 hown1 hg1 hat1;obtain ⟨A3,c3,rfl⟩:=own_form hown1)
   have hba:Below w2.heap.size w2 (w2.alloc (.cells #[.string (bs (sgB x))] 9)):=(Below.refl _ _).alloc qn _
   have hX8:=(hg1.block w.heap.size (Nat.lt_of_lt_of_le (by omega) hba.size) (fun e=>by have:=(HO2.out.lt _ e.symm).1;omega)).trans ((hba.block w.heap.size (by omega)).trans HX2.out)
   have hP8:=(hg1.block (w.heap.size+1) (Nat.lt_of_lt_of_le (by omega) hba.size) (fun e=>by have:=(HO2.out.lt _ e.symm).1;omega)).trans ((hba.block (w.heap.size+1) (by omega)).trans HP2.out)
   have hB8:=below_app (below_call HB2.out HB2.out.size hba) (own_keep HO2.out hba) hg1 (by simp;omega) (by omega)
   have hs8:=Nat.le_trans hs2 (Nat.le_trans hba.size hg1.size)
   rw [show strL ((h.seals.take k).map sgB) ++ [.string (bs (sgB x))]=strL ((h.seals.take (k+1)).map sgB) by rw [HA.out,List.map_append,List.map_singleton,strL_snoc]] at hown1
   go_roundw
   case rel=>exact ⟨k+1,by go_num,hlt,hX8,hP8,hown1,hB8,hs8⟩
   case measure=>simp [intOf];omega
  ·obtain rfl:k=h.seals.length:=by omega
   rw [List.take_of_length_le qn] at hown
   have HSV:Hid (StrV (fun b=>b < wr.heap.size∧b≠w.heap.size+1) wr (h.seals.map sgB) A' c'):=qh (by
    have:=rep_own (S:=fun b=>b < wr.heap.size∧b≠w.heap.size+1) (es:=strsD (h.seals.map sgB)) hown (repN_strL _) (by simp [strsD]) (fun b h1 h2=>⟨h2,by omega⟩)
    unfold StrV
    rw [List.length_map]
    exact this)
   have HX:=qh hX
   have HB0:=qh hB
   have HK0:Kp wr.heap.size (w.heap.size+1) wr wr:=(fun _ _ _=>rfl)
   obtain ⟨A0,c0,x0,HW0⟩:∃ A c x,Hid (WrV wr.heap.size (w.heap.size+1) wr [] A c x):=⟨none,0,[],qh ⟨hP,World.ownsRow_nil _ _ _ _,.nil,Nat.le_refl _,by omega⟩⟩
   clear hX hP hown hB
   have xc:=rc (u:=.string (bs h.parent)) ((HK0 w.heap.size (by omega) (by omega)).trans HX.out) 0 rfl
   go_wp2_with fail
   have hcc:=text_any h.parent wr.heap.size (w.heap.size+1) [] (by simp) A0 c0 x0 _ HW0.out
   refine hcc.mono ?_
   clear hcc
   rintro e W1 ⟨rfl,⟨A1,c1,x1,hw⟩,has⟩
   have HK1:Kp wr.heap.size (w.heap.size+1) wr W1:=(fun b h1 h2=>(has.2 b h1 h2).trans (HK0 b h1 h2))
   have HB1:Hid (Below w.heap.size w W1):=qh (HB0.out.trans (has.1.mono (Nat.le_succ _)))
   have HW1:=qh hw
   clear hw has HK0 HB0 HW0 xc
   have xc:=rc (u:=.int .u64 (h.height:Int)) ((HK1 w.heap.size (by omega) (by omega)).trans HX.out) 1 rfl
   go_wp2_with fail
   have hcc:=number_any h.height wr.heap.size (w.heap.size+1) [⟨0,h.parent,[]⟩] (by simp) A1 c1 x1 _ HW1.out
   refine hcc.mono ?_
   clear hcc
   rintro e W2 ⟨rfl,⟨A2,c2,x2,hw⟩,has⟩
   have HK2:Kp wr.heap.size (w.heap.size+1) wr W2:=(fun b h1 h2=>(has.2 b h1 h2).trans (HK1 b h1 h2))
   have HB2:Hid (Below w.heap.size w W2):=qh (HB1.out.trans (has.1.mono (Nat.le_succ _)))
   have HW2:=qh hw
   clear hw has HK1 HB1 HW1 xc
   have xc:=rc (u:=.string (bs h.root)) ((HK2 w.heap.size (by omega) (by omega)).trans HX.out) 2 rfl
   go_wp2_with fail
   have hcc:=text_any h.root wr.heap.size (w.heap.size+1) [⟨0,h.parent,[]⟩,⟨h.height,[],[]⟩] (by simp) A2 c2 x2 _ HW2.out
   refine hcc.mono ?_
   clear hcc
   rintro e W3 ⟨rfl,⟨A3,c3,x3,hw⟩,has⟩
   have HK3:Kp wr.heap.size (w.heap.size+1) wr W3:=(fun b h1 h2=>(has.2 b h1 h2).trans (HK2 b h1 h2))
   have HB3:Hid (Below w.heap.size w W3):=qh (HB2.out.trans (has.1.mono (Nat.le_succ _)))
   have HW3:=qh hw
   clear hw has HK2 HB2 HW2 xc
   have xc:=rc (u:=.string (bs h.txs)) ((HK3 w.heap.size (by omega) (by omega)).trans HX.out) 3 rfl
   go_wp2_with fail
   have hcc:=text_any h.txs wr.heap.size (w.heap.size+1) [⟨0,h.parent,[]⟩,⟨h.height,[],[]⟩,⟨0,h.root,[]⟩] (by simp) A3 c3 x3 _ HW3.out
   refine hcc.mono ?_
   clear hcc
   rintro e W4 ⟨rfl,⟨A4,c4,x4,hw⟩,has⟩
   have HK4:Kp wr.heap.size (w.heap.size+1) wr W4:=(fun b h1 h2=>(has.2 b h1 h2).trans (HK3 b h1 h2))
   have HB4:Hid (Below w.heap.size w W4):=qh (HB3.out.trans (has.1.mono (Nat.le_succ _)))
   have HW4:=qh hw
   clear hw has HK3 HB3 HW3 xc
   have xc:=rc (u:=.string (bs h.prop)) ((HK4 w.heap.size (by omega) (by omega)).trans HX.out) 4 rfl
   go_wp2_with fail
   have hcc:=text_any h.prop wr.heap.size (w.heap.size+1) [⟨0,h.parent,[]⟩,⟨h.height,[],[]⟩,⟨0,h.root,[]⟩,⟨0,h.txs,[]⟩] (by simp) A4 c4 x4 _ HW4.out
   refine hcc.mono ?_
   clear hcc
   rintro e W5 ⟨rfl,⟨A5,c5,x5,hw⟩,has⟩
   have HK5:Kp wr.heap.size (w.heap.size+1) wr W5:=(fun b h1 h2=>(has.2 b h1 h2).trans (HK4 b h1 h2))
   have HB5:Hid (Below w.heap.size w W5):=qh (HB4.out.trans (has.1.mono (Nat.le_succ _)))
   have HW5:=qh hw
   clear hw has HK4 HB4 HW4 xc
   have xc:=rc (u:=.string (bs h.van)) ((HK5 w.heap.size (by omega) (by omega)).trans HX.out) 5 rfl
   go_wp2_with fail
   have hcc:=text_any h.van wr.heap.size (w.heap.size+1) [⟨0,h.parent,[]⟩,⟨h.height,[],[]⟩,⟨0,h.root,[]⟩,⟨0,h.txs,[]⟩,⟨0,h.prop,[]⟩] (by simp) A5 c5 x5 _ HW5.out
   refine hcc.mono ?_
   clear hcc
   rintro e W6 ⟨rfl,⟨A6,c6,x6,hw⟩,has⟩
   have HK6:Kp wr.heap.size (w.heap.size+1) wr W6:=(fun b h1 h2=>(has.2 b h1 h2).trans (HK5 b h1 h2))
   have HB6:Hid (Below w.heap.size w W6):=qh (HB5.out.trans (has.1.mono (Nat.le_succ _)))
   have HW6:=qh hw
   clear hw has HK5 HB5 HW5 xc
   have xc:=rc (u:=.slice Av h.vals.length cv) ((HK6 w.heap.size (by omega) (by omega)).trans HX.out) 6 rfl
   go_wp2_with fail
   have hcc:=wlist_any h.vals HVL.out Av cv wr.heap.size (w.heap.size+1) [⟨0,h.parent,[]⟩,⟨h.height,[],[]⟩,⟨0,h.root,[]⟩,⟨0,h.txs,[]⟩,⟨0,h.prop,[]⟩,⟨0,h.van,[]⟩] (by simp) A6 c6 x6 _ HW6.out (StrV.keep HV.out.vals HB6.out)
   refine hcc.mono ?_
   clear hcc
   rintro e W7 ⟨rfl,⟨A7,c7,x7,hw⟩,has⟩
   have HK7:Kp wr.heap.size (w.heap.size+1) wr W7:=(fun b h1 h2=>(has.2 b h1 h2).trans (HK6 b h1 h2))
   have HB7:Hid (Below w.heap.size w W7):=qh (HB6.out.trans (has.1.mono (Nat.le_succ _)))
   have HW7:=qh hw
   clear hw has HK6 HB6 HW6 xc
   have xc:=rc (u:=.string (bs h.vote)) ((HK7 w.heap.size (by omega) (by omega)).trans HX.out) 7 rfl
   go_wp2_with fail
   have hcc:=text_any h.vote wr.heap.size (w.heap.size+1) [⟨0,h.parent,[]⟩,⟨h.height,[],[]⟩,⟨0,h.root,[]⟩,⟨0,h.txs,[]⟩,⟨0,h.prop,[]⟩,⟨0,h.van,[]⟩,⟨0,[],h.vals.map valF⟩] (by simp) A7 c7 x7 _ HW7.out
   refine hcc.mono ?_
   clear hcc
   rintro e W8 ⟨rfl,⟨A8,c8,x8,hw⟩,has⟩
   have HK8:Kp wr.heap.size (w.heap.size+1) wr W8:=(fun b h1 h2=>(has.2 b h1 h2).trans (HK7 b h1 h2))
   have HB8:Hid (Below w.heap.size w W8):=qh (HB7.out.trans (has.1.mono (Nat.le_succ _)))
   have HW8:=qh hw
   clear hw has HK7 HB7 HW7 xc
   go_wp2_with fail
   have hcc:=number_any 0 wr.heap.size (w.heap.size+1) [⟨0,h.parent,[]⟩,⟨h.height,[],[]⟩,⟨0,h.root,[]⟩,⟨0,h.txs,[]⟩,⟨0,h.prop,[]⟩,⟨0,h.van,[]⟩,⟨0,[],h.vals.map valF⟩,⟨0,h.vote,[]⟩] (by simp) A8 c8 x8 _ HW8.out
   refine hcc.mono ?_
   clear hcc
   rintro e W9 ⟨rfl,⟨A9,c9,x9,hw⟩,has⟩
   have HK9:Kp wr.heap.size (w.heap.size+1) wr W9:=(fun b h1 h2=>(has.2 b h1 h2).trans (HK8 b h1 h2))
   have HB9:Hid (Below w.heap.size w W9):=qh (HB8.out.trans (has.1.mono (Nat.le_succ _)))
   have HW9:=qh hw
   clear hw has HK8 HB8 HW8
   have xc:=rc (u:=.int .u64 (h.round:Int)) ((HK9 w.heap.size (by omega) (by omega)).trans HX.out) 9 rfl
   go_wp2_with fail
   have hcc:=number_any h.round wr.heap.size (w.heap.size+1) [⟨0,h.parent,[]⟩,⟨h.height,[],[]⟩,⟨0,h.root,[]⟩,⟨0,h.txs,[]⟩,⟨0,h.prop,[]⟩,⟨0,h.van,[]⟩,⟨0,[],h.vals.map valF⟩,⟨0,h.vote,[]⟩,⟨0,[],[]⟩] (by simp) A9 c9 x9 _ HW9.out
   refine hcc.mono ?_
   clear hcc
   rintro e W10 ⟨rfl,⟨A10,c10,x10,hw⟩,has⟩
   have HK10:Kp wr.heap.size (w.heap.size+1) wr W10:=(fun b h1 h2=>(has.2 b h1 h2).trans (HK9 b h1 h2))
   have HB10:Hid (Below w.heap.size w W10):=qh (HB9.out.trans (has.1.mono (Nat.le_succ _)))
   have HW10:=qh hw
   clear hw has HK9 HB9 HW9 xc
   go_wp2_with fail
   have hcc:=wlist_any (h.seals.map sgB) HSL.out _ _ wr.heap.size (w.heap.size+1) [⟨0,h.parent,[]⟩,⟨h.height,[],[]⟩,⟨0,h.root,[]⟩,⟨0,h.txs,[]⟩,⟨0,h.prop,[]⟩,⟨0,h.van,[]⟩,⟨0,[],h.vals.map valF⟩,⟨0,h.vote,[]⟩,⟨0,[],[]⟩,⟨h.round,[],[]⟩] (by simp) A10 c10 x10 _ HW10.out (Rep.mono HSV.out fun b _ hb=>⟨trivial,HK10 b hb.1 hb.2⟩)
   rw [List.length_map] at hcc
   refine hcc.mono ?_
   clear hcc
   rintro e W11 ⟨rfl,⟨A11,c11,x11,hw⟩,has⟩
   have HK11:Kp wr.heap.size (w.heap.size+1) wr W11:=(fun b h1 h2=>(has.2 b h1 h2).trans (HK10 b h1 h2))
   have HB11:Hid (Below w.heap.size w W11):=qh (HB10.out.trans (has.1.mono (Nat.le_succ _)))
   have HW11:=qh hw
   clear hw has HK10 HB10 HW10
   have cP:=rc (u:=.slice A11 11 c11) HW11.out.cell 0 rfl
   have hfv:FdsV Any W11 (hdF h) A11 c11:=by
    obtain ⟨_,ho,hr,_,_⟩:=HW11.out
    have:=rep_own (S:=Any) ho (RepN.mono hr fun b _ _=>⟨trivial,rfl⟩) (by rfl) (fun _ _ _=>trivial)
    unfold FdsV
    unfold hdF
    rw [HAD.out,← seals_val]
    exact this
   have HFV:=qh hfv
   clear hfv HW11
   go_wp2_with fail
   refine (HWR.out A11 c11 W11 HFV.out).mono ?_
   rintro e w9 ⟨rfl,hb9⟩
   have HB9:=qh (below_call HB11.out HB11.out.size hb9)
   clear hb9 HB11
   go_wp2_with fail
   go_ret2
   exact ⟨rfl,HB9.out⟩
theorem record_any (h:Hd) (hw:h.Wf) (hk:OkHd h) (Av As:Option Addr) (cv cs:Nat) (w:World) (hv:HdV Any w h Av cv As cs) :
  Calls Tryz.prog 41 #[.agg #[.string (bs h.parent),.int .u64 (h.height:Int),.string (bs h.root),.string (bs h.txs),.string (bs h.prop),.string (bs h.van),.slice Av h.vals.length cv,.string (bs h.vote),.bool h.add,.int .u64 (h.round:Int),.slice As h.seals.length cs]] w fun e w'=>e=.returned (.tuple #[.string (bs (hdB h)),.int .i64 0])∧Below w.heap.size w w':=by
 cases had:h.add with
 | true=>exact record_true h hw hk had Av As cv cs w hv
 | false=>exact record_false h hw hk had Av As cv cs w hv
theorem hbytes_yes (h:Hd) (hf:h.Fine) (hk:OkHd h) (Av As:Option Addr) (cv cs:Nat) (w:World) (hv:HdV Any w h Av cv As cs) :
  Calls Tryz.prog 18 #[.agg #[.string (bs h.parent),.int .u64 (h.height:Int),.string (bs h.root),.string (bs h.txs),.string (bs h.prop),.string (bs h.van),.slice Av h.vals.length cv,.string (bs h.vote),.bool h.add,.int .u64 (h.round:Int),.slice As h.seals.length cs]] w fun e w'=>e=.returned (.tuple #[.string (bs (hdB h)),.int .i64 0])∧Below w.heap.size w w':=by
 have h0:=heap_alloc_new w (.cells #[.string (bs h.parent),.int .u64 (h.height:Int),.string (bs h.root),.string (bs h.txs),.string (bs h.prop),.string (bs h.van),.slice Av h.vals.length cv,.string (bs h.vote),.bool h.add,.int .u64 (h.round:Int),.slice As h.seals.length cs] 26)
 have hb:=(Below.refl w.heap.size w).alloc qn (.cells #[.string (bs h.parent),.int .u64 (h.height:Int),.string (bs h.root),.string (bs h.txs),.string (bs h.prop),.string (bs h.van),.slice Av h.vals.length cv,.string (bs h.vote),.bool h.add,.int .u64 (h.round:Int),.slice As h.seals.length cs] 26)
 have hR:=hright_any h hf Av As cv cs (w.alloc (.cells #[.string (bs h.parent),.int .u64 (h.height:Int),.string (bs h.root),.string (bs h.txs),.string (bs h.prop),.string (bs h.van),.slice Av h.vals.length cv,.string (bs h.vote),.bool h.add,.int .u64 (h.round:Int),.slice As h.seals.length cs] 26)) (hv.keep hb)
 rw [(okHd_iff h).2 hk] at hR
 have HR:=qh hR
 have HC:=qh (fun (W:World) (hv:HdV Any W h Av cv As cs)=>record_any h hf.wf hk Av As cv cs W hv)
 have HX:=qh h0
 have HB:=qh hb
 have HV:=qh hv
 clear hR h0 hb hv
 go_enter Tryz.func18,Tryz.ntmps18
 go_wp2_with fail
 refine HR.out.mono ?_
 rintro e w1 ⟨rfl,hb1⟩
 have hX1:=(hb1.block _ (qg HX.out)).trans HX.out
 have HB1:=qh (below_call HB.out HB.out.size hb1)
 have x0:=rc (u:=.string (bs h.parent)) hX1 0 rfl
 have x1:=rc (u:=.int .u64 (h.height:Int)) hX1 1 rfl
 have x2:=rc (u:=.string (bs h.root)) hX1 2 rfl
 have x3:=rc (u:=.string (bs h.txs)) hX1 3 rfl
 have x4:=rc (u:=.string (bs h.prop)) hX1 4 rfl
 have x5:=rc (u:=.string (bs h.van)) hX1 5 rfl
 have x6:=rc (u:=.slice Av h.vals.length cv) hX1 6 rfl
 have x7:=rc (u:=.string (bs h.vote)) hX1 7 rfl
 have x8:=rc (u:=.bool h.add) hX1 8 rfl
 have x9:=rc (u:=.int .u64 (h.round:Int)) hX1 9 rfl
 have x10:=rc (u:=.slice As h.seals.length cs) hX1 10 rfl
 clear hb1 hX1 HX HB
 go_wp2_with fail
 refine (HC.out _ (HV.out.keep HB1.out)).mono ?_
 rintro e w2 ⟨rfl,hb2⟩
 have HB2:=qh (below_call HB1.out HB1.out.size hb2)
 clear hb2 HB1
 go_wp2_with fail
 go_ret2
 exact ⟨rfl,HB2.out⟩
end Go.Proofs.YtjanaholcjkceaaGreat
