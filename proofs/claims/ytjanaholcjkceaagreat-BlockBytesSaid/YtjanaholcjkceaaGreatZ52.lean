/- The walk of the reference's Set of a header. -/
import Derived.Test.YtjanaholcjkceaaGreatZ51
import Derived.Test.YtjanaholcjkceaaGreatZ06
namespace Go.Proofs.YtjanaholcjkceaaGreat
set_option linter.unusedVariables false
set_option linter.unusedSimpArgs false
open Go.RowKit
set_option maxHeartbeats 4000000
set_option maxRecDepth 100000
theorem leq_not:∀ a p:List UInt8,(Op.bytesLess a p || a == p) = !Op.bytesLess p a
 | [],[]=>by simp [Op.bytesLess]
 | [],_ :: _=>by simp [Op.bytesLess]
 | _ :: _,[]=>by simp [Op.bytesLess]
 | x :: a,y :: p=>by
  have ih:=leq_not a p
  simp only [Op.bytesLess]
  have h1:(x :: a == y :: p)=(x == y && a == p):=rfl
  rw [h1]
  by_cases hxy:x=y
  ·subst hxy
   have hn:¬ x < x:=by simp
   simp only [hn,decide_false,beq_self_eq_true,Bool.true_and,Bool.false_or]
   exact ih
  ·have e1:(x == y)=false:=by simp [hxy]
   have e2:(y == x)=false:=by simp [Ne.symm hxy]
   rw [e1,e2]
   simp only [Bool.false_and,Bool.or_false]
   rcases Nat.lt_trichotomy x.toNat y.toNat with h | h | h
   ·have g1:x < y:=h
    have g2:¬ y < x:=fun q=>Nat.lt_asymm h q
    simp [g1,g2]
   ·exact absurd (UInt8.toNat_inj.1 h) hxy
   ·have g1:y < x:=h
    have g2:¬ x < y:=fun q=>Nat.lt_asymm h q
    simp [g1,g2]
theorem rset_any (l:List Bytes) (h63:∀ a∈l,a.length≤9223372036854775807) (A:Option Addr) (c:Nat) (w:World) (hv:StrV Any w l A c) :
  Calls Tryz.prog 60 #[.slice A l.length c] w fun e w'=>e=.returned (.bool (okVals l))∧w=w':=by
 have hl:=(Rep.slice_len hv).2
 simp only [maxLen] at hl
 have hl63:(l.length:Int)≤9223372036854775807:=by omega
 have hok:okVals l=(riseV (prevV l 0) (l.drop 0) && decide (1≤l.length) && decide (l.length≤16)):=by unfold okVals;rfl
 obtain ⟨R,hR⟩:∃ R,okVals l=R:=⟨_,rfl⟩
 rw [hR] at hok ⊢
 have HOK:=qh hok
 have HV:=qh hv
 have H63:=qh h63
 clear hok hv h63 hR hl
 go_enter Tryz.func60,Tryz.ntmps60
 go_wp2_with fail
 go_loop [7] (fun x=>∃ i:Nat,i≤l.length∧x=.int .i64 (i:Int)∧Hid (R=(riseV (prevV l i) (l.drop i) && decide (1≤l.length) && decide (l.length≤16)))) (fun x=>l.length - (intOf x).toNat)
 case atStart=>exact ⟨0,Nat.zero_le _,rfl,HOK⟩
 case round =>
  obtain ⟨i,hi,rfl,HI⟩:=hrel
  clear HOK
  by_cases hlt:i < l.length
  ·obtain ⟨a,ha⟩:=getElem_ex hlt
   obtain ⟨g,o,rfl,_,hc⟩:=StrV.at_ HV.out ha
   have hltI:(i:Int) < l.length:=by omega
   have ha63:(a.length:Int)≤9223372036854775807:=by have:=H63.out a (List.mem_of_getElem? ha);omega
   have hst:=HI.out
   rw [riseV_step ha] at hst
   cases hl20:((a.length:Int) == 20) with
   | false =>
    have hl20n:((a.length:Int) != 20)=true:=by rw [bne,hl20];rfl
    have hR:R=false:=by rw [hst,show (a.length == 20)=false by rw [beq_eq_false_iff_ne] at hl20 ⊢;omega];simp
    have HR:=qh hR
    clear hst hR HI
    go_wp2_with fail
    go_ret
    exact ⟨by rw [HR.out];rfl,rfl⟩
   | true =>
    have hl20n:((a.length:Int) != 20)=false:=by rw [bne,hl20];rfl
    rw [show (a.length == 20)=true by rw [beq_iff_eq] at hl20 ⊢;omega,Bool.true_and] at hst
    cases i with
    | zero =>
     simp only [prevV,Bool.true_and] at hst
     have HST:=qh hst
     clear hst HI ha
     simp only [Nat.add_zero] at hc
     go_wp2_with fail
     go_round
     case rel=>exact ⟨1,hlt,rfl,by have:=HST.out;rw [Nat.zero_add] at this;exact qh this⟩
     case measure=>simp [intOf];omega
    | succ k =>
     obtain ⟨p,hp⟩:=getElem_ex (show k < l.length by omega)
     obtain ⟨g2,o2,he,_,hc2⟩:=StrV.at_ HV.out hp
     injection he with he
     injection he with e1 e2
     subst e1;subst e2
     have hkI:(k:Int) < l.length:=by omega
     have hk0:(0:Int) < (k:Int)+1:=by omega
     have hsub:(k:Int)+1 - 1=k:=by omega
     have hkl1:(k:Int)+1 < l.length:=by omega
     simp only [prevV,hp] at hst
     cases hbl:Op.bytesLess p a with
     | false =>
      have hR:R=false:=by rw [hst,← lessB_eq,hbl];simp
      have HR:=qh hR
      have hle:(Op.bytesLess a p || a == p)=true:=by rw [leq_not,hbl];rfl
      clear hst hR HI ha hp
      go_wp2_with fail
      go_ret
      exact ⟨by rw [HR.out];rfl,rfl⟩
     | true =>
      rw [← lessB_eq,hbl,Bool.true_and] at hst
      have HST:=qh hst
      have hle:(Op.bytesLess a p || a == p)=false:=by rw [leq_not,hbl];rfl
      clear hst HI ha hp
      go_wp2_with fail
      go_round
      case rel=>exact ⟨k+1+1,hlt,by go_num,HST⟩
      case measure=>simp [intOf];omega
  ·obtain rfl:i=l.length:=by omega
   have hst:=HI.out
   rw [riseV_none,Bool.true_and] at hst
   have HST:=qh hst
   by_cases h1:(1:Int)≤l.length
   ·by_cases h2:(l.length:Int)≤16
    ·have hR:R=true:=by rw [hst,decide_eq_true (show 1≤l.length by omega),decide_eq_true (show l.length≤16 by omega)];rfl
     have HR:=qh hR
     clear hst HI hR
     go_wp2_with fail
     go_ret
     exact ⟨by rw [HR.out];rfl,rfl⟩
    ·have hR:R=false:=by rw [hst,decide_eq_false (show ¬ l.length≤16 by omega),Bool.and_false]
     have HR:=qh hR
     clear hst HI hR
     go_wp2_with fail
     go_ret
     exact ⟨by rw [HR.out];rfl,rfl⟩
   ·have hR:R=false:=by rw [hst,decide_eq_false (show ¬ 1≤l.length by omega),Bool.false_and]
    have HR:=qh hR
    clear hst HI hR
    go_wp2_with fail
    go_ret
    exact ⟨by rw [HR.out];rfl,rfl⟩
/- The walk of the reference's Right of a header. -/
theorem okHd_row (h:Hd):okHd h=(h.parent.length == 32 && (h.root.length == 32 && (h.txs.length == 32 && (h.prop.length == 20 && (decide (h.van.length≤8) && (okVals h.vals && ((h.vote.length == 20 || (h.vote == [] && !h.add)) && (decide (h.seals.length≤16) && h.seals.all okSg)))))))):=by
 unfold okHd
 simp only [Bool.and_assoc]
theorem rhright_any (h:Hd) (hf:h.Fine) (Av As:Option Addr) (cv cs:Nat) (w:World) (hv:HdV Any w h Av cv As cs) :
  Calls Tryz.prog 34 #[.agg #[.string (bs h.parent),.int .u64 (h.height:Int),.string (bs h.root),.string (bs h.txs),.string (bs h.prop),.string (bs h.van),.slice Av h.vals.length cv,.string (bs h.vote),.bool h.add,.int .u64 (h.round:Int),.slice As h.seals.length cs]] w fun e w'=>e=.returned (.bool (okHd h))∧Below w.heap.size w w':=by
 have hp:=okHd_row h
 obtain ⟨R,hR⟩:∃ R,okHd h=R:=⟨_,rfl⟩
 rw [hR] at hp ⊢
 have HF:=qh hf
 have HV:=qh hv
 have hl1:=(PlV.len hv.seals).1
 have hl2:=(PlV.len hv.seals).2
 simp only [maxLen,List.length_map] at hl1 hl2
 have hs63:(h.seals.length:Int)≤9223372036854775807:=by omega
 have hp63:(h.parent.length:Int)≤9223372036854775807:=by have:=hf.parent;omega
 have hr63:(h.root.length:Int)≤9223372036854775807:=by have:=hf.root;omega
 have htx63:(h.txs.length:Int)≤9223372036854775807:=by have:=hf.txs;omega
 have hq63:(h.prop.length:Int)≤9223372036854775807:=by have:=hf.prop;omega
 have hv63:(h.van.length:Int)≤9223372036854775807:=by have:=hf.van;omega
 have ht63:(h.vote.length:Int)≤9223372036854775807:=by have:=hf.vote;omega
 have h0:=heap_alloc_new w (.cells #[.string (bs h.parent),.int .u64 (h.height:Int),.string (bs h.root),.string (bs h.txs),.string (bs h.prop),.string (bs h.van),.slice Av h.vals.length cv,.string (bs h.vote),.bool h.add,.int .u64 (h.round:Int),.slice As h.seals.length cs] 26)
 have hb:=(Below.refl w.heap.size w).alloc qn (.cells #[.string (bs h.parent),.int .u64 (h.height:Int),.string (bs h.root),.string (bs h.txs),.string (bs h.prop),.string (bs h.van),.slice Av h.vals.length cv,.string (bs h.vote),.bool h.add,.int .u64 (h.round:Int),.slice As h.seals.length cs] 26)
 have HB0:=qh hb
 have HOK:=qh hp
 have x0:=rc (u:=.string (bs h.parent)) h0 0 rfl
 have x1:=rc (u:=.int .u64 (h.height:Int)) h0 1 rfl
 have x2:=rc (u:=.string (bs h.root)) h0 2 rfl
 have x3:=rc (u:=.string (bs h.txs)) h0 3 rfl
 have x4:=rc (u:=.string (bs h.prop)) h0 4 rfl
 have x5:=rc (u:=.string (bs h.van)) h0 5 rfl
 have x6:=rc (u:=.slice Av h.vals.length cv) h0 6 rfl
 have x7:=rc (u:=.string (bs h.vote)) h0 7 rfl
 have x8:=rc (u:=.bool h.add) h0 8 rfl
 have x9:=rc (u:=.int .u64 (h.round:Int)) h0 9 rfl
 have x10:=rc (u:=.slice As h.seals.length cs) h0 10 rfl
 clear hp hR hf hv hl1 hl2 h0 hb
 obtain ⟨q0,hq0⟩:∃ q,(h.parent.length == 32)=q:=⟨_,rfl⟩
 have e0:((h.parent.length:Int) == 32)=q0:=by rw [← hq0,Bool.eq_iff_iff];simp only [beq_iff_eq];omega
 rw [hq0] at HOK
 clear hq0
 cases q0 with
 | false =>
  have n0:((h.parent.length:Int) != 32)=true:=by rw [bne,e0];rfl
  have hR:R=false:=by rw [HOK.out];simp only [Bool.false_and,Bool.and_false,Bool.true_and]
  have HR:=qh hR
  clear hR
  go_enter Tryz.func34,Tryz.ntmps34
  go_wp2_with fail
  go_ret
  exact ⟨by rw [HR.out];rfl,HB0.out⟩
 | true =>
  have n0:((h.parent.length:Int) != 32)=false:=by rw [bne,e0];rfl
  obtain ⟨q1,hq1⟩:∃ q,(h.root.length == 32)=q:=⟨_,rfl⟩
  have e1:((h.root.length:Int) == 32)=q1:=by rw [← hq1,Bool.eq_iff_iff];simp only [beq_iff_eq];omega
  rw [hq1] at HOK
  clear hq1
  cases q1 with
  | false =>
   have n1:((h.root.length:Int) != 32)=true:=by rw [bne,e1];rfl
   have hR:R=false:=by rw [HOK.out];simp only [Bool.false_and,Bool.and_false,Bool.true_and]
   have HR:=qh hR
   clear hR
   go_enter Tryz.func34,Tryz.ntmps34
   go_wp2_with fail
   go_ret
   exact ⟨by rw [HR.out];rfl,HB0.out⟩
  | true =>
   have n1:((h.root.length:Int) != 32)=false:=by rw [bne,e1];rfl
   obtain ⟨q2,hq2⟩:∃ q,(h.txs.length == 32)=q:=⟨_,rfl⟩
   have e2:((h.txs.length:Int) == 32)=q2:=by rw [← hq2,Bool.eq_iff_iff];simp only [beq_iff_eq];omega
   rw [hq2] at HOK
   clear hq2
   cases q2 with
   | false =>
    have n2:((h.txs.length:Int) != 32)=true:=by rw [bne,e2];rfl
    have hR:R=false:=by rw [HOK.out];simp only [Bool.false_and,Bool.and_false,Bool.true_and]
    have HR:=qh hR
    clear hR
    go_enter Tryz.func34,Tryz.ntmps34
    go_wp2_with fail
    go_ret
    exact ⟨by rw [HR.out];rfl,HB0.out⟩
   | true =>
    have n2:((h.txs.length:Int) != 32)=false:=by rw [bne,e2];rfl
    obtain ⟨q3,hq3⟩:∃ q,(h.prop.length == 20)=q:=⟨_,rfl⟩
    have e3:((h.prop.length:Int) == 20)=q3:=by rw [← hq3,Bool.eq_iff_iff];simp only [beq_iff_eq];omega
    rw [hq3] at HOK
    clear hq3
    cases q3 with
    | false =>
     have n3:((h.prop.length:Int) != 20)=true:=by rw [bne,e3];rfl
     have hR:R=false:=by rw [HOK.out];simp only [Bool.false_and,Bool.and_false,Bool.true_and]
     have HR:=qh hR
     clear hR
     go_enter Tryz.func34,Tryz.ntmps34
     go_wp2_with fail
     go_ret
     exact ⟨by rw [HR.out];rfl,HB0.out⟩
    | true =>
     have n3:((h.prop.length:Int) != 20)=false:=by rw [bne,e3];rfl
     by_cases hva:(8:Int) < h.van.length
     ·rw [show decide (h.van.length≤8)=false by rw [decide_eq_false_iff_not];omega] at HOK
      have hR:R=false:=by rw [HOK.out];simp only [Bool.false_and,Bool.and_false,Bool.true_and]
      have HR:=qh hR
      clear hR
      go_enter Tryz.func34,Tryz.ntmps34
      go_wp2_with fail
      go_ret
      exact ⟨by rw [HR.out];rfl,HB0.out⟩
     ·rw [show decide (h.van.length≤8)=true by rw [decide_eq_true_iff];omega] at HOK
      have hA:=rset_any h.vals HF.out.vals Av cv (w.alloc (.cells #[.string (bs h.parent),.int .u64 (h.height:Int),.string (bs h.root),.string (bs h.txs),.string (bs h.prop),.string (bs h.van),.slice Av h.vals.length cv,.string (bs h.vote),.bool h.add,.int .u64 (h.round:Int),.slice As h.seals.length cs] 26)) (StrV.keep HV.out.vals HB0.out)
      obtain ⟨ab,hab⟩:∃ ab,okVals h.vals=ab:=⟨_,rfl⟩
      rw [hab] at hA HOK
      have HA:=qh hA
      clear hA hab
      cases ab with
      | false =>
       have hR:R=false:=by rw [HOK.out];simp only [Bool.false_and,Bool.and_false,Bool.true_and]
       have HR:=qh hR
       clear hR
       go_enter Tryz.func34,Tryz.ntmps34
       go_wp2_with fail
       refine HA.out.mono ?_
       rintro e w' ⟨rfl,rfl⟩
       go_wp2_with fail
       go_ret
       exact ⟨by rw [HR.out];rfl,HB0.out⟩
      | true =>
       have hok:=HOK.out
       simp only [Bool.true_and] at hok
       obtain ⟨v0,hv0⟩:∃ v,((h.vote.length:Int) == 0)=v:=⟨_,rfl⟩
       cases v0 with
       | true =>
        have hv0n:((h.vote.length:Int) != 0)=false:=by rw [bne,hv0];rfl
        have hnil:h.vote = []:=List.length_eq_zero_iff.1 (by rw [beq_iff_eq] at hv0;omega)
        have hve:(h.vote == [])=true:=by rw [hnil];rfl
        have hven:(h.vote != [])=false:=by rw [bne,hve];rfl
        rw [show (h.vote.length == 20)=false by rw [hnil];rfl,hve,Bool.false_or,Bool.true_and] at hok
        obtain ⟨ad,had⟩:∃ ad,h.add=ad:=⟨_,rfl⟩
        rw [had] at hok HB0 HA x0 x1 x2 x3 x4 x5 x6 x7 x8 x9 x10 ⊢
        clear hnil had HOK
        cases ad with
        | true =>
         have hR:R=false:=by rw [hok];rfl
         clear hok
         have HR:=qh hR
         clear hR
         go_enter Tryz.func34,Tryz.ntmps34
         go_wp2_with fail
         refine HA.out.mono ?_
         rintro e w' ⟨rfl,rfl⟩
         go_wp2_with fail
         go_ret
         exact ⟨by rw [HR.out];rfl,HB0.out⟩
        | false =>
         rw [show (!false)=true from rfl,Bool.true_and] at hok
         have HOK:=qh hok
         clear hok
         by_cases hse:(16:Int) < h.seals.length
         ·have hR:R=false:=by rw [HOK.out,show decide (h.seals.length≤16)=false by rw [decide_eq_false_iff_not];omega];rfl
          have HR:=qh hR
          clear hR
          go_enter Tryz.func34,Tryz.ntmps34
          go_wp2_with fail
          refine HA.out.mono ?_
          rintro e w' ⟨rfl,rfl⟩
          go_wp2_with fail
          go_ret
          exact ⟨by rw [HR.out];rfl,HB0.out⟩
         ·have hok:=HOK.out
          rw [show decide (h.seals.length≤16)=true by rw [decide_eq_true_iff];omega,Bool.true_and] at hok
          have HOK:=qh hok
          clear hok
          go_enter Tryz.func34,Tryz.ntmps34
          go_wp2_with fail
          refine HA.out.mono ?_
          rintro e w' ⟨rfl,rfl⟩
          go_wp2_with fail
          go_loopw [67] (fun x wr=>∃ k:Nat,k≤h.seals.length∧x=.int .i64 (k:Int)∧Hid ((h.seals.take k).all okSg=true)∧Below w.heap.size w wr) (fun x _=>h.seals.length - (intOf x).toNat)
          case atStart=>exact ⟨0,Nat.zero_le _,rfl,qh rfl,HB0.out⟩
          case round =>
           obtain ⟨k,hk,rfl,HA2,hb⟩:=hrel
           by_cases hlt2:k < h.seals.length
           ·obtain ⟨x,hx⟩:=getElem_ex hlt2
            obtain ⟨g,o,rfl,hc⟩:=sgs_at (PlV.keep HV.out.seals hb) hx
            have hlt2I:(k:Int) < h.seals.length:=by omega
            have q0:=hc 0 (.int .u64 (x.r.a:Int)) rfl
            have q1:=hc 1 (.int .u64 (x.r.b:Int)) rfl
            have q2:=hc 2 (.int .u64 (x.r.c:Int)) rfl
            have q3:=hc 3 (.int .u64 (x.r.d:Int)) rfl
            have q4:=hc 4 (.int .u64 (x.s.a:Int)) rfl
            have q5:=hc 5 (.int .u64 (x.s.b:Int)) rfl
            have q6:=hc 6 (.int .u64 (x.s.c:Int)) rfl
            have q7:=hc 7 (.int .u64 (x.s.d:Int)) rfl
            have q8:=hc 8 (.int .i64 x.v) rfl
            simp only [Nat.add_zero] at q0
            have hxw:=HF.out.wf.seals x (List.mem_of_getElem? hx)
            have hbx:Below w.heap.size w (wr.alloc (.cells #[.int .u64 (x.r.a:Int),.int .u64 (x.r.b:Int),.int .u64 (x.r.c:Int),.int .u64 (x.r.d:Int),.int .u64 (x.s.a:Int),.int .u64 (x.s.b:Int),.int .u64 (x.s.c:Int),.int .u64 (x.s.d:Int),.int .i64 x.v] 53)):=hb.alloc hb.size _
            have HBX:=qh hbx
            have HXX:=qh hx
            cases hok:okSg x with
            | false =>
             have hR:R=false:=by
              rw [HOK.out]
              exact Bool.eq_false_iff.2 fun h1=>by rw [List.all_eq_true.1 h1 x (List.mem_of_getElem? HXX.out)] at hok;cases hok
             have HR:=qh hR
             have HC:=qh (fun W:World=>IsSig_any x hxw W)
             rw [hok] at HC
             clear hR hok hxw hb hbx hc hx HA2
             go_wp2_with fail
             refine (HC.out _).mono ?_
             rintro e w1 ⟨rfl,hb1⟩
             have HB1:=qh (below_call HBX.out HBX.out.size hb1)
             clear hb1
             go_wp2_with fail
             go_ret
             exact ⟨by rw [HR.out];rfl,HB1.out⟩
            | true =>
             have HA3:Hid ((h.seals.take (k+1)).all okSg=true):=qh (by rw [take_snoc HXX.out,List.all_append,HA2.out];simp [hok])
             have HC:=qh (fun W:World=>IsSig_any x hxw W)
             rw [hok] at HC
             clear hok hxw hb hbx hc hx HA2
             go_wp2_with fail
             refine (HC.out _).mono ?_
             rintro e w1 ⟨rfl,hb1⟩
             have HB1:=qh (below_call HBX.out HBX.out.size hb1)
             clear hb1
             go_wp2_with fail
             go_roundw
             case rel=>exact ⟨k+1,by omega,by go_num,HA3,HB1.out⟩
             case measure=>simp [intOf];omega
           ·obtain rfl:k=h.seals.length:=by omega
            have hR:R=true:=by rw [HOK.out,← HA2.out,List.take_of_length_le qn]
            have HR:=qh hR
            have HB1:=qh hb
            clear hR hb
            go_wp2_with fail
            go_ret
            exact ⟨by rw [HR.out];rfl,HB1.out⟩
       | false =>
        have hv0n:((h.vote.length:Int) != 0)=true:=by rw [bne,hv0];rfl
        have hve:(h.vote == [])=false:=by rw [beq_eq_false_iff_ne];intro hn;rw [hn] at hv0;cases hv0
        have hven:(h.vote != [])=true:=by rw [bne,hve];rfl
        rw [hve,Bool.false_and,Bool.or_false] at hok
        obtain ⟨v1,hv1⟩:∃ v,(h.vote.length == 20)=v:=⟨_,rfl⟩
        have hv1I:((h.vote.length:Int) == 20)=v1:=by rw [← hv1,Bool.eq_iff_iff];simp only [beq_iff_eq];omega
        rw [hv1] at hok
        clear hv1 HOK
        cases v1 with
        | false =>
         have hv1n:((h.vote.length:Int) != 20)=true:=by rw [bne,hv1I];rfl
         have hR:R=false:=by rw [hok];rfl
         clear hok
         have HR:=qh hR
         clear hR
         go_enter Tryz.func34,Tryz.ntmps34
         go_wp2_with fail
         refine HA.out.mono ?_
         rintro e w' ⟨rfl,rfl⟩
         go_wp2_with fail
         go_ret
         exact ⟨by rw [HR.out];rfl,HB0.out⟩
        | true =>
         have hv1n:((h.vote.length:Int) != 20)=false:=by rw [bne,hv1I];rfl
         rw [Bool.true_and] at hok
         have HOK:=qh hok
         clear hok
         by_cases hse:(16:Int) < h.seals.length
         ·have hR:R=false:=by rw [HOK.out,show decide (h.seals.length≤16)=false by rw [decide_eq_false_iff_not];omega];rfl
          have HR:=qh hR
          clear hR
          go_enter Tryz.func34,Tryz.ntmps34
          go_wp2_with fail
          refine HA.out.mono ?_
          rintro e w' ⟨rfl,rfl⟩
          go_wp2_with fail
          go_ret
          exact ⟨by rw [HR.out];rfl,HB0.out⟩
         ·have hok:=HOK.out
          rw [show decide (h.seals.length≤16)=true by rw [decide_eq_true_iff];omega,Bool.true_and] at hok
          have HOK:=qh hok
          clear hok
          go_enter Tryz.func34,Tryz.ntmps34
          go_wp2_with fail
          refine HA.out.mono ?_
          rintro e w' ⟨rfl,rfl⟩
          go_wp2_with fail
          go_loopw [67] (fun x wr=>∃ k:Nat,k≤h.seals.length∧x=.int .i64 (k:Int)∧Hid ((h.seals.take k).all okSg=true)∧Below w.heap.size w wr) (fun x _=>h.seals.length - (intOf x).toNat)
          case atStart=>exact ⟨0,Nat.zero_le _,rfl,qh rfl,HB0.out⟩
          case round =>
           obtain ⟨k,hk,rfl,HA2,hb⟩:=hrel
           by_cases hlt2:k < h.seals.length
           ·obtain ⟨x,hx⟩:=getElem_ex hlt2
            obtain ⟨g,o,rfl,hc⟩:=sgs_at (PlV.keep HV.out.seals hb) hx
            have hlt2I:(k:Int) < h.seals.length:=by omega
            have q0:=hc 0 (.int .u64 (x.r.a:Int)) rfl
            have q1:=hc 1 (.int .u64 (x.r.b:Int)) rfl
            have q2:=hc 2 (.int .u64 (x.r.c:Int)) rfl
            have q3:=hc 3 (.int .u64 (x.r.d:Int)) rfl
            have q4:=hc 4 (.int .u64 (x.s.a:Int)) rfl
            have q5:=hc 5 (.int .u64 (x.s.b:Int)) rfl
            have q6:=hc 6 (.int .u64 (x.s.c:Int)) rfl
            have q7:=hc 7 (.int .u64 (x.s.d:Int)) rfl
            have q8:=hc 8 (.int .i64 x.v) rfl
            simp only [Nat.add_zero] at q0
            have hxw:=HF.out.wf.seals x (List.mem_of_getElem? hx)
            have hbx:Below w.heap.size w (wr.alloc (.cells #[.int .u64 (x.r.a:Int),.int .u64 (x.r.b:Int),.int .u64 (x.r.c:Int),.int .u64 (x.r.d:Int),.int .u64 (x.s.a:Int),.int .u64 (x.s.b:Int),.int .u64 (x.s.c:Int),.int .u64 (x.s.d:Int),.int .i64 x.v] 53)):=hb.alloc hb.size _
            have HBX:=qh hbx
            have HXX:=qh hx
            cases hok:okSg x with
            | false =>
             have hR:R=false:=by
              rw [HOK.out]
              exact Bool.eq_false_iff.2 fun h1=>by rw [List.all_eq_true.1 h1 x (List.mem_of_getElem? HXX.out)] at hok;cases hok
             have HR:=qh hR
             have HC:=qh (fun W:World=>IsSig_any x hxw W)
             rw [hok] at HC
             clear hR hok hxw hb hbx hc hx HA2
             go_wp2_with fail
             refine (HC.out _).mono ?_
             rintro e w1 ⟨rfl,hb1⟩
             have HB1:=qh (below_call HBX.out HBX.out.size hb1)
             clear hb1
             go_wp2_with fail
             go_ret
             exact ⟨by rw [HR.out];rfl,HB1.out⟩
            | true =>
             have HA3:Hid ((h.seals.take (k+1)).all okSg=true):=qh (by rw [take_snoc HXX.out,List.all_append,HA2.out];simp [hok])
             have HC:=qh (fun W:World=>IsSig_any x hxw W)
             rw [hok] at HC
             clear hok hxw hb hbx hc hx HA2
             go_wp2_with fail
             refine (HC.out _).mono ?_
             rintro e w1 ⟨rfl,hb1⟩
             have HB1:=qh (below_call HBX.out HBX.out.size hb1)
             clear hb1
             go_wp2_with fail
             go_roundw
             case rel=>exact ⟨k+1,by omega,by go_num,HA3,HB1.out⟩
             case measure=>simp [intOf];omega
           ·obtain rfl:k=h.seals.length:=by omega
            have hR:R=true:=by rw [HOK.out,← HA2.out,List.take_of_length_le qn]
            have HR:=qh hR
            have HB1:=qh hb
            clear hR hb
            go_wp2_with fail
            go_ret
            exact ⟨by rw [HR.out];rfl,HB1.out⟩
/- The walk of the reference's Record of a header. -/
theorem rhwrite_lit (h:Hd) (hw:h.Wf) (hk:OkHd h) (A:Option Addr) (c:Nat) (w:World) (hv:FdsV Any w (hdF h) A c) :
  Calls Tryz.prog 65 #[.string ⟨#[104,110,104,104,97,98,42,97,98,110,110,42,115]⟩,.slice A 11 c] w fun e w'=>e=.returned (.tuple #[.string (bs (hdB h)),.int .i64 0])∧Below w.heap.size w w':=by
 have hv6:h.vals.length≤16:=(okVals_len hk.vals).2
 have hs16:=hk.seals
 have h1:=rWrite_any hdK hdK_ok (by decide) (by decide) (hdF h) (hdF_small hw) (by show 11≤1000;decide) (fun f hf=>by
  simp only [hdF,List.mem_cons,List.not_mem_nil,or_false] at hf
  rcases hf with rfl | rfl | rfl | rfl | rfl | rfl | rfl | rfl | rfl | rfl | rfl <;> first | exact Nat.zero_le _ | (simp only [List.length_map];omega)) A c w hv
 have h2:fwP hdK (hdF h)=(hdB h,0):=by
  unfold fwP
  rw [if_pos (hdF_fits hk),encR_fine (by decide) (hdF_fits hk) (hdF_small hw) (by have:=hdB_len hk hw;unfold hdB at this;omega)]
  rfl
 rw [h2] at h1
 exact h1
theorem hdC_new (w:World) (h:Hd) (av:Nat) (had:addN h.add=av) (A1 A':Option Addr) (c1 c':Nat) (hv:LfsV Any w (h.vals.map valF) A1 c1) (hs:LfsV Any w (h.seals.map sealF) A' c'):FdsV Any (w.alloc (.cells #[.int .u64 0,.string (bs h.parent),.slice none 0 0,.int .u64 (h.height:Int),.string ⟨#[]⟩,.slice none 0 0,.int .u64 0,.string (bs h.root),.slice none 0 0,.int .u64 0,.string (bs h.txs),.slice none 0 0,.int .u64 0,.string (bs h.prop),.slice none 0 0,.int .u64 0,.string (bs h.van),.slice none 0 0,.int .u64 0,.string ⟨#[]⟩,.slice A1 h.vals.length c1,.int .u64 0,.string (bs h.vote),.slice none 0 0,.int .u64 (av:Int),.string ⟨#[]⟩,.slice none 0 0,.int .u64 (h.round:Int),.string ⟨#[]⟩,.slice none 0 0,.int .u64 0,.string ⟨#[]⟩,.slice A' h.seals.length c'] 79)) (hdF h) (some ⟨w.heap.size,0,none⟩) 11:=by
 have k1:LfsV Any (w.alloc (.cells #[.int .u64 0,.string (bs h.parent),.slice none 0 0,.int .u64 (h.height:Int),.string ⟨#[]⟩,.slice none 0 0,.int .u64 0,.string (bs h.root),.slice none 0 0,.int .u64 0,.string (bs h.txs),.slice none 0 0,.int .u64 0,.string (bs h.prop),.slice none 0 0,.int .u64 0,.string (bs h.van),.slice none 0 0,.int .u64 0,.string ⟨#[]⟩,.slice A1 h.vals.length c1,.int .u64 0,.string (bs h.vote),.slice none 0 0,.int .u64 (av:Int),.string ⟨#[]⟩,.slice none 0 0,.int .u64 (h.round:Int),.string ⟨#[]⟩,.slice none 0 0,.int .u64 0,.string ⟨#[]⟩,.slice A' h.seals.length c'] 79)) (h.vals.map valF) A1 c1:=Rep.mono hv (fun b hb _=>⟨trivial,heap_alloc_old w _ hb⟩)
 have k2:LfsV Any (w.alloc (.cells #[.int .u64 0,.string (bs h.parent),.slice none 0 0,.int .u64 (h.height:Int),.string ⟨#[]⟩,.slice none 0 0,.int .u64 0,.string (bs h.root),.slice none 0 0,.int .u64 0,.string (bs h.txs),.slice none 0 0,.int .u64 0,.string (bs h.prop),.slice none 0 0,.int .u64 0,.string (bs h.van),.slice none 0 0,.int .u64 0,.string ⟨#[]⟩,.slice A1 h.vals.length c1,.int .u64 0,.string (bs h.vote),.slice none 0 0,.int .u64 (av:Int),.string ⟨#[]⟩,.slice none 0 0,.int .u64 (h.round:Int),.string ⟨#[]⟩,.slice none 0 0,.int .u64 0,.string ⟨#[]⟩,.slice A' h.seals.length c'] 79)) (h.seals.map sealF) A' c':=Rep.mono hs (fun b hb _=>⟨trivial,heap_alloc_old w _ hb⟩)
 have e1:=fd_rep (f:=⟨0,[],h.vals.map valF⟩) k1
 have e2:=fd_rep (f:=⟨0,[],h.seals.map sealF⟩) k2
 unfold fdC at e1 e2
 simp only [List.length_map] at e1 e2
 unfold FdsV hdF
 rw [had]
 exact .sl (.cons (fd_repz 0 h.parent) rfl (.cons (fd_repz h.height []) rfl (.cons (fd_repz 0 h.root) rfl (.cons (fd_repz 0 h.txs) rfl (.cons (fd_repz 0 h.prop) rfl (.cons (fd_repz 0 h.van) rfl (.cons e1 rfl (.cons (fd_repz 0 h.vote) rfl (.cons (fd_repz av []) rfl (.cons (fd_repz h.round []) rfl (.cons (cs':=[]) e2 rfl .nil))))))))))) rfl (lies_new w _ _) qn (by simp only [maxLen];omega)
theorem rrecord_any (h:Hd) (hw:h.Wf) (hk:OkHd h) (Av As:Option Addr) (cv cs:Nat) (w:World) (hv:HdV Any w h Av cv As cs) :
  Calls Tryz.prog 38 #[.agg #[.string (bs h.parent),.int .u64 (h.height:Int),.string (bs h.root),.string (bs h.txs),.string (bs h.prop),.string (bs h.van),.slice Av h.vals.length cv,.string (bs h.vote),.bool h.add,.int .u64 (h.round:Int),.slice As h.seals.length cs]] w fun e w'=>e=.returned (.string (bs (hdB h)))∧Below w.heap.size w w':=by
 have hvl:h.vals.length≤16:=(okVals_len hk.vals).2
 have hs16:=hk.seals
 have hs63:(h.seals.length:Int)≤16:=by omega
 have hv63:(h.vals.length:Int)≤16:=by omega
 have HV:=qh hv
 have HSW:=qh (fun x hx=>(⟨hw.seals x hx,hk.each x hx⟩:x.Wf∧okSg x=true))
 have HWR:=qh (fun A c W hv=>rhwrite_lit h hw hk A c W hv)
 have h0:=heap_alloc_new w (.cells #[.string (bs h.parent),.int .u64 (h.height:Int),.string (bs h.root),.string (bs h.txs),.string (bs h.prop),.string (bs h.van),.slice Av h.vals.length cv,.string (bs h.vote),.bool h.add,.int .u64 (h.round:Int),.slice As h.seals.length cs] 26)
 have h1:=heap_alloc_new (w.alloc (.cells #[.string (bs h.parent),.int .u64 (h.height:Int),.string (bs h.root),.string (bs h.txs),.string (bs h.prop),.string (bs h.van),.slice Av h.vals.length cv,.string (bs h.vote),.bool h.add,.int .u64 (h.round:Int),.slice As h.seals.length cs] 26)) (.cells #[.int .u64 0,.string ⟨#[]⟩,.slice none 0 0] 79)
 have h0:=(heap_alloc_old _ (.cells #[.int .u64 0,.string ⟨#[]⟩,.slice none 0 0] 79) (qg h0)).trans h0
 simp only [World.size_alloc] at h1
 have hb:=((Below.refl w.heap.size w).alloc qn (.cells #[.string (bs h.parent),.int .u64 (h.height:Int),.string (bs h.root),.string (bs h.txs),.string (bs h.prop),.string (bs h.van),.slice Av h.vals.length cv,.string (bs h.vote),.bool h.add,.int .u64 (h.round:Int),.slice As h.seals.length cs] 26)).alloc (by simp) (.cells #[.int .u64 0,.string ⟨#[]⟩,.slice none 0 0] 79)
 have hz:((w.alloc (.cells #[.string (bs h.parent),.int .u64 (h.height:Int),.string (bs h.root),.string (bs h.txs),.string (bs h.prop),.string (bs h.van),.slice Av h.vals.length cv,.string (bs h.vote),.bool h.add,.int .u64 (h.round:Int),.slice As h.seals.length cs] 26)).alloc (.cells #[.int .u64 0,.string ⟨#[]⟩,.slice none 0 0] 79)).heap.size=w.heap.size+2:=by simp
 have HX:=qh h0
 have HP:=qh h1
 have HB:=qh hb
 have HZ:=qh hz
 have x0:=rc (u:=.string (bs h.parent)) h0 0 rfl
 have x1:=rc (u:=.int .u64 (h.height:Int)) h0 1 rfl
 have x2:=rc (u:=.string (bs h.root)) h0 2 rfl
 have x3:=rc (u:=.string (bs h.txs)) h0 3 rfl
 have x4:=rc (u:=.string (bs h.prop)) h0 4 rfl
 have x5:=rc (u:=.string (bs h.van)) h0 5 rfl
 have x6:=rc (u:=.slice Av h.vals.length cv) h0 6 rfl
 have x7:=rc (u:=.string (bs h.vote)) h0 7 rfl
 have x8:=rc (u:=.bool h.add) h0 8 rfl
 have x9:=rc (u:=.int .u64 (h.round:Int)) h0 9 rfl
 have x10:=rc (u:=.slice As h.seals.length cs) h0 10 rfl
 clear h0 h1 hb hz hv hw hk hs16 hvl
 go_enter Tryz.func38,Tryz.ntmps38
 go_wp2_with fail
 generalize (w.alloc (.cells #[.string (bs h.parent),.int .u64 (h.height:Int),.string (bs h.root),.string (bs h.txs),.string (bs h.prop),.string (bs h.van),.slice Av h.vals.length cv,.string (bs h.vote),.bool h.add,.int .u64 (h.round:Int),.slice As h.seals.length cs] 26)).alloc (.cells #[.int .u64 0,.string ⟨#[]⟩,.slice none 0 0] 79)=W0 at HX HP HB HZ ⊢
 clear x0 x1 x2 x3 x4 x5 x6 x7 x8 x9 x10
 go_loopw [17] (fun a wr=>∃ (i:Nat) (u:Value),a=.int .i64 (i:Int)∧i≤h.vals.length∧wr.heap[w.heap.size]? = some (.cells #[.string (bs h.parent),.int .u64 (h.height:Int),.string (bs h.root),.string (bs h.txs),.string (bs h.prop),.string (bs h.van),.slice Av h.vals.length cv,.string (bs h.vote),.bool h.add,.int .u64 (h.round:Int),.slice As h.seals.length cs] 26 (0,0))∧wr.heap[w.heap.size+1]? = some (.cells #[.int .u64 0,.string ⟨#[]⟩,u] 79 (0,0))∧wr.ownsRow (w.heap.size+2) 79 3 u i (lfsC ((h.vals.take i).map valF))∧Below w.heap.size w wr) (fun a _=>h.vals.length - (intOf a).toNat)
 case atStart=>exact ⟨0,_,rfl,Nat.zero_le _,HX.out,HP.out,World.ownsRow_nil _ _ _ _,HB.out⟩
 case round =>
  clear HX HP HB HZ
  obtain ⟨i,u,rfl,hi,hX,hP,hown,hB⟩:=hrel
  obtain ⟨A1,c1,rfl⟩:=own_form hown
  by_cases hlt:i < h.vals.length
  ·obtain ⟨a,ha⟩:=getElem_ex hlt
   obtain ⟨g,o,rfl,_,hc⟩:=StrV.at_ (StrV.keep HV.out.vals hB) ha
   have hltI:(i:Int) < h.vals.length:=by omega
   have hsz:w.heap.size+2≤wr.heap.size:=(qg hP)
   have p2:=rc (u:=.slice A1 i c1) hP 2 rfl
   have HA:=qh (take_snoc ha)
   have HX:=qh hX
   have HP:=qh hP
   have HO:=qh hown
   have HB:=qh hB
   clear hX hP hown hB ha
   go_wp2_with (at_builtin;refine wpl_append elField rfl rfl (w.heap.size+2) (HO.out.alloc _) rfl (m:=1) [.int .u64 0,.string (bs a),.slice none 0 0] rfl rfl (lies_new _ _ _) ?_ ?_ ?_ ?_ ?_;(intro u hu;simp at hu;rcases hu with rfl | rfl | rfl <;> rfl);(simp only [maxLen];omega);omega;(simp;omega);intro v1 w8 hown1 hg1 hat1;obtain ⟨A3,c3,rfl⟩:=own_form hown1;have hba:Below wr.heap.size wr (wr.alloc (.cells #[.int .u64 0,.string (bs a),.slice none 0 0] 79)):=(Below.refl _ _).alloc qn _;have hP8:=(hg1.block (w.heap.size+1) (Nat.lt_of_lt_of_le (by omega) hba.size) (fun e=>by have:=(HO.out.lt _ e.symm).1;omega)).trans ((hba.block (w.heap.size+1) (by omega)).trans HP.out);have d:=rc (u:=.slice A1 i c1) hP8 2 rfl;have df:=rf hP8 2)
   have hX8:=(hg1.block w.heap.size (Nat.lt_of_lt_of_le (by omega) hba.size) (fun e=>by have:=(HO.out.lt _ e.symm).1;omega)).trans ((hba.block w.heap.size (by omega)).trans HX.out)
   have hB8:=below_app (below_call HB.out HB.out.size hba) (own_keep HO.out hba) hg1 (by simp;omega) (by omega)
   have hPn:(w8.setCell ⟨w.heap.size+1,2,none⟩ (.slice A3 (i+1) c3)).heap[w.heap.size+1]? = some (.cells #[.int .u64 0,.string ⟨#[]⟩,.slice A3 (i+1) c3] 79 (0,0)):=heap_setCell_here hP8 (i:=2) _
   have hXn:=(heap_set_ne (w:=w8) (b:=w.heap.size+1) (i:=2) (show w.heap.size≠w.heap.size+1 by omega) (.slice A3 (i+1) c3)).trans hX8
   have hBn:=hB8.setCell (p:=⟨w.heap.size+1,2,none⟩) (show w.heap.size≤w.heap.size+1 by omega) (.slice A3 (i+1) c3)
   have hOn:=own_setOther hown1 (show w.heap.size+1 < w.heap.size+2 by omega) (i:=2) (.slice A3 (i+1) c3)
   rw [show lfsC ((h.vals.take i).map valF) ++ [.int .u64 0,.string (bs a),.slice none 0 0]=lfsC ((h.vals.take (i+1)).map valF) by rw [HA.out,List.map_append,List.map_singleton,lfsC_snoc];rfl] at hOn
   go_roundw
   case rel=>exact ⟨i+1,_,by go_num,hlt,hXn,hPn,hOn,hBn⟩
   case measure=>simp [intOf];omega
  ·obtain rfl:i=h.vals.length:=by omega
   rw [List.take_of_length_le qn] at hown
   have hLv:LfsV (fun b=>w.heap.size+2≤b∧b < wr.heap.size) wr (h.vals.map valF) A1 c1:=lfs_own hown (by rw [List.length_map]) (fun g h1 h2=>⟨h1,h2⟩)
   have h2:=heap_alloc_new wr (.cells #[.int .u64 0,.string ⟨#[]⟩,.slice none 0 0] 79)
   have hX2:=(heap_alloc_old wr (.cells #[.int .u64 0,.string ⟨#[]⟩,.slice none 0 0] 79) (qg hX)).trans hX
   have y10:=rc (u:=.slice As h.seals.length cs) hX 10 rfl
   have z10:=rc (u:=.slice As h.seals.length cs) hX2 10 rfl
   have hsz:w.heap.size+2≤wr.heap.size:=(qg hP)
   have HLV:=qh hLv
   have HX:=qh hX
   have HP:=qh hP
   have HB0:=qh hB
   have HZ2:=qh h2
   clear hLv h2 hX2 hX hP hown hB
   go_wp2_with fail
   clear y10 z10
   rename World=>W2
   obtain ⟨Z,hZe⟩:∃ Z,W2.heap.size=Z:=⟨_,rfl⟩
   have hB3:Below W2.heap.size W2 (W2.alloc (.cells #[.int .u64 0,.string ⟨#[]⟩,.slice none 0 0] 79)):=(Below.refl _ _).alloc qn _
   have HB3:=qh hB3
   clear hB3
   generalize W2.alloc (.cells #[.int .u64 0,.string ⟨#[]⟩,.slice none 0 0] 79)=W9 at HZ2 HB3 ⊢
   rw [hZe] at HZ2 HLV hsz ⊢
   go_loopw [33] (fun a wr=>∃ (k:Nat) (u:Value),a=.int .i64 (k:Int)∧k≤h.seals.length∧wr.heap[Z]? = some (.cells #[.int .u64 0,.string ⟨#[]⟩,u] 79 (0,0))∧wr.ownsRow (Z+1) 79 3 u k (lfsC ((h.seals.take k).map sealF))∧Below W2.heap.size W2 wr) (fun a _=>h.seals.length - (intOf a).toNat)
   case atStart=>exact ⟨0,_,rfl,Nat.zero_le _,HZ2.out,World.ownsRow_nil _ _ _ _,HB3.out⟩
   case round =>
    clear HZ2 HB3
    obtain ⟨k,u,rfl,hk,hZ,hown,hB⟩:=hrel
    obtain ⟨A',c',rfl⟩:=own_form hown
    by_cases hlt2:k < h.seals.length
    ·obtain ⟨x,hx⟩:=getElem_ex hlt2
     obtain ⟨g,o,rfl,hc⟩:=sgs_at (PlV.keep HV.out.seals (HB0.out.trans (hB.mono (by omega)))) hx
     have hltI:(k:Int) < h.seals.length:=by omega
     have q0:=hc 0 (.int .u64 (x.r.a:Int)) rfl
     have q1:=hc 1 (.int .u64 (x.r.b:Int)) rfl
     have q2:=hc 2 (.int .u64 (x.r.c:Int)) rfl
     have q3:=hc 3 (.int .u64 (x.r.d:Int)) rfl
     have q4:=hc 4 (.int .u64 (x.s.a:Int)) rfl
     have q5:=hc 5 (.int .u64 (x.s.b:Int)) rfl
     have q6:=hc 6 (.int .u64 (x.s.c:Int)) rfl
     have q7:=hc 7 (.int .u64 (x.s.d:Int)) rfl
     have q8:=hc 8 (.int .i64 x.v) rfl
     simp only [Nat.add_zero] at q0
     obtain ⟨hxw,hxk⟩:=HSW.out x (List.mem_of_getElem? hx)
     have HT:=qh (take_snoc hx)
     have HC:=qh (fun W:World=>rsgB_any x hxw W)
     have HZ:=qh hZ
     have HO:=qh hown
     have HB:=qh hB
     clear hx hxw hxk hZ hown hB hc
     go_wp2_with fail
     clear q0 q1 q2 q3 q4 q5 q6 q7 q8
     have hZ:(wr.alloc (.cells #[.int .u64 (x.r.a:Int),.int .u64 (x.r.b:Int),.int .u64 (x.r.c:Int),.int .u64 (x.r.d:Int),.int .u64 (x.s.a:Int),.int .u64 (x.s.b:Int),.int .u64 (x.s.c:Int),.int .u64 (x.s.d:Int),.int .i64 x.v] 53)).drew.heap[Z]? = some (.cells #[.int .u64 0,.string ⟨#[]⟩,.slice A' k c'] 79 (0,0)):=(heap_alloc_old wr (.cells #[.int .u64 (x.r.a:Int),.int .u64 (x.r.b:Int),.int .u64 (x.r.c:Int),.int .u64 (x.r.d:Int),.int .u64 (x.s.a:Int),.int .u64 (x.s.b:Int),.int .u64 (x.s.c:Int),.int .u64 (x.s.d:Int),.int .i64 x.v] 53) (qg HZ.out)).trans HZ.out
     have hY:(wr.alloc (.cells #[.int .u64 (x.r.a:Int),.int .u64 (x.r.b:Int),.int .u64 (x.r.c:Int),.int .u64 (x.r.d:Int),.int .u64 (x.s.a:Int),.int .u64 (x.s.b:Int),.int .u64 (x.s.c:Int),.int .u64 (x.s.d:Int),.int .i64 x.v] 53)).drew.heap[wr.heap.size]? = some (.cells #[.int .u64 (x.r.a:Int),.int .u64 (x.r.b:Int),.int .u64 (x.r.c:Int),.int .u64 (x.r.d:Int),.int .u64 (x.s.a:Int),.int .u64 (x.s.b:Int),.int .u64 (x.s.c:Int),.int .u64 (x.s.d:Int),.int .i64 x.v] 53 (0,0)):=heap_alloc_new wr (.cells #[.int .u64 (x.r.a:Int),.int .u64 (x.r.b:Int),.int .u64 (x.r.c:Int),.int .u64 (x.r.d:Int),.int .u64 (x.s.a:Int),.int .u64 (x.s.b:Int),.int .u64 (x.s.c:Int),.int .u64 (x.s.d:Int),.int .i64 x.v] 53)
     have hB:Below W2.heap.size W2 (wr.alloc (.cells #[.int .u64 (x.r.a:Int),.int .u64 (x.r.b:Int),.int .u64 (x.r.c:Int),.int .u64 (x.r.d:Int),.int .u64 (x.s.a:Int),.int .u64 (x.s.b:Int),.int .u64 (x.s.c:Int),.int .u64 (x.s.d:Int),.int .i64 x.v] 53)).drew:=(HB.out.alloc HB.out.size (.cells #[.int .u64 (x.r.a:Int),.int .u64 (x.r.b:Int),.int .u64 (x.r.c:Int),.int .u64 (x.r.d:Int),.int .u64 (x.s.a:Int),.int .u64 (x.s.b:Int),.int .u64 (x.s.c:Int),.int .u64 (x.s.d:Int),.int .i64 x.v] 53)).drew
     have hown:=own_keep HO.out ((Below.refl wr.heap.size wr).alloc qn (.cells #[.int .u64 (x.r.a:Int),.int .u64 (x.r.b:Int),.int .u64 (x.r.c:Int),.int .u64 (x.r.d:Int),.int .u64 (x.s.a:Int),.int .u64 (x.s.b:Int),.int .u64 (x.s.c:Int),.int .u64 (x.s.d:Int),.int .i64 x.v] 53)).drew
     have hob:=fun k e=>(HO.out.lt k e).2
     clear HZ HB HO
     refine wp_region_R [(8,fun w'=>w'.heap[Z]? = some (.cells #[.int .u64 0,.string ⟨#[]⟩,.slice A' k c'] 79 (0,0))∧w'.heap[wr.heap.size]? = some (.cells #[.int .u64 (x.r.a:Int),.int .u64 (x.r.b:Int),.int .u64 (x.r.c:Int),.int .u64 (x.r.d:Int),.int .u64 (x.s.a:Int),.int .u64 (x.s.b:Int),.int .u64 (x.s.c:Int),.int .u64 (x.s.d:Int),.int .i64 x.v] 53 (0,0)))] (by kernel_rfl) ?_
     generalize (wr.alloc (.cells #[.int .u64 (x.r.a:Int),.int .u64 (x.r.b:Int),.int .u64 (x.r.c:Int),.int .u64 (x.r.d:Int),.int .u64 (x.s.a:Int),.int .u64 (x.s.b:Int),.int .u64 (x.s.c:Int),.int .u64 (x.s.d:Int),.int .i64 x.v] 53)).drew=W3 at hZ hY hB hown ⊢
     refine R_p (i:=0) (v:=.pointer (some ⟨Z,2,none⟩)) (Meets.here ⟨hZ,hY⟩ Meets.nil) ?_
     refine R_l (i:=2) (v:=.agg #[.int .u64 (x.r.a:Int),.int .u64 (x.r.b:Int),.int .u64 (x.r.c:Int),.int .u64 (x.r.d:Int),.int .u64 (x.s.a:Int),.int .u64 (x.s.b:Int),.int .u64 (x.s.c:Int),.int .u64 (x.s.d:Int),.int .i64 x.v]) 8 _ List.mem_cons_self rfl (yieldsIf_load_row rfl rfl rfl (fun w' hS=>hS.2) Tryz.underlying53 rfl infoSg) (Meets.here ⟨hZ,hY⟩ Meets.nil) ?_
     refine R_l (i:=1) (v:=.slice A' k c') 8 _ List.mem_cons_self rfl (yieldsIf_load_cell rfl rfl rfl (fun w' hS=>rc hS.1 2 rfl) Tryz.underlying76 rfl) (Meets.here ⟨hZ,hY⟩ Meets.nil) ?_
     refine R_now 3 fun K hK=>?_
     go_simp
     refine (HC.out _).mono ?_
     rintro e w3 ⟨rfl,hb3⟩
     replace hZ:=(hb3.block _ (qg hZ)).trans hZ
     replace hY:=(hb3.block _ (qg hY)).trans hY
     replace hB:=below_call hB hB.size hb3
     replace hown:=own_keep hown hb3
     clear hb3
     refine hK.out _ _ (Meets.here ⟨hZ,hY⟩ Meets.nil) (fun hMeets=>?_)
     clear hK K hMeets
     refine lay_R ?_
     refine R_p (i:=4) (v:=.agg #[.int .u64 0,.string (bs (sgB x)),.slice none 0 0]) (Meets.here ⟨hZ,hY⟩ Meets.nil) ?_
     refine R_now 5 fun K hK=>?_
     have hbb:Below w3.heap.size w3 (w3.alloc (.cells #[.int .u64 0,.string (bs (sgB x)),.slice none 0 0] 79)):=(Below.refl _ _).alloc qn _
     have hlies:=lies_new w3 #[.int .u64 0,.string (bs (sgB x)),.slice none 0 0] 79
     replace hZ:=(hbb.block _ (qg hZ)).trans hZ
     replace hY:=(hbb.block _ (qg hY)).trans hY
     replace hB:=below_call hB hB.size hbb
     replace hown:=own_keep hown hbb
     go_simp
     obtain ⟨N,hN⟩:∃ N,w3.heap.size=N:=⟨_,rfl⟩
     rw [hN] at hlies ⊢
     generalize w3.alloc (.cells #[.int .u64 0,.string (bs (sgB x)),.slice none 0 0] 79)=w5 at hlies hZ hY hB hown ⊢
     clear hbb hN
     refine hK.out _ _ (Meets.here ⟨hZ,hY⟩ Meets.nil) (fun hMeets=>?_)
     clear hK K hMeets
     refine lay_R ?_
     refine R_now 6 fun K hK=>?_
     have hle:Z+1≤w5.heap.size:=(qg hZ)
     have hlY:=(qg hY)
     refine stl_append elField rfl rfl (Z+1) hown rfl (m:=1) [.int .u64 0,.string (bs (sgB x)),.slice none 0 0] rfl rfl hlies ?_ ?_ ?_ hle ?_
     ·(intro u hu;simp at hu;rcases hu with rfl | rfl | rfl <;> rfl)
     ·simp only [maxLen];omega
     ·omega
     intro v1 w6 hown1 hg1 hat1
     obtain ⟨A3,c3,rfl⟩:=own_form hown1
     have hbp:=below_app (Below.refl (Z+1) _) hown hg1 hle qn
     replace hZ:=(hbp.block Z (Nat.lt_succ_self _)).trans hZ
     replace hB:=hB.trans (hbp.mono (by omega))
     replace hY:=(hg1.block wr.heap.size hlY (fun e=>by have:=hob _ e.symm;omega)).trans hY
     clear hown hlies hbp hg1 hat1
     have hown:=hown1
     clear hown1
     refine hK.out _ _ (Meets.here ⟨hZ,hY⟩ Meets.nil) (fun hMeets=>?_)
     clear hK K hMeets
     refine lay_R ?_
     refine R_p (i:=7) (v:=.pointer (some ⟨Z,2,none⟩)) (Meets.here ⟨hZ,hY⟩ Meets.nil) ?_
     refine R_now 8 fun K hK=>?_
     have d:=rc (u:=.slice A' k c') hZ 2 rfl
     have df:=rf hZ 2
     go_simp
     have hZn:(w6.setCell ⟨Z,2,none⟩ (.slice A3 (k+1) c3)).heap[Z]? = some (.cells #[.int .u64 0,.string ⟨#[]⟩,.slice A3 (k+1) c3] 79 (0,0)):=heap_setCell_here hZ (i:=2) _
     replace hB:=hB.setCell (p:=⟨Z,2,none⟩) (show W2.heap.size≤Z by omega) (.slice A3 (k+1) c3)
     replace hown:=own_setOther hown (Nat.lt_succ_self Z) (i:=2) (.slice A3 (k+1) c3)
     generalize w6.setCell ⟨Z,2,none⟩ (.slice A3 (k+1) c3)=w8 at hZn hB hown ⊢
     clear hZ d df
     refine hK.out _ _ (Meets.past (by kernel_rfl) Meets.nil) (fun hMeets=>?_)
     clear hK K hMeets
     refine lay_R ?_
     refine R_done (by kernel_rfl) ?_ _
     rw [show lfsC ((h.seals.take k).map sealF) ++ [.int .u64 0,.string (bs (sgB x)),.slice none 0 0]=lfsC ((h.seals.take (k+1)).map sealF) by rw [HT.out,List.map_append,List.map_singleton,lfsC_snoc];rfl] at hown
     have HZ:=qh hZn
     have HB:=qh hB
     have HO:=qh hown
     clear hZn hB hown
     go_wp2_with fail
     go_roundw
     case rel=>exact ⟨k+1,_,by go_num,hlt2,HZ.out,HO.out,HB.out⟩
     case measure=>simp [intOf];omega
    ·obtain rfl:k=h.seals.length:=by omega
     rw [List.take_of_length_le qn] at hown
     have hLs:LfsV Any wr (h.seals.map sealF) A' c':=lfs_own hown (by rw [List.length_map]) (fun _ _ _=>trivial)
     have hLv:LfsV Any wr (h.vals.map valF) A1 c1:=Rep.mono HLV.out (fun b _ hb=>⟨trivial,hB.block b (by have h2:b < Z:=hb.2;omega)⟩)
     have hX:=(hB.block _ (by omega)).trans HX.out
     have hP:=(hB.block _ (by omega)).trans HP.out
     have hBB:=HB0.out.trans (hB.mono (by omega))
     have hX1:=(heap_alloc_old wr (.cells #[.int .u64 0,.string ⟨#[]⟩,.slice none 0 0] 79) (qg hX)).trans hX
     have hP1:=(heap_alloc_old wr (.cells #[.int .u64 0,.string ⟨#[]⟩,.slice none 0 0] 79) (qg hP)).trans hP
     have hZ1:=(heap_alloc_old wr (.cells #[.int .u64 0,.string ⟨#[]⟩,.slice none 0 0] 79) (qg hZ)).trans hZ
     have hN1:=heap_alloc_new wr (.cells #[.int .u64 0,.string ⟨#[]⟩,.slice none 0 0] 79)
     have hB1:Below wr.heap.size wr (wr.alloc (.cells #[.int .u64 0,.string ⟨#[]⟩,.slice none 0 0] 79)):=(Below.refl _ _).alloc qn _
     have hlZ:=(qg hZ)
     have hlX:=(qg hX)
     have hlP:=(qg hP)
     have HLS:=qh hLs
     have HLV:=qh hLv
     have HBB:=qh hBB
     have HB1:=qh hB1
     have HX1:=qh hX1
     have HP1:=qh hP1
     have HZ1:=qh hZ1
     have HN1:=qh hN1
     have HXw:=qh hX
     have HPw:=qh hP
     have HZw:=qh hZ
     clear hLs hLv hX hP hBB hX1 hP1 hZ1 hN1 hB1 hB hZ hown HX HP HB0
     cases had:h.add with
     | false =>
      rw [had] at HX1
      have x0:=rc (u:=.string (bs h.parent)) HX1.out 0 rfl
      have x1:=rc (u:=.int .u64 (h.height:Int)) HX1.out 1 rfl
      have x2:=rc (u:=.string (bs h.root)) HX1.out 2 rfl
      have x3:=rc (u:=.string (bs h.txs)) HX1.out 3 rfl
      have x4:=rc (u:=.string (bs h.prop)) HX1.out 4 rfl
      have x5:=rc (u:=.string (bs h.van)) HX1.out 5 rfl
      have x6:=rc (u:=.slice Av h.vals.length cv) HX1.out 6 rfl
      have x7:=rc (u:=.string (bs h.vote)) HX1.out 7 rfl
      have x8:=rc (u:=.bool false) HX1.out 8 rfl
      have x9:=rc (u:=.int .u64 (h.round:Int)) HX1.out 9 rfl
      have x10:=rc (u:=.slice As h.seals.length cs) HX1.out 10 rfl
      have p0:=rc (u:=.int .u64 0) HP1.out 0 rfl
      have p1:=rc (u:=.string ⟨#[]⟩) HP1.out 1 rfl
      have p2:=rc (u:=.slice A1 h.vals.length c1) HP1.out 2 rfl
      have z0:=rc (u:=.int .u64 0) HZ1.out 0 rfl
      have z1:=rc (u:=.string ⟨#[]⟩) HZ1.out 1 rfl
      have z2:=rc (u:=.slice A' h.seals.length c') HZ1.out 2 rfl
      have n0:=rc (u:=.int .u64 0) HN1.out 0 rfl
      have n1:=rc (u:=.string ⟨#[]⟩) HN1.out 1 rfl
      have n2:=rc (u:=.slice none 0 0) HN1.out 2 rfl
      have HFV:=qh (hdC_new (wr.alloc (.cells #[.int .u64 0,.string ⟨#[]⟩,.slice none 0 0] 79)) h 0 (by rw [had];rfl) A1 A' c1 c' (Rep.mono HLV.out (fun b hb _=>⟨trivial,HB1.out.block b hb⟩)) (Rep.mono HLS.out (fun b hb _=>⟨trivial,HB1.out.block b hb⟩)))
      have hfv:=HFV.out
      rw [show (wr.alloc (.cells #[.int .u64 0,.string ⟨#[]⟩,.slice none 0 0] 79)).heap.size=wr.heap.size+1 by simp] at hfv
      have HFV:=qh hfv
      have HBE:=qh ((HBB.out.trans (HB1.out.mono HBB.out.size)).alloc (HBB.out.trans (HB1.out.mono HBB.out.size)).size (.cells #[.int .u64 0,.string (bs h.parent),.slice none 0 0,.int .u64 (h.height:Int),.string ⟨#[]⟩,.slice none 0 0,.int .u64 0,.string (bs h.root),.slice none 0 0,.int .u64 0,.string (bs h.txs),.slice none 0 0,.int .u64 0,.string (bs h.prop),.slice none 0 0,.int .u64 0,.string (bs h.van),.slice none 0 0,.int .u64 0,.string ⟨#[]⟩,.slice A1 h.vals.length c1,.int .u64 0,.string (bs h.vote),.slice none 0 0,.int .u64 0,.string ⟨#[]⟩,.slice none 0 0,.int .u64 (h.round:Int),.string ⟨#[]⟩,.slice none 0 0,.int .u64 0,.string ⟨#[]⟩,.slice A' h.seals.length c'] 79))
      clear hfv hlZ hlX hlP
      go_wp2_with fail
      refine (HWR.out (some ⟨wr.heap.size+1,0,none⟩) 11 _ HFV.out).mono ?_
      rintro e w9 ⟨rfl,hb9⟩
      have HB9:=qh (below_call HBE.out HBE.out.size hb9)
      clear hb9
      go_wp2_with fail
      go_ret
      exact ⟨rfl,HB9.out⟩
     | true =>
      rw [had] at HX1 HXw
      have HX2:=qh ((heap_alloc_old wr (.cells #[.int .u64 1,.string ⟨#[]⟩,.slice none 0 0] 79) hlX).trans HXw.out)
      have HP2:=qh ((heap_alloc_old wr (.cells #[.int .u64 1,.string ⟨#[]⟩,.slice none 0 0] 79) hlP).trans HPw.out)
      have HZ2:=qh ((heap_alloc_old wr (.cells #[.int .u64 1,.string ⟨#[]⟩,.slice none 0 0] 79) hlZ).trans HZw.out)
      have HN2:=qh (heap_alloc_new wr (.cells #[.int .u64 1,.string ⟨#[]⟩,.slice none 0 0] 79))
      have HB2:=qh ((Below.refl wr.heap.size wr).alloc qn (.cells #[.int .u64 1,.string ⟨#[]⟩,.slice none 0 0] 79))
      have nf:=rf HN1.out 0
      have n0:=rc (u:=.int .u64 0) HN1.out 0 rfl
      have x8:=rc (u:=.bool true) HX1.out 8 rfl
      have xk0:=rc (u:=.string (bs h.parent)) HX2.out 0 rfl
      have xk1:=rc (u:=.int .u64 (h.height:Int)) HX2.out 1 rfl
      have xk2:=rc (u:=.string (bs h.root)) HX2.out 2 rfl
      have xk3:=rc (u:=.string (bs h.txs)) HX2.out 3 rfl
      have xk4:=rc (u:=.string (bs h.prop)) HX2.out 4 rfl
      have xk5:=rc (u:=.string (bs h.van)) HX2.out 5 rfl
      have xk6:=rc (u:=.slice Av h.vals.length cv) HX2.out 6 rfl
      have xk7:=rc (u:=.string (bs h.vote)) HX2.out 7 rfl
      have xk8:=rc (u:=.bool true) HX2.out 8 rfl
      have xk9:=rc (u:=.int .u64 (h.round:Int)) HX2.out 9 rfl
      have xk10:=rc (u:=.slice As h.seals.length cs) HX2.out 10 rfl
      have pk0:=rc (u:=.int .u64 0) HP2.out 0 rfl
      have pk1:=rc (u:=.string ⟨#[]⟩) HP2.out 1 rfl
      have pk2:=rc (u:=.slice A1 h.vals.length c1) HP2.out 2 rfl
      have zk0:=rc (u:=.int .u64 0) HZ2.out 0 rfl
      have zk1:=rc (u:=.string ⟨#[]⟩) HZ2.out 1 rfl
      have zk2:=rc (u:=.slice A' h.seals.length c') HZ2.out 2 rfl
      have nk0:=rc (u:=.int .u64 1) HN2.out 0 rfl
      have nk1:=rc (u:=.string ⟨#[]⟩) HN2.out 1 rfl
      have nk2:=rc (u:=.slice none 0 0) HN2.out 2 rfl
      have HFV:=qh (hdC_new (wr.alloc (.cells #[.int .u64 1,.string ⟨#[]⟩,.slice none 0 0] 79)) h 1 (by rw [had];rfl) A1 A' c1 c' (Rep.mono HLV.out (fun b hb _=>⟨trivial,HB2.out.block b hb⟩)) (Rep.mono HLS.out (fun b hb _=>⟨trivial,HB2.out.block b hb⟩)))
      have hfv:=HFV.out
      rw [show (wr.alloc (.cells #[.int .u64 1,.string ⟨#[]⟩,.slice none 0 0] 79)).heap.size=wr.heap.size+1 by simp] at hfv
      have HFV:=qh hfv
      have HBE:=qh ((HBB.out.trans (HB2.out.mono HBB.out.size)).alloc (HBB.out.trans (HB2.out.mono HBB.out.size)).size (.cells #[.int .u64 0,.string (bs h.parent),.slice none 0 0,.int .u64 (h.height:Int),.string ⟨#[]⟩,.slice none 0 0,.int .u64 0,.string (bs h.root),.slice none 0 0,.int .u64 0,.string (bs h.txs),.slice none 0 0,.int .u64 0,.string (bs h.prop),.slice none 0 0,.int .u64 0,.string (bs h.van),.slice none 0 0,.int .u64 0,.string ⟨#[]⟩,.slice A1 h.vals.length c1,.int .u64 0,.string (bs h.vote),.slice none 0 0,.int .u64 1,.string ⟨#[]⟩,.slice none 0 0,.int .u64 (h.round:Int),.string ⟨#[]⟩,.slice none 0 0,.int .u64 0,.string ⟨#[]⟩,.slice A' h.seals.length c'] 79))
      clear hfv hlZ hlX hlP
      go_wp2_with fail
      refine (HWR.out (some ⟨wr.heap.size+1,0,none⟩) 11 _ HFV.out).mono ?_
      rintro e w9 ⟨rfl,hb9⟩
      have HB9:=qh (below_call HBE.out HBE.out.size hb9)
      clear hb9
      go_wp2_with fail
      go_ret
      exact ⟨rfl,HB9.out⟩
/- What the reference's Read of a header says, plain. -/
/-- the header out of the fields, as the reference makes it -/
def gOf (l:List Fd):Hd:=⟨(fdAt l 0).b,(fdAt l 1).n,(fdAt l 2).b,(fdAt l 3).b,(fdAt l 4).b,(fdAt l 5).b,(fdAt l 6).l.map (·.2),(fdAt l 7).b,decide (0 < (fdAt l 8).n),(fdAt l 9).n,(fdAt l 10).l.map fun x=>(sfromP x.2).1⟩
theorem addN_pos (b:Bool):decide (0 < addN b)=b:=by cases b <;> rfl
theorem sfromP_wf (x:Bytes):(sfromP x).1.Wf:=by
 unfold sfromP
 split
 ·exact sgOf_wf _
 ·exact ⟨⟨by decide,by decide,by decide,by decide⟩,⟨by decide,by decide,by decide,by decide⟩,by decide,by decide⟩
theorem gOf_hdF {h:Hd} (hk:OkHd h) (hw:h.Wf):gOf (hdF h)=h:=by
 obtain ⟨parent,height,root,txs,prop,van,vals,vote,add,round,seals⟩:=h
 have e1:(vals.map valF).map (·.2)=vals:=by rw [List.map_map];exact List.map_id _
 have e2:(seals.map sealF).map (fun x=>(sfromP x.2).1)=seals:=by
  rw [List.map_map]
  have:∀ x∈seals,(fun x:Lf=>(sfromP x.2).1) (sealF x)=x:=fun x hx=>by
   have h1:=sgOf_sgB (hw.seals x hx) (hk.each x hx)
   show (sfromP (sgB x)).1=x
   unfold sfromP
   rw [if_pos ⟨sgB_len x,by rw [h1];exact hk.each x hx⟩]
   exact h1
  exact (List.map_congr_left this).trans (List.map_id _)
 simp only [gOf,fdAt,hdF,List.getD_cons_zero,List.getD_cons_succ,Hd.mk.injEq,true_and,e1,e2,addN_pos]
theorem gSaid_some {s:Bytes} {l:List Fd} (h:FrSaid hdK s l 0):(gOf l).Wf∧(OkHd (gOf l)→s=hdB (gOf l)→HdSaid s (gOf l) 0)∧(¬ (OkHd (gOf l)∧s=hdB (gOf l))→HdSaid s zeroHd 4):=by
 have hw:(gOf l).Wf:=by
  obtain ⟨_,_,_,_,_,hw,_⟩:=hdSaid_some h
  refine ⟨hw.1,hw.2,fun x hx=>?_⟩
  obtain ⟨y,_,rfl⟩:=List.mem_map.1 (show x∈(fdAt l 10).l.map (fun x=>(sfromP x.2).1) from hx)
  exact sfromP_wf _
 refine ⟨hw,fun hk e=>.inl ⟨rfl,hk,hw,e⟩,fun hn=>.inr ⟨rfl,rfl,fun u hu huw e=>?_⟩⟩
 rcases h with ⟨_,h1,h2,h3,h4⟩ | ⟨h,_⟩
 ·have hl:l=hdF u:=rec_inj (by decide) h1 h2 (hdF_fits hu) (hdF_small huw) (h3.symm.trans e)
  rw [hl,gOf_hdF hu huw] at hn
  exact hn ⟨hu,e⟩
 ·omega
/- The walk of the reference's Read of a header. -/
theorem rread_hd (s:Bytes) (w:World):Calls Tryz.prog 57 #[.string ⟨#[104,110,104,104,97,98,42,97,98,110,110,42,115]⟩,.string (bs s)] w (FrPost hdK s w):=rRead_any hdK hdK_ok (by decide) (by decide) s w
theorem rhread_any (s:Bytes) (w:World):Calls Tryz.prog 29 #[.string (bs s)] w (HdPost s w):=by
 have h0:=heap_alloc_new w (.cells zqH 26)
 have HR:=qh h0
 have HB:=qh ((Below.refl w.heap.size w).alloc qn (.cells zqH 26))
 clear h0
 go_enter Tryz.func29,Tryz.ntmps29
 go_wp2_with fail
 refine (rread_hd s _).mono ?_
 rintro e w1 ⟨l,A,c,no,rfl,hlv,hsaid,hb1⟩
 have HR1:=qh ((hb1.block _ (qg HR.out)).trans HR.out)
 have HB1:=qh (below_call HB.out HB.out.size hb1)
 have HS:=qh hsaid
 have HL:=qh (Rep.any hlv)
 clear hb1 hlv hsaid HR HB
 by_cases hno:no=0
 case neg =>
  have h0I:((no:Int) == 0)=false:=by rw [beq_eq_false_iff_ne];omega
  have h0I2:((no:Int) != 0)=true:=by rw [bne,h0I];rfl
  have HT:=qh (hdSaid_none HS.out (by omega))
  clear HS hno
  go_wp2_with (refine wpList_store_row rfl _ _ _ rfl w.heap.size zqH rfl rfl _ _ HR1.out infoHd rfl one11Z ?_)
  exact bodyPost_ret (v:=.tuple #[.agg zqH,.int .i64 4]) (results_row_tmp rfl _ _ w.heap.size _ _ _ _ rfl (setRow_heap _ _ _ _ _ _ HR1.out) _ rfl Tryz.underlying26 rfl infoHd) rfl (hdPost_zero HT.out (below_setRow HB1.out qn _))
 subst hno
 obtain ⟨hl11,hg6,hg10,hs6,hs10,hwf,hyes,hno1,hno2,hno3⟩:=hdSaid_some HS.out
 obtain ⟨f0,e0⟩:=getElem_ex (show 0 < l.length by omega)
 obtain ⟨f1,e1⟩:=getElem_ex (show 1 < l.length by omega)
 obtain ⟨f2,e2⟩:=getElem_ex (show 2 < l.length by omega)
 obtain ⟨f3,e3⟩:=getElem_ex (show 3 < l.length by omega)
 obtain ⟨f4,e4⟩:=getElem_ex (show 4 < l.length by omega)
 obtain ⟨f5,e5⟩:=getElem_ex (show 5 < l.length by omega)
 obtain ⟨f6,e6⟩:=getElem_ex (show 6 < l.length by omega)
 obtain ⟨f7,e7⟩:=getElem_ex (show 7 < l.length by omega)
 obtain ⟨f8,e8⟩:=getElem_ex (show 8 < l.length by omega)
 obtain ⟨f9,e9⟩:=getElem_ex (show 9 < l.length by omega)
 obtain ⟨f10,e10⟩:=getElem_ex (show 10 < l.length by omega)
 obtain ⟨g,o,A0,c0,rfl,_,lv0,k0⟩:=fds_at HL.out e0
 obtain ⟨g',o',A1,c1,hA1,_,lv1,k1⟩:=fds_at HL.out e1
 injection hA1 with hA1
 injection hA1 with hg1 ho1
 subst hg1;subst ho1
 obtain ⟨g',o',A2,c2,hA2,_,lv2,k2⟩:=fds_at HL.out e2
 injection hA2 with hA2
 injection hA2 with hg2 ho2
 subst hg2;subst ho2
 obtain ⟨g',o',A3,c3,hA3,_,lv3,k3⟩:=fds_at HL.out e3
 injection hA3 with hA3
 injection hA3 with hg3 ho3
 subst hg3;subst ho3
 obtain ⟨g',o',A4,c4,hA4,_,lv4,k4⟩:=fds_at HL.out e4
 injection hA4 with hA4
 injection hA4 with hg4 ho4
 subst hg4;subst ho4
 obtain ⟨g',o',A5,c5,hA5,_,lv5,k5⟩:=fds_at HL.out e5
 injection hA5 with hA5
 injection hA5 with hg5 ho5
 subst hg5;subst ho5
 obtain ⟨g',o',A6,c6,hA6,_,lv6,k6⟩:=fds_at HL.out e6
 injection hA6 with hA6
 injection hA6 with hg6 ho6
 subst hg6;subst ho6
 obtain ⟨g',o',A7,c7,hA7,_,lv7,k7⟩:=fds_at HL.out e7
 injection hA7 with hA7
 injection hA7 with hg7 ho7
 subst hg7;subst ho7
 obtain ⟨g',o',A8,c8,hA8,_,lv8,k8⟩:=fds_at HL.out e8
 injection hA8 with hA8
 injection hA8 with hg8 ho8
 subst hg8;subst ho8
 obtain ⟨g',o',A9,c9,hA9,_,lv9,k9⟩:=fds_at HL.out e9
 injection hA9 with hA9
 injection hA9 with hg9 ho9
 subst hg9;subst ho9
 obtain ⟨g',o',A10,c10,hA10,_,lv10,k10⟩:=fds_at HL.out e10
 injection hA10 with hA10
 injection hA10 with hg10 ho10
 subst hg10;subst ho10
 have m0:w1.cell? ⟨g,o+1,none⟩=some (.string (bs f0.b)):=by simpa [Nat.add_assoc] using k0 1 (.string (bs f0.b)) rfl
 have m1:w1.cell? ⟨g,o+3,none⟩=some (.int .u64 (f1.n:Int)):=by simpa [Nat.add_assoc] using k1 0 (.int .u64 (f1.n:Int)) rfl
 have m2:w1.cell? ⟨g,o+7,none⟩=some (.string (bs f2.b)):=by simpa [Nat.add_assoc] using k2 1 (.string (bs f2.b)) rfl
 have m3:w1.cell? ⟨g,o+10,none⟩=some (.string (bs f3.b)):=by simpa [Nat.add_assoc] using k3 1 (.string (bs f3.b)) rfl
 have m4:w1.cell? ⟨g,o+13,none⟩=some (.string (bs f4.b)):=by simpa [Nat.add_assoc] using k4 1 (.string (bs f4.b)) rfl
 have m5:w1.cell? ⟨g,o+16,none⟩=some (.string (bs f5.b)):=by simpa [Nat.add_assoc] using k5 1 (.string (bs f5.b)) rfl
 have m6:w1.cell? ⟨g,o+20,none⟩=some (.slice A6 f6.l.length c6):=by simpa [Nat.add_assoc] using k6 2 (.slice A6 f6.l.length c6) rfl
 have m7:w1.cell? ⟨g,o+22,none⟩=some (.string (bs f7.b)):=by simpa [Nat.add_assoc] using k7 1 (.string (bs f7.b)) rfl
 have m8:w1.cell? ⟨g,o+24,none⟩=some (.int .u64 (f8.n:Int)):=by simpa [Nat.add_assoc] using k8 0 (.int .u64 (f8.n:Int)) rfl
 have m9:w1.cell? ⟨g,o+27,none⟩=some (.int .u64 (f9.n:Int)):=by simpa [Nat.add_assoc] using k9 0 (.int .u64 (f9.n:Int)) rfl
 have m10:w1.cell? ⟨g,o+32,none⟩=some (.slice A10 f10.l.length c10):=by simpa [Nat.add_assoc] using k10 2 (.slice A10 f10.l.length c10) rfl
 rw [hl11]
 have hfb:=fits_blen hdK l (by rcases HS.out with ⟨_,h,_⟩ | ⟨h,_⟩;exact h;omega)
 have HFB:Hid (f0.b.length≤9223372036854775807∧f2.b.length≤9223372036854775807∧f3.b.length≤9223372036854775807∧f4.b.length≤9223372036854775807∧f5.b.length≤9223372036854775807∧f7.b.length≤9223372036854775807):=qh ⟨by have:=hfb f0 (List.mem_of_getElem? e0);omega,by have:=hfb f2 (List.mem_of_getElem? e2);omega,by have:=hfb f3 (List.mem_of_getElem? e3);omega,by have:=hfb f4 (List.mem_of_getElem? e4);omega,by have:=hfb f5 (List.mem_of_getElem? e5);omega,by have:=hfb f7 (List.mem_of_getElem? e7);omega⟩
 clear hfb
 have d0:fdAt l 0=f0:=getD_some e0
 have d1:fdAt l 1=f1:=getD_some e1
 have d2:fdAt l 2=f2:=getD_some e2
 have d3:fdAt l 3=f3:=getD_some e3
 have d4:fdAt l 4=f4:=getD_some e4
 have d5:fdAt l 5=f5:=getD_some e5
 have d6:fdAt l 6=f6:=getD_some e6
 have d7:fdAt l 7=f7:=getD_some e7
 have d8:fdAt l 8=f8:=getD_some e8
 have d9:fdAt l 9=f9:=getD_some e9
 have d10:fdAt l 10=f10:=getD_some e10
 have hof:gOf l=⟨f0.b,f1.n,f2.b,f3.b,f4.b,f5.b,f6.l.map (·.2),f7.b,decide (0 < f8.n),f9.n,f10.l.map fun x=>(sfromP x.2).1⟩:=by unfold gOf;rw [d0,d1,d2,d3,d4,d5,d6,d7,d8,d9,d10]
 obtain ⟨ad,had⟩:∃ ad,decide (0 < f8.n)=ad:=⟨_,rfl⟩
 have hadI:decide ((0:Int) < (f8.n:Int))=ad:=by rw [← had,Bool.eq_iff_iff];simp only [decide_eq_true_eq];omega
 have hadN:decide (0 < f8.n)=ad:=had
 rw [d10] at hg10 hs10
 rw [d6] at hg6 hs6
 obtain ⟨gwf,gyes,gno⟩:=gSaid_some HS.out
 rw [hof,had] at gwf gyes gno
 have HY:=qh gyes
 have HN:=qh gno
 have HWF:=qh gwf
 have HG6:=qh hg6
 have LV6:=qh lv6
 have LV10:=qh lv10
 have h6I:(f6.l.length:Int)≤40:=by omega
 have h10I:(f10.l.length:Int)≤40:=by omega
 clear gyes gno gwf hyes hno1 hno2 hno3 hwf hg6 hg10 e0 e1 e2 e3 e4 e5 e6 e7 e8 e9 e10 k0 k1 k2 k3 k4 k5 k6 k7 k8 k9 k10 d0 d1 d2 d3 d4 d5 d6 d7 d8 d9 d10 lv0 lv1 lv2 lv3 lv4 lv5 lv6 lv7 lv8 lv9 lv10 hof had HS HL hl11 hs6 hs10
 go_wp2_with fail
 have hS:w1.drew.heap[g]? = w1.heap[g]?:=rfl
 have hgl:g < w1.heap.size:=lt_of_cell m0
 have hwl:w.heap.size < w1.heap.size:=(qg HR1.out)
 have hR:w1.drew.heap[w.heap.size]? = some (.cells zqH 26 (0,0)):=HR1.out
 have hB:Below w.heap.size w w1.drew:=HB1.out.drew
 refine wp_region_R [(99,fun w'=>w'.heap[g]? = w1.heap[g]?)] (by kernel_rfl) ?_
 refine R_p (i:=0) (v:=.slice (some ⟨g,o,none⟩) 11 c) (Meets.here hS Meets.nil) ?_
 refine R_p (i:=4) (v:=.slice (some ⟨g,o,none⟩) 11 c) (Meets.here hS Meets.nil) ?_
 refine R_p (i:=8) (v:=.slice (some ⟨g,o,none⟩) 11 c) (Meets.here hS Meets.nil) ?_
 refine R_p (i:=12) (v:=.slice (some ⟨g,o,none⟩) 11 c) (Meets.here hS Meets.nil) ?_
 refine R_p (i:=16) (v:=.slice (some ⟨g,o,none⟩) 11 c) (Meets.here hS Meets.nil) ?_
 refine R_p (i:=20) (v:=.slice (some ⟨g,o,none⟩) 11 c) (Meets.here hS Meets.nil) ?_
 refine R_p (i:=24) (v:=.slice (some ⟨g,o,none⟩) 11 c) (Meets.here hS Meets.nil) ?_
 refine R_p (i:=28) (v:=.slice (some ⟨g,o,none⟩) 11 c) (Meets.here hS Meets.nil) ?_
 refine R_p (i:=33) (v:=.slice (some ⟨g,o,none⟩) 11 c) (Meets.here hS Meets.nil) ?_
 refine R_p (i:=1) (v:=.pointer (some ⟨g,o,none⟩)) (Meets.here hS Meets.nil) ?_
 refine R_p (i:=5) (v:=.pointer (some ⟨g,o+3,none⟩)) (Meets.here hS Meets.nil) ?_
 refine R_p (i:=9) (v:=.pointer (some ⟨g,o+6,none⟩)) (Meets.here hS Meets.nil) ?_
 refine R_p (i:=13) (v:=.pointer (some ⟨g,o+9,none⟩)) (Meets.here hS Meets.nil) ?_
 refine R_p (i:=17) (v:=.pointer (some ⟨g,o+12,none⟩)) (Meets.here hS Meets.nil) ?_
 refine R_p (i:=21) (v:=.pointer (some ⟨g,o+15,none⟩)) (Meets.here hS Meets.nil) ?_
 refine R_p (i:=25) (v:=.pointer (some ⟨g,o+21,none⟩)) (Meets.here hS Meets.nil) ?_
 refine R_p (i:=29) (v:=.pointer (some ⟨g,o+24,none⟩)) (Meets.here hS Meets.nil) ?_
 refine R_p (i:=34) (v:=.pointer (some ⟨g,o+27,none⟩)) (Meets.here hS Meets.nil) ?_
 refine R_p (i:=2) (v:=.pointer (some ⟨g,o+1,none⟩)) (Meets.here hS Meets.nil) ?_
 refine R_p (i:=6) (v:=.pointer (some ⟨g,o+3,none⟩)) (Meets.here hS Meets.nil) ?_
 refine R_p (i:=10) (v:=.pointer (some ⟨g,o+7,none⟩)) (Meets.here hS Meets.nil) ?_
 refine R_p (i:=14) (v:=.pointer (some ⟨g,o+10,none⟩)) (Meets.here hS Meets.nil) ?_
 refine R_p (i:=18) (v:=.pointer (some ⟨g,o+13,none⟩)) (Meets.here hS Meets.nil) ?_
 refine R_p (i:=22) (v:=.pointer (some ⟨g,o+16,none⟩)) (Meets.here hS Meets.nil) ?_
 refine R_p (i:=26) (v:=.pointer (some ⟨g,o+22,none⟩)) (Meets.here hS Meets.nil) ?_
 refine R_p (i:=30) (v:=.pointer (some ⟨g,o+24,none⟩)) (Meets.here hS Meets.nil) ?_
 refine R_p (i:=35) (v:=.pointer (some ⟨g,o+27,none⟩)) (Meets.here hS Meets.nil) ?_
 refine R_l (i:=3) (v:=.string (bs f0.b)) 99 _ List.mem_cons_self rfl (yieldsIf_load_cell rfl rfl rfl (fun w' hS=>(World.cell?_of_block (a:=⟨g,o+1,none⟩) hS).trans m0) Tryz.underlying9 rfl) (Meets.here hS Meets.nil) ?_
 refine R_l (i:=7) (v:=.int .u64 (f1.n:Int)) 99 _ List.mem_cons_self rfl (yieldsIf_load_cell rfl rfl rfl (fun w' hS=>(World.cell?_of_block (a:=⟨g,o+3,none⟩) hS).trans m1) Tryz.underlying22 rfl) (Meets.here hS Meets.nil) ?_
 refine R_l (i:=11) (v:=.string (bs f2.b)) 99 _ List.mem_cons_self rfl (yieldsIf_load_cell rfl rfl rfl (fun w' hS=>(World.cell?_of_block (a:=⟨g,o+7,none⟩) hS).trans m2) Tryz.underlying9 rfl) (Meets.here hS Meets.nil) ?_
 refine R_l (i:=15) (v:=.string (bs f3.b)) 99 _ List.mem_cons_self rfl (yieldsIf_load_cell rfl rfl rfl (fun w' hS=>(World.cell?_of_block (a:=⟨g,o+10,none⟩) hS).trans m3) Tryz.underlying9 rfl) (Meets.here hS Meets.nil) ?_
 refine R_l (i:=19) (v:=.string (bs f4.b)) 99 _ List.mem_cons_self rfl (yieldsIf_load_cell rfl rfl rfl (fun w' hS=>(World.cell?_of_block (a:=⟨g,o+13,none⟩) hS).trans m4) Tryz.underlying9 rfl) (Meets.here hS Meets.nil) ?_
 refine R_l (i:=23) (v:=.string (bs f5.b)) 99 _ List.mem_cons_self rfl (yieldsIf_load_cell rfl rfl rfl (fun w' hS=>(World.cell?_of_block (a:=⟨g,o+16,none⟩) hS).trans m5) Tryz.underlying9 rfl) (Meets.here hS Meets.nil) ?_
 refine R_l (i:=27) (v:=.string (bs f7.b)) 99 _ List.mem_cons_self rfl (yieldsIf_load_cell rfl rfl rfl (fun w' hS=>(World.cell?_of_block (a:=⟨g,o+22,none⟩) hS).trans m7) Tryz.underlying9 rfl) (Meets.here hS Meets.nil) ?_
 refine R_l (i:=31) (v:=.int .u64 (f8.n:Int)) 99 _ List.mem_cons_self rfl (yieldsIf_load_cell rfl rfl rfl (fun w' hS=>(World.cell?_of_block (a:=⟨g,o+24,none⟩) hS).trans m8) Tryz.underlying22 rfl) (Meets.here hS Meets.nil) ?_
 refine R_l (i:=36) (v:=.int .u64 (f9.n:Int)) 99 _ List.mem_cons_self rfl (yieldsIf_load_cell rfl rfl rfl (fun w' hS=>(World.cell?_of_block (a:=⟨g,o+27,none⟩) hS).trans m9) Tryz.underlying22 rfl) (Meets.here hS Meets.nil) ?_
 refine R_p (i:=32) (v:=.bool ad) (Meets.here hS Meets.nil) ?_
 refine R_p (i:=37) (v:=.agg #[.string (bs f0.b),.int .u64 (f1.n:Int),.string (bs f2.b),.string (bs f3.b),.string (bs f4.b),.string (bs f5.b),.slice none 0 0,.string (bs f7.b),.bool ad,.int .u64 (f9.n:Int),.slice none 0 0]) (Meets.here hS Meets.nil) ?_
 refine R_now 38 fun K hK=>?_
 refine ite_wanted (by rfl) ?_
 have hbb:Below w1.drew.heap.size w1.drew (w1.alloc (.cells zqH 26)).drew:=show Below w1.drew.heap.size w1.drew (w1.drew.alloc (.cells zqH 26)) from (Below.refl _ _).alloc qn _
 have hbw:Below w1.heap.size w1 (w1.alloc (.cells zqH 26)).drew:=((Below.refl _ w1).alloc qn _).drew
 have hRow:(w1.alloc (.cells zqH 26)).drew.heap[w1.heap.size]? = some (.cells zqH 26):=heap_alloc_new w1 _
 have hO:∀ q,q < w1.heap.size→(w1.alloc (.cells zqH 26)).drew.heap[q]? = w1.heap[q]?:=fun q hq=>heap_alloc_old w1 _ hq
 have hsz:(w1.alloc (.cells zqH 26)).drew.heap.size=w1.heap.size+1:=by simp
 replace hS:=(hbb.block g hgl).trans hS
 replace hR:=(hbb.block _ (qg hR)).trans hR
 replace hB:=below_call hB hB.size hbb
 have HH:=qh (And.intro hRow (And.intro hO (And.intro hsz (And.intro hbw (And.intro hS (And.intro hR hB))))))
 clear hRow hO hsz hS hR hB hbb hbw
 go_simp
 generalize (w1.alloc (.cells zqH 26)).drew=w38 at HH ⊢
 obtain ⟨hRow,hO,hsz,hbw,hS,hR,hB⟩:=HH.out
 clear HH
 refine hK.out _ _ (Meets.here hS Meets.nil) (fun hMeets=>?_)
 clear hK K hMeets
 refine lay_R ?_
 refine R_now 39 fun K hK=>?_
 refine ite_wanted (by rfl) ?_
 refine wp_store_row _ _ _ rfl w1.heap.size #[.string (bs f0.b),.int .u64 (f1.n:Int),.string (bs f2.b),.string (bs f3.b),.string (bs f4.b),.string (bs f5.b),.slice none 0 0,.string (bs f7.b),.bool ad,.int .u64 (f9.n:Int),.slice none 0 0] rfl rfl _ zqH hRow infoHd rfl (one11 _ [] _ _ _ _ _ _ _ _ _ _ _ _ _ _) ?_
 have hS9:=(heap_setRow_ne w38 (show g≠w1.heap.size by omega) #[.string (bs f0.b),.int .u64 (f1.n:Int),.string (bs f2.b),.string (bs f3.b),.string (bs f4.b),.string (bs f5.b),.slice none 0 0,.string (bs f7.b),.bool ad,.int .u64 (f9.n:Int),.slice none 0 0]).trans hS
 have hR9:=(heap_setRow_ne w38 (show w.heap.size≠w1.heap.size by omega) #[.string (bs f0.b),.int .u64 (f1.n:Int),.string (bs f2.b),.string (bs f3.b),.string (bs f4.b),.string (bs f5.b),.slice none 0 0,.string (bs f7.b),.bool ad,.int .u64 (f9.n:Int),.slice none 0 0]).trans hR
 have hB9:=below_setRow hB (show w.heap.size≤w1.heap.size by omega) #[.string (bs f0.b),.int .u64 (f1.n:Int),.string (bs f2.b),.string (bs f3.b),.string (bs f4.b),.string (bs f5.b),.slice none 0 0,.string (bs f7.b),.bool ad,.int .u64 (f9.n:Int),.slice none 0 0]
 have hbw9:=below_setRow hbw qn #[.string (bs f0.b),.int .u64 (f1.n:Int),.string (bs f2.b),.string (bs f3.b),.string (bs f4.b),.string (bs f5.b),.slice none 0 0,.string (bs f7.b),.bool ad,.int .u64 (f9.n:Int),.slice none 0 0]
 have hY9:=setRow_heap w38 w1.heap.size _ #[.string (bs f0.b),.int .u64 (f1.n:Int),.string (bs f2.b),.string (bs f3.b),.string (bs f4.b),.string (bs f5.b),.slice none 0 0,.string (bs f7.b),.bool ad,.int .u64 (f9.n:Int),.slice none 0 0] _ _ hRow
 have hk1:∀ q,q < w1.heap.size→(w38.setRow w1.heap.size #[.string (bs f0.b),.int .u64 (f1.n:Int),.string (bs f2.b),.string (bs f3.b),.string (bs f4.b),.string (bs f5.b),.slice none 0 0,.string (bs f7.b),.bool ad,.int .u64 (f9.n:Int),.slice none 0 0]).heap[q]? = w1.heap[q]?:=fun q hq=>(heap_setRow_ne w38 (by omega) #[.string (bs f0.b),.int .u64 (f1.n:Int),.string (bs f2.b),.string (bs f3.b),.string (bs f4.b),.string (bs f5.b),.slice none 0 0,.string (bs f7.b),.bool ad,.int .u64 (f9.n:Int),.slice none 0 0]).trans (hO q hq)
 have hsz9:(w38.setRow w1.heap.size #[.string (bs f0.b),.int .u64 (f1.n:Int),.string (bs f2.b),.string (bs f3.b),.string (bs f4.b),.string (bs f5.b),.slice none 0 0,.string (bs f7.b),.bool ad,.int .u64 (f9.n:Int),.slice none 0 0]).heap.size=w1.heap.size+1:=by rw [setRow_size];exact hsz
 generalize w38.setRow w1.heap.size #[.string (bs f0.b),.int .u64 (f1.n:Int),.string (bs f2.b),.string (bs f3.b),.string (bs f4.b),.string (bs f5.b),.slice none 0 0,.string (bs f7.b),.bool ad,.int .u64 (f9.n:Int),.slice none 0 0]=W9 at hS9 hR9 hB9 hY9 hk1 hsz9 hbw9 ⊢
 clear hS hR hB hRow hO hsz hbw
 have hS:=hS9
 clear hS9
 refine hK.out _ _ (Meets.here hS Meets.nil) (fun hMeets=>?_)
 clear hK K hMeets
 refine lay_R ?_
 refine R_done (by kernel_rfl) ?_ _
 have HS9:=qh hS
 have HY9:=qh hY9
 have HR9:=qh hR9
 have HB9:=qh hB9
 have HW9:=qh hbw9
 have hsz9':w1.heap.size+1≤W9.heap.size:=by omega
 have p6:=(World.cell?_of_block (a:=⟨g,o+20,none⟩) hS).trans m6
 clear hS hY9 hR9 hB9 hbw9 hk1 hsz9
 go_wp2_with fail
 go_loopw [64] (fun x wr=>∃ (i:Nat) (u:Value),x=.int .i64 (i:Int)∧i≤f6.l.length∧wr.heap[w1.heap.size]? = some (.cells #[.string (bs f0.b),.int .u64 (f1.n:Int),.string (bs f2.b),.string (bs f3.b),.string (bs f4.b),.string (bs f5.b),u,.string (bs f7.b),.bool ad,.int .u64 (f9.n:Int),.slice none 0 0] 26 (0,0))∧wr.ownsRow (w1.heap.size+1) 9 1 u i (strL ((f6.l.take i).map (·.2)))∧Below w1.heap.size w1 wr∧w1.heap.size+1≤wr.heap.size) (fun x _=>f6.l.length - (intOf x).toNat)
 case atStart=>exact ⟨0,_,rfl,Nat.zero_le _,HY9.out,World.ownsRow_nil _ _ _ _,HW9.out,hsz9'⟩
 case round =>
  clear HS9 HY9 HR9 HB9 HW9 hsz9' p6
  obtain ⟨i,u,rfl,hi,hY,hown,hB,hsz⟩:=hrel
  obtain ⟨A',c',rfl⟩:=own_form hown
  have hYl:=(qg hY)
  by_cases hlt:i < f6.l.length
  ·obtain ⟨x,hx⟩:=getElem_ex hlt
   obtain ⟨g6,o6,Ax,cx,rfl,_,_,kx⟩:=lfs_at (Rep.keep LV6.out hB) hx
   have hltI:(i:Int) < f6.l.length:=by omega
   have q0:=kx 0 (.int .u64 (x.1:Int)) rfl
   have q1:=kx 1 (.string (bs x.2)) rfl
   have q2:=kx 2 (.slice Ax 0 cx) rfl
   simp only [Nat.add_zero] at q0
   have y6:wr.cell? ⟨w1.heap.size,6,none⟩=some (.slice A' i c'):=rc hY 6 rfl
   have HA:=qh (take_snoc hx)
   have HYY:=qh hY
   have HO:=qh hown
   have HBB:=qh hB
   have y6a:=ca y6 (.cells #[.int .u64 (x.1:Int),.string (bs x.2),.slice Ax 0 cx] 79)
   clear hY hown hB hx kx
   go_wp2_with (at_builtin;refine wpl_append elStr rfl rfl (w1.heap.size+1) ((HO.out.alloc _).alloc _) rfl (m:=1) [.string (bs x.2)] rfl rfl ?_ ?_ ?_ ?_ ?_ ?_;exact (lies_new' _ _ (by simp) _ _);(intro u hu;simp at hu;rcases hu with rfl;rfl);(simp only [maxLen];omega);omega;(simp;omega);intro v1 w8 hown1 hg1 hat1;obtain ⟨A3,c3,rfl⟩:=own_form hown1;have hY8:=(hg1.block w1.heap.size (by simp;omega) (fun e=>by have:=(HO.out.lt _ e.symm).1;omega)).trans ((heap_alloc_old _ _ (by simp;omega)).trans ((heap_alloc_old _ _ hYl).trans HYY.out));have d6:=rc (u:=.slice A' i c') hY8 6 rfl;have df:=rf hY8 6;have HY8:=qh hY8;clear hY8)
   have hba:Below wr.heap.size wr ((wr.alloc (.cells #[.int .u64 (x.1:Int),.string (bs x.2),.slice Ax 0 cx] 79)).alloc (.cells #[.string (bs x.2)] 9)):=((Below.refl _ _).alloc qn _).alloc (by simp) _
   have hB8:=below_app (below_call HBB.out HBB.out.size hba) (own_keep HO.out hba) hg1 (by simp;omega) (by omega)
   have hs8:w1.heap.size+1≤w8.heap.size:=Nat.le_trans hsz (Nat.le_trans hba.size hg1.size)
   rw [show strL ((f6.l.take i).map (·.2)) ++ [.string (bs x.2)]=strL ((f6.l.take (i+1)).map (·.2)) by rw [HA.out,List.map_append,List.map_singleton,strL_snoc]] at hown1
   have HO1:=qh hown1
   clear hown1
   go_roundw
   case rel=>exact ⟨i+1,_,by go_num,hlt,heap_setCell_here HY8.out (i:=6) _,own_setOther HO1.out (Nat.lt_succ_self _) _,hB8.setCell (p:=⟨w1.heap.size,6,none⟩) qn _,by simpa [World.setCell] using hs8⟩
   case measure=>simp [intOf];omega
  ·obtain rfl:i=f6.l.length:=by omega
   rw [List.take_of_length_le qn] at hown
   have p10:=(hB.cell (p:=⟨g,o+32,none⟩) hgl).trans m10
   have HY1:=qh hY
   have HO1:=qh hown
   have HB1':=qh hB
   have hNl:w1.heap.size < wr.heap.size:=hsz
   have hRq:=(hB.block w.heap.size hwl).trans HR1.out
   have HRq:=qh hRq
   have hSV:StrV (fun b=>w1.heap.size+1≤b∧b < wr.heap.size) wr (f6.l.map (·.2)) A' c':=by
    have:=rep_own (S:=fun b=>w1.heap.size+1≤b∧b < wr.heap.size) (es:=strsD (f6.l.map (·.2))) hown (repN_strL _) (by simp [strsD]) (fun b h1 h2=>⟨h1,h2⟩)
    unfold StrV
    rw [List.length_map]
    exact this
   have HSV:=qh hSV
   clear hY hown hB hRq hSV
   go_wp2_with fail
   rename World=>wq
   go_loopw [81] (fun x wr=>∃ (i:Nat) (u:Value),x=.int .i64 (i:Int)∧i≤f10.l.length∧wr.heap[w1.heap.size]? = some (.cells #[.string (bs f0.b),.int .u64 (f1.n:Int),.string (bs f2.b),.string (bs f3.b),.string (bs f4.b),.string (bs f5.b),.slice A' f6.l.length c',.string (bs f7.b),.bool ad,.int .u64 (f9.n:Int),u] 26 (0,0))∧wr.ownsRow wq.heap.size 53 9 u i ((((f10.l.take i).map fun x=>(sfromP x.2).1).map sgL).flatten)∧Kp wq.heap.size w1.heap.size wq wr∧Below w1.heap.size w1 wr∧wq.heap.size≤wr.heap.size) (fun x _=>f10.l.length - (intOf x).toNat)
   case atStart=>exact ⟨0,_,rfl,Nat.zero_le _,HY1.out,World.ownsRow_nil _ _ _ _,(fun _ _ _=>rfl),HB1'.out,Nat.le_refl _⟩
   case round =>
    clear HY1 HO1 HB1'
    obtain ⟨i,u,rfl,hi,hY,hown,hkp,hB,hsz2⟩:=hrel
    obtain ⟨A2',c2',rfl⟩:=own_form hown
    have hYl:=(qg hY)
    by_cases hlt:i < f10.l.length
    ·obtain ⟨x,hx⟩:=getElem_ex hlt
     obtain ⟨g6,o6,Ax,cx,rfl,_,_,kx⟩:=lfs_at (Rep.keep LV10.out hB) hx
     have hltI:(i:Int) < f10.l.length:=by omega
     have q0:=kx 0 (.int .u64 (x.1:Int)) rfl
     have q1:=kx 1 (.string (bs x.2)) rfl
     have q2:=kx 2 (.slice Ax 0 cx) rfl
     simp only [Nat.add_zero] at q0
     have HA:=qh (take_snoc hx)
     have hF:=fun W:World=>rsfrom_any x.2 W
     obtain ⟨z,nz,hz⟩:∃ z nz,sfromP x.2=(z,nz):=⟨_,_,rfl⟩
     rw [hz] at hF
     simp only [] at hF
     have HF:=qh hF
     have HZ:=qh hz
     have HYY:=qh hY
     have HO:=qh hown
     have HBB:=qh hB
     clear hY hown hB hx kx hF hz
     go_wp2_with fail
     refine (HF.out _).mono ?_
     rintro e w2 ⟨rfl,hb2⟩
     have hba:Below wr.heap.size wr w2:=below_call ((Below.refl _ _).alloc qn _) (by simp) hb2
     have hY2:=(hba.block _ hYl).trans HYY.out
     have HO2:=qh (own_keep HO.out hba)
     have HB2:=qh (below_call HBB.out HBB.out.size hba)
     have hkp2:Kp wq.heap.size w1.heap.size wq w2:=fun b h1 h2=>(hba.block b (by omega)).trans (hkp b h1 h2)
     have hsz3:=Nat.le_trans hsz2 hba.size
     have hYl2:=(qg hY2)
     have y10:=rc (u:=.slice A2' i c2') hY2 10 rfl
     have y10a:=ca y10 (.cells (sgR z) 53)
     have HY2:=qh hY2
     clear hb2 hba HYY HO HBB hY2 hkp
     go_wp2_with (at_builtin;refine wpl_append elSg rfl rfl wq.heap.size ((HO2.out.alloc _).alloc _) rfl (m:=1) (sgL z) rfl rfl ?_ ?_ ?_ ?_ ?_ ?_;exact (lies_new' _ _ (by simp) _ _);exact (sgL_ok z).2;(simp only [maxLen];omega);omega;(simp;omega);intro v1 w8 hown1 hg1 hat1;obtain ⟨A3,c3,rfl⟩:=own_form hown1;have hY8:=(hg1.block w1.heap.size (by simp;omega) (fun e=>by have:=(HO2.out.lt _ e.symm).1;omega)).trans ((heap_alloc_old _ _ (by simp;omega)).trans ((heap_alloc_old _ _ hYl2).trans HY2.out));have d6:=rc (u:=.slice A2' i c2') hY8 10 rfl;have df:=rf hY8 10;have HY8:=qh hY8;clear hY8)
     have hba:Below w2.heap.size w2 ((w2.alloc (.cells (sgR z) 53)).alloc (.cells (sgR z) 53)):=((Below.refl _ _).alloc qn _).alloc (by simp) _
     have hB8:=below_app (below_call HB2.out HB2.out.size hba) (own_keep HO2.out hba) hg1 (by simp;omega) (by omega)
     have hs8:wq.heap.size≤w8.heap.size:=Nat.le_trans hsz3 (Nat.le_trans hba.size hg1.size)
     have hkp8:Kp wq.heap.size w1.heap.size wq w8:=fun b h1 h2=>(hg1.block b (Nat.lt_of_lt_of_le (Nat.lt_of_lt_of_le h1 hsz3) hba.size) (fun e=>by have:=(HO2.out.lt _ e.symm).1;omega)).trans ((hba.block b (by omega)).trans (hkp2 b h1 h2))
     rw [show (((f10.l.take i).map fun x=>(sfromP x.2).1).map sgL).flatten ++ sgL z=(((f10.l.take (i+1)).map fun x=>(sfromP x.2).1).map sgL).flatten by rw [HA.out];simp [HZ.out]] at hown1
     have HO8:=qh hown1
     clear hown1
     go_roundw
     case rel=>exact ⟨i+1,_,by go_num,hlt,heap_setCell_here HY8.out (i:=10) _,own_setOther HO8.out hNl _,fun b h1 h2=>(heap_set_ne h2 _).trans (hkp8 b h1 h2),hB8.setCell (p:=⟨w1.heap.size,10,none⟩) qn _,by simpa [World.setCell] using hs8⟩
     case measure=>simp [intOf];omega
    ·obtain rfl:i=f10.l.length:=by omega
     rw [List.take_of_length_le qn] at hown
     have hRr:=(hB.block w.heap.size hwl).trans HR1.out
     obtain ⟨h,hh⟩:∃ h:Hd,(⟨f0.b,f1.n,f2.b,f3.b,f4.b,f5.b,f6.l.map (·.2),f7.b,ad,f9.n,f10.l.map fun x=>(sfromP x.2).1⟩:Hd)=h:=⟨_,rfl⟩
     have hvv:HdV (From (w.heap.size+1)) wr h A' c' A2' c2':=by
      rw [← hh]
      refine ⟨Rep.mono HSV.out fun b _ hb=>⟨by show w.heap.size+1≤b;omega,hkp b hb.2 (by omega)⟩,?_⟩
      have:=PlV.own (S:=From (w.heap.size+1)) hown (by simp) (fun l hl=>by obtain ⟨y,_,rfl⟩:=List.mem_map.1 hl;exact sgL_ok y) (fun b h1 _=>by show w.heap.size+1≤b;omega)
      exact this
     have hfine:h.Fine:=by
      rw [← hh]
      exact ⟨HWF.out,HFB.out.1,HFB.out.2.1,HFB.out.2.2.1,HFB.out.2.2.2.1,HFB.out.2.2.2.2.1,HFB.out.2.2.2.2.2,fun a ha=>by
       obtain ⟨y,hy,rfl⟩:=List.mem_map.1 ha
       have:=(HG6.out y hy).2
       omega⟩
     have hc:=fun (W:World) (hb:Below wr.heap.size wr W)=>rhright_any h hfine A' A2' c' c2' W (HdV.keep ⟨StrV.any hvv.vals,PlV.any hvv.seals⟩ hb)
     have hrec:=fun (hk:OkHd h) (W:World) (hb:Below wr.heap.size wr W)=>rrecord_any h hfine.wf hk A' A2' c' c2' W (HdV.keep ⟨StrV.any hvv.vals,PlV.any hvv.seals⟩ hb)
     have hy:=HY.out
     have hn:=HN.out
     rw [hh] at hy hn
     have HHV:=qh hvv
     have HYH:=qh hy
     have HNH:=qh hn
     obtain ⟨rb,hrb⟩:∃ rb,okHd h=rb:=⟨_,rfl⟩
     obtain ⟨tb,htb⟩:∃ tb,hdB h=tb:=⟨_,rfl⟩
     rw [hrb] at hc
     rw [htb] at hrec
     have HRB:=qh hrb
     have HTB:=qh htb
     subst hh
     simp only [hdR,List.length_map] at hc hrec
     have HC:=qh hc
     have HRC:=qh hrec
     have HYY:=qh hY
     have HRR:=qh hRr
     have HBB:=qh hB
     clear hY hown hB hkp hvv hfine hc hrec hy hn hrb htb hRr
     have y0:=rc (u:=.string (bs f0.b)) HYY.out 0 rfl
     have y1:=rc (u:=.int .u64 (f1.n:Int)) HYY.out 1 rfl
     have y2:=rc (u:=.string (bs f2.b)) HYY.out 2 rfl
     have y3:=rc (u:=.string (bs f3.b)) HYY.out 3 rfl
     have y4:=rc (u:=.string (bs f4.b)) HYY.out 4 rfl
     have y5:=rc (u:=.string (bs f5.b)) HYY.out 5 rfl
     have y6:=rc (u:=.slice A' f6.l.length c') HYY.out 6 rfl
     have y7:=rc (u:=.string (bs f7.b)) HYY.out 7 rfl
     have y8:=rc (u:=.bool ad) HYY.out 8 rfl
     have y9:=rc (u:=.int .u64 (f9.n:Int)) HYY.out 9 rfl
     have y10:=rc (u:=.slice A2' f10.l.length c2') HYY.out 10 rfl
     go_wp2_with fail
     refine (HC.out _ (Below.refl _ _)).mono ?_
     rintro e w9 ⟨rfl,hb9⟩
     have HY9:=qh ((hb9.block _ (qg HYY.out)).trans HYY.out)
     have HR9:=qh ((hb9.block _ (qg HRR.out)).trans HRR.out)
     have HB9:=qh (HB1.out.trans ((below_call HBB.out HBB.out.size hb9).mono HB1.out.size))
     have HV9:=qh (HHV.out.keep hb9)
     have HW9:=qh hb9
     clear hb9 HYY HRR HBB HHV y0 y1 y2 y3 y4 y5 y6 y7 y8 y9 y10
     cases rb with
     | false =>
      have HT:=qh (HNH.out (fun hk=>by rw [(okHd_iff _).2 hk.1] at HRB;cases HRB.out))
      go_wp2_with (refine wpList_store_row rfl _ _ _ rfl w.heap.size zqH rfl rfl _ _ HR9.out infoHd rfl one11Z ?_)
      exact bodyPost_ret (v:=.tuple #[.agg zqH,.int .i64 4]) (results_row_tmp rfl _ _ w.heap.size _ _ _ _ rfl (setRow_heap _ _ _ _ _ _ HR9.out) _ rfl Tryz.underlying26 rfl infoHd) rfl (hdPost_zero HT.out (below_setRow HB9.out qn _))
     | true =>
      have hk:=(okHd_iff _).1 HRB.out
      have HK2:=qh hk
      obtain ⟨tq,htq⟩:∃ q,(tb == s)=q:=⟨_,rfl⟩
      have htqn:(tb != s) = !tq:=by rw [bne,htq]
      have y0:=rc (u:=.string (bs f0.b)) HY9.out 0 rfl
      have y1:=rc (u:=.int .u64 (f1.n:Int)) HY9.out 1 rfl
      have y2:=rc (u:=.string (bs f2.b)) HY9.out 2 rfl
      have y3:=rc (u:=.string (bs f3.b)) HY9.out 3 rfl
      have y4:=rc (u:=.string (bs f4.b)) HY9.out 4 rfl
      have y5:=rc (u:=.string (bs f5.b)) HY9.out 5 rfl
      have y6:=rc (u:=.slice A' f6.l.length c') HY9.out 6 rfl
      have y7:=rc (u:=.string (bs f7.b)) HY9.out 7 rfl
      have y8:=rc (u:=.bool ad) HY9.out 8 rfl
      have y9:=rc (u:=.int .u64 (f9.n:Int)) HY9.out 9 rfl
      have y10:=rc (u:=.slice A2' f10.l.length c2') HY9.out 10 rfl
      go_wp2_with fail
      refine (HRC.out hk _ HW9.out).mono ?_
      rintro e w10 ⟨rfl,hb10⟩
      have HY10:=qh ((hb10.block _ (qg HY9.out)).trans HY9.out)
      have HR10:=qh ((hb10.block _ (qg HR9.out)).trans HR9.out)
      have HB10:=qh (below_call HB9.out HB9.out.size hb10)
      have HV10:=qh (HV9.out.keep hb10)
      clear hb10 hk y0 y1 y2 y3 y4 y5 y6 y7 y8 y9 y10
      cases tq with
      | false =>
       have htqn:(tb != s)=true:=htqn
       have HT:=qh (HNH.out (fun hk=>by have h2:=hk.2;rw [HTB.out] at h2;rw [h2,beq_self_eq_true] at htq;cases htq))
       go_wp2_with (refine wpList_store_row rfl _ _ _ rfl w.heap.size zqH rfl rfl _ _ HR10.out infoHd rfl one11Z ?_)
       exact bodyPost_ret (v:=.tuple #[.agg zqH,.int .i64 4]) (results_row_tmp rfl _ _ w.heap.size _ _ _ _ rfl (setRow_heap _ _ _ _ _ _ HR10.out) _ rfl Tryz.underlying26 rfl infoHd) rfl (hdPost_zero HT.out (below_setRow HB10.out qn _))
      | true =>
       have htqn:(tb != s)=false:=htqn
       have HT:=qh (HYH.out HK2.out ((eq_of_beq htq).symm.trans HTB.out.symm))
       go_wp2_with (first | (refine wpList_load_row rfl _ _ rfl w1.heap.size rfl _ _ _ _ HY10.out Tryz.underlying26 rfl infoHd ?_) | (refine wpList_store_row rfl _ _ _ rfl w.heap.size #[.string (bs f0.b),.int .u64 (f1.n:Int),.string (bs f2.b),.string (bs f3.b),.string (bs f4.b),.string (bs f5.b),.slice A' f6.l.length c',.string (bs f7.b),.bool ad,.int .u64 (f9.n:Int),.slice A2' f10.l.length c2'] rfl rfl _ _ HR10.out infoHd rfl (one11 _ [] _ _ _ _ _ _ _ _ _ _ _ _ _ _) ?_))
       refine bodyPost_ret (v:=.tuple #[.agg #[.string (bs f0.b),.int .u64 (f1.n:Int),.string (bs f2.b),.string (bs f3.b),.string (bs f4.b),.string (bs f5.b),.slice A' f6.l.length c',.string (bs f7.b),.bool ad,.int .u64 (f9.n:Int),.slice A2' f10.l.length c2'],.int .i64 0]) (results_row_tmp rfl _ _ w.heap.size _ _ _ _ rfl (setRow_heap _ _ _ _ _ _ HR10.out) _ rfl Tryz.underlying26 rfl infoHd) rfl ?_
       refine ⟨⟨f0.b,f1.n,f2.b,f3.b,f4.b,f5.b,f6.l.map (·.2),f7.b,ad,f9.n,f10.l.map fun x=>(sfromP x.2).1⟩,A',A2',c',c2',0,by simp only [hdR,List.length_map];rfl,?_,HT.out,below_setRow HB10.out qn _⟩
       have hm:∀ b,b < w10.heap.size→From (w.heap.size+1) b→From w.heap.size b∧(w10.setRow w.heap.size #[.string (bs f0.b),.int .u64 (f1.n:Int),.string (bs f2.b),.string (bs f3.b),.string (bs f4.b),.string (bs f5.b),.slice A' f6.l.length c',.string (bs f7.b),.bool ad,.int .u64 (f9.n:Int),.slice A2' f10.l.length c2']).heap[b]? = w10.heap[b]?:=fun b _ hb=>⟨Nat.le_of_succ_le hb,heap_setRow_ne _ (by have h1:w.heap.size+1≤b:=hb;omega) _⟩
       exact ⟨Rep.mono HV10.out.vals hm,Rep.mono HV10.out.seals hm⟩
end Go.Proofs.YtjanaholcjkceaaGreat
