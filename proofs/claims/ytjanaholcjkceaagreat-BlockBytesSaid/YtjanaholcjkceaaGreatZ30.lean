/- The walk of header.addrs. -/
import Derived.Test.YtjanaholcjkceaaGreatZ06
import Derived.Test.YtjanaholcjkceaaGreatZ29
import Derived.Test.YtjanaholcjkceaaGreatZ23
import Derived.WalkLawsBesides
namespace Go.Proofs.YtjanaholcjkceaaGreat
set_option linter.unusedVariables false
set_option linter.unusedSimpArgs false
open Go.RowKit
set_option maxHeartbeats 4000000
set_option maxRecDepth 100000
/-- what stands ahead of a place -/
def prevV (l:List Bytes):Nat→Option Bytes
 | 0=>none
 | i+1=>l[i]?
theorem riseV_step {l:List Bytes} {i:Nat} {a:Bytes} (h:l[i]? = some a):riseV (prevV l i) (l.drop i)=(a.length == 20 && (match prevV l i with | none=>true | some p=>lessB p a) && riseV (prevV l (i+1)) (l.drop (i+1))):=by
 rw [drop_cons h]
 show (a.length == 20 && _ && riseV (some a) _)=_
 rw [prevV,h]
 rfl
theorem riseV_none {l:List Bytes}:riseV (prevV l l.length) (l.drop l.length)=true:=by rw [List.drop_length];cases prevV l l.length <;> rfl
theorem addrs_any (l:List Bytes) (h63:∀ a∈l,a.length≤9223372036854775807) (A:Option Addr) (c:Nat) (w:World) (hv:StrV Any w l A c) :
  Calls Tryz.prog 59 #[.slice A l.length c] w fun e w'=>e=.returned (.bool (okVals l))∧w=w':=by
 have hl:=(Rep.slice_len hv).2
 simp only [maxLen] at hl
 have hl63:(l.length:Int)≤9223372036854775807:=by omega
 have hok:okVals l=(riseV (prevV l 0) (l.drop 0) && decide (1≤l.length) && decide (l.length≤16)):=by unfold okVals;rfl
 obtain ⟨R,hR⟩:∃ R,okVals l=R:=⟨_,rfl⟩
 rw [hR] at hok ⊢
 have HOK:=qh hok
 have HV:=qh hv
 have H63:=qh h63
 clear hok hv h63 hR hl
 go_enter Tryz.func59,Tryz.ntmps59
 go_wp2_with fail
 go_loop [7] (fun x=>∃ i:Nat,i≤l.length∧x=.int .i64 (i:Int)∧Hid (R=(riseV (prevV l i) (l.drop i) && decide (1≤l.length) && decide (l.length≤16)))) (fun x=>l.length - (intOf x).toNat)
 case atStart=>exact ⟨0,Nat.zero_le _,rfl,HOK⟩
 case round =>
  obtain ⟨i,hi,rfl,HI⟩:=hrel
  clear HOK
  by_cases hlt:i < l.length
  ·obtain ⟨a,ha⟩:=getElem_ex hlt
   obtain ⟨g,o,rfl,_,hc⟩:=StrV.at_ HV.out ha
   have hltI:(i:Int) < l.length:=by omega
   have ha63:(a.length:Int)≤9223372036854775807:=by have:=H63.out a (List.mem_of_getElem? ha);omega
   have hst:=HI.out
   rw [riseV_step ha] at hst
   cases hl20:((a.length:Int) == 20) with
   | false =>
    have hl20n:((a.length:Int) != 20)=true:=by rw [bne,hl20];rfl
    have hR:R=false:=by rw [hst,show (a.length == 20)=false by rw [beq_eq_false_iff_ne] at hl20 ⊢;omega];simp
    have HR:=qh hR
    clear hst hR HI
    go_wp2_with fail
    go_ret
    exact ⟨by rw [HR.out];rfl,rfl⟩
   | true =>
    have hl20n:((a.length:Int) != 20)=false:=by rw [bne,hl20];rfl
    rw [show (a.length == 20)=true by rw [beq_iff_eq] at hl20 ⊢;omega,Bool.true_and] at hst
    cases i with
    | zero =>
     simp only [prevV,Bool.true_and] at hst
     have HST:=qh hst
     clear hst HI ha
     simp only [Nat.add_zero] at hc
     go_wp2_with fail
     go_round
     case rel=>exact ⟨1,hlt,rfl,by have:=HST.out;rw [Nat.zero_add] at this;exact qh this⟩
     case measure=>simp [intOf];omega
    | succ k =>
     obtain ⟨p,hp⟩:=getElem_ex (show k < l.length by omega)
     obtain ⟨g2,o2,he,_,hc2⟩:=StrV.at_ HV.out hp
     injection he with he
     injection he with e1 e2
     subst e1;subst e2
     have hkI:(k:Int) < l.length:=by omega
     have hk0:(0:Int) < (k:Int)+1:=by omega
     have hsub:(k:Int)+1 - 1=k:=by omega
     have hkl1:(k:Int)+1 < l.length:=by omega
     simp only [prevV,hp] at hst
     cases hbl:Op.bytesLess p a with
     | false =>
      have hR:R=false:=by rw [hst,← lessB_eq,hbl];simp
      have HR:=qh hR
      clear hst hR HI ha hp
      go_wp2_with fail
      go_ret
      exact ⟨by rw [HR.out];rfl,rfl⟩
     | true =>
      rw [← lessB_eq,hbl,Bool.true_and] at hst
      have HST:=qh hst
      clear hst HI ha hp
      go_wp2_with fail
      go_round
      case rel=>exact ⟨k+1+1,hlt,by go_num,HST⟩
      case measure=>simp [intOf];omega
  ·obtain rfl:i=l.length:=by omega
   have hst:=HI.out
   rw [riseV_none,Bool.true_and] at hst
   have HST:=qh hst
   by_cases h1:(1:Int)≤l.length
   ·by_cases h2:(l.length:Int)≤16
    ·have hR:R=true:=by rw [hst,decide_eq_true (show 1≤l.length by omega),decide_eq_true (show l.length≤16 by omega)];rfl
     have HR:=qh hR
     clear hst HI hR
     go_wp2_with fail
     go_ret
     exact ⟨by rw [HR.out];rfl,rfl⟩
    ·have hR:R=false:=by rw [hst,decide_eq_false (show ¬ l.length≤16 by omega),Bool.and_false]
     have HR:=qh hR
     clear hst HI hR
     go_wp2_with fail
     go_ret
     exact ⟨by rw [HR.out];rfl,rfl⟩
   ·have hR:R=false:=by rw [hst,decide_eq_false (show ¬ 1≤l.length by omega),Bool.false_and]
    have HR:=qh hR
    clear hst HI hR
    go_wp2_with fail
    go_ret
    exact ⟨by rw [HR.out];rfl,rfl⟩
end Go.Proofs.YtjanaholcjkceaaGreat
