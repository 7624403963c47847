/- The walks of vote.set, the reference's Set; rows that are the same. -/
import Derived.Test.YtdfmheademcbkaaGreatZ37
import Derived.Test.YtdfmheademcbkaaGreatZ47
import Derived.Test.YtdfmheademcbkaaGreatZ48
import Derived.Deep.QuietTactic
import Derived.BigQuiet
import Derived.Test.YtdfmheademcbkaaGreatZ03
namespace Go.Proofs.YtdfmheademcbkaaGreat
set_option linter.unusedVariables false
set_option linter.unusedSimpArgs false
open Go.RowKit
set_option maxHeartbeats 4000000
set_option maxRecDepth 100000
theorem vset_any (l:List Bytes) (h63:∀ a∈l,a.length≤9223372036854775807) (A:Option Addr) (c:Nat) (w:World) (hv:StrV Any w l A c) :
  Calls Tryz.prog 59 #[.slice A l.length c] w fun e w'=>e=.returned (.bool (okVals l))∧w=w':=by
 have hl:=(Rep.slice_len hv).2
 simp only [maxLen] at hl
 have hl63:(l.length:Int)≤9223372036854775807:=by omega
 have hok:okVals l=(riseV (prevV l 0) (l.drop 0) && decide (1≤l.length) && decide (l.length≤16)):=by unfold okVals;rfl
 obtain ⟨R,hR⟩:∃ R,okVals l=R:=⟨_,rfl⟩
 rw [hR] at hok ⊢
 have HOK:=Lib.hid hok
 have HV:=Lib.hid hv
 have H63:=Lib.hid h63
 clear hok hv h63 hR hl
 go_enter Tryz.func59,Tryz.ntmps59
 go_wp2_with fail
 go_loop [7] (fun x=>∃ i:Nat,i≤l.length∧x=.int .i64 (i:Int)∧Hid (R=(riseV (prevV l i) (l.drop i) && decide (1≤l.length) && decide (l.length≤16)))) (fun x=>l.length - (intOf x).toNat)
 case atStart=>exact ⟨0,Nat.zero_le _,rfl,HOK⟩
 case round =>
  obtain ⟨i,hi,rfl,HI⟩:=hrel
  clear HOK
  by_cases hlt:i < l.length
  ·obtain ⟨a,ha⟩:=getElem_ex hlt
   obtain ⟨g,o,rfl,_,hc⟩:=StrV.at_ HV.out ha
   have hltI:(i:Int) < l.length:=by omega
   have ha63:(a.length:Int)≤9223372036854775807:=by have:=H63.out a (List.mem_of_getElem? ha);omega
   have hst:=HI.out
   rw [riseV_step ha] at hst
   cases hl20:((a.length:Int) == 20) with
   | false =>
    have hl20n:((a.length:Int) != 20)=true:=by rw [bne,hl20];rfl
    have hR:R=false:=by rw [hst,show (a.length == 20)=false by rw [beq_eq_false_iff_ne] at hl20 ⊢;omega];simp
    have HR:=Lib.hid hR
    clear hst hR HI
    go_wp2_with fail
    go_ret
    exact ⟨by rw [HR.out];rfl,rfl⟩
   | true =>
    have hl20n:((a.length:Int) != 20)=false:=by rw [bne,hl20];rfl
    rw [show (a.length == 20)=true by rw [beq_iff_eq] at hl20 ⊢;omega,Bool.true_and] at hst
    cases i with
    | zero =>
     simp only [prevV,Bool.true_and] at hst
     have HST:=Lib.hid hst
     clear hst HI ha
     simp only [Nat.add_zero] at hc
     go_wp2_with fail
     go_round
     case rel=>exact ⟨1,hlt,rfl,by have:=HST.out;rw [Nat.zero_add] at this;exact Lib.hid this⟩
     case measure=>simp [intOf];omega
    | succ k =>
     obtain ⟨p,hp⟩:=getElem_ex (show k < l.length by omega)
     obtain ⟨g2,o2,he,_,hc2⟩:=StrV.at_ HV.out hp
     injection he with he
     injection he with e1 e2
     subst e1;subst e2
     have hkI:(k:Int) < l.length:=by omega
     have hk0:(0:Int) < (k:Int)+1:=by omega
     have hsub:(k:Int)+1 - 1=k:=by omega
     have hkl1:(k:Int)+1 < l.length:=by omega
     simp only [prevV,hp] at hst
     cases hbl:Op.bytesLess p a with
     | false =>
      have hR:R=false:=by rw [hst,← lessB_eq,hbl];simp
      have HR:=Lib.hid hR
      clear hst hR HI ha hp
      go_wp2_with fail
      go_ret
      exact ⟨by rw [HR.out];rfl,rfl⟩
     | true =>
      rw [← lessB_eq,hbl,Bool.true_and] at hst
      have HST:=Lib.hid hst
      clear hst HI ha hp
      go_wp2_with fail
      go_round
      case rel=>exact ⟨k+1+1,hlt,by go_num,HST⟩
      case measure=>simp [intOf];omega
  ·obtain rfl:i=l.length:=by omega
   have hst:=HI.out
   rw [riseV_none,Bool.true_and] at hst
   have HST:=Lib.hid hst
   by_cases h1:(1:Int)≤l.length
   ·by_cases h2:(l.length:Int)≤16
    ·have hR:R=true:=by rw [hst,decide_eq_true (show 1≤l.length by omega),decide_eq_true (show l.length≤16 by omega)];rfl
     have HR:=Lib.hid hR
     clear hst HI hR
     go_wp2_with fail
     go_ret
     exact ⟨by rw [HR.out];rfl,rfl⟩
    ·have hR:R=false:=by rw [hst,decide_eq_false (show ¬ l.length≤16 by omega),Bool.and_false]
     have HR:=Lib.hid hR
     clear hst HI hR
     go_wp2_with fail
     go_ret
     exact ⟨by rw [HR.out];rfl,rfl⟩
   ·have hR:R=false:=by rw [hst,decide_eq_false (show ¬ 1≤l.length by omega),Bool.false_and]
    have HR:=Lib.hid hR
    clear hst HI hR
    go_wp2_with fail
    go_ret
    exact ⟨by rw [HR.out];rfl,rfl⟩
theorem leq_not:∀ a p:List UInt8,(Op.bytesLess a p || a == p) = !Op.bytesLess p a
 | [],[]=>by simp [Op.bytesLess]
 | [],_ :: _=>by simp [Op.bytesLess]
 | _ :: _,[]=>by simp [Op.bytesLess]
 | x :: a,y :: p=>by
  have ih:=leq_not a p
  simp only [Op.bytesLess]
  have h1:(x :: a == y :: p)=(x == y && a == p):=rfl
  rw [h1]
  by_cases hxy:x=y
  ·subst hxy
   have hn:¬ x < x:=by simp
   simp only [hn,decide_false,beq_self_eq_true,Bool.true_and,Bool.false_or]
   exact ih
  ·have e1:(x == y)=false:=by simp [hxy]
   have e2:(y == x)=false:=by simp [Ne.symm hxy]
   rw [e1,e2]
   simp only [Bool.false_and,Bool.or_false]
   rcases Nat.lt_trichotomy x.toNat y.toNat with h | h | h
   ·have g1:x < y:=h
    have g2:¬ y < x:=fun q=>Nat.lt_asymm h q
    simp [g1,g2]
   ·exact absurd (UInt8.toNat_inj.1 h) hxy
   ·have g1:y < x:=h
    have g2:¬ x < y:=fun q=>Nat.lt_asymm h q
    simp [g1,g2]
theorem rset_any (l:List Bytes) (h63:∀ a∈l,a.length≤9223372036854775807) (A:Option Addr) (c:Nat) (w:World) (hv:StrV Any w l A c) :
  Calls Tryz.prog 19 #[.slice A l.length c] w fun e w'=>e=.returned (.bool (okVals l))∧w=w':=by
 have hl:=(Rep.slice_len hv).2
 simp only [maxLen] at hl
 have hl63:(l.length:Int)≤9223372036854775807:=by omega
 have hok:okVals l=(riseV (prevV l 0) (l.drop 0) && decide (1≤l.length) && decide (l.length≤16)):=by unfold okVals;rfl
 obtain ⟨R,hR⟩:∃ R,okVals l=R:=⟨_,rfl⟩
 rw [hR] at hok ⊢
 have HOK:=Lib.hid hok
 have HV:=Lib.hid hv
 have H63:=Lib.hid h63
 clear hok hv h63 hR hl
 go_enter Tryz.func19,Tryz.ntmps19
 go_wp2_with fail
 go_loop [7] (fun x=>∃ i:Nat,i≤l.length∧x=.int .i64 (i:Int)∧Hid (R=(riseV (prevV l i) (l.drop i) && decide (1≤l.length) && decide (l.length≤16)))) (fun x=>l.length - (intOf x).toNat)
 case atStart=>exact ⟨0,Nat.zero_le _,rfl,HOK⟩
 case round =>
  obtain ⟨i,hi,rfl,HI⟩:=hrel
  clear HOK
  by_cases hlt:i < l.length
  ·obtain ⟨a,ha⟩:=getElem_ex hlt
   obtain ⟨g,o,rfl,_,hc⟩:=StrV.at_ HV.out ha
   have hltI:(i:Int) < l.length:=by omega
   have ha63:(a.length:Int)≤9223372036854775807:=by have:=H63.out a (List.mem_of_getElem? ha);omega
   have hst:=HI.out
   rw [riseV_step ha] at hst
   cases hl20:((a.length:Int) == 20) with
   | false =>
    have hl20n:((a.length:Int) != 20)=true:=by rw [bne,hl20];rfl
    have hR:R=false:=by rw [hst,show (a.length == 20)=false by rw [beq_eq_false_iff_ne] at hl20 ⊢;omega];simp
    have HR:=Lib.hid hR
    clear hst hR HI
    go_wp2_with fail
    go_ret
    exact ⟨by rw [HR.out];rfl,rfl⟩
   | true =>
    have hl20n:((a.length:Int) != 20)=false:=by rw [bne,hl20];rfl
    rw [show (a.length == 20)=true by rw [beq_iff_eq] at hl20 ⊢;omega,Bool.true_and] at hst
    cases i with
    | zero =>
     simp only [prevV,Bool.true_and] at hst
     have HST:=Lib.hid hst
     clear hst HI ha
     simp only [Nat.add_zero] at hc
     go_wp2_with fail
     go_round
     case rel=>exact ⟨1,hlt,rfl,by have:=HST.out;rw [Nat.zero_add] at this;exact Lib.hid this⟩
     case measure=>simp [intOf];omega
    | succ k =>
     obtain ⟨p,hp⟩:=getElem_ex (show k < l.length by omega)
     obtain ⟨g2,o2,he,_,hc2⟩:=StrV.at_ HV.out hp
     injection he with he
     injection he with e1 e2
     subst e1;subst e2
     have hkI:(k:Int) < l.length:=by omega
     have hk0:(0:Int) < (k:Int)+1:=by omega
     have hsub:(k:Int)+1 - 1=k:=by omega
     have hkl1:(k:Int)+1 < l.length:=by omega
     simp only [prevV,hp] at hst
     cases hbl:Op.bytesLess p a with
     | false =>
      have hR:R=false:=by rw [hst,← lessB_eq,hbl];simp
      have HR:=Lib.hid hR
      have hle:(Op.bytesLess a p || a == p)=true:=by rw [leq_not,hbl];rfl
      clear hst hR HI ha hp
      go_wp2_with fail
      go_ret
      exact ⟨by rw [HR.out];rfl,rfl⟩
     | true =>
      rw [← lessB_eq,hbl,Bool.true_and] at hst
      have HST:=Lib.hid hst
      have hle:(Op.bytesLess a p || a == p)=false:=by rw [leq_not,hbl];rfl
      clear hst HI ha hp
      go_wp2_with fail
      go_round
      case rel=>exact ⟨k+1+1,hlt,by go_num,HST⟩
      case measure=>simp [intOf];omega
  ·obtain rfl:i=l.length:=by omega
   have hst:=HI.out
   rw [riseV_none,Bool.true_and] at hst
   have HST:=Lib.hid hst
   by_cases h1:(1:Int)≤l.length
   ·by_cases h2:(l.length:Int)≤16
    ·have hR:R=true:=by rw [hst,decide_eq_true (show 1≤l.length by omega),decide_eq_true (show l.length≤16 by omega)];rfl
     have HR:=Lib.hid hR
     clear hst HI hR
     go_wp2_with fail
     go_ret
     exact ⟨by rw [HR.out];rfl,rfl⟩
    ·have hR:R=false:=by rw [hst,decide_eq_false (show ¬ l.length≤16 by omega),Bool.and_false]
     have HR:=Lib.hid hR
     clear hst HI hR
     go_wp2_with fail
     go_ret
     exact ⟨by rw [HR.out];rfl,rfl⟩
   ·have hR:R=false:=by rw [hst,decide_eq_false (show ¬ 1≤l.length by omega),Bool.false_and]
    have HR:=Lib.hid hR
    clear hst HI hR
    go_wp2_with fail
    go_ret
    exact ⟨by rw [HR.out];rfl,rfl⟩
theorem equalS_any (ps:List Bytes) (A A':Option Addr) (c c':Nat) (w:World) (hv:StrV Any w ps A c) (hv':StrV Any w ps A' c') :
  Calls Tryz.prog 26 #[.slice A ps.length c,.slice A' ps.length c'] w fun e w'=>e=.returned (.bool true)∧Below w.heap.size w w':=by
 have hl63:(ps.length:Int)≤9223372036854775807:=by have:=(Rep.slice_len hv).2;simp only [maxLen] at this;omega
 go_enter Tryz.func26,Tryz.ntmps26
 go_wp2_with fail
 go_loopw [13] (fun i wr=>∃ k:Nat,k≤ps.length∧i=.int .i64 k∧Below w.heap.size w wr) (fun i _=>ps.length - (intOf i).toNat)
 case atStart=>exact ⟨0,Nat.zero_le _,rfl,Below.refl _ _⟩
 case round =>
  obtain ⟨k,hk,rfl,hb⟩:=hrel
  by_cases hlt:k < ps.length
  ·obtain ⟨p,hp⟩:=getElem_ex hlt
   obtain ⟨g,o,rfl,_,c0⟩:=(hv.keep hb).at_ hp
   obtain ⟨g',o',rfl,_,c1⟩:=(hv'.keep hb).at_ hp
   have hlt':(k:Int) < ps.length:=by omega
   clear hp
   go_wp2_with fail
   go_quiet (fail)
   go_wp2_with fail
   go_roundw
   case rel=>exact ⟨k+1,by omega,by go_num,below_drewN hb _⟩
   case measure=>simp [intOf];omega
  ·have hlt':¬ (k:Int) < ps.length:=by omega
   go_wp2_with fail
   go_ret
   exact ⟨rfl,hb⟩
theorem same20_any (ps:List Bytes) (A A':Option Addr) (c c':Nat) (w:World) (hv:StrV Any w ps A c) (hv':StrV Any w ps A' c') :
  Calls Tryz.prog 21 #[.slice A ps.length c,.slice A' ps.length c'] w fun e w'=>e=.returned (.bool true)∧Below w.heap.size w w':=by
 have hl63:(ps.length:Int)≤9223372036854775807:=by have:=(Rep.slice_len hv).2;simp only [maxLen] at this;omega
 go_enter Tryz.func21,Tryz.ntmps21
 go_wp2_with fail
 go_loopw [13] (fun i wr=>∃ k:Nat,k≤ps.length∧i=.int .i64 k∧Below w.heap.size w wr) (fun i _=>ps.length - (intOf i).toNat)
 case atStart=>exact ⟨0,Nat.zero_le _,rfl,Below.refl _ _⟩
 case round =>
  obtain ⟨k,hk,rfl,hb⟩:=hrel
  by_cases hlt:k < ps.length
  ·obtain ⟨p,hp⟩:=getElem_ex hlt
   obtain ⟨g,o,rfl,_,c0⟩:=(hv.keep hb).at_ hp
   obtain ⟨g',o',rfl,_,c1⟩:=(hv'.keep hb).at_ hp
   have hlt':(k:Int) < ps.length:=by omega
   clear hp
   go_wp2_with fail
   go_quiet (fail)
   go_wp2_with fail
   go_roundw
   case rel=>exact ⟨k+1,by omega,by go_num,below_drewN hb _⟩
   case measure=>simp [intOf];omega
  ·have hlt':¬ (k:Int) < ps.length:=by omega
   go_wp2_with fail
   go_ret
   exact ⟨rfl,hb⟩
theorem equalB_any (w:World):Calls Tryz.prog 27 #[.slice none 0 0,.slice none 0 0] w fun e w'=>e=.returned (.bool true)∧Below w.heap.size w w':=by
 go_enter Tryz.func27,Tryz.ntmps27
 go_wp2_with fail
 go_loopw [13] (fun i wr=>i=.int .i64 0∧Below w.heap.size w wr) (fun _ _=>0)
 case atStart=>exact ⟨rfl,Below.refl _ _⟩
 case round =>
  obtain ⟨rfl,hb⟩:=hrel
  go_wp2_with fail
  go_ret
  exact ⟨rfl,hb⟩
theorem likeBlocks_any (w:World):Calls Tryz.prog 22 #[.slice none 0 0,.slice none 0 0] w fun e w'=>e=.returned (.bool true)∧Below w.heap.size w w':=by
 go_enter Tryz.func22,Tryz.ntmps22
 go_wp2_with fail
 go_loopw [13] (fun i wr=>i=.int .i64 0∧Below w.heap.size w wr) (fun _ _=>0)
 case atStart=>exact ⟨rfl,Below.refl _ _⟩
 case round =>
  obtain ⟨rfl,hb⟩:=hrel
  go_wp2_with fail
  go_ret
  exact ⟨rfl,hb⟩
theorem equalA_any (l:List Ac) (A A':Option Addr) (c c':Nat) (w:World) (hv:AcsV Any w l A c) (hv':AcsV Any w l A' c') :
  Calls Tryz.prog 25 #[.slice A l.length c,.slice A' l.length c'] w fun e w'=>e=.returned (.bool true)∧Below w.heap.size w w':=by
 have hl:=(Rep.slice_len hv).2
 simp only [maxLen] at hl
 have hl63:(l.length:Int)≤9223372036854775807:=by omega
 have HV:=Lib.hid hv
 have HV2:=Lib.hid hv'
 clear hv hv' hl
 go_enter Tryz.func25,Tryz.ntmps25
 go_wp2_with fail
 go_loopw [13] (fun i wr=>∃ k:Nat,k≤l.length∧i=.int .i64 k∧Below w.heap.size w wr) (fun i _=>l.length - (intOf i).toNat)
 case atStart=>exact ⟨0,Nat.zero_le _,rfl,Below.refl _ _⟩
 case round =>
  obtain ⟨k,hk,rfl,hb⟩:=hrel
  by_cases hlt:k < l.length
  ·obtain ⟨p,hp⟩:=getElem_ex hlt
   obtain ⟨g,o,rfl,_,c0⟩:=acs_at (Rep.keep HV.out hb) hp
   obtain ⟨g',o',rfl,_,c1⟩:=acs_at (Rep.keep HV2.out hb) hp
   have hlt':(k:Int) < l.length:=by omega
   clear hp
   go_wp2_with fail
   have hSS:(fun w'=>(∀ j u,(acC p)[j]? = some u→w'.cell? ⟨g,o+k * 3+j,none⟩=some u)∧(∀ j u,(acC p)[j]? = some u→w'.cell? ⟨g',o'+k * 3+j,none⟩=some u)) wr.drew:=⟨c0,c1⟩
   refine wp_region_R [(99,fun w'=>(∀ j u,(acC p)[j]? = some u→w'.cell? ⟨g,o+k * 3+j,none⟩=some u)∧(∀ j u,(acC p)[j]? = some u→w'.cell? ⟨g',o'+k * 3+j,none⟩=some u))] (by kernel_rfl) ?_
   refine R_p (i:=0) (v:=.slice (some ⟨g,o,none⟩) l.length c) (Meets.here hSS Meets.nil) ?_
   refine R_p (i:=1) (v:=.int .i64 (k:Int)) (Meets.here hSS Meets.nil) ?_
   refine R_p (i:=2) (v:=.pointer (some ⟨g,o+k * 3,none⟩)) (Meets.here hSS Meets.nil) ?_
   refine R_l (i:=3) (v:=.agg (acC p).toArray) 99 _ List.mem_cons_self rfl (yieldsIf_load_at rfl rfl rfl (acC p) (fun w' hS=>hS.1) Tryz.underlying44 rfl infoA) (Meets.here hSS Meets.nil) ?_
   refine R_p (i:=4) (v:=.slice (some ⟨g',o',none⟩) l.length c') (Meets.here hSS Meets.nil) ?_
   refine R_p (i:=5) (v:=.int .i64 (k:Int)) (Meets.here hSS Meets.nil) ?_
   refine R_p (i:=6) (v:=.pointer (some ⟨g',o'+k * 3,none⟩)) (Meets.here hSS Meets.nil) ?_
   refine R_l (i:=7) (v:=.agg (acC p).toArray) 99 _ List.mem_cons_self rfl (yieldsIf_load_at rfl rfl rfl (acC p) (fun w' hS=>hS.2) Tryz.underlying44 rfl infoA) (Meets.here hSS Meets.nil) ?_
   refine R_p (i:=8) (v:=.bool false) (Meets.here hSS Meets.nil) ?_ (hy:=by intro w';have h1:=neqAc p w';have h2:=fun aa bb=>run_eqGuard_agg w' .neq 44 aa bb (acC p).toArray (acC p).toArray guardAc;generalize Value.agg (acC p).toArray=VV at h1 h2 ⊢;go_simp)
   refine R_done (by kernel_rfl) ?_ _
   go_wp2_with fail
   go_roundw
   case rel=>exact ⟨k+1,by omega,by go_num,hb.drew⟩
   case measure=>simp [intOf];omega
  ·have hlt':¬ (k:Int) < l.length:=by omega
   go_wp2_with fail
   go_ret
   exact ⟨rfl,hb⟩
theorem like15_any (l:List Ac) (A A':Option Addr) (c c':Nat) (w:World) (hv:AcsV Any w l A c) (hv':AcsV Any w l A' c') :
  Calls Tryz.prog 20 #[.slice A l.length c,.slice A' l.length c'] w fun e w'=>e=.returned (.bool true)∧Below w.heap.size w w':=by
 have hl:=(Rep.slice_len hv).2
 simp only [maxLen] at hl
 have hl63:(l.length:Int)≤9223372036854775807:=by omega
 have HV:=Lib.hid hv
 have HV2:=Lib.hid hv'
 clear hv hv' hl
 go_enter Tryz.func20,Tryz.ntmps20
 go_wp2_with fail
 go_loopw [13] (fun i wr=>∃ k:Nat,k≤l.length∧i=.int .i64 k∧Below w.heap.size w wr) (fun i _=>l.length - (intOf i).toNat)
 case atStart=>exact ⟨0,Nat.zero_le _,rfl,Below.refl _ _⟩
 case round =>
  obtain ⟨k,hk,rfl,hb⟩:=hrel
  by_cases hlt:k < l.length
  ·obtain ⟨p,hp⟩:=getElem_ex hlt
   obtain ⟨g,o,rfl,_,c0⟩:=acs_at (Rep.keep HV.out hb) hp
   obtain ⟨g',o',rfl,_,c1⟩:=acs_at (Rep.keep HV2.out hb) hp
   have hlt':(k:Int) < l.length:=by omega
   clear hp
   go_wp2_with fail
   have hSS:(fun w'=>(∀ j u,(acC p)[j]? = some u→w'.cell? ⟨g,o+k * 3+j,none⟩=some u)∧(∀ j u,(acC p)[j]? = some u→w'.cell? ⟨g',o'+k * 3+j,none⟩=some u)) wr.drew:=⟨c0,c1⟩
   refine wp_region_R [(99,fun w'=>(∀ j u,(acC p)[j]? = some u→w'.cell? ⟨g,o+k * 3+j,none⟩=some u)∧(∀ j u,(acC p)[j]? = some u→w'.cell? ⟨g',o'+k * 3+j,none⟩=some u))] (by kernel_rfl) ?_
   refine R_p (i:=0) (v:=.slice (some ⟨g,o,none⟩) l.length c) (Meets.here hSS Meets.nil) ?_
   refine R_p (i:=1) (v:=.int .i64 (k:Int)) (Meets.here hSS Meets.nil) ?_
   refine R_p (i:=2) (v:=.pointer (some ⟨g,o+k * 3,none⟩)) (Meets.here hSS Meets.nil) ?_
   refine R_l (i:=3) (v:=.agg (acC p).toArray) 99 _ List.mem_cons_self rfl (yieldsIf_load_at rfl rfl rfl (acC p) (fun w' hS=>hS.1) Tryz.underlying44 rfl infoA) (Meets.here hSS Meets.nil) ?_
   refine R_p (i:=4) (v:=.slice (some ⟨g',o',none⟩) l.length c') (Meets.here hSS Meets.nil) ?_
   refine R_p (i:=5) (v:=.int .i64 (k:Int)) (Meets.here hSS Meets.nil) ?_
   refine R_p (i:=6) (v:=.pointer (some ⟨g',o'+k * 3,none⟩)) (Meets.here hSS Meets.nil) ?_
   refine R_l (i:=7) (v:=.agg (acC p).toArray) 99 _ List.mem_cons_self rfl (yieldsIf_load_at rfl rfl rfl (acC p) (fun w' hS=>hS.2) Tryz.underlying44 rfl infoA) (Meets.here hSS Meets.nil) ?_
   refine R_p (i:=8) (v:=.bool false) (Meets.here hSS Meets.nil) ?_ (hy:=by intro w';have h1:=neqAc p w';have h2:=fun aa bb=>run_eqGuard_agg w' .neq 44 aa bb (acC p).toArray (acC p).toArray guardAc;generalize Value.agg (acC p).toArray=VV at h1 h2 ⊢;go_simp)
   refine R_done (by kernel_rfl) ?_ _
   go_wp2_with fail
   go_roundw
   case rel=>exact ⟨k+1,by omega,by go_num,hb.drew⟩
   case measure=>simp [intOf];omega
  ·have hlt':¬ (k:Int) < l.length:=by omega
   go_wp2_with fail
   go_ret
   exact ⟨rfl,hb⟩
/- The walks of vote.Right, chain.begins, stands, New; of the reference's Begins. -/
theorem infoCh:(Tryz.prog.info? 31).map (·.size)=some 7:=by kernel_rfl
theorem one7 (e:Int) (a:Option Addr) (b c:Nat) (a2:Option Addr) (b2 c2:Nat) (a3:Option Addr) (b3 c3:Nat) (a4:Option Addr) (b4 c4:Nat) (a5:Option Addr) (b5 c5:Nat) (a6:Option Addr) (b6 c6:Nat):(#[.int .u64 e,.slice a b c,.slice a2 b2 c2,.slice a3 b3 c3,.slice a4 b4 c4,.slice a5 b5 c5,.slice a6 b6 c6]:Array Value).all (·.oneCell')=true:=by simp [Value.oneCell']
structure BgFine (e:Nat) (l:List Ac) (s:List Bytes):Prop where
 e:e < 18446744073709551616
 len:l.length≤1000
 small:smallA l
 addr:∀ a∈l,a.addr.length≤1000
 strs:∀ a∈s,a.length≤9223372036854775807
structure BgV (w:World) (l:List Ac) (s:List Bytes) (Ar:Option Addr) (cr:Nat) (As:Option Addr) (cs:Nat):Prop where
 row:AcsV Any w l Ar cr
 set:StrV Any w s As cs
theorem BgV.keep {w w':World} {l:List Ac} {s:List Bytes} {Ar As:Option Addr} {cr cs:Nat} (x:BgV w l s Ar cr As cs) (hb:Below w.heap.size w w'):BgV w' l s Ar cr As cs:=⟨Rep.keep x.row hb,StrV.keep x.set hb⟩
theorem vright_any (s:List Bytes) (h63:∀ a∈s,a.length≤9223372036854775807) (A:Option Addr) (c:Nat) (w:World) (hv:StrV Any w s A c) :
  Calls Tryz.prog 33 #[.agg #[.slice A s.length c,.slice none 0 0]] w fun e w'=>e=.returned (.bool (okVals s))∧Below w.heap.size w w':=by
 have hX:=heap_alloc_new w (.cells #[.slice A s.length c,.slice none 0 0] 29)
 have hB:=(Below.refl w.heap.size w).alloc (Nat.le_refl _) (.cells #[.slice A s.length c,.slice none 0 0] 29)
 have hS:=vset_any s h63 A c (w.alloc (.cells #[.slice A s.length c,.slice none 0 0] 29)) (StrV.keep hv hB)
 obtain ⟨R,hR⟩:∃ R,okVals s=R:=⟨_,rfl⟩
 rw [hR] at hS ⊢
 have x0:=rc (u:=.slice A s.length c) hX 0 rfl
 have x1:=rc (u:=.slice none 0 0) hX 1 rfl
 have HS:=Lib.hid hS
 have HB:=Lib.hid hB
 clear hX hB hS hR hv h63
 go_enter Tryz.func33,Tryz.ntmps33
 go_wp2_with fail
 refine HS.out.mono ?_
 rintro e w' ⟨rfl,rfl⟩
 cases R with
 | false =>
  go_wp2_with fail
  go_ret
  exact ⟨rfl,HB.out⟩
 | true =>
  go_wp2_with fail
  go_loopw [12] (fun i wr=>i=.int .i64 0∧Below w.heap.size w wr) (fun _ _=>0)
  case atStart=>exact ⟨rfl,HB.out⟩
  case round =>
   obtain ⟨rfl,hb⟩:=hrel
   clear x0 x1
   go_wp2_with fail
   go_ret
   exact ⟨rfl,hb⟩
theorem begins_any (e:Nat) (l:List Ac) (s:List Bytes) (hf:BgFine e l s) (Ar As:Option Addr) (cr cs:Nat) (w:World) (hv:BgV w l s Ar cr As cs) :
  Calls Tryz.prog 12 #[.agg #[.int .u64 (e:Int),.slice Ar l.length cr,.slice As s.length cs,.slice none 0 0,.slice Ar l.length cr,.slice As s.length cs,.slice none 0 0]] w fun e' w'=>e'=.returned (.bool (okBg e l s))∧Below w.heap.size w w':=by
 have hX:=heap_alloc_new w (.cells #[.int .u64 (e:Int),.slice Ar l.length cr,.slice As s.length cs,.slice none 0 0,.slice Ar l.length cr,.slice As s.length cs,.slice none 0 0] 31)
 have hB:=(Below.refl w.heap.size w).alloc (Nat.le_refl _) (.cells #[.int .u64 (e:Int),.slice Ar l.length cr,.slice As s.length cs,.slice none 0 0,.slice Ar l.length cr,.slice As s.length cs,.slice none 0 0] 31)
 have hR:=fun (W:World) (hb:Below w.heap.size w W)=>Right15_any l hf.len hf.small Ar cr W (Rep.keep hv.row hb)
 have hS:=(fun (W:World) (hb:Below w.heap.size w W)=>vright_any s hf.strs As cs W (StrV.keep hv.set hb))
 have hok:okBg e l s=(decide (0 < e) && (rightS l && okVals s)):=rfl
 obtain ⟨R,hRR⟩:∃ R,okBg e l s=R:=⟨_,rfl⟩
 obtain ⟨q0,hq0⟩:∃ q,decide (0 < e)=q:=⟨_,rfl⟩
 obtain ⟨q1,hq1⟩:∃ q,rightS l=q:=⟨_,rfl⟩
 obtain ⟨q2,hq2⟩:∃ q,okVals s=q:=⟨_,rfl⟩
 have hq0I:decide ((0:Int) < (e:Int))=q0:=by rw [← hq0,Bool.eq_iff_iff];simp only [decide_eq_true_eq];omega
 rw [hRR,hq0,hq1,hq2] at hok
 rw [hRR]
 rw [hq1] at hR
 rw [hq2] at hS
 have x0:=rc (u:=.int .u64 (e:Int)) hX 0 rfl
 have x1:=rc (u:=.slice Ar l.length cr) hX 1 rfl
 have x2:=rc (u:=.slice As s.length cs) hX 2 rfl
 have x3:=rc (u:=.slice none 0 0) hX 3 rfl
 have x4:=rc (u:=.slice Ar l.length cr) hX 4 rfl
 have x5:=rc (u:=.slice As s.length cs) hX 5 rfl
 have x6:=rc (u:=.slice none 0 0) hX 6 rfl
 have HX:=Lib.hid hX
 have HB:=Lib.hid hB
 have HR:=Lib.hid hR
 have HS:=Lib.hid hS
 have HOK:=Lib.hid hok
 clear hX hB hR hS hok hRR hq1 hq2 hf hv
 cases q0 with
 | false =>
  go_enter Tryz.func12,Tryz.ntmps12
  go_wp2_with fail
  go_ret
  exact ⟨by rw [HOK.out];rfl,HB.out⟩
 | true =>
  go_enter Tryz.func12,Tryz.ntmps12
  go_wp2_with fail
  refine (HR.out _ HB.out).mono ?_
  rintro e w1 ⟨rfl,hb1⟩
  have hX1:=(hb1.block _ (Array.getElem?_eq_some_iff.1 HX.out).1).trans HX.out
  have HB1:=Lib.hid (below_call HB.out HB.out.size hb1)
  have y2:=rc (u:=.slice As s.length cs) hX1 2 rfl
  clear hb1 hX1 x0 x1 x2 x3 x4 x5 x6
  cases q1 with
  | false =>
   go_wp2_with fail
   go_ret
   exact ⟨by rw [HOK.out];rfl,HB1.out⟩
  | true =>
   go_wp2_with fail
   refine (HS.out _ HB1.out).mono ?_
   rintro e w2 ⟨rfl,hb2⟩
   have HB2:=Lib.hid (below_call HB1.out HB1.out.size hb2)
   clear hb2
   go_wp2_with fail
   go_ret
   exact ⟨by rw [HOK.out];rfl,HB2.out⟩
theorem rbegins_any (e:Nat) (l:List Ac) (s:List Bytes) (hf:BgFine e l s) (Ar As:Option Addr) (cr cs:Nat) (w:World) (hv:BgV w l s Ar cr As cs) :
  Calls Tryz.prog 7 #[.agg #[.int .u64 (e:Int),.slice Ar l.length cr,.slice As s.length cs,.slice none 0 0,.slice Ar l.length cr,.slice As s.length cs,.slice none 0 0]] w fun e' w'=>e'=.returned (.bool (okBg e l s))∧Below w.heap.size w w':=by
 have hX:=heap_alloc_new w (.cells #[.int .u64 (e:Int),.slice Ar l.length cr,.slice As s.length cs,.slice none 0 0,.slice Ar l.length cr,.slice As s.length cs,.slice none 0 0] 31)
 have hB:=(Below.refl w.heap.size w).alloc (Nat.le_refl _) (.cells #[.int .u64 (e:Int),.slice Ar l.length cr,.slice As s.length cs,.slice none 0 0,.slice Ar l.length cr,.slice As s.length cs,.slice none 0 0] 31)
 have hR:=fun (W:World) (hb:Below w.heap.size w W)=>refRight15_any l hf.len hf.small Ar cr W (Rep.keep hv.row hb)
 have hS:=(fun (W:World) (hb:Below w.heap.size w W)=>rset_any s hf.strs As cs W (StrV.keep hv.set hb))
 have hok:okBg e l s=(decide (0 < e) && (rightS l && okVals s)):=rfl
 obtain ⟨R,hRR⟩:∃ R,okBg e l s=R:=⟨_,rfl⟩
 obtain ⟨q0,hq0⟩:∃ q,decide (0 < e)=q:=⟨_,rfl⟩
 obtain ⟨q1,hq1⟩:∃ q,rightS l=q:=⟨_,rfl⟩
 obtain ⟨q2,hq2⟩:∃ q,okVals s=q:=⟨_,rfl⟩
 have hq0I:decide ((0:Int) < (e:Int))=q0:=by rw [← hq0,Bool.eq_iff_iff];simp only [decide_eq_true_eq];omega
 rw [hRR,hq0,hq1,hq2] at hok
 rw [hRR]
 rw [hq1] at hR
 rw [hq2] at hS
 have x0:=rc (u:=.int .u64 (e:Int)) hX 0 rfl
 have x1:=rc (u:=.slice Ar l.length cr) hX 1 rfl
 have x2:=rc (u:=.slice As s.length cs) hX 2 rfl
 have x3:=rc (u:=.slice none 0 0) hX 3 rfl
 have x4:=rc (u:=.slice Ar l.length cr) hX 4 rfl
 have x5:=rc (u:=.slice As s.length cs) hX 5 rfl
 have x6:=rc (u:=.slice none 0 0) hX 6 rfl
 have HX:=Lib.hid hX
 have HB:=Lib.hid hB
 have HR:=Lib.hid hR
 have HS:=Lib.hid hS
 have HOK:=Lib.hid hok
 clear hX hB hR hS hok hRR hq1 hq2 hf hv
 cases q0 with
 | false =>
  go_enter Tryz.func7,Tryz.ntmps7
  go_wp2_with fail
  go_ret
  exact ⟨by rw [HOK.out];rfl,HB.out⟩
 | true =>
  go_enter Tryz.func7,Tryz.ntmps7
  go_wp2_with fail
  refine (HR.out _ HB.out).mono ?_
  rintro e w1 ⟨rfl,hb1⟩
  have hX1:=(hb1.block _ (Array.getElem?_eq_some_iff.1 HX.out).1).trans HX.out
  have HB1:=Lib.hid (below_call HB.out HB.out.size hb1)
  have y2:=rc (u:=.slice As s.length cs) hX1 2 rfl
  clear hb1 hX1 x0 x1 x2 x3 x4 x5 x6
  cases q1 with
  | false =>
   go_wp2_with fail
   go_ret
   exact ⟨by rw [HOK.out];rfl,HB1.out⟩
  | true =>
   go_wp2_with fail
   refine (HS.out _ HB1.out).mono ?_
   rintro e w2 ⟨rfl,rfl⟩
   have HB2:=HB1
   go_wp2_with fail
   go_ret
   exact ⟨by rw [HOK.out];rfl,HB2.out⟩
theorem new_yes (e:Nat) (l:List Ac) (s:List Bytes) (hf:BgFine e l s) (hk:okBg e l s=true) (Ar As:Option Addr) (cr cs:Nat) (w:World) (hv:BgV w l s Ar cr As cs) :
  Calls Tryz.prog 5 #[.int .u64 (e:Int),.slice Ar l.length cr,.slice As s.length cs] w fun e' w'=>e'=.returned (.tuple #[.agg #[.int .u64 (e:Int),.slice Ar l.length cr,.slice As s.length cs,.slice none 0 0,.slice Ar l.length cr,.slice As s.length cs,.slice none 0 0],.int .i64 0])∧Below w.heap.size w w':=by
 have hX:=heap_alloc_new w (.cells #[.int .u64 0,.slice none 0 0,.slice none 0 0,.slice none 0 0,.slice none 0 0,.slice none 0 0,.slice none 0 0] 31)
 have hY:=heap_alloc_new (w.alloc (.cells #[.int .u64 0,.slice none 0 0,.slice none 0 0,.slice none 0 0,.slice none 0 0,.slice none 0 0,.slice none 0 0] 31)) (.cells #[.int .u64 0,.slice none 0 0,.slice none 0 0,.slice none 0 0,.slice none 0 0,.slice none 0 0,.slice none 0 0] 31)
 have hX:=(heap_alloc_old (w.alloc (.cells #[.int .u64 0,.slice none 0 0,.slice none 0 0,.slice none 0 0,.slice none 0 0,.slice none 0 0,.slice none 0 0] 31)) (.cells #[.int .u64 0,.slice none 0 0,.slice none 0 0,.slice none 0 0,.slice none 0 0,.slice none 0 0,.slice none 0 0] 31) (Array.getElem?_eq_some_iff.1 hX).1).trans hX
 rw [show (w.alloc (.cells #[.int .u64 0,.slice none 0 0,.slice none 0 0,.slice none 0 0,.slice none 0 0,.slice none 0 0,.slice none 0 0] 31)).heap.size=w.heap.size+1 by simp] at hY
 have hB0:=((Below.refl w.heap.size w).alloc (Nat.le_refl _) (.cells #[.int .u64 0,.slice none 0 0,.slice none 0 0,.slice none 0 0,.slice none 0 0,.slice none 0 0,.slice none 0 0] 31)).alloc (by simp) (.cells #[.int .u64 0,.slice none 0 0,.slice none 0 0,.slice none 0 0,.slice none 0 0,.slice none 0 0,.slice none 0 0] 31)
 have hY2:=setRow_heap ((w.alloc (.cells #[.int .u64 0,.slice none 0 0,.slice none 0 0,.slice none 0 0,.slice none 0 0,.slice none 0 0,.slice none 0 0] 31)).alloc (.cells #[.int .u64 0,.slice none 0 0,.slice none 0 0,.slice none 0 0,.slice none 0 0,.slice none 0 0,.slice none 0 0] 31)) (w.heap.size+1) _ #[.int .u64 (e:Int),.slice Ar l.length cr,.slice As s.length cs,.slice none 0 0,.slice Ar l.length cr,.slice As s.length cs,.slice none 0 0] _ _ hY
 have hX2:=(heap_setRow_ne ((w.alloc (.cells #[.int .u64 0,.slice none 0 0,.slice none 0 0,.slice none 0 0,.slice none 0 0,.slice none 0 0,.slice none 0 0] 31)).alloc (.cells #[.int .u64 0,.slice none 0 0,.slice none 0 0,.slice none 0 0,.slice none 0 0,.slice none 0 0,.slice none 0 0] 31)) (show w.heap.size≠w.heap.size+1 by omega) #[.int .u64 (e:Int),.slice Ar l.length cr,.slice As s.length cs,.slice none 0 0,.slice Ar l.length cr,.slice As s.length cs,.slice none 0 0]).trans hX
 have hB2:=below_setRow hB0 (Nat.le_succ w.heap.size) #[.int .u64 (e:Int),.slice Ar l.length cr,.slice As s.length cs,.slice none 0 0,.slice Ar l.length cr,.slice As s.length cs,.slice none 0 0]
 have HY:=Lib.hid hY
 have HV:=Lib.hid hv
 have HF:=Lib.hid hf
 have HK:=Lib.hid hk
 clear hX hY hB0 hv hf hk
 go_enter Tryz.func5,Tryz.ntmps5
 go_wp2_with (first | (refine wpList_store_row rfl _ _ _ rfl (w.heap.size+1) #[.int .u64 (e:Int),.slice Ar l.length cr,.slice As s.length cs,.slice none 0 0,.slice Ar l.length cr,.slice As s.length cs,.slice none 0 0] rfl rfl _ _ HY.out infoCh rfl (one7 _ _ _ _ _ _ _ _ _ _ _ _ _ _ _ _ _ _ _) ?_;generalize ((w.alloc (.cells #[.int .u64 0,.slice none 0 0,.slice none 0 0,.slice none 0 0,.slice none 0 0,.slice none 0 0,.slice none 0 0] 31)).alloc (.cells #[.int .u64 0,.slice none 0 0,.slice none 0 0,.slice none 0 0,.slice none 0 0,.slice none 0 0,.slice none 0 0] 31)).setRow (w.heap.size+1) #[.int .u64 (e:Int),.slice Ar l.length cr,.slice As s.length cs,.slice none 0 0,.slice Ar l.length cr,.slice As s.length cs,.slice none 0 0]=W2 at hY2 hX2 hB2 ⊢;have HY2:=Lib.hid hY2;have HX2:=Lib.hid hX2;have HB2:=Lib.hid hB2;clear hY2 hX2 hB2) | (refine wpList_load_row rfl _ _ rfl (w.heap.size+1) rfl _ _ _ _ HY2.out Tryz.underlying31 rfl infoCh ?_))
 have hC:=begins_any e l s HF.out Ar As cr cs W2 (HV.out.keep HB2.out)
 rw [HK.out] at hC
 refine hC.mono ?_
 clear hC
 rintro e w3 ⟨rfl,hb3⟩
 have HX3:=Lib.hid ((hb3.block _ (Array.getElem?_eq_some_iff.1 HX2.out).1).trans HX2.out)
 have HY3:=Lib.hid ((hb3.block _ (Array.getElem?_eq_some_iff.1 HY2.out).1).trans HY2.out)
 have HB3:=Lib.hid (below_call HB2.out HB2.out.size hb3)
 clear hb3
 go_wp2_with (first | (refine wpList_load_row rfl _ _ rfl (w.heap.size+1) rfl _ _ _ _ HY3.out Tryz.underlying31 rfl infoCh ?_) | (refine wpList_store_row rfl _ _ _ rfl w.heap.size #[.int .u64 (e:Int),.slice Ar l.length cr,.slice As s.length cs,.slice none 0 0,.slice Ar l.length cr,.slice As s.length cs,.slice none 0 0] rfl rfl _ _ HX3.out infoCh rfl (one7 _ _ _ _ _ _ _ _ _ _ _ _ _ _ _ _ _ _ _) ?_))
 exact bodyPost_ret (v:=.tuple #[.agg #[.int .u64 (e:Int),.slice Ar l.length cr,.slice As s.length cs,.slice none 0 0,.slice Ar l.length cr,.slice As s.length cs,.slice none 0 0],.int .i64 0]) (results_row_tmp rfl _ _ w.heap.size _ _ _ _ rfl (setRow_heap _ _ _ _ _ _ HX3.out) _ rfl Tryz.underlying31 rfl infoCh) rfl ⟨rfl,below_setRow HB3.out (Nat.le_refl _) _⟩
theorem new_no (e:Nat) (l:List Ac) (s:List Bytes) (hf:BgFine e l s) (hk:okBg e l s=false) (Ar As:Option Addr) (cr cs:Nat) (w:World) (hv:BgV w l s Ar cr As cs) :
  Calls Tryz.prog 5 #[.int .u64 (e:Int),.slice Ar l.length cr,.slice As s.length cs] w fun e' w'=>e'=.returned (.tuple #[.agg #[.int .u64 0,.slice none 0 0,.slice none 0 0,.slice none 0 0,.slice none 0 0,.slice none 0 0,.slice none 0 0],.int .i64 1])∧Below w.heap.size w w':=by
 have hX:=heap_alloc_new w (.cells #[.int .u64 0,.slice none 0 0,.slice none 0 0,.slice none 0 0,.slice none 0 0,.slice none 0 0,.slice none 0 0] 31)
 have hY:=heap_alloc_new (w.alloc (.cells #[.int .u64 0,.slice none 0 0,.slice none 0 0,.slice none 0 0,.slice none 0 0,.slice none 0 0,.slice none 0 0] 31)) (.cells #[.int .u64 0,.slice none 0 0,.slice none 0 0,.slice none 0 0,.slice none 0 0,.slice none 0 0,.slice none 0 0] 31)
 have hX:=(heap_alloc_old (w.alloc (.cells #[.int .u64 0,.slice none 0 0,.slice none 0 0,.slice none 0 0,.slice none 0 0,.slice none 0 0,.slice none 0 0] 31)) (.cells #[.int .u64 0,.slice none 0 0,.slice none 0 0,.slice none 0 0,.slice none 0 0,.slice none 0 0,.slice none 0 0] 31) (Array.getElem?_eq_some_iff.1 hX).1).trans hX
 rw [show (w.alloc (.cells #[.int .u64 0,.slice none 0 0,.slice none 0 0,.slice none 0 0,.slice none 0 0,.slice none 0 0,.slice none 0 0] 31)).heap.size=w.heap.size+1 by simp] at hY
 have hB0:=((Below.refl w.heap.size w).alloc (Nat.le_refl _) (.cells #[.int .u64 0,.slice none 0 0,.slice none 0 0,.slice none 0 0,.slice none 0 0,.slice none 0 0,.slice none 0 0] 31)).alloc (by simp) (.cells #[.int .u64 0,.slice none 0 0,.slice none 0 0,.slice none 0 0,.slice none 0 0,.slice none 0 0,.slice none 0 0] 31)
 have hY2:=setRow_heap ((w.alloc (.cells #[.int .u64 0,.slice none 0 0,.slice none 0 0,.slice none 0 0,.slice none 0 0,.slice none 0 0,.slice none 0 0] 31)).alloc (.cells #[.int .u64 0,.slice none 0 0,.slice none 0 0,.slice none 0 0,.slice none 0 0,.slice none 0 0,.slice none 0 0] 31)) (w.heap.size+1) _ #[.int .u64 (e:Int),.slice Ar l.length cr,.slice As s.length cs,.slice none 0 0,.slice Ar l.length cr,.slice As s.length cs,.slice none 0 0] _ _ hY
 have hX2:=(heap_setRow_ne ((w.alloc (.cells #[.int .u64 0,.slice none 0 0,.slice none 0 0,.slice none 0 0,.slice none 0 0,.slice none 0 0,.slice none 0 0] 31)).alloc (.cells #[.int .u64 0,.slice none 0 0,.slice none 0 0,.slice none 0 0,.slice none 0 0,.slice none 0 0,.slice none 0 0] 31)) (show w.heap.size≠w.heap.size+1 by omega) #[.int .u64 (e:Int),.slice Ar l.length cr,.slice As s.length cs,.slice none 0 0,.slice Ar l.length cr,.slice As s.length cs,.slice none 0 0]).trans hX
 have hB2:=below_setRow hB0 (Nat.le_succ w.heap.size) #[.int .u64 (e:Int),.slice Ar l.length cr,.slice As s.length cs,.slice none 0 0,.slice Ar l.length cr,.slice As s.length cs,.slice none 0 0]
 have HY:=Lib.hid hY
 have HV:=Lib.hid hv
 have HF:=Lib.hid hf
 have HK:=Lib.hid hk
 clear hX hY hB0 hv hf hk
 go_enter Tryz.func5,Tryz.ntmps5
 go_wp2_with (first | (refine wpList_store_row rfl _ _ _ rfl (w.heap.size+1) #[.int .u64 (e:Int),.slice Ar l.length cr,.slice As s.length cs,.slice none 0 0,.slice Ar l.length cr,.slice As s.length cs,.slice none 0 0] rfl rfl _ _ HY.out infoCh rfl (one7 _ _ _ _ _ _ _ _ _ _ _ _ _ _ _ _ _ _ _) ?_;generalize ((w.alloc (.cells #[.int .u64 0,.slice none 0 0,.slice none 0 0,.slice none 0 0,.slice none 0 0,.slice none 0 0,.slice none 0 0] 31)).alloc (.cells #[.int .u64 0,.slice none 0 0,.slice none 0 0,.slice none 0 0,.slice none 0 0,.slice none 0 0,.slice none 0 0] 31)).setRow (w.heap.size+1) #[.int .u64 (e:Int),.slice Ar l.length cr,.slice As s.length cs,.slice none 0 0,.slice Ar l.length cr,.slice As s.length cs,.slice none 0 0]=W2 at hY2 hX2 hB2 ⊢;have HY2:=Lib.hid hY2;have HX2:=Lib.hid hX2;have HB2:=Lib.hid hB2;clear hY2 hX2 hB2) | (refine wpList_load_row rfl _ _ rfl (w.heap.size+1) rfl _ _ _ _ HY2.out Tryz.underlying31 rfl infoCh ?_))
 have hC:=begins_any e l s HF.out Ar As cr cs W2 (HV.out.keep HB2.out)
 rw [HK.out] at hC
 refine hC.mono ?_
 clear hC
 rintro e w3 ⟨rfl,hb3⟩
 have HX3:=Lib.hid ((hb3.block _ (Array.getElem?_eq_some_iff.1 HX2.out).1).trans HX2.out)
 have HY3:=Lib.hid ((hb3.block _ (Array.getElem?_eq_some_iff.1 HY2.out).1).trans HY2.out)
 have HB3:=Lib.hid (below_call HB2.out HB2.out.size hb3)
 clear hb3
 go_wp2_with (first | (refine wpList_load_row rfl _ _ rfl (w.heap.size+1) rfl _ _ _ _ HY3.out Tryz.underlying31 rfl infoCh ?_) | (refine wpList_store_row rfl _ _ _ rfl w.heap.size #[.int .u64 0,.slice none 0 0,.slice none 0 0,.slice none 0 0,.slice none 0 0,.slice none 0 0,.slice none 0 0] rfl rfl _ _ HX3.out infoCh rfl (one7 _ _ _ _ _ _ _ _ _ _ _ _ _ _ _ _ _ _ _) ?_))
 exact bodyPost_ret (v:=.tuple #[.agg #[.int .u64 0,.slice none 0 0,.slice none 0 0,.slice none 0 0,.slice none 0 0,.slice none 0 0,.slice none 0 0],.int .i64 1]) (results_row_tmp rfl _ _ w.heap.size _ _ _ _ rfl (setRow_heap _ _ _ _ _ _ HX3.out) _ rfl Tryz.underlying31 rfl infoCh) rfl ⟨rfl,below_setRow HB3.out (Nat.le_refl _) _⟩
theorem stands_any (e:Nat) (l:List Ac) (s:List Bytes) (hf:BgFine e l s) (Ar As:Option Addr) (cr cs:Nat) (w:World) (hv:BgV w l s Ar cr As cs) :
  Calls Tryz.prog 13 #[.agg #[.int .u64 (e:Int),.slice Ar l.length cr,.slice As s.length cs,.slice none 0 0,.slice Ar l.length cr,.slice As s.length cs,.slice none 0 0]] w fun e' w'=>e'=.returned (.bool (okBg e l s))∧Below w.heap.size w w':=by
 have hX:=heap_alloc_new w (.cells #[.int .u64 (e:Int),.slice Ar l.length cr,.slice As s.length cs,.slice none 0 0,.slice Ar l.length cr,.slice As s.length cs,.slice none 0 0] 31)
 have hB:=(Below.refl w.heap.size w).alloc (Nat.le_refl _) (.cells #[.int .u64 (e:Int),.slice Ar l.length cr,.slice As s.length cs,.slice none 0 0,.slice Ar l.length cr,.slice As s.length cs,.slice none 0 0] 31)
 have hBe:=fun (W:World) (hb:Below w.heap.size w W)=>begins_any e l s hf Ar As cr cs W (hv.keep hb)
 have hR:=fun (W:World) (hb:Below w.heap.size w W)=>Right15_any l hf.len hf.small Ar cr W (Rep.keep hv.row hb)
 have hS:=fun (W:World) (hb:Below w.heap.size w W)=>vright_any s hf.strs As cs W (StrV.keep hv.set hb)
 have hok:okBg e l s=(decide (0 < e) && (rightS l && okVals s)):=rfl
 obtain ⟨R,hRR⟩:∃ R,okBg e l s=R:=⟨_,rfl⟩
 rw [hRR] at hBe hok ⊢
 have HX:=Lib.hid hX
 have HB:=Lib.hid hB
 have HBE:=Lib.hid hBe
 have HR:=Lib.hid hR
 have HS:=Lib.hid hS
 have HOK:=Lib.hid hok
 clear hX hB hR hS hok hRR hBe hf hv
 go_enter Tryz.func13,Tryz.ntmps13
 go_wp2_with (refine wpList_load_row rfl _ _ rfl w.heap.size rfl _ _ _ _ HX.out Tryz.underlying31 rfl infoCh ?_)
 refine (HBE.out _ HB.out).mono ?_
 rintro e w1 ⟨rfl,hb1⟩
 have HX1:=Lib.hid ((hb1.block _ (Array.getElem?_eq_some_iff.1 HX.out).1).trans HX.out)
 have HB1:=Lib.hid (below_call HB.out HB.out.size hb1)
 clear hb1
 cases R with
 | false =>
  go_wp2_with fail
  go_ret
  exact ⟨rfl,HB1.out⟩
 | true =>
  obtain ⟨h1,h2⟩:rightS l=true∧okVals s=true:=by
   have:=HOK.out.symm
   simp only [Bool.and_eq_true] at this
   exact this.2
  have hR:=HR.out
  have hS:=HS.out
  rw [h1] at hR
  rw [h2] at hS
  have HR:=Lib.hid hR
  have HS:=Lib.hid hS
  have y4:=rc (u:=.slice Ar l.length cr) HX1.out 4 rfl
  clear hR hS h1 h2
  go_wp2_with fail
  refine (HR.out _ HB1.out).mono ?_
  rintro e w2 ⟨rfl,hb2⟩
  have HX2:=Lib.hid ((hb2.block _ (Array.getElem?_eq_some_iff.1 HX1.out).1).trans HX1.out)
  have HB2:=Lib.hid (below_call HB1.out HB1.out.size hb2)
  have y5:=rc (u:=.slice As s.length cs) HX2.out 5 rfl
  have y6:=rc (u:=.slice none 0 0) HX2.out 6 rfl
  clear hb2 y4
  go_wp2_with fail
  refine (HS.out _ HB2.out).mono ?_
  rintro e w3 ⟨rfl,hb3⟩
  have hX3:=(hb3.block _ (Array.getElem?_eq_some_iff.1 HX2.out).1).trans HX2.out
  have HB3:=Lib.hid (below_call HB2.out HB2.out.size hb3)
  have y3:=rc (u:=.slice none 0 0) hX3 3 rfl
  clear hb3 hX3 y5 y6
  go_wp2_with fail
  go_ret
  exact ⟨rfl,HB3.out⟩
/- The walks of chain.Head, the reference's Head. -/
theorem fd_repz {S:Nat→Prop} {w:World} (n:Nat) (b:Bytes):Rep S w (fdD ⟨n,b,[]⟩) [.int .u64 (n:Int),.string (bs b),.slice none 0 0]:=fd_rep (f:=⟨n,b,[]⟩) (A:=none) (c:=0) (Rep.nil_slice 3)
/-- plain fields' cells -/
def lfsC (l:List Lf):List Value:=l.flatMap fun p=>[.int .u64 (p.1:Int),.string (bs p.2),.slice none 0 0]
theorem lfsC_snoc (l:List Lf) (p:Lf):lfsC (l ++ [p])=lfsC l ++ [.int .u64 (p.1:Int),.string (bs p.2),.slice none 0 0]:=by simp [lfsC]
theorem repN_lfsC {S:Nat→Prop} {w:World}:∀ l:List Lf,RepN S w 3 (l.map lfD) (lfsC l)
 | []=>.nil
 | p :: l=>.cons (cs:=[_,_,_]) (fd_repz p.1 p.2) rfl (repN_lfsC l)
theorem lfs_own {S:Nat→Prop} {w:World} {base n c:Nat} {e:TypeId} {A:Option Addr} {l:List Lf} (h:w.ownsRow base e 3 (.slice A n c) n (lfsC l)) (hn:n=l.length) (hS:∀ g,base≤g→g < w.heap.size→S g):LfsV S w l A c:=by
 subst hn
 exact rep_own h (repN_lfsC l) (by simp) hS
theorem bgC_new (w:World) (e:Nat) (r:Bytes) (s:List Bytes) (A':Option Addr) (c':Nat) (hv:LfsV Any w (s.map valF) A' c'):FdsV Any (w.alloc (.cells #[.int .u64 0,.string ⟨#[103,101,110,101,115,105,115]⟩,.slice none 0 0,.int .u64 (e:Int),.string ⟨#[]⟩,.slice none 0 0,.int .u64 0,.string (bs r),.slice none 0 0,.int .u64 0,.string ⟨#[]⟩,.slice A' s.length c'] 56)) (bgF e r s) (some ⟨w.heap.size,0,none⟩) 4:=by
 have k1:LfsV Any (w.alloc (.cells #[.int .u64 0,.string ⟨#[103,101,110,101,115,105,115]⟩,.slice none 0 0,.int .u64 (e:Int),.string ⟨#[]⟩,.slice none 0 0,.int .u64 0,.string (bs r),.slice none 0 0,.int .u64 0,.string ⟨#[]⟩,.slice A' s.length c'] 56)) (s.map valF) A' c':=Rep.mono hv (fun b hb _=>⟨trivial,heap_alloc_old w _ hb⟩)
 have e1:=fd_rep (f:=⟨0,[],s.map valF⟩) k1
 unfold fdC at e1
 simp only [List.length_map] at e1
 unfold FdsV bgF
 exact .sl (.cons (fd_repz 0 genB) rfl (.cons (fd_repz e []) rfl (.cons (fd_repz 0 r) rfl (.cons (cs':=[]) e1 rfl .nil)))) rfl (lies_new w _ _) (Nat.le_refl _) (by simp only [maxLen];omega)
theorem bgwrite_lit {e:Nat} {r:Bytes} {s:List Bytes} (he:e < 18446744073709551616) (hr:r.length=32) (hs:okVals s=true) (A:Option Addr) (c:Nat) (w:World) (hv:FdsV Any w (bgF e r s) A c) :
  Calls Tryz.prog 16 #[.string ⟨#[98,110,104,42,97]⟩,.slice A 4 c] w fun e' w'=>e'=.returned (.tuple #[.string (bs (bgB e r s)),.int .i64 0])∧Below w.heap.size w w':=by
 have h1:=fWrite_any bgK bgK_ok (by decide) (by decide) (bgF e r s) (bgF_small he) (by show 4≤1000;decide) (fun f hf=>by
  have:=(okVals_len hs).2
  simp only [bgF,List.mem_cons,List.not_mem_nil,or_false] at hf
  rcases hf with rfl | rfl | rfl | rfl <;> first | exact Nat.zero_le _ | (simp only [List.length_map];omega)) A c w hv
 rw [bg_write he hr hs] at h1
 exact h1
theorem rbgwrite_lit {e:Nat} {r:Bytes} {s:List Bytes} (he:e < 18446744073709551616) (hr:r.length=32) (hs:okVals s=true) (A:Option Addr) (c:Nat) (w:World) (hv:FdsV Any w (bgF e r s) A c) :
  Calls Tryz.prog 29 #[.string ⟨#[98,110,104,42,97]⟩,.slice A 4 c] w fun e' w'=>e'=.returned (.tuple #[.string (bs (bgB e r s)),.int .i64 0])∧Below w.heap.size w w':=by
 have h1:=rWrite_any bgK bgK_ok (by decide) (by decide) (bgF e r s) (bgF_small he) (by show 4≤1000;decide) (fun f hf=>by
  have:=(okVals_len hs).2
  simp only [bgF,List.mem_cons,List.not_mem_nil,or_false] at hf
  rcases hf with rfl | rfl | rfl | rfl <;> first | exact Nat.zero_le _ | (simp only [List.length_map];omega)) A c w hv
 rw [bg_write he hr hs] at h1
 exact h1
theorem okBg_parts {e:Nat} {l:List Ac} {s:List Bytes} (h:okBg e l s=true):0 < e∧rightS l=true∧okVals s=true:=by
 unfold okBg at h
 simp only [Bool.and_eq_true,decide_eq_true_eq] at h
 exact h
theorem head_no (e:Nat) (l:List Ac) (s:List Bytes) (hf:BgFine e l s) (hk:okBg e l s=false) (Ar As:Option Addr) (cr cs:Nat) (w:World) (hv:BgV w l s Ar cr As cs) :
  Calls Tryz.prog 6 #[.agg #[.int .u64 (e:Int),.slice Ar l.length cr,.slice As s.length cs,.slice none 0 0,.slice Ar l.length cr,.slice As s.length cs,.slice none 0 0]] w fun e' w'=>e'=.returned (.tuple #[.int .u64 0,.string ⟨#[]⟩,.int .i64 1])∧Below w.heap.size w w':=by
 have hX:=heap_alloc_new w (.cells #[.int .u64 (e:Int),.slice Ar l.length cr,.slice As s.length cs,.slice none 0 0,.slice Ar l.length cr,.slice As s.length cs,.slice none 0 0] 31)
 have hB:=(Below.refl w.heap.size w).alloc (Nat.le_refl _) (.cells #[.int .u64 (e:Int),.slice Ar l.length cr,.slice As s.length cs,.slice none 0 0,.slice Ar l.length cr,.slice As s.length cs,.slice none 0 0] 31)
 have hS:=stands_any e l s hf Ar As cr cs (w.alloc (.cells #[.int .u64 (e:Int),.slice Ar l.length cr,.slice As s.length cs,.slice none 0 0,.slice Ar l.length cr,.slice As s.length cs,.slice none 0 0] 31)) (hv.keep hB)
 rw [hk] at hS
 have HX:=Lib.hid hX
 have HB:=Lib.hid hB
 have HS:=Lib.hid hS
 clear hX hB hS hf hv hk
 go_enter Tryz.func6,Tryz.ntmps6
 go_wp2_with (refine wpList_load_row rfl _ _ rfl w.heap.size rfl _ _ _ _ HX.out Tryz.underlying31 rfl infoCh ?_)
 refine HS.out.mono ?_
 rintro e w1 ⟨rfl,hb1⟩
 have HB1:=Lib.hid (below_call HB.out HB.out.size hb1)
 clear hb1
 go_wp2_with fail
 go_ret3
 exact ⟨rfl,HB1.out⟩
theorem head_yes (e:Nat) (l:List Ac) (s:List Bytes) (hf:BgFine e l s) (hk:okBg e l s=true) (Ar As:Option Addr) (cr cs:Nat) (w:World) (hv:BgV w l s Ar cr As cs) :
  Calls Tryz.prog 6 #[.agg #[.int .u64 (e:Int),.slice Ar l.length cr,.slice As s.length cs,.slice none 0 0,.slice Ar l.length cr,.slice As s.length cs,.slice none 0 0]] w fun e' w'=>e'=.returned (.tuple #[.int .u64 0,.string (bs (headC e l s)),.int .i64 0])∧Below w.heap.size w w':=by
 obtain ⟨he0,hr0,hs0⟩:=okBg_parts hk
 have hX:=heap_alloc_new w (.cells #[.int .u64 (e:Int),.slice Ar l.length cr,.slice As s.length cs,.slice none 0 0,.slice Ar l.length cr,.slice As s.length cs,.slice none 0 0] 31)
 have hB:=(Below.refl w.heap.size w).alloc (Nat.le_refl _) (.cells #[.int .u64 (e:Int),.slice Ar l.length cr,.slice As s.length cs,.slice none 0 0,.slice Ar l.length cr,.slice As s.length cs,.slice none 0 0] 31)
 have hS:=stands_any e l s hf Ar As cr cs (w.alloc (.cells #[.int .u64 (e:Int),.slice Ar l.length cr,.slice As s.length cs,.slice none 0 0,.slice Ar l.length cr,.slice As s.length cs,.slice none 0 0] 31)) (hv.keep hB)
 rw [hk] at hS
 have HRO:=Lib.hid fun (W:World) (hb:Below w.heap.size w W)=>Root15_any l hf.len hf.small hf.addr hr0 Ar cr W (Rep.keep hv.row hb)
 have HWR:=Lib.hid fun (A:Option Addr) (c:Nat) (W:World) (h:FdsV Any W (bgF e (rootP (pairsA l)) s) A c)=>bgwrite_lit hf.e (rootP_len _) hs0 A c W h
 have HSU:=Lib.hid fun (W:World)=>sum_any (bgB e (rootP (pairsA l)) s) (by have:=bgB_len hf.e (rootP_len (pairsA l)) hs0;omega) W
 have HX:=Lib.hid hX
 have HB:=Lib.hid hB
 have HS:=Lib.hid hS
 have HV:=Lib.hid hv
 have hs16:s.length≤16:=(okVals_len hs0).2
 have hsI:(s.length:Int)≤16:=by omega
 clear hX hB hS hf hv hk he0 hr0 hs0
 go_enter Tryz.func6,Tryz.ntmps6
 go_wp2_with (refine wpList_load_row rfl _ _ rfl w.heap.size rfl _ _ _ _ HX.out Tryz.underlying31 rfl infoCh ?_)
 refine HS.out.mono ?_
 rintro e w1 ⟨rfl,hb1⟩
 have hX1:=(hb1.block _ (Array.getElem?_eq_some_iff.1 HX.out).1).trans HX.out
 have HB1:=Lib.hid (below_call HB.out HB.out.size hb1)
 have HX1:=Lib.hid hX1
 have x1:=rc (u:=.slice Ar l.length cr) hX1 1 rfl
 have x3:=rc (u:=.slice none 0 0) hX1 3 rfl
 clear hb1 hX1 HX HB HS
 go_wp2_with fail
 refine (HRO.out _ HB1.out).mono ?_
 rintro e w2 ⟨rfl,hb2⟩
 have HX2:=Lib.hid ((hb2.block _ (Array.getElem?_eq_some_iff.1 HX1.out).1).trans HX1.out)
 have HB2:=Lib.hid (below_call HB1.out HB1.out.size hb2)
 have HSV:=Lib.hid fun (W:World) (hb:Below w2.heap.size w2 W)=>StrV.keep HV.out.set (HB2.out.trans (hb.mono HB2.out.size))
 have z2:=rc (u:=.slice As s.length cs) ((heap_alloc_old w2 (.cells #[.int .u64 0,.string ⟨#[]⟩,.slice none 0 0] 56) (Array.getElem?_eq_some_iff.1 HX2.out).1).trans HX2.out) 2 rfl
 clear hb2 x1 x3 HX1 HB1
 go_wp2_with fail
 obtain ⟨Z,hZe⟩:∃ Z,w2.heap.size=Z:=⟨_,rfl⟩
 have HZ9:=Lib.hid (heap_alloc_new w2 (.cells #[.int .u64 0,.string ⟨#[]⟩,.slice none 0 0] 56))
 have HB9:=Lib.hid (show Below w2.heap.size w2 (w2.alloc (.cells #[.int .u64 0,.string ⟨#[]⟩,.slice none 0 0] 56)) from (Below.refl _ _).alloc (Nat.le_refl _) _)
 clear z2
 generalize w2.alloc (.cells #[.int .u64 0,.string ⟨#[]⟩,.slice none 0 0] 56)=W9 at HZ9 HB9 ⊢
 rw [hZe] at HZ9 HB9 HSV ⊢
 have hlX:w.heap.size < Z:=by rw [← hZe];exact (Array.getElem?_eq_some_iff.1 HX2.out).1
 have hZw:Z≤w2.heap.size:=Nat.le_of_eq hZe.symm
 clear hZe
 go_loopw [49] (fun a wr=>∃ (i:Nat) (u:Value),a=.int .i64 (i:Int)∧i≤s.length∧wr.heap[Z]? = some (.cells #[.int .u64 0,.string ⟨#[]⟩,u] 56 (0,0))∧wr.ownsRow (Z+1) 56 3 u i (lfsC ((s.take i).map valF))∧Below Z w2 wr) (fun a _=>s.length - (intOf a).toNat)
 case atStart=>exact ⟨0,_,rfl,Nat.zero_le _,HZ9.out,World.ownsRow_nil _ _ _ _,HB9.out⟩
 case round =>
  clear HZ9 HB9
  obtain ⟨i,u,rfl,hi,hZ,hown,hB⟩:=hrel
  obtain ⟨A',c',rfl⟩:=own_form hown
  have hlZ:=(Array.getElem?_eq_some_iff.1 hZ).1
  by_cases hlt:i < s.length
  ·obtain ⟨a,ha⟩:=getElem_ex hlt
   obtain ⟨g,o,rfl,_,hc⟩:=StrV.at_ (HSV.out wr hB) ha
   have hltI:(i:Int) < s.length:=by omega
   have p2:=rc (u:=.slice A' i c') hZ 2 rfl
   have HA:=Lib.hid (take_snoc ha)
   have HZ:=Lib.hid hZ
   have HO:=Lib.hid hown
   have HB:=Lib.hid hB
   clear hZ hown hB ha
   go_wp2_with (at_builtin;refine wpl_append elField rfl rfl (Z+1) (HO.out.alloc _) rfl (m:=1) [.int .u64 0,.string (bs a),.slice none 0 0] rfl rfl (lies_new _ _ _) ?_ ?_ ?_ ?_ ?_;(intro u hu;simp at hu;rcases hu with rfl | rfl | rfl <;> rfl);(simp only [maxLen];omega);omega;(simp;omega);intro v1 w8 hown1 hg1 hat1;obtain ⟨A3,c3,rfl⟩:=own_form hown1;have hba:Below wr.heap.size wr (wr.alloc (.cells #[.int .u64 0,.string (bs a),.slice none 0 0] 56)):=(Below.refl _ _).alloc (Nat.le_refl _) _;have hZ8:=(hg1.block Z (Nat.lt_of_lt_of_le hlZ hba.size) (fun e=>by have:=(HO.out.lt _ e.symm).1;omega)).trans ((hba.block Z hlZ).trans HZ.out);have d:=rc (u:=.slice A' i c') hZ8 2 rfl;have df:=rf hZ8 2)
   have hB8:=below_app (below_call HB.out (Nat.le_of_lt hlZ) hba) (own_keep HO.out hba) hg1 (by simp;omega) (by omega)
   have hZn:(w8.setCell ⟨Z,2,none⟩ (.slice A3 (i+1) c3)).heap[Z]? = some (.cells #[.int .u64 0,.string ⟨#[]⟩,.slice A3 (i+1) c3] 56 (0,0)):=heap_setCell_here hZ8 (i:=2) _
   have hBn:=hB8.setCell (p:=⟨Z,2,none⟩) (Nat.le_refl Z) (.slice A3 (i+1) c3)
   have hOn:=own_setOther hown1 (Nat.lt_succ_self Z) (i:=2) (.slice A3 (i+1) c3)
   rw [show lfsC ((s.take i).map valF) ++ [.int .u64 0,.string (bs a),.slice none 0 0]=lfsC ((s.take (i+1)).map valF) by rw [HA.out,List.map_append,List.map_singleton,lfsC_snoc];rfl] at hOn
   go_roundw
   case rel=>exact ⟨i+1,_,by go_num,hlt,hZn,hOn,hBn⟩
   case measure=>simp [intOf];omega
  ·obtain rfl:i=s.length:=by omega
   rw [List.take_of_length_le (Nat.le_refl _)] at hown
   have hLs:LfsV Any wr (s.map valF) A' c':=lfs_own hown (by rw [List.length_map]) (fun _ _ _=>trivial)
   have hXw:=(hB.block w.heap.size hlX).trans HX2.out
   have HBw:=Lib.hid (HB2.out.trans (hB.mono (Nat.le_of_lt hlX)))
   have HLS:=Lib.hid hLs
   have y0:=rc (u:=.int .u64 (e:Int)) hXw 0 rfl
   have y1:=rc (u:=.slice Ar l.length cr) hXw 1 rfl
   have z0:=rc (u:=.int .u64 0) hZ 0 rfl
   have z1:=rc (u:=.string ⟨#[]⟩) hZ 1 rfl
   have z2:=rc (u:=.slice A' s.length c') hZ 2 rfl
   have HXw:=Lib.hid hXw
   have HZ:=Lib.hid hZ
   have HB:=Lib.hid hB
   clear hLs hXw hZ hB hown
   have hFV:=bgC_new wr e (rootP (pairsA l)) s A' c' HLS.out
   obtain ⟨r,hr⟩:∃ r,rootP (pairsA l)=r:=⟨_,rfl⟩
   rw [hr] at hFV ⊢
   have hWR:=HWR.out (some ⟨wr.heap.size,0,none⟩) 4
   rw [hr] at hWR
   obtain ⟨t,ht⟩:∃ t,bgB e r s=t:=⟨_,rfl⟩
   rw [ht] at hWR
   have HFV:=Lib.hid hFV
   have HWR:=Lib.hid hWR
   have hSU:=HSU.out
   rw [hr,ht] at hSU
   have HSU:=Lib.hid hSU
   have HBA:=Lib.hid (HBw.out.alloc HBw.out.size (.cells #[.int .u64 0,.string ⟨#[103,101,110,101,115,105,115]⟩,.slice none 0 0,.int .u64 (e:Int),.string ⟨#[]⟩,.slice none 0 0,.int .u64 0,.string (bs r),.slice none 0 0,.int .u64 0,.string ⟨#[]⟩,.slice A' s.length c'] 56))
   have HRT:Hid (sumK t=headC e l s):=Lib.hid (by rw [← ht,← hr];rfl)
   clear hFV hWR hSU hr ht
   go_wp2_with fail
   refine (HWR.out _ HFV.out).mono ?_
   rintro e w9 ⟨rfl,hb9⟩
   have HB9:=Lib.hid (below_call HBA.out HBA.out.size hb9)
   clear hb9 y0 y1 z0 z1 z2
   go_wp2_with fail
   refine (HSU.out _).mono ?_
   rintro e w10 ⟨rfl,hb10⟩
   have HB10:=Lib.hid (below_call HB9.out HB9.out.size hb10)
   clear hb10
   go_wp2_with fail
   go_ret3
   exact ⟨by rw [HRT.out];rfl,HB10.out⟩
theorem rhead_any (e:Nat) (l:List Ac) (s:List Bytes) (hf:BgFine e l s) (hk:okBg e l s=true) (Ar As:Option Addr) (cr cs:Nat) (w:World) (hv:BgV w l s Ar cr As cs) :
  Calls Tryz.prog 11 #[.agg #[.int .u64 (e:Int),.slice Ar l.length cr,.slice As s.length cs,.slice none 0 0,.slice Ar l.length cr,.slice As s.length cs,.slice none 0 0]] w fun e' w'=>e'=.returned (.tuple #[.int .u64 0,.string (bs (headC e l s))])∧Below w.heap.size w w':=by
 obtain ⟨he0,hr0,hs0⟩:=okBg_parts hk
 have hl24:l.length≤24:=by
  unfold rightS at hr0
  have:=(Bool.and_eq_true_iff.1 hr0).1
  simpa using this
 have hX:=heap_alloc_new w (.cells #[.int .u64 (e:Int),.slice Ar l.length cr,.slice As s.length cs,.slice none 0 0,.slice Ar l.length cr,.slice As s.length cs,.slice none 0 0] 31)
 have hB:=(Below.refl w.heap.size w).alloc (Nat.le_refl _) (.cells #[.int .u64 (e:Int),.slice Ar l.length cr,.slice As s.length cs,.slice none 0 0,.slice Ar l.length cr,.slice As s.length cs,.slice none 0 0] 31)
 have HRO:=Lib.hid fun (W:World) (hb:Below w.heap.size w W)=>refRoot15_any l hl24 hf.small hf.addr Ar cr W (Rep.keep hv.row hb)
 have HWR:=Lib.hid fun (A:Option Addr) (c:Nat) (W:World) (h:FdsV Any W (bgF e (rootP (pairsA l)) s) A c)=>rbgwrite_lit hf.e (rootP_len _) hs0 A c W h
 have HSU:=Lib.hid fun (W:World)=>refSum_any (bgB e (rootP (pairsA l)) s) (by have:=bgB_len hf.e (rootP_len (pairsA l)) hs0;omega) W
 have HV:=Lib.hid hv
 have hs16:s.length≤16:=(okVals_len hs0).2
 have hsI:(s.length:Int)≤16:=by omega
 have HX2:=Lib.hid hX
 have HB2:=Lib.hid hB
 have HSV:=Lib.hid fun (W:World) (hb:Below (w.alloc (.cells #[.int .u64 (e:Int),.slice Ar l.length cr,.slice As s.length cs,.slice none 0 0,.slice Ar l.length cr,.slice As s.length cs,.slice none 0 0] 31)).heap.size (w.alloc (.cells #[.int .u64 (e:Int),.slice Ar l.length cr,.slice As s.length cs,.slice none 0 0,.slice Ar l.length cr,.slice As s.length cs,.slice none 0 0] 31)) W)=>StrV.keep HV.out.set (HB2.out.trans (hb.mono HB2.out.size))
 have z2:=rc (u:=.slice As s.length cs) ((heap_alloc_old (w.alloc (.cells #[.int .u64 (e:Int),.slice Ar l.length cr,.slice As s.length cs,.slice none 0 0,.slice Ar l.length cr,.slice As s.length cs,.slice none 0 0] 31)) (.cells #[.int .u64 0,.string ⟨#[]⟩,.slice none 0 0] 56) (Array.getElem?_eq_some_iff.1 HX2.out).1).trans HX2.out) 2 rfl
 have z3:=rc (u:=.slice none 0 0) hX 3 rfl
 clear hX hB hf hv hk he0 hr0 hs0 hl24
 go_enter Tryz.func11,Tryz.ntmps11
 go_wp2_with fail
 clear z3
 rw [show w.heap.size+1=(w.alloc (.cells #[.int .u64 (e:Int),.slice Ar l.length cr,.slice As s.length cs,.slice none 0 0,.slice Ar l.length cr,.slice As s.length cs,.slice none 0 0] 31)).heap.size by simp]
 generalize w.alloc (.cells #[.int .u64 (e:Int),.slice Ar l.length cr,.slice As s.length cs,.slice none 0 0,.slice Ar l.length cr,.slice As s.length cs,.slice none 0 0] 31)=w2 at HX2 HB2 HSV z2 ⊢
 obtain ⟨Z,hZe⟩:∃ Z,w2.heap.size=Z:=⟨_,rfl⟩
 have HZ9:=Lib.hid (heap_alloc_new w2 (.cells #[.int .u64 0,.string ⟨#[]⟩,.slice none 0 0] 56))
 have HB9:=Lib.hid (show Below w2.heap.size w2 (w2.alloc (.cells #[.int .u64 0,.string ⟨#[]⟩,.slice none 0 0] 56)) from (Below.refl _ _).alloc (Nat.le_refl _) _)
 clear z2
 generalize w2.alloc (.cells #[.int .u64 0,.string ⟨#[]⟩,.slice none 0 0] 56)=W9 at HZ9 HB9 ⊢
 rw [hZe] at HZ9 HB9 HSV ⊢
 have hlX:w.heap.size < Z:=by rw [← hZe];exact (Array.getElem?_eq_some_iff.1 HX2.out).1
 have hZw:Z≤w2.heap.size:=Nat.le_of_eq hZe.symm
 clear hZe
 go_loopw [31] (fun a wr=>∃ (i:Nat) (u:Value),a=.int .i64 (i:Int)∧i≤s.length∧wr.heap[Z]? = some (.cells #[.int .u64 0,.string ⟨#[]⟩,u] 56 (0,0))∧wr.ownsRow (Z+1) 56 3 u i (lfsC ((s.take i).map valF))∧Below Z w2 wr) (fun a _=>s.length - (intOf a).toNat)
 case atStart=>exact ⟨0,_,rfl,Nat.zero_le _,HZ9.out,World.ownsRow_nil _ _ _ _,HB9.out⟩
 case round =>
  clear HZ9 HB9
  obtain ⟨i,u,rfl,hi,hZ,hown,hB⟩:=hrel
  obtain ⟨A',c',rfl⟩:=own_form hown
  have hlZ:=(Array.getElem?_eq_some_iff.1 hZ).1
  by_cases hlt:i < s.length
  ·obtain ⟨a,ha⟩:=getElem_ex hlt
   obtain ⟨g,o,rfl,_,hc⟩:=StrV.at_ (HSV.out wr hB) ha
   have hltI:(i:Int) < s.length:=by omega
   have p2:=rc (u:=.slice A' i c') hZ 2 rfl
   have HA:=Lib.hid (take_snoc ha)
   have HZ:=Lib.hid hZ
   have HO:=Lib.hid hown
   have HB:=Lib.hid hB
   clear hZ hown hB ha
   go_wp2_with (at_builtin;refine wpl_append elField rfl rfl (Z+1) (HO.out.alloc _) rfl (m:=1) [.int .u64 0,.string (bs a),.slice none 0 0] rfl rfl (lies_new _ _ _) ?_ ?_ ?_ ?_ ?_;(intro u hu;simp at hu;rcases hu with rfl | rfl | rfl <;> rfl);(simp only [maxLen];omega);omega;(simp;omega);intro v1 w8 hown1 hg1 hat1;obtain ⟨A3,c3,rfl⟩:=own_form hown1;have hba:Below wr.heap.size wr (wr.alloc (.cells #[.int .u64 0,.string (bs a),.slice none 0 0] 56)):=(Below.refl _ _).alloc (Nat.le_refl _) _;have hZ8:=(hg1.block Z (Nat.lt_of_lt_of_le hlZ hba.size) (fun e=>by have:=(HO.out.lt _ e.symm).1;omega)).trans ((hba.block Z hlZ).trans HZ.out);have d:=rc (u:=.slice A' i c') hZ8 2 rfl;have df:=rf hZ8 2)
   have hB8:=below_app (below_call HB.out (Nat.le_of_lt hlZ) hba) (own_keep HO.out hba) hg1 (by simp;omega) (by omega)
   have hZn:(w8.setCell ⟨Z,2,none⟩ (.slice A3 (i+1) c3)).heap[Z]? = some (.cells #[.int .u64 0,.string ⟨#[]⟩,.slice A3 (i+1) c3] 56 (0,0)):=heap_setCell_here hZ8 (i:=2) _
   have hBn:=hB8.setCell (p:=⟨Z,2,none⟩) (Nat.le_refl Z) (.slice A3 (i+1) c3)
   have hOn:=own_setOther hown1 (Nat.lt_succ_self Z) (i:=2) (.slice A3 (i+1) c3)
   rw [show lfsC ((s.take i).map valF) ++ [.int .u64 0,.string (bs a),.slice none 0 0]=lfsC ((s.take (i+1)).map valF) by rw [HA.out,List.map_append,List.map_singleton,lfsC_snoc];rfl] at hOn
   go_roundw
   case rel=>exact ⟨i+1,_,by go_num,hlt,hZn,hOn,hBn⟩
   case measure=>simp [intOf];omega
  ·obtain rfl:i=s.length:=by omega
   rw [List.take_of_length_le (Nat.le_refl _)] at hown
   have hLs:LfsV Any wr (s.map valF) A' c':=lfs_own hown (by rw [List.length_map]) (fun _ _ _=>trivial)
   have hXw:=(hB.block w.heap.size hlX).trans HX2.out
   have HBw:=Lib.hid (HB2.out.trans (hB.mono (Nat.le_of_lt hlX)))
   have HLS:=Lib.hid hLs
   have y0:=rc (u:=.int .u64 (e:Int)) hXw 0 rfl
   have y1:=rc (u:=.slice Ar l.length cr) hXw 1 rfl
   have z0:=rc (u:=.int .u64 0) hZ 0 rfl
   have z1:=rc (u:=.string ⟨#[]⟩) hZ 1 rfl
   have z2:=rc (u:=.slice A' s.length c') hZ 2 rfl
   have HXw:=Lib.hid hXw
   have HZ:=Lib.hid hZ
   have HB:=Lib.hid hB
   clear hLs hXw hZ hB hown
   go_wp2_with fail
   have hFV0:=HLS.out
   obtain ⟨r,hr⟩:∃ r,rootP (pairsA l)=r:=⟨_,rfl⟩
   obtain ⟨t,ht⟩:∃ t,bgB e r s=t:=⟨_,rfl⟩
   have hWR:=HWR.out
   rw [hr,ht] at hWR
   have HWR:=Lib.hid hWR
   have hSU:=HSU.out
   rw [hr,ht] at hSU
   have HSU:=Lib.hid hSU
   have HRT:Hid (sumK t=headC e l s):=Lib.hid (by rw [← ht,← hr];rfl)
   have HR:=Lib.hid hr
   have hX:wr.drew.heap[w.heap.size]? = some (.cells #[.int .u64 (e:Int),.slice Ar l.length cr,.slice As s.length cs,.slice none 0 0,.slice Ar l.length cr,.slice As s.length cs,.slice none 0 0] 31 (0,0)):=HXw.out
   have hZ:wr.drew.heap[Z]? = some (.cells #[.int .u64 0,.string ⟨#[]⟩,.slice A' s.length c'] 56 (0,0)):=HZ.out
   have hB:=HBw.out.drew
   have hlv:LfsV Any wr.drew (s.map valF) A' c':=Rep.keep HLS.out (Below.refl wr.heap.size wr).drew
   clear hWR hSU ht hr hFV0 HXw HZ HBw HLS HB y0 y1 z0 z1 z2
   refine wp_region_R [(99,fun w'=>w'.heap[w.heap.size]? = some (.cells #[.int .u64 (e:Int),.slice Ar l.length cr,.slice As s.length cs,.slice none 0 0,.slice Ar l.length cr,.slice As s.length cs,.slice none 0 0] 31 (0,0))∧w'.heap[Z]? = some (.cells #[.int .u64 0,.string ⟨#[]⟩,.slice A' s.length c'] 56 (0,0)))] (by kernel_rfl) ?_
   generalize wr.drew=WD at hX hZ hB hlv ⊢
   refine R_p (i:=0) (v:=.agg #[.int .u64 0,.string ⟨#[103,101,110,101,115,105,115]⟩,.slice none 0 0]) (Meets.here ⟨hX,hZ⟩ Meets.nil) ?_
   refine R_p (i:=1) (v:=.pointer (some ⟨w.heap.size,0,none⟩)) (Meets.here ⟨hX,hZ⟩ Meets.nil) ?_
   refine R_p (i:=4) (v:=.pointer (some ⟨w.heap.size,1,none⟩)) (Meets.here ⟨hX,hZ⟩ Meets.nil) ?_
   refine R_l (i:=8) (v:=.agg #[.int .u64 0,.string ⟨#[]⟩,.slice A' s.length c']) 99 _ List.mem_cons_self rfl (yieldsIf_load_row rfl rfl rfl (fun w' hS=>hS.2) Tryz.underlying56 rfl infoF) (Meets.here ⟨hX,hZ⟩ Meets.nil) ?_
   refine R_l (i:=2) (v:=.int .u64 (e:Int)) 99 _ List.mem_cons_self rfl (yieldsIf_load_cell rfl rfl rfl (fun w' hS=>rc hS.1 0 rfl) Tryz.underlying22 rfl) (Meets.here ⟨hX,hZ⟩ Meets.nil) ?_
   refine R_l (i:=5) (v:=.slice Ar l.length cr) 99 _ List.mem_cons_self rfl (yieldsIf_load_cell rfl rfl rfl (fun w' hS=>rc hS.1 1 rfl) Tryz.underlying23 rfl) (Meets.here ⟨hX,hZ⟩ Meets.nil) ?_
   refine R_p (i:=3) (v:=.agg #[.int .u64 (e:Int),.string ⟨#[]⟩,.slice none 0 0]) (Meets.here ⟨hX,hZ⟩ Meets.nil) ?_
   refine R_now 6 fun K hK=>?_
   go_simp
   refine (HRO.out _ hB).mono ?_
   rintro e w6 ⟨rfl,hb6⟩
   replace hX:=(hb6.block _ (Array.getElem?_eq_some_iff.1 hX).1).trans hX
   replace hZ:=(hb6.block _ (Array.getElem?_eq_some_iff.1 hZ).1).trans hZ
   replace hB:=below_call hB hB.size hb6
   replace hlv:=Rep.keep hlv hb6
   rw [HR.out]
   clear hb6
   refine hK.out _ _ (Meets.here ⟨hX,hZ⟩ Meets.nil) (fun hMeets=>?_)
   clear hK K hMeets
   refine lay_R ?_
   refine R_p (i:=7) (v:=.agg #[.int .u64 0,.string (bs r),.slice none 0 0]) (Meets.here ⟨hX,hZ⟩ Meets.nil) ?_
   refine R_now 9 fun K hK=>?_
   have hbb:Below w6.heap.size w6 (w6.alloc (.cells #[.int .u64 0,.string ⟨#[103,101,110,101,115,105,115]⟩,.slice none 0 0,.int .u64 (e:Int),.string ⟨#[]⟩,.slice none 0 0,.int .u64 0,.string (bs r),.slice none 0 0,.int .u64 0,.string ⟨#[]⟩,.slice A' s.length c'] 56)):=(Below.refl _ _).alloc (Nat.le_refl _) _
   have HFV:=Lib.hid (bgC_new w6 e r s A' c' hlv)
   replace hX:=(hbb.block _ (Array.getElem?_eq_some_iff.1 hX).1).trans hX
   replace hZ:=(hbb.block _ (Array.getElem?_eq_some_iff.1 hZ).1).trans hZ
   replace hB:=below_call hB hB.size hbb
   replace hlv:=Rep.keep hlv hbb
   go_simp
   obtain ⟨N,hN⟩:∃ N,w6.heap.size=N:=⟨_,rfl⟩
   rw [hN] at HFV ⊢
   generalize w6.alloc (.cells #[.int .u64 0,.string ⟨#[103,101,110,101,115,105,115]⟩,.slice none 0 0,.int .u64 (e:Int),.string ⟨#[]⟩,.slice none 0 0,.int .u64 0,.string (bs r),.slice none 0 0,.int .u64 0,.string ⟨#[]⟩,.slice A' s.length c'] 56)=w9 at HFV hX hZ hB ⊢
   clear hbb hN hlv
   refine hK.out _ _ (Meets.here ⟨hX,hZ⟩ Meets.nil) (fun hMeets=>?_)
   clear hK K hMeets
   refine lay_R ?_
   refine R_now 10 fun K hK=>?_
   go_simp
   refine (HWR.out (some ⟨N,0,none⟩) 4 _ HFV.out).mono ?_
   rintro e w10 ⟨rfl,hb10⟩
   replace hX:=(hb10.block _ (Array.getElem?_eq_some_iff.1 hX).1).trans hX
   replace hZ:=(hb10.block _ (Array.getElem?_eq_some_iff.1 hZ).1).trans hZ
   replace hB:=below_call hB hB.size hb10
   clear HFV
   clear hb10
   refine hK.out _ _ (Meets.here ⟨hX,hZ⟩ Meets.nil) (fun hMeets=>?_)
   clear hK K hMeets
   refine lay_R ?_
   refine R_p (i:=11) (v:=.tuple #[.string (bs t),.int .i64 0]) (Meets.here ⟨hX,hZ⟩ Meets.nil) ?_
   refine R_p (i:=12) (v:=.string (bs t)) (Meets.here ⟨hX,hZ⟩ Meets.nil) ?_
   refine R_p (i:=13) (v:=.int .i64 0) (Meets.here ⟨hX,hZ⟩ Meets.nil) ?_
   refine R_p (i:=14) (v:=.string (bs t)) (Meets.here ⟨hX,hZ⟩ Meets.nil) ?_
   refine R_p (i:=15) (v:=.int .i64 0) (Meets.here ⟨hX,hZ⟩ Meets.nil) ?_
   refine R_done (by kernel_rfl) ?_ _
   have HB:=Lib.hid hB
   clear hX hZ hB
   go_wp2_with fail
   refine (HSU.out _).mono ?_
   rintro e w11 ⟨rfl,hb11⟩
   have HB11:=Lib.hid (below_call HB.out HB.out.size hb11)
   clear hb11
   go_wp2_with fail
   go_ret2
   exact ⟨by rw [HRT.out];rfl,HB11.out⟩
/- The walks of chain.Right, of Like at validators and at chains. -/
/-- a whole row loaded by a guarded operation that is wanted -/
theorem wpl_load_w {P:Program} {ops:Array Oper} {rest:List Oper} {op:Oper} {a:Act} {w:World} {Q:Exit→Act→World→Prop} (hw:Region.wanted op (yielded ops a.tmps)=true) {ty:TypeId} {x:Operand} (ho:op.op=.load ty x)
  {g:Nat} (hx:a.eval x=.pointer (some ⟨g,0,none⟩)) {t:TypeId} {cs:Array Value} {fr:Nat×Nat} {d:TypeDesc} (hg:w.heap[g]? = some (.cells cs t fr))
  (hu:P.underlying ty=some d) (hd:(match d with | .struct _ | .array _ _=>true | _=>false)=true) (hi:(P.info? ty).map (·.size)=some cs.size)
  (h:wpList P ops Q rest (a.put op.dst (.agg cs)) w):wpList P ops Q (op :: rest) a w :=
 wpList_step fun _ hK=>by
  rw [if_pos hw]
  unfold Oper.wp execOp
  simp only [ho,hx,Instr.loadAt,Instr.sureAddr,Sem.run_bind,Sem.run_pure,Result.andThen_ok,run_loadVar_row w g t ty cs fr d hg hu hd hi]
  exact hK _ _ h
theorem like19_any (s:List Bytes) (A A':Option Addr) (c c':Nat) (w:World) (hv:StrV Any w s A c) (hv':StrV Any w s A' c') :
  Calls Tryz.prog 23 #[.agg #[.slice A s.length c,.slice none 0 0],.agg #[.slice A' s.length c',.slice none 0 0]] w fun e w'=>e=.returned (.bool true)∧Below w.heap.size w w':=by
 have hl63:(s.length:Int)≤9223372036854775807:=by have:=(Rep.slice_len hv).2;simp only [maxLen] at this;omega
 have hX:=heap_alloc_new w (.cells #[.slice A s.length c,.slice none 0 0] 29)
 have hY:=heap_alloc_new (w.alloc (.cells #[.slice A s.length c,.slice none 0 0] 29)) (.cells #[.slice A' s.length c',.slice none 0 0] 29)
 have hX:=(heap_alloc_old (w.alloc (.cells #[.slice A s.length c,.slice none 0 0] 29)) (.cells #[.slice A' s.length c',.slice none 0 0] 29) (Array.getElem?_eq_some_iff.1 hX).1).trans hX
 rw [show (w.alloc (.cells #[.slice A s.length c,.slice none 0 0] 29)).heap.size=w.heap.size+1 by simp] at hY
 have hB:=((Below.refl w.heap.size w).alloc (Nat.le_refl _) (.cells #[.slice A s.length c,.slice none 0 0] 29)).alloc (by simp) (.cells #[.slice A' s.length c',.slice none 0 0] 29)
 have HX:=Lib.hid hX
 have HY:=Lib.hid hY
 have HB:=Lib.hid hB
 have HV:=Lib.hid hv
 have HV2:=Lib.hid hv'
 have x0:=rc (u:=.slice A s.length c) hX 0 rfl
 have x1:=rc (u:=.slice none 0 0) hX 1 rfl
 have y0:=rc (u:=.slice A' s.length c') hY 0 rfl
 have y1:=rc (u:=.slice none 0 0) hY 1 rfl
 clear hX hY hB hv hv'
 go_enter Tryz.func23,Tryz.ntmps23
 go_wp2_with fail
 clear x0 x1 y0 y1
 generalize (w.alloc (.cells #[.slice A s.length c,.slice none 0 0] 29)).alloc (.cells #[.slice A' s.length c',.slice none 0 0] 29)=W2 at HX HY HB ⊢
 go_loopw [26] (fun i wr=>∃ k:Nat,k≤s.length∧i=.int .i64 k∧Below W2.heap.size W2 wr) (fun i _=>s.length - (intOf i).toNat)
 case atStart=>exact ⟨0,Nat.zero_le _,rfl,Below.refl _ _⟩
 case round =>
  obtain ⟨k,hk,rfl,hb⟩:=hrel
  have hX:=(hb.block _ (Array.getElem?_eq_some_iff.1 HX.out).1).trans HX.out
  have hY:=(hb.block _ (Array.getElem?_eq_some_iff.1 HY.out).1).trans HY.out
  by_cases hlt:k < s.length
  ·obtain ⟨p,hp⟩:=getElem_ex hlt
   obtain ⟨g,o,rfl,_,c0⟩:=(HV.out.keep (HB.out.trans (hb.mono HB.out.size))).at_ hp
   obtain ⟨g',o',rfl,_,c1⟩:=(HV2.out.keep (HB.out.trans (hb.mono HB.out.size))).at_ hp
   have hlt':(k:Int) < s.length:=by omega
   have x0:=rc (u:=.slice (some ⟨g,o,none⟩) s.length c) hX 0 rfl
   have y0:=rc (u:=.slice (some ⟨g',o',none⟩) s.length c') hY 0 rfl
   have HBB:=Lib.hid hb
   clear hp hX hY hb
   go_wp2_with fail
   go_quiet (fail)
   go_wp2_with fail
   go_roundw
   case rel=>exact ⟨k+1,by omega,by go_num,below_drewN HBB.out _⟩
   case measure=>simp [intOf];omega
  ·have hlt':¬ (k:Int) < s.length:=by omega
   have x1:=rc (u:=.slice none 0 0) hX 1 rfl
   have HBB:=Lib.hid (HB.out.trans (hb.mono HB.out.size))
   clear hX hY hb
   go_wp2_with fail
   rename World=>wq
   go_loopw [44] (fun i wr=>i=.int .i64 0∧Below w.heap.size w wr) (fun _ _=>0)
   case atStart=>exact ⟨rfl,HBB.out⟩
   case round =>
    obtain ⟨rfl,hb⟩:=hrel
    clear x1
    go_wp2_with fail
    go_ret
    exact ⟨rfl,hb⟩
theorem like22_any (e:Nat) (l:List Ac) (s:List Bytes) (Ar As Br Bs:Option Addr) (cr cs dr ds:Nat) (w:World) (hv:BgV w l s Ar cr As cs) (hv':BgV w l s Br dr Bs ds) :
  Calls Tryz.prog 9 #[.agg #[.int .u64 (e:Int),.slice Ar l.length cr,.slice As s.length cs,.slice none 0 0,.slice Ar l.length cr,.slice As s.length cs,.slice none 0 0],.agg #[.int .u64 (e:Int),.slice Br l.length dr,.slice Bs s.length ds,.slice none 0 0,.slice Br l.length dr,.slice Bs s.length ds,.slice none 0 0]] w fun e w'=>e=.returned (.bool true)∧Below w.heap.size w w':=by
 have hX:=heap_alloc_new w (.cells #[.int .u64 (e:Int),.slice Ar l.length cr,.slice As s.length cs,.slice none 0 0,.slice Ar l.length cr,.slice As s.length cs,.slice none 0 0] 31)
 have hY:=heap_alloc_new (w.alloc (.cells #[.int .u64 (e:Int),.slice Ar l.length cr,.slice As s.length cs,.slice none 0 0,.slice Ar l.length cr,.slice As s.length cs,.slice none 0 0] 31)) (.cells #[.int .u64 (e:Int),.slice Br l.length dr,.slice Bs s.length ds,.slice none 0 0,.slice Br l.length dr,.slice Bs s.length ds,.slice none 0 0] 31)
 have hX:=(heap_alloc_old (w.alloc (.cells #[.int .u64 (e:Int),.slice Ar l.length cr,.slice As s.length cs,.slice none 0 0,.slice Ar l.length cr,.slice As s.length cs,.slice none 0 0] 31)) (.cells #[.int .u64 (e:Int),.slice Br l.length dr,.slice Bs s.length ds,.slice none 0 0,.slice Br l.length dr,.slice Bs s.length ds,.slice none 0 0] 31) (Array.getElem?_eq_some_iff.1 hX).1).trans hX
 rw [show (w.alloc (.cells #[.int .u64 (e:Int),.slice Ar l.length cr,.slice As s.length cs,.slice none 0 0,.slice Ar l.length cr,.slice As s.length cs,.slice none 0 0] 31)).heap.size=w.heap.size+1 by simp] at hY
 have hB:=((Below.refl w.heap.size w).alloc (Nat.le_refl _) (.cells #[.int .u64 (e:Int),.slice Ar l.length cr,.slice As s.length cs,.slice none 0 0,.slice Ar l.length cr,.slice As s.length cs,.slice none 0 0] 31)).alloc (by simp) (.cells #[.int .u64 (e:Int),.slice Br l.length dr,.slice Bs s.length ds,.slice none 0 0,.slice Br l.length dr,.slice Bs s.length ds,.slice none 0 0] 31)
 have HL:=Lib.hid fun (W:World) (hb:Below w.heap.size w W)=>like15_any l Ar Br cr dr W (Rep.keep hv.row hb) (Rep.keep hv'.row hb)
 have HS:=Lib.hid fun (W:World) (hb:Below w.heap.size w W)=>same20_any s As Bs cs ds W (StrV.keep hv.set hb) (StrV.keep hv'.set hb)
 have HN:=Lib.hid fun (W:World) (hb:Below w.heap.size w W)=>like19_any s As Bs cs ds W (StrV.keep hv.set hb) (StrV.keep hv'.set hb)
 have HX:=Lib.hid hX
 have HY:=Lib.hid hY
 have HB:=Lib.hid hB
 have hee:((e:Int) == (e:Int))=true:=by rw [beq_self_eq_true]
 have x0:=rc (u:=.int .u64 (e:Int)) hX 0 rfl
 have x1:=rc (u:=.slice Ar l.length cr) hX 1 rfl
 have x2:=rc (u:=.slice As s.length cs) hX 2 rfl
 have x3:=rc (u:=.slice none 0 0) hX 3 rfl
 have x4:=rc (u:=.slice Ar l.length cr) hX 4 rfl
 have x5:=rc (u:=.slice As s.length cs) hX 5 rfl
 have x6:=rc (u:=.slice none 0 0) hX 6 rfl
 have y0:=rc (u:=.int .u64 (e:Int)) hY 0 rfl
 have y1:=rc (u:=.slice Br l.length dr) hY 1 rfl
 have y2:=rc (u:=.slice Bs s.length ds) hY 2 rfl
 have y3:=rc (u:=.slice none 0 0) hY 3 rfl
 have y4:=rc (u:=.slice Br l.length dr) hY 4 rfl
 have y5:=rc (u:=.slice Bs s.length ds) hY 5 rfl
 have y6:=rc (u:=.slice none 0 0) hY 6 rfl
 clear hX hY hB hv hv'
 go_enter Tryz.func9,Tryz.ntmps9
 go_wp2_with fail
 refine (HL.out _ HB.out).mono ?_
 rintro e' w1 ⟨rfl,hb1⟩
 have HX1:=Lib.hid ((hb1.block _ (Array.getElem?_eq_some_iff.1 HX.out).1).trans HX.out)
 have HY1:=Lib.hid ((hb1.block _ (Array.getElem?_eq_some_iff.1 HY.out).1).trans HY.out)
 have HB1:=Lib.hid (below_call HB.out HB.out.size hb1)
 clear hb1 x0 y0 x1 y1 x2 y2 x3 y3 x4 y4 x5 y5 x6 y6
 have x0:=rc (u:=.int .u64 (e:Int)) HX1.out 0 rfl
 have x1:=rc (u:=.slice Ar l.length cr) HX1.out 1 rfl
 have x2:=rc (u:=.slice As s.length cs) HX1.out 2 rfl
 have x3:=rc (u:=.slice none 0 0) HX1.out 3 rfl
 have x4:=rc (u:=.slice Ar l.length cr) HX1.out 4 rfl
 have x5:=rc (u:=.slice As s.length cs) HX1.out 5 rfl
 have x6:=rc (u:=.slice none 0 0) HX1.out 6 rfl
 have y0:=rc (u:=.int .u64 (e:Int)) HY1.out 0 rfl
 have y1:=rc (u:=.slice Br l.length dr) HY1.out 1 rfl
 have y2:=rc (u:=.slice Bs s.length ds) HY1.out 2 rfl
 have y3:=rc (u:=.slice none 0 0) HY1.out 3 rfl
 have y4:=rc (u:=.slice Br l.length dr) HY1.out 4 rfl
 have y5:=rc (u:=.slice Bs s.length ds) HY1.out 5 rfl
 have y6:=rc (u:=.slice none 0 0) HY1.out 6 rfl
 go_wp2_with fail
 refine (HS.out _ HB1.out).mono ?_
 rintro e' w2 ⟨rfl,hb2⟩
 have HX2:=Lib.hid ((hb2.block _ (Array.getElem?_eq_some_iff.1 HX1.out).1).trans HX1.out)
 have HY2:=Lib.hid ((hb2.block _ (Array.getElem?_eq_some_iff.1 HY1.out).1).trans HY1.out)
 have HB2:=Lib.hid (below_call HB1.out HB1.out.size hb2)
 clear hb2 x0 y0 x1 y1 x2 y2 x3 y3 x4 y4 x5 y5 x6 y6
 have x0:=rc (u:=.int .u64 (e:Int)) HX2.out 0 rfl
 have x1:=rc (u:=.slice Ar l.length cr) HX2.out 1 rfl
 have x2:=rc (u:=.slice As s.length cs) HX2.out 2 rfl
 have x3:=rc (u:=.slice none 0 0) HX2.out 3 rfl
 have x4:=rc (u:=.slice Ar l.length cr) HX2.out 4 rfl
 have x5:=rc (u:=.slice As s.length cs) HX2.out 5 rfl
 have x6:=rc (u:=.slice none 0 0) HX2.out 6 rfl
 have y0:=rc (u:=.int .u64 (e:Int)) HY2.out 0 rfl
 have y1:=rc (u:=.slice Br l.length dr) HY2.out 1 rfl
 have y2:=rc (u:=.slice Bs s.length ds) HY2.out 2 rfl
 have y3:=rc (u:=.slice none 0 0) HY2.out 3 rfl
 have y4:=rc (u:=.slice Br l.length dr) HY2.out 4 rfl
 have y5:=rc (u:=.slice Bs s.length ds) HY2.out 5 rfl
 have y6:=rc (u:=.slice none 0 0) HY2.out 6 rfl
 go_wp2_with fail
 refine (likeBlocks_any _).mono ?_
 rintro e' w3 ⟨rfl,hb3⟩
 have HX3:=Lib.hid ((hb3.block _ (Array.getElem?_eq_some_iff.1 HX2.out).1).trans HX2.out)
 have HY3:=Lib.hid ((hb3.block _ (Array.getElem?_eq_some_iff.1 HY2.out).1).trans HY2.out)
 have HB3:=Lib.hid (below_call HB2.out HB2.out.size hb3)
 clear hb3 x0 y0 x1 y1 x2 y2 x3 y3 x4 y4 x5 y5 x6 y6
 have x0:=rc (u:=.int .u64 (e:Int)) HX3.out 0 rfl
 have x1:=rc (u:=.slice Ar l.length cr) HX3.out 1 rfl
 have x2:=rc (u:=.slice As s.length cs) HX3.out 2 rfl
 have x3:=rc (u:=.slice none 0 0) HX3.out 3 rfl
 have x4:=rc (u:=.slice Ar l.length cr) HX3.out 4 rfl
 have x5:=rc (u:=.slice As s.length cs) HX3.out 5 rfl
 have x6:=rc (u:=.slice none 0 0) HX3.out 6 rfl
 have y0:=rc (u:=.int .u64 (e:Int)) HY3.out 0 rfl
 have y1:=rc (u:=.slice Br l.length dr) HY3.out 1 rfl
 have y2:=rc (u:=.slice Bs s.length ds) HY3.out 2 rfl
 have y3:=rc (u:=.slice none 0 0) HY3.out 3 rfl
 have y4:=rc (u:=.slice Br l.length dr) HY3.out 4 rfl
 have y5:=rc (u:=.slice Bs s.length ds) HY3.out 5 rfl
 have y6:=rc (u:=.slice none 0 0) HY3.out 6 rfl
 go_wp2_with fail
 refine (HL.out _ HB3.out).mono ?_
 rintro e' w4 ⟨rfl,hb4⟩
 have HX4:=Lib.hid ((hb4.block _ (Array.getElem?_eq_some_iff.1 HX3.out).1).trans HX3.out)
 have HY4:=Lib.hid ((hb4.block _ (Array.getElem?_eq_some_iff.1 HY3.out).1).trans HY3.out)
 have HB4:=Lib.hid (below_call HB3.out HB3.out.size hb4)
 clear hb4 x0 y0 x1 y1 x2 y2 x3 y3 x4 y4 x5 y5 x6 y6
 have x0:=rc (u:=.int .u64 (e:Int)) HX4.out 0 rfl
 have x1:=rc (u:=.slice Ar l.length cr) HX4.out 1 rfl
 have x2:=rc (u:=.slice As s.length cs) HX4.out 2 rfl
 have x3:=rc (u:=.slice none 0 0) HX4.out 3 rfl
 have x4:=rc (u:=.slice Ar l.length cr) HX4.out 4 rfl
 have x5:=rc (u:=.slice As s.length cs) HX4.out 5 rfl
 have x6:=rc (u:=.slice none 0 0) HX4.out 6 rfl
 have y0:=rc (u:=.int .u64 (e:Int)) HY4.out 0 rfl
 have y1:=rc (u:=.slice Br l.length dr) HY4.out 1 rfl
 have y2:=rc (u:=.slice Bs s.length ds) HY4.out 2 rfl
 have y3:=rc (u:=.slice none 0 0) HY4.out 3 rfl
 have y4:=rc (u:=.slice Br l.length dr) HY4.out 4 rfl
 have y5:=rc (u:=.slice Bs s.length ds) HY4.out 5 rfl
 have y6:=rc (u:=.slice none 0 0) HY4.out 6 rfl
 go_wp2_with fail
 refine (HN.out _ HB4.out).mono ?_
 rintro e' w5 ⟨rfl,hb5⟩
 have HX5:=Lib.hid ((hb5.block _ (Array.getElem?_eq_some_iff.1 HX4.out).1).trans HX4.out)
 have HY5:=Lib.hid ((hb5.block _ (Array.getElem?_eq_some_iff.1 HY4.out).1).trans HY4.out)
 have HB5:=Lib.hid (below_call HB4.out HB4.out.size hb5)
 clear hb5 x0 y0 x1 y1 x2 y2 x3 y3 x4 y4 x5 y5 x6 y6
 go_wp2_with fail
 go_ret
 exact ⟨rfl,HB5.out⟩
theorem cright_no (e:Nat) (l:List Ac) (s:List Bytes) (hf:BgFine e l s) (hk:okBg e l s=false) (Ar As:Option Addr) (cr cs:Nat) (w:World) (hv:BgV w l s Ar cr As cs) :
  Calls Tryz.prog 10 #[.agg #[.int .u64 (e:Int),.slice Ar l.length cr,.slice As s.length cs,.slice none 0 0,.slice Ar l.length cr,.slice As s.length cs,.slice none 0 0]] w fun e' w'=>e'=.returned (.bool false)∧Below w.heap.size w w':=by
 have hX:=heap_alloc_new w (.cells #[.int .u64 (e:Int),.slice Ar l.length cr,.slice As s.length cs,.slice none 0 0,.slice Ar l.length cr,.slice As s.length cs,.slice none 0 0] 31)
 have hB:=(Below.refl w.heap.size w).alloc (Nat.le_refl _) (.cells #[.int .u64 (e:Int),.slice Ar l.length cr,.slice As s.length cs,.slice none 0 0,.slice Ar l.length cr,.slice As s.length cs,.slice none 0 0] 31)
 have HN:=Lib.hid (new_no e l s hf hk Ar As cr cs (w.alloc (.cells #[.int .u64 (e:Int),.slice Ar l.length cr,.slice As s.length cs,.slice none 0 0,.slice Ar l.length cr,.slice As s.length cs,.slice none 0 0] 31)) (hv.keep hB))
 have HX:=Lib.hid hX
 have HB:=Lib.hid hB
 have x0:=rc (u:=.int .u64 (e:Int)) hX 0 rfl
 have x1:=rc (u:=.slice Ar l.length cr) hX 1 rfl
 have x2:=rc (u:=.slice As s.length cs) hX 2 rfl
 have x3:=rc (u:=.slice none 0 0) hX 3 rfl
 have x4:=rc (u:=.slice Ar l.length cr) hX 4 rfl
 have x5:=rc (u:=.slice As s.length cs) hX 5 rfl
 have x6:=rc (u:=.slice none 0 0) hX 6 rfl
 clear hX hB hf hv hk
 go_enter Tryz.func10,Tryz.ntmps10
 go_wp2_with fail
 refine HN.out.mono ?_
 rintro e' w1 ⟨rfl,hb1⟩
 have hY:=heap_alloc_new w1 (.cells #[.int .u64 0,.slice none 0 0,.slice none 0 0,.slice none 0 0,.slice none 0 0,.slice none 0 0,.slice none 0 0] 31)
 have hB1:=below_call HB.out HB.out.size hb1
 have hB2:=below_setRow (hB1.alloc hB1.size (.cells #[.int .u64 0,.slice none 0 0,.slice none 0 0,.slice none 0 0,.slice none 0 0,.slice none 0 0,.slice none 0 0] 31)) hB1.size #[.int .u64 0,.slice none 0 0,.slice none 0 0,.slice none 0 0,.slice none 0 0,.slice none 0 0,.slice none 0 0]
 have HY:=Lib.hid hY
 clear hb1 hY x0 x1 x2 x3 x4 x5 x6
 go_wp2_with (refine wpList_store_row rfl _ _ _ rfl w1.heap.size #[.int .u64 0,.slice none 0 0,.slice none 0 0,.slice none 0 0,.slice none 0 0,.slice none 0 0,.slice none 0 0] rfl rfl _ _ HY.out infoCh rfl (one7 _ _ _ _ _ _ _ _ _ _ _ _ _ _ _ _ _ _ _) ?_;generalize (w1.alloc (.cells #[.int .u64 0,.slice none 0 0,.slice none 0 0,.slice none 0 0,.slice none 0 0,.slice none 0 0,.slice none 0 0] 31)).setRow w1.heap.size #[.int .u64 0,.slice none 0 0,.slice none 0 0,.slice none 0 0,.slice none 0 0,.slice none 0 0,.slice none 0 0]=W2 at hB2 ⊢;have HB2:=Lib.hid hB2;clear hB2)
 go_ret
 exact ⟨rfl,HB2.out⟩
theorem cright_yes (e:Nat) (l:List Ac) (s:List Bytes) (hf:BgFine e l s) (hk:okBg e l s=true) (Ar As:Option Addr) (cr cs:Nat) (w:World) (hv:BgV w l s Ar cr As cs) :
  Calls Tryz.prog 10 #[.agg #[.int .u64 (e:Int),.slice Ar l.length cr,.slice As s.length cs,.slice none 0 0,.slice Ar l.length cr,.slice As s.length cs,.slice none 0 0]] w fun e' w'=>e'=.returned (.bool true)∧Below w.heap.size w w':=by
 have hX:=heap_alloc_new w (.cells #[.int .u64 (e:Int),.slice Ar l.length cr,.slice As s.length cs,.slice none 0 0,.slice Ar l.length cr,.slice As s.length cs,.slice none 0 0] 31)
 have hB:=(Below.refl w.heap.size w).alloc (Nat.le_refl _) (.cells #[.int .u64 (e:Int),.slice Ar l.length cr,.slice As s.length cs,.slice none 0 0,.slice Ar l.length cr,.slice As s.length cs,.slice none 0 0] 31)
 have HN:=Lib.hid (new_yes e l s hf hk Ar As cr cs (w.alloc (.cells #[.int .u64 (e:Int),.slice Ar l.length cr,.slice As s.length cs,.slice none 0 0,.slice Ar l.length cr,.slice As s.length cs,.slice none 0 0] 31)) (hv.keep hB))
 have HL:=Lib.hid fun (W:World) (hb:Below w.heap.size w W)=>equalA_any l Ar Ar cr cr W (Rep.keep hv.row hb) (Rep.keep hv.row hb)
 have HS:=Lib.hid fun (W:World) (hb:Below w.heap.size w W)=>equalS_any s As As cs cs W (StrV.keep hv.set hb) (StrV.keep hv.set hb)
 have HX:=Lib.hid hX
 have HB:=Lib.hid hB
 have x0:=rc (u:=.int .u64 (e:Int)) hX 0 rfl
 have x1:=rc (u:=.slice Ar l.length cr) hX 1 rfl
 have x2:=rc (u:=.slice As s.length cs) hX 2 rfl
 have x3:=rc (u:=.slice none 0 0) hX 3 rfl
 have x4:=rc (u:=.slice Ar l.length cr) hX 4 rfl
 have x5:=rc (u:=.slice As s.length cs) hX 5 rfl
 have x6:=rc (u:=.slice none 0 0) hX 6 rfl
 clear hX hB hf hv hk
 go_enter Tryz.func10,Tryz.ntmps10
 go_wp2_with fail
 refine HN.out.mono ?_
 rintro e' w1 ⟨rfl,hb1⟩
 have hY:=heap_alloc_new w1 (.cells #[.int .u64 0,.slice none 0 0,.slice none 0 0,.slice none 0 0,.slice none 0 0,.slice none 0 0,.slice none 0 0] 31)
 have hY2:=setRow_heap (w1.alloc (.cells #[.int .u64 0,.slice none 0 0,.slice none 0 0,.slice none 0 0,.slice none 0 0,.slice none 0 0,.slice none 0 0] 31)) w1.heap.size _ #[.int .u64 (e:Int),.slice Ar l.length cr,.slice As s.length cs,.slice none 0 0,.slice Ar l.length cr,.slice As s.length cs,.slice none 0 0] _ _ hY
 have hb2:=below_setRow (hb1.alloc hb1.size (.cells #[.int .u64 0,.slice none 0 0,.slice none 0 0,.slice none 0 0,.slice none 0 0,.slice none 0 0,.slice none 0 0] 31)) hb1.size #[.int .u64 (e:Int),.slice Ar l.length cr,.slice As s.length cs,.slice none 0 0,.slice Ar l.length cr,.slice As s.length cs,.slice none 0 0]
 have hX2:=(hb2.block _ (Array.getElem?_eq_some_iff.1 HX.out).1).trans HX.out
 have hB2:=below_call HB.out HB.out.size hb2
 have HY:=Lib.hid hY
 clear hb1 hb2 hY x0 x1 x2 x3 x4 x5 x6
 go_wp2_with (refine wpList_store_row rfl _ _ _ rfl w1.heap.size #[.int .u64 (e:Int),.slice Ar l.length cr,.slice As s.length cs,.slice none 0 0,.slice Ar l.length cr,.slice As s.length cs,.slice none 0 0] rfl rfl _ _ HY.out infoCh rfl (one7 _ _ _ _ _ _ _ _ _ _ _ _ _ _ _ _ _ _ _) ?_;generalize (w1.alloc (.cells #[.int .u64 0,.slice none 0 0,.slice none 0 0,.slice none 0 0,.slice none 0 0,.slice none 0 0,.slice none 0 0] 31)).setRow w1.heap.size #[.int .u64 (e:Int),.slice Ar l.length cr,.slice As s.length cs,.slice none 0 0,.slice Ar l.length cr,.slice As s.length cs,.slice none 0 0]=W2 at hY2 hX2 hB2 ⊢;have x3:=rc (u:=.slice none 0 0) hX2 3 rfl;have HX2:=Lib.hid hX2;have HY2:=Lib.hid hY2;have HB2:=Lib.hid hB2;clear hX2 hY2 hB2)
 go_loopw [28] (fun i wr=>i=.int .i64 0∧wr=W2) (fun _ _=>0)
 case atStart=>exact ⟨rfl,rfl⟩
 case round =>
  obtain ⟨rfl,rfl⟩:=hrel
  clear x3
  have x0:=rc (u:=.int .u64 (e:Int)) HX2.out 0 rfl
  have x1:=rc (u:=.slice Ar l.length cr) HX2.out 1 rfl
  have x2:=rc (u:=.slice As s.length cs) HX2.out 2 rfl
  have x3:=rc (u:=.slice none 0 0) HX2.out 3 rfl
  have x4:=rc (u:=.slice Ar l.length cr) HX2.out 4 rfl
  have x5:=rc (u:=.slice As s.length cs) HX2.out 5 rfl
  have x6:=rc (u:=.slice none 0 0) HX2.out 6 rfl
  have y0:=rc (u:=.int .u64 (e:Int)) HY2.out 0 rfl
  have y1:=rc (u:=.slice Ar l.length cr) HY2.out 1 rfl
  have y2:=rc (u:=.slice As s.length cs) HY2.out 2 rfl
  have y3:=rc (u:=.slice none 0 0) HY2.out 3 rfl
  have y4:=rc (u:=.slice Ar l.length cr) HY2.out 4 rfl
  have y5:=rc (u:=.slice As s.length cs) HY2.out 5 rfl
  have y6:=rc (u:=.slice none 0 0) HY2.out 6 rfl
  go_wp2_with fail
  refine (HL.out _ HB2.out).mono ?_
  rintro e' w3 ⟨rfl,hb3⟩
  have HX3:=Lib.hid ((hb3.block _ (Array.getElem?_eq_some_iff.1 HX2.out).1).trans HX2.out)
  have HY3:=Lib.hid ((hb3.block _ (Array.getElem?_eq_some_iff.1 HY2.out).1).trans HY2.out)
  have HB3:=Lib.hid (below_call HB2.out HB2.out.size hb3)
  clear hb3 x0 y0 x1 y1 x2 y2 x3 y3 x4 y4 x5 y5 x6 y6
  have x0:=rc (u:=.int .u64 (e:Int)) HX3.out 0 rfl
  have x1:=rc (u:=.slice Ar l.length cr) HX3.out 1 rfl
  have x2:=rc (u:=.slice As s.length cs) HX3.out 2 rfl
  have x3:=rc (u:=.slice none 0 0) HX3.out 3 rfl
  have x4:=rc (u:=.slice Ar l.length cr) HX3.out 4 rfl
  have x5:=rc (u:=.slice As s.length cs) HX3.out 5 rfl
  have x6:=rc (u:=.slice none 0 0) HX3.out 6 rfl
  have y0:=rc (u:=.int .u64 (e:Int)) HY3.out 0 rfl
  have y1:=rc (u:=.slice Ar l.length cr) HY3.out 1 rfl
  have y2:=rc (u:=.slice As s.length cs) HY3.out 2 rfl
  have y3:=rc (u:=.slice none 0 0) HY3.out 3 rfl
  have y4:=rc (u:=.slice Ar l.length cr) HY3.out 4 rfl
  have y5:=rc (u:=.slice As s.length cs) HY3.out 5 rfl
  have y6:=rc (u:=.slice none 0 0) HY3.out 6 rfl
  go_wp2_with fail
  refine (HS.out _ HB3.out).mono ?_
  rintro e' w4 ⟨rfl,hb4⟩
  have HX4:=Lib.hid ((hb4.block _ (Array.getElem?_eq_some_iff.1 HX3.out).1).trans HX3.out)
  have HY4:=Lib.hid ((hb4.block _ (Array.getElem?_eq_some_iff.1 HY3.out).1).trans HY3.out)
  have HB4:=Lib.hid (below_call HB3.out HB3.out.size hb4)
  clear hb4 x0 y0 x1 y1 x2 y2 x3 y3 x4 y4 x5 y5 x6 y6
  have x0:=rc (u:=.int .u64 (e:Int)) HX4.out 0 rfl
  have x1:=rc (u:=.slice Ar l.length cr) HX4.out 1 rfl
  have x2:=rc (u:=.slice As s.length cs) HX4.out 2 rfl
  have x3:=rc (u:=.slice none 0 0) HX4.out 3 rfl
  have x4:=rc (u:=.slice Ar l.length cr) HX4.out 4 rfl
  have x5:=rc (u:=.slice As s.length cs) HX4.out 5 rfl
  have x6:=rc (u:=.slice none 0 0) HX4.out 6 rfl
  have y0:=rc (u:=.int .u64 (e:Int)) HY4.out 0 rfl
  have y1:=rc (u:=.slice Ar l.length cr) HY4.out 1 rfl
  have y2:=rc (u:=.slice As s.length cs) HY4.out 2 rfl
  have y3:=rc (u:=.slice none 0 0) HY4.out 3 rfl
  have y4:=rc (u:=.slice Ar l.length cr) HY4.out 4 rfl
  have y5:=rc (u:=.slice As s.length cs) HY4.out 5 rfl
  have y6:=rc (u:=.slice none 0 0) HY4.out 6 rfl
  go_wp2_with fail
  refine (equalB_any _).mono ?_
  rintro e' w5 ⟨rfl,hb5⟩
  have HB5:=Lib.hid (below_call HB4.out HB4.out.size hb5)
  clear hb5 x0 y0 x1 y1 x2 y2 x3 y3 x4 y4 x5 y5 x6 y6
  go_wp2_with fail
  go_ret
  exact ⟨rfl,HB5.out⟩
/- The walks of law22's rows, alive. -/
theorem rows22_any (l:List Ac) (hp63:∀ a∈l,a.addr.length≤9223372036854775807) (A:Option Addr) (c:Nat) (w:World) (hv:AcsV Any w l A c) :
  Calls Tryz.prog 4 #[.slice A l.length c] w fun e w'=>∃ A2 c2,e=.returned (.slice A2 ((l.take 30).map cutA).length c2)∧AcsV Any w' ((l.take 30).map cutA) A2 c2∧Below w.heap.size w w':=by
 have hl:=(Rep.slice_len hv).2
 simp only [maxLen] at hl
 obtain ⟨m,hm,hmm⟩:∃ m:Nat,min (l.length:Int) 30=m∧m=min l.length 30:=⟨min l.length 30,by omega,rfl⟩
 have hlen63:(l.length:Int)≤9223372036854775807:=by omega
 have hm1:(m:Int)≤l.length:=by omega
 have hm2:(m:Int)≤c:=by omega
 have hm3:(m:Int)≤30:=by omega
 have hmq:l.take 30=l.take m:=by rw [hmm,List.take_eq_take_min,Nat.min_comm]
 have hq:(l.take m).length=m:=by rw [List.length_take];omega
 have hown0:(w.alloc (.cells #[] 44)).ownsRow w.heap.size 44 3 (.slice (some ⟨w.heap.size,0,none⟩) 0 0) 0 []:=World.ownsRow_lit w _ 0 (Nat.le_refl _) (by simp [maxLen]) rfl
 have hnews:Lies Any (w.alloc (.cells #[] 44)) A (acsC (l.take m)):=by
  have h0:=acs_lies (Rep.alloc hv (.cells #[] 44))
  rw [← List.take_append_drop m l,acsC_append] at h0
  intro hne
  obtain ⟨g,o,hA,hs,hc⟩:=h0 (by intro e;exact hne (List.append_eq_nil_iff.1 e).1)
  exact ⟨g,o,hA,hs,fun j u hj=>hc j u (by rw [List.getElem?_append_left (List.getElem?_eq_some_iff.1 hj).1];exact hj)⟩
 have hqp:∀ p∈l.take m,p.addr.length≤9223372036854775807:=fun p h=>hp63 p (List.mem_of_mem_take h)
 rw [hmq]
 clear hmm hp63 hmq
 generalize l.take m=qs at hq hnews hqp ⊢
 subst hq
 have HL:=Lib.hid (acsC_len qs)
 have HP:=Lib.hid hqp
 clear hqp
 go_enter Tryz.func4,Tryz.ntmps4
 go_wp2_with (at_builtin;refine wpl_append elAc rfl rfl w.heap.size hown0 rfl (m:=qs.length) (acsC qs) rfl HL.out hnews (acsC_one _) (by simp only [maxLen];omega) (by omega) (by simp) ?_;intro v1 w1 hown1 hg1 hat1;rw [Nat.zero_add] at hown1;obtain ⟨A1,c1,rfl⟩:=own_form hown1)
 have hb1:Below w.heap.size w w1:=below_app ((Below.refl _ _).alloc (Nat.le_refl _) _) hown0 hg1 (by simp) (Nat.le_refl _)
 clear hm hown0 hnews hg1 hat1
 go_loopw [14] (fun i wr=>∃ j:Nat,j≤qs.length∧i=.int .i64 j∧wr.ownsRow w.heap.size 44 3 (.slice A1 qs.length c1) qs.length (acsC (cutsA j qs))∧Below w.heap.size w wr) (fun i _=>qs.length - (intOf i).toNat)
 case atStart=>exact ⟨0,Nat.zero_le _,rfl,hown1,hb1⟩
 case round =>
  obtain ⟨j,hj,rfl,hown,hb⟩:=hrel
  clear hown1 hb1
  by_cases hlt:j < qs.length
  ·obtain ⟨g,rfl,hg0,hg1⟩:=own_ptr hown (by omega)
   obtain ⟨a,ha⟩:=getElem_ex hlt
   have hpl:=HP.out a (List.mem_of_getElem? ha)
   have Hs:=Lib.hid (cutsA_set ha)
   have k0:=acsC_get (cutsA_get ha) 0 _ rfl
   have k1:=acsC_get (cutsA_get ha) 1 _ rfl
   have k2:=acsC_get (cutsA_get ha) 2 _ rfl
   have q0:=own_cell hown k0
   have q1:=own_cell hown k1
   have q2:=own_cell hown k2
   simp only [Nat.add_zero] at q0
   have hf:=own_free hown (j * 3)
   obtain ⟨s,b,n⟩:=a
   simp only [] at hpl Hs q0 q1 q2
   have hlt':(j:Int) < qs.length:=by omega
   obtain ⟨m,hm,hmm⟩:∃ m:Nat,min (s.length:Int) 40=m∧m=min s.length 40:=⟨min s.length 40,by omega,rfl⟩
   have hm1:(m:Int)≤s.length:=by omega
   have Hm:=Lib.hid (show s.take 40=s.take m by rw [hmm,List.take_eq_take_min];rw [Nat.min_comm])
   have HO:=Lib.hid hown
   have hd0:=ca q0 (.cells #[.string (bs s),.int .u64 (b:Int),.int .u64 (n:Int)] 44)
   have hf0:=fa hg1 hf (.cells #[.string (bs s),.int .u64 (b:Int),.int .u64 (n:Int)] 44)
   clear ha hmm hown k0 k1 k2
   go_wp2_with fail
   go_roundw
   case rel =>
    have h:=own_set HO.out (j * 3) (.string (bs (s.take 40)))
    rw [Hs.out,Hm.out] at h
    exact ⟨j+1,hlt,by go_num,h.alloc _,(hb.setCell (p:=⟨g,j * 3,none⟩) hg0 _).alloc (by have:=hb.size;simp;omega) _⟩
   case measure=>simp [intOf];omega
  ·obtain rfl:j=qs.length:=by omega
   rw [cutsA_all] at hown
   have hlen:qs.length=(qs.map cutA).length:=by simp
   have HV:=Lib.hid (acs_own hown hlen)
   have HB:=Lib.hid hb
   clear hown hb hlen
   go_wp2_with fail
   go_ret
   exact ⟨A1,c1,by rw [show (qs.map cutA).length=qs.length by simp];rfl,HV.out,HB.out⟩
theorem cut_small {l:List Ac} (h:smallA l):smallA ((l.take 30).map cutA):=fun a ha=>by
 obtain ⟨b,hb,rfl⟩:=List.mem_map.1 ha
 exact h b (List.mem_of_mem_take hb)
theorem cut_len (l:List Ac):∀ a∈(l.take 30).map cutA,a.addr.length≤1000:=fun a ha=>by
 obtain ⟨b,hb,rfl⟩:=List.mem_map.1 ha
 simp [cutA];omega
def set1:List Bytes:=[[97,97,97,97,97,97,97,97,97,97,97,97,97,97,97,97,97,97,97,97]]
theorem bg1_ok:okBg 5 [] set1=true:=by decide
theorem bg1_fine:BgFine 5 [] set1 where
 e:=by decide
 len:=by decide
 small:=fun a ha=>by cases ha
 addr:=fun a ha=>by cases ha
 strs:=fun a ha=>by
  have h:a = [97,97,97,97,97,97,97,97,97,97,97,97,97,97,97,97,97,97,97,97]:=by simpa [set1] using ha
  subst h
  decide
theorem bg1_v (w:World):BgV (w.alloc (.cells #[.string ⟨#[97,97,97,97,97,97,97,97,97,97,97,97,97,97,97,97,97,97,97,97]⟩] 9)) [] set1 none 0 (some ⟨w.heap.size,0,none⟩) 1 :=
 ⟨Rep.nil_slice 3,.sl (.cons (cs:=[_]) (.v _ rfl) rfl .nil) rfl (lies_new w #[.string ⟨#[97,97,97,97,97,97,97,97,97,97,97,97,97,97,97,97,97,97,97,97]⟩] _) (Nat.le_refl _) (by simp [maxLen])⟩
theorem alive22_any (w:World):Calls Tryz.prog 8 #[] w fun e w'=>e=.returned (.bool true)∧Below w.heap.size w w':=by
 have hN:Calls Tryz.prog 5 #[.int .u64 5,.slice none 0 0,.slice (some ⟨w.heap.size,0,none⟩) 1 1] (w.alloc (.cells #[.string ⟨#[97,97,97,97,97,97,97,97,97,97,97,97,97,97,97,97,97,97,97,97]⟩] 9)) fun e' w'=>e'=.returned (.tuple #[.agg #[.int .u64 5,.slice none 0 0,.slice (some ⟨w.heap.size,0,none⟩) 1 1,.slice none 0 0,.slice none 0 0,.slice (some ⟨w.heap.size,0,none⟩) 1 1,.slice none 0 0],.int .i64 0])∧Below (w.alloc (.cells #[.string ⟨#[97,97,97,97,97,97,97,97,97,97,97,97,97,97,97,97,97,97,97,97]⟩] 9)).heap.size (w.alloc (.cells #[.string ⟨#[97,97,97,97,97,97,97,97,97,97,97,97,97,97,97,97,97,97,97,97]⟩] 9)) w':=new_yes 5 [] set1 bg1_fine bg1_ok none (some ⟨w.heap.size,0,none⟩) 0 1 (w.alloc (.cells #[.string ⟨#[97,97,97,97,97,97,97,97,97,97,97,97,97,97,97,97,97,97,97,97]⟩] 9)) (bg1_v w)
 have hH:∀ W:World,Below (w.alloc (.cells #[.string ⟨#[97,97,97,97,97,97,97,97,97,97,97,97,97,97,97,97,97,97,97,97]⟩] 9)).heap.size (w.alloc (.cells #[.string ⟨#[97,97,97,97,97,97,97,97,97,97,97,97,97,97,97,97,97,97,97,97]⟩] 9)) W→Calls Tryz.prog 6 #[.agg #[.int .u64 5,.slice none 0 0,.slice (some ⟨w.heap.size,0,none⟩) 1 1,.slice none 0 0,.slice none 0 0,.slice (some ⟨w.heap.size,0,none⟩) 1 1,.slice none 0 0]] W fun e' w'=>e'=.returned (.tuple #[.int .u64 0,.string (bs (headC 5 [] set1)),.int .i64 0])∧Below W.heap.size W w':=fun W hb=>head_yes 5 [] set1 bg1_fine bg1_ok none (some ⟨w.heap.size,0,none⟩) 0 1 W ((bg1_v w).keep hb)
 obtain ⟨t,ht⟩:∃ t,headC 5 [] set1=t:=⟨_,rfl⟩
 have htl:t.length=32:=by rw [← ht];exact headC_len _ _ _
 rw [ht] at hH
 have htI:((t.length:Int) == 32)=true:=by rw [htl];rfl
 have HN:=Lib.hid hN
 have HH:=Lib.hid hH
 have HB:=Lib.hid ((Below.refl w.heap.size w).alloc (Nat.le_refl _) (.cells #[.string ⟨#[97,97,97,97,97,97,97,97,97,97,97,97,97,97,97,97,97,97,97,97]⟩] 9))
 clear hN hH ht htl
 go_enter Tryz.func8,Tryz.ntmps8
 go_wp2_with fail
 refine HN.out.mono ?_
 rintro e w1 ⟨rfl,hb1⟩
 have hY:=heap_alloc_new w1 (.cells #[.int .u64 0,.slice none 0 0,.slice none 0 0,.slice none 0 0,.slice none 0 0,.slice none 0 0,.slice none 0 0] 31)
 have hY2:=setRow_heap (w1.alloc (.cells #[.int .u64 0,.slice none 0 0,.slice none 0 0,.slice none 0 0,.slice none 0 0,.slice none 0 0,.slice none 0 0] 31)) w1.heap.size _ #[.int .u64 5,.slice none 0 0,.slice (some ⟨w.heap.size,0,none⟩) 1 1,.slice none 0 0,.slice none 0 0,.slice (some ⟨w.heap.size,0,none⟩) 1 1,.slice none 0 0] _ _ hY
 have hb2:=below_setRow (hb1.alloc hb1.size (.cells #[.int .u64 0,.slice none 0 0,.slice none 0 0,.slice none 0 0,.slice none 0 0,.slice none 0 0,.slice none 0 0] 31)) hb1.size #[.int .u64 5,.slice none 0 0,.slice (some ⟨w.heap.size,0,none⟩) 1 1,.slice none 0 0,.slice none 0 0,.slice (some ⟨w.heap.size,0,none⟩) 1 1,.slice none 0 0]
 have HY:=Lib.hid hY
 clear hb1 hY
 go_wp2_with (first | (refine wpList_store_row rfl _ _ _ rfl w1.heap.size #[.int .u64 5,.slice none 0 0,.slice (some ⟨w.heap.size,0,none⟩) 1 1,.slice none 0 0,.slice none 0 0,.slice (some ⟨w.heap.size,0,none⟩) 1 1,.slice none 0 0] rfl rfl _ _ HY.out infoCh rfl (one7 _ _ _ _ _ _ _ _ _ _ _ _ _ _ _ _ _ _ _) ?_;generalize (w1.alloc (.cells #[.int .u64 0,.slice none 0 0,.slice none 0 0,.slice none 0 0,.slice none 0 0,.slice none 0 0,.slice none 0 0] 31)).setRow w1.heap.size #[.int .u64 5,.slice none 0 0,.slice (some ⟨w.heap.size,0,none⟩) 1 1,.slice none 0 0,.slice none 0 0,.slice (some ⟨w.heap.size,0,none⟩) 1 1,.slice none 0 0]=W2 at hY2 hb2 ⊢;have HY2:=Lib.hid hY2;have HW2:=Lib.hid hb2;clear hY2 hb2) | (refine wpList_load_row rfl _ _ rfl w1.heap.size rfl _ _ _ _ HY2.out Tryz.underlying31 rfl infoCh ?_))
 refine (HH.out _ HW2.out).mono ?_
 rintro e w3 ⟨rfl,hb3⟩
 have HB3:=Lib.hid (below_call (below_call HB.out HB.out.size HW2.out) (Nat.le_trans HB.out.size HW2.out.size) hb3)
 clear hb3
 go_wp2_with fail
 go_ret
 exact ⟨rfl,HB3.out⟩
/- The walk of ChainBegins. -/
/-- texts' cells -/
def strC (ps:List Bytes):List Value:=ps.map fun p=>.string (bs p)
theorem strC_len (ps:List Bytes):(strC ps).length=ps.length:=by simp [strC]
theorem strC_get {ps:List Bytes} {i:Nat} {p:Bytes} (h:ps[i]? = some p):(strC ps)[i]? = some (.string (bs p)):=by simp [strC,h]
theorem repN_strC {S:Nat→Prop} {w:World}:∀ (ps:List Bytes),RepN S w 1 (strsD ps) (strC ps)
 | []=>.nil
 | p :: ps=>.cons (cs:=[_]) (.v _ rfl) rfl (repN_strC ps)
theorem strC_of {S:Nat→Prop} {w:World}:∀ (ps:List Bytes) (cs:List Value),RepN S w 1 (strsD ps) cs→cs=strC ps
 | [],_,h=>by cases h;rfl
 | p :: ps,_,h=>by
  cases h with
  | cons h0 _ h1 =>
   have h0:Rep S w (.v (.string (bs p))) _:=h0
   rw [h0.v_form,strC_of ps _ h1];rfl
theorem StrV.lies {S:Nat→Prop} {w:World} {ps:List Bytes} {A:Option Addr} {c:Nat} (h:StrV S w ps A c):Lies S w A (strC ps):=by
 obtain ⟨css,h1,h2,_,_⟩:=h.slice_open
 rwa [strC_of _ _ h1] at h2
theorem Lies.take {S:Nat→Prop} {w:World} {A:Option Addr} {cs:List Value} (h:Lies S w A cs) (n:Nat):Lies S w A (cs.take n):=fun hne=>by
 obtain ⟨g,o,hA,hs,hc⟩:=h (fun e=>by rw [e] at hne;simp at hne)
 exact ⟨g,o,hA,hs,fun j u hj=>hc j u (by rw [List.getElem?_take] at hj;split at hj;exact hj;cases hj)⟩
theorem one_strC (ps:List Bytes):∀ u∈strC ps,u.oneCell'=true:=by
 intro u hu;obtain ⟨p,_,rfl⟩:=List.mem_map.1 hu;rfl
theorem own_strA {w:World} {base:Nat} {e:TypeId} {A:Option Addr} {n c:Nat} {ps:List Bytes} (h:w.ownsRow base e 1 (.slice A n c) n (strC ps)):StrV Any w ps A c:=by
 have hn:n=ps.length:=by have:=h.1;rw [strC_len] at this;omega
 subst hn
 exact rep_own h (repN_strC ps) (by simp [strsD]) (fun _ _ _=>trivial)
/-- texts of which so many are cut -/
def cutsP (n k:Nat) (ps:List Bytes):List Bytes:=(ps.take k).map (fun p=>p.take n) ++ ps.drop k
theorem cutsP_get {n k:Nat} {ps:List Bytes} {p:Bytes} (h:ps[k]? = some p):(cutsP n k ps)[k]? = some p:=by
 have hk:=(List.getElem?_eq_some_iff.1 h).1
 unfold cutsP
 rw [List.getElem?_append_right (by simp;omega)]
 simp [Nat.min_eq_left (Nat.le_of_lt hk),h]
theorem cutsP_set {n k:Nat} {ps:List Bytes} {p:Bytes} (h:ps[k]? = some p):(strC (cutsP n k ps)).set k (.string (bs (p.take n)))=strC (cutsP n (k+1) ps):=by
 have hk:=(List.getElem?_eq_some_iff.1 h).1
 unfold strC cutsP
 rw [take_snoc h,drop_cons h]
 simp only [List.map_append,List.map_cons,List.map_nil,List.append_assoc]
 rw [List.set_append_right _ _ (by simp;omega)]
 simp [Nat.min_eq_left (Nat.le_of_lt hk)]
theorem cutsP_all (n:Nat) (ps:List Bytes):cutsP n ps.length ps=ps.map (fun p=>p.take n):=by simp [cutsP]
theorem zero_fine:BgFine 0 [] []:=⟨by decide,by decide,fun a ha=>(by cases ha),fun a ha=>(by cases ha),fun a ha=>(by cases ha)⟩
theorem chainBegins_any (e:Nat) (he:e < 18446744073709551616) (l:List Ac) (hs:smallA l) (hp63:∀ a∈l,a.addr.length≤9223372036854775807) (Ar:Option Addr) (cr:Nat) (ps:List Bytes) (hq63:∀ p∈ps,p.length≤9223372036854775807) (A:Option Addr) (c:Nat) (w:World) (hvl:AcsV Any w l Ar cr) (hvs:StrV Any w ps A c) :
  Calls Tryz.prog 3 #[.int .u64 (e:Int),.slice Ar l.length cr,.slice A ps.length c] w fun e' w'=>e'=.returned (.bool true)∧Below w.heap.size w w':=by
 have hsm:=cut_small hs
 have hal:=cut_len l
 have hL30:((l.take 30).map cutA).length≤30:=by simp;omega
 have hFw:=rows22_any l hp63 Ar cr w hvl
 obtain ⟨L,hL⟩:∃ L,(l.take 30).map cutA=L:=⟨_,rfl⟩
 rw [hL] at hsm hal hL30 hFw
 have HFw:=Lib.hid hFw
 have HSM:=Lib.hid hsm
 have HAL:=Lib.hid hal
 have HVS:=Lib.hid hvs
 have hpl:=(Rep.slice_len hvs).2
 simp only [maxLen] at hpl
 have hpl63:(ps.length:Int)≤9223372036854775807:=by omega
 have HQ63:=Lib.hid hq63
 clear hFw hsm hal hvs hL hp63 hs hvl hq63
 go_enter Tryz.func3,Tryz.ntmps3
 go_wp2_with fail
 refine HFw.out.mono ?_
 rintro e' w1 ⟨A2,c2,rfl,hv1,hb1⟩
 have hv:=HVS.out.keep hb1
 have HVL:=Lib.hid hv1
 have HB1:=Lib.hid hb1
 obtain ⟨m,hm,hmm⟩:∃ m:Nat,min (ps.length:Int) 20=m∧m=min ps.length 20:=⟨min ps.length 20,by omega,rfl⟩
 have hm1:(m:Int)≤ps.length:=by omega
 have hm2:(m:Int)≤c:=by omega
 have hm3:(m:Int)≤20:=by omega
 have hq:(ps.take m).length=m:=by rw [List.length_take];omega
 have hown0:(w1.alloc (.cells #[] 9)).ownsRow w1.heap.size 9 1 (.slice (some ⟨w1.heap.size,0,none⟩) 0 0) 0 []:=World.ownsRow_lit w1 _ 0 (Nat.le_refl _) (by simp [maxLen]) rfl
 have hnews:Lies Any (w1.alloc (.cells #[] 9)) A (strC (ps.take m)):=by
  have h0:StrV Any (w1.alloc (.cells #[] 9)) ps A c:=Rep.alloc hv _
  have:=(StrV.lies h0).take m
  simpa [strC,List.map_take] using this
 have hqp:∀ p∈ps.take m,p.length≤9223372036854775807:=fun p h=>HQ63.out p (List.mem_of_mem_take h)
 clear hmm hv hv1 hb1
 generalize ps.take m=qs at hq hnews hqp
 subst hq
 have HL:=Lib.hid (show (strC qs).length=qs.length * 1 by rw [strC_len];omega)
 have HPL:=Lib.hid hqp
 clear hqp
 go_wp2_with (at_builtin;refine wpl_append elStr rfl rfl w1.heap.size hown0 rfl (m:=qs.length) (strC qs) rfl HL.out hnews (one_strC _) (by simp only [maxLen];omega) (by omega) (by simp) ?_;intro v1 w2 hown1 hg1 hat1;rw [Nat.zero_add] at hown1;obtain ⟨A1,c1,rfl⟩:=own_form hown1)
 have hb2:Below w1.heap.size w1 w2:=below_app ((Below.refl _ _).alloc (Nat.le_refl _) _) hown0 hg1 (by simp) (Nat.le_refl _)
 clear hm hown0 hnews hg1 hat1
 go_loopw [7,8,28] (fun _ _ i wr=>∃ j:Nat,j≤qs.length∧i=.int .i64 j∧wr.ownsRow w1.heap.size 9 1 (.slice A1 qs.length c1) qs.length (strC (cutsP 40 j qs))∧Below w1.heap.size w1 wr) (fun _ _ i _=>qs.length - (intOf i).toNat)
 case atStart=>exact ⟨0,Nat.zero_le _,rfl,hown1,hb2⟩
 case round =>
  obtain ⟨j,hj,rfl,hown,hb⟩:=hrel
  clear hown1 hb2
  by_cases hlt:j < qs.length
  ·obtain ⟨g,rfl,hg0,hg1⟩:=own_ptr hown (by omega)
   obtain ⟨p,hp⟩:=getElem_ex hlt
   have hc:=own_cell hown (strC_get (cutsP_get (n:=40) hp))
   have hf:=own_free hown j
   have hlt':(j:Int) < qs.length:=by omega
   have hpl:=HPL.out p (List.mem_of_getElem? hp)
   obtain ⟨m,hm,hmm⟩:∃ m:Nat,min (p.length:Int) 40=m∧m=min p.length 40:=⟨min p.length 40,by omega,rfl⟩
   have hm1:(m:Int)≤p.length:=by omega
   have Hs:=Lib.hid (cutsP_set (n:=40) hp)
   have Hm:=Lib.hid (show p.take 40=p.take m by rw [hmm,List.take_eq_take_min];rw [Nat.min_comm])
   have HO:=Lib.hid hown
   clear hp hmm hown
   go_wp2_with fail
   go_roundw
   case rel =>
    have h:=own_set HO.out j (.string (bs (p.take 40)))
    rw [Hs.out,Hm.out] at h
    exact ⟨j+1,hlt,by go_num,h,hb.setCell (p:=⟨g,j,none⟩) hg0 _⟩
   case measure=>simp [intOf];omega
  ·obtain rfl:j=qs.length:=by omega
   have hlt':¬ (qs.length:Int) < qs.length:=by omega
   rw [cutsP_all] at hown
   obtain ⟨rs,hrs⟩:∃ rs,qs.map (fun p=>p.take 40)=rs:=⟨_,rfl⟩
   have hrl:qs.length=rs.length:=by rw [← hrs,List.length_map]
   have hrp:∀ p∈rs,p.length≤40:=by
    rw [← hrs];intro p hp
    obtain ⟨q,_,rfl⟩:=List.mem_map.1 hp
    simp;omega
   rw [hrs] at hown
   have hvr:=own_strA hown
   have HF:Hid (BgFine e L rs):=Lib.hid ⟨he,by omega,HSM.out,fun a ha=>by have:=HAL.out a ha;omega,fun a ha=>by have:=hrp a ha;omega⟩
   have HV:Hid (BgV wr L rs A2 c2 A1 c1):=Lib.hid ⟨Rep.keep HVL.out hb,hvr⟩
   have HB:=Lib.hid (HB1.out.trans (hb.mono HB1.out.size))
   rw [hrl]
   clear hown hvr hb hrp hrs hlt hlt' hrl HL HPL hm1 hm2 hm3
   obtain ⟨ok,hok⟩:∃ ok,okBg e L rs=ok:=⟨_,rfl⟩
   have HOK:=Lib.hid hok
   clear hok
   have hltR:¬ (rs.length:Int) < rs.length:=by omega
   cases ok with
   | false =>
    have hk:okBg e L rs=false:=HOK.out
    have HK:=Lib.hid hk
    clear hk
    go_wp2_with fail
    refine (new_no e L rs HF.out HK.out A2 A1 c2 c1 _ HV.out).mono ?_
    rintro e' w3 ⟨rfl,hb3⟩
    have hP:=heap_alloc_new w3 (.cells #[.int .u64 0,.slice none 0 0,.slice none 0 0,.slice none 0 0,.slice none 0 0,.slice none 0 0,.slice none 0 0] 31)
    have hP2:=setRow_heap (w3.alloc (.cells #[.int .u64 0,.slice none 0 0,.slice none 0 0,.slice none 0 0,.slice none 0 0,.slice none 0 0,.slice none 0 0] 31)) w3.heap.size _ #[.int .u64 0,.slice none 0 0,.slice none 0 0,.slice none 0 0,.slice none 0 0,.slice none 0 0,.slice none 0 0] _ _ hP
    have hb4:=below_setRow (hb3.alloc hb3.size (.cells #[.int .u64 0,.slice none 0 0,.slice none 0 0,.slice none 0 0,.slice none 0 0,.slice none 0 0,.slice none 0 0] 31)) hb3.size #[.int .u64 0,.slice none 0 0,.slice none 0 0,.slice none 0 0,.slice none 0 0,.slice none 0 0,.slice none 0 0]
    have HP:=Lib.hid hP
    clear hb3 hP
    go_wp2_with (first | (refine wpList_store_row rfl _ _ _ rfl w3.heap.size #[.int .u64 0,.slice none 0 0,.slice none 0 0,.slice none 0 0,.slice none 0 0,.slice none 0 0,.slice none 0 0] rfl rfl _ _ HP.out infoCh rfl (one7 _ _ _ _ _ _ _ _ _ _ _ _ _ _ _ _ _ _ _) ?_;generalize (w3.alloc (.cells #[.int .u64 0,.slice none 0 0,.slice none 0 0,.slice none 0 0,.slice none 0 0,.slice none 0 0,.slice none 0 0] 31)).setRow w3.heap.size #[.int .u64 0,.slice none 0 0,.slice none 0 0,.slice none 0 0,.slice none 0 0,.slice none 0 0,.slice none 0 0]=W4 at hP2 hb4 ⊢;have HP4:=Lib.hid hP2;have HB4:=Lib.hid hb4;clear hP2 hb4) | (have hQ:=heap_alloc_new W4 (.cells #[.int .u64 0,.slice none 0 0,.slice none 0 0,.slice none 0 0,.slice none 0 0,.slice none 0 0,.slice none 0 0] 31);refine wpList_store_row rfl _ _ _ rfl W4.heap.size #[.int .u64 (e:Int),.slice A2 L.length c2,.slice A1 rs.length c1,.slice none 0 0,.slice A2 L.length c2,.slice A1 rs.length c1,.slice none 0 0] rfl rfl _ _ hQ infoCh rfl (one7 _ _ _ _ _ _ _ _ _ _ _ _ _ _ _ _ _ _ _) ?_;have hQ2:=setRow_heap (W4.alloc (.cells #[.int .u64 0,.slice none 0 0,.slice none 0 0,.slice none 0 0,.slice none 0 0,.slice none 0 0,.slice none 0 0] 31)) W4.heap.size _ #[.int .u64 (e:Int),.slice A2 L.length c2,.slice A1 rs.length c1,.slice none 0 0,.slice A2 L.length c2,.slice A1 rs.length c1,.slice none 0 0] _ _ hQ;have hb5:=below_setRow ((Below.refl W4.heap.size W4).alloc (Nat.le_refl _) (.cells #[.int .u64 0,.slice none 0 0,.slice none 0 0,.slice none 0 0,.slice none 0 0,.slice none 0 0,.slice none 0 0] 31)) (Nat.le_refl _) #[.int .u64 (e:Int),.slice A2 L.length c2,.slice A1 rs.length c1,.slice none 0 0,.slice A2 L.length c2,.slice A1 rs.length c1,.slice none 0 0];generalize (W4.alloc (.cells #[.int .u64 0,.slice none 0 0,.slice none 0 0,.slice none 0 0,.slice none 0 0,.slice none 0 0,.slice none 0 0] 31)).setRow W4.heap.size #[.int .u64 (e:Int),.slice A2 L.length c2,.slice A1 rs.length c1,.slice none 0 0,.slice A2 L.length c2,.slice A1 rs.length c1,.slice none 0 0]=W5 at hQ2 hb5 ⊢;have HQ5:=Lib.hid hQ2;have hp5:=(hb5.block _ (Array.getElem?_eq_some_iff.1 HP4.out).1).trans HP4.out;have HP5:=Lib.hid hp5;have HB5:=Lib.hid hb5;clear hQ hQ2 hb5 hp5) | (refine wpList_load_row rfl _ _ rfl w3.heap.size rfl _ _ _ _ HP5.out Tryz.underlying31 rfl infoCh ?_))
    obtain ⟨P,hPe⟩:∃ P,w3.heap.size=P:=⟨_,rfl⟩
    obtain ⟨Q,hQe⟩:∃ Q,W4.heap.size=Q:=⟨_,rfl⟩
    have hbb:=HB4.out.trans (HB5.out.mono HB4.out.size)
    have HV5:=Lib.hid (HV.out.keep hbb)
    have HB6:=Lib.hid (HB.out.trans (hbb.mono HB.out.size))
    have HW6:=Lib.hid (Below.refl W5.heap.size W5)
    rw [hPe] at HP5
    rw [hQe] at HQ5
    try rw [hPe]
    try rw [hQe]
    have HP6:=HP5
    have HQ6:=HQ5
    clear hPe hQe hbb HP HP4 HB4 HB5 HP5 HQ5
    have hz:∀ W:World,Calls Tryz.prog 6 #[.agg #[.int .u64 0,.slice none 0 0,.slice none 0 0,.slice none 0 0,.slice none 0 0,.slice none 0 0,.slice none 0 0]] W fun e' w'=>e'=.returned (.tuple #[.int .u64 0,.string ⟨#[]⟩,.int .i64 1])∧Below W.heap.size W w':=fun W=>head_no 0 [] [] zero_fine rfl none none 0 0 W ⟨Rep.nil_slice 3,Rep.nil_slice 1⟩
    have HZ:=Lib.hid hz
    clear hz
    refine (HZ.out _).mono ?_
    rintro e' w7 ⟨rfl,hb7⟩
    have HP7:=Lib.hid ((hb7.block _ (Array.getElem?_eq_some_iff.1 HP6.out).1).trans HP6.out)
    have HQ7:=Lib.hid ((hb7.block _ (Array.getElem?_eq_some_iff.1 HQ6.out).1).trans HQ6.out)
    have HB7:=Lib.hid (below_call HB6.out HB6.out.size hb7)
    have HW7:=Lib.hid (below_call HW6.out HW6.out.size hb7)
    clear hb7 HP6 HQ6 HB6 HW6
    go_wp2_with (refine wpList_load_row rfl _ _ rfl Q rfl _ _ _ _ HQ7.out Tryz.underlying31 rfl infoCh ?_)
    have hbe:=rbegins_any e L rs HF.out A2 A1 c2 c1 w7 (HV5.out.keep HW7.out)
    rw [HK.out] at hbe
    have HBE:=Lib.hid hbe
    clear hbe
    refine (HBE.out).mono ?_
    rintro e' w8 ⟨rfl,hb8⟩
    have HP8:=Lib.hid ((hb8.block _ (Array.getElem?_eq_some_iff.1 HP7.out).1).trans HP7.out)
    have HQ8:=Lib.hid ((hb8.block _ (Array.getElem?_eq_some_iff.1 HQ7.out).1).trans HQ7.out)
    have HB8:=Lib.hid (below_call HB7.out HB7.out.size hb8)
    have HW8:=Lib.hid (below_call HW7.out HW7.out.size hb8)
    clear hb8 HP7 HQ7 HB7 HW7
    go_wp2_with fail
    refine (alive22_any _).mono ?_
    rintro e' w9 ⟨rfl,hb9⟩
    have HP9:=Lib.hid ((hb9.block _ (Array.getElem?_eq_some_iff.1 HP8.out).1).trans HP8.out)
    have HQ9:=Lib.hid ((hb9.block _ (Array.getElem?_eq_some_iff.1 HQ8.out).1).trans HQ8.out)
    have HB9:=Lib.hid (below_call HB8.out HB8.out.size hb9)
    have HW9:=Lib.hid (below_call HW8.out HW8.out.size hb9)
    clear hb9 HP8 HQ8 HB8 HW8
    have hl:∀ W:World,Calls Tryz.prog 9 #[.agg #[.int .u64 0,.slice none 0 0,.slice none 0 0,.slice none 0 0,.slice none 0 0,.slice none 0 0,.slice none 0 0],.agg #[.int .u64 0,.slice none 0 0,.slice none 0 0,.slice none 0 0,.slice none 0 0,.slice none 0 0,.slice none 0 0]] W fun e' w'=>e'=.returned (.bool true)∧Below W.heap.size W w':=fun W=>like22_any 0 [] [] none none none none 0 0 0 0 W ⟨Rep.nil_slice 3,Rep.nil_slice 1⟩ ⟨Rep.nil_slice 3,Rep.nil_slice 1⟩
    have HL:=Lib.hid hl
    clear hl
    go_wp2_with (refine wpl_load_w (by rfl) rfl rfl HP9.out Tryz.underlying31 rfl infoCh ?_)
    refine (HL.out _).mono ?_
    rintro e' w10 ⟨rfl,hb10⟩
    have HP10:=Lib.hid ((hb10.block _ (Array.getElem?_eq_some_iff.1 HP9.out).1).trans HP9.out)
    have HQ10:=Lib.hid ((hb10.block _ (Array.getElem?_eq_some_iff.1 HQ9.out).1).trans HQ9.out)
    have HB10:=Lib.hid (below_call HB9.out HB9.out.size hb10)
    have HW10:=Lib.hid (below_call HW9.out HW9.out.size hb10)
    clear hb10 HP9 HQ9 HB9 HW9
    go_wp2_with (refine wpl_load_w (by rfl) rfl rfl HQ10.out Tryz.underlying31 rfl infoCh ?_)
    refine (cright_no e L rs HF.out HK.out A2 A1 c2 c1 _ (HV5.out.keep HW10.out)).mono ?_
    rintro e' w11 ⟨rfl,hb11⟩
    have HP11:=Lib.hid ((hb11.block _ (Array.getElem?_eq_some_iff.1 HP10.out).1).trans HP10.out)
    have HQ11:=Lib.hid ((hb11.block _ (Array.getElem?_eq_some_iff.1 HQ10.out).1).trans HQ10.out)
    have HB11:=Lib.hid (below_call HB10.out HB10.out.size hb11)
    have HW11:=Lib.hid (below_call HW10.out HW10.out.size hb11)
    clear hb11 HP10 HQ10 HB10 HW10
    go_wp2_with fail
    go_ret
    exact ⟨rfl,HB11.out⟩
   | true =>
    have hk:okBg e L rs=true:=HOK.out
    have HK:=Lib.hid hk
    clear hk
    go_wp2_with fail
    refine (new_yes e L rs HF.out HK.out A2 A1 c2 c1 _ HV.out).mono ?_
    rintro e' w3 ⟨rfl,hb3⟩
    have hP:=heap_alloc_new w3 (.cells #[.int .u64 0,.slice none 0 0,.slice none 0 0,.slice none 0 0,.slice none 0 0,.slice none 0 0,.slice none 0 0] 31)
    have hP2:=setRow_heap (w3.alloc (.cells #[.int .u64 0,.slice none 0 0,.slice none 0 0,.slice none 0 0,.slice none 0 0,.slice none 0 0,.slice none 0 0] 31)) w3.heap.size _ #[.int .u64 (e:Int),.slice A2 L.length c2,.slice A1 rs.length c1,.slice none 0 0,.slice A2 L.length c2,.slice A1 rs.length c1,.slice none 0 0] _ _ hP
    have hb4:=below_setRow (hb3.alloc hb3.size (.cells #[.int .u64 0,.slice none 0 0,.slice none 0 0,.slice none 0 0,.slice none 0 0,.slice none 0 0,.slice none 0 0] 31)) hb3.size #[.int .u64 (e:Int),.slice A2 L.length c2,.slice A1 rs.length c1,.slice none 0 0,.slice A2 L.length c2,.slice A1 rs.length c1,.slice none 0 0]
    have HP:=Lib.hid hP
    clear hb3 hP
    go_wp2_with (first | (refine wpList_store_row rfl _ _ _ rfl w3.heap.size #[.int .u64 (e:Int),.slice A2 L.length c2,.slice A1 rs.length c1,.slice none 0 0,.slice A2 L.length c2,.slice A1 rs.length c1,.slice none 0 0] rfl rfl _ _ HP.out infoCh rfl (one7 _ _ _ _ _ _ _ _ _ _ _ _ _ _ _ _ _ _ _) ?_;generalize (w3.alloc (.cells #[.int .u64 0,.slice none 0 0,.slice none 0 0,.slice none 0 0,.slice none 0 0,.slice none 0 0,.slice none 0 0] 31)).setRow w3.heap.size #[.int .u64 (e:Int),.slice A2 L.length c2,.slice A1 rs.length c1,.slice none 0 0,.slice A2 L.length c2,.slice A1 rs.length c1,.slice none 0 0]=W4 at hP2 hb4 ⊢;have HP4:=Lib.hid hP2;have HB4:=Lib.hid hb4;clear hP2 hb4) | (have hQ:=heap_alloc_new W4 (.cells #[.int .u64 0,.slice none 0 0,.slice none 0 0,.slice none 0 0,.slice none 0 0,.slice none 0 0,.slice none 0 0] 31);refine wpList_store_row rfl _ _ _ rfl W4.heap.size #[.int .u64 (e:Int),.slice A2 L.length c2,.slice A1 rs.length c1,.slice none 0 0,.slice A2 L.length c2,.slice A1 rs.length c1,.slice none 0 0] rfl rfl _ _ hQ infoCh rfl (one7 _ _ _ _ _ _ _ _ _ _ _ _ _ _ _ _ _ _ _) ?_;have hQ2:=setRow_heap (W4.alloc (.cells #[.int .u64 0,.slice none 0 0,.slice none 0 0,.slice none 0 0,.slice none 0 0,.slice none 0 0,.slice none 0 0] 31)) W4.heap.size _ #[.int .u64 (e:Int),.slice A2 L.length c2,.slice A1 rs.length c1,.slice none 0 0,.slice A2 L.length c2,.slice A1 rs.length c1,.slice none 0 0] _ _ hQ;have hb5:=below_setRow ((Below.refl W4.heap.size W4).alloc (Nat.le_refl _) (.cells #[.int .u64 0,.slice none 0 0,.slice none 0 0,.slice none 0 0,.slice none 0 0,.slice none 0 0,.slice none 0 0] 31)) (Nat.le_refl _) #[.int .u64 (e:Int),.slice A2 L.length c2,.slice A1 rs.length c1,.slice none 0 0,.slice A2 L.length c2,.slice A1 rs.length c1,.slice none 0 0];generalize (W4.alloc (.cells #[.int .u64 0,.slice none 0 0,.slice none 0 0,.slice none 0 0,.slice none 0 0,.slice none 0 0,.slice none 0 0] 31)).setRow W4.heap.size #[.int .u64 (e:Int),.slice A2 L.length c2,.slice A1 rs.length c1,.slice none 0 0,.slice A2 L.length c2,.slice A1 rs.length c1,.slice none 0 0]=W5 at hQ2 hb5 ⊢;have HQ5:=Lib.hid hQ2;have hp5:=(hb5.block _ (Array.getElem?_eq_some_iff.1 HP4.out).1).trans HP4.out;have HP5:=Lib.hid hp5;have HB5:=Lib.hid hb5;clear hQ hQ2 hb5 hp5) | (refine wpList_load_row rfl _ _ rfl w3.heap.size rfl _ _ _ _ HP5.out Tryz.underlying31 rfl infoCh ?_))
    obtain ⟨P,hPe⟩:∃ P,w3.heap.size=P:=⟨_,rfl⟩
    obtain ⟨Q,hQe⟩:∃ Q,W4.heap.size=Q:=⟨_,rfl⟩
    have hbb:=HB4.out.trans (HB5.out.mono HB4.out.size)
    have HV5:=Lib.hid (HV.out.keep hbb)
    have HB6:=Lib.hid (HB.out.trans (hbb.mono HB.out.size))
    have HW6:=Lib.hid (Below.refl W5.heap.size W5)
    rw [hPe] at HP5
    rw [hQe] at HQ5
    try rw [hPe]
    try rw [hQe]
    have HP6:=HP5
    have HQ6:=HQ5
    clear hPe hQe hbb HP HP4 HB4 HB5 HP5 HQ5
    refine (head_yes e L rs HF.out HK.out A2 A1 c2 c1 _ HV5.out).mono ?_
    rintro e' w7 ⟨rfl,hb7⟩
    have HP7:=Lib.hid ((hb7.block _ (Array.getElem?_eq_some_iff.1 HP6.out).1).trans HP6.out)
    have HQ7:=Lib.hid ((hb7.block _ (Array.getElem?_eq_some_iff.1 HQ6.out).1).trans HQ6.out)
    have HB7:=Lib.hid (below_call HB6.out HB6.out.size hb7)
    have HW7:=Lib.hid (below_call HW6.out HW6.out.size hb7)
    clear hb7 HP6 HQ6 HB6 HW6
    obtain ⟨hd,hhd⟩:∃ hd,headC e L rs=hd:=⟨_,rfl⟩
    rw [hhd]
    have HHD:=Lib.hid hhd
    clear hhd
    go_wp2_with (refine wpList_load_row rfl _ _ rfl Q rfl _ _ _ _ HQ7.out Tryz.underlying31 rfl infoCh ?_)
    have hbe:=rbegins_any e L rs HF.out A2 A1 c2 c1 w7 (HV5.out.keep HW7.out)
    rw [HK.out] at hbe
    have HBE:=Lib.hid hbe
    clear hbe
    refine (HBE.out).mono ?_
    rintro e' w8 ⟨rfl,hb8⟩
    have HP8:=Lib.hid ((hb8.block _ (Array.getElem?_eq_some_iff.1 HP7.out).1).trans HP7.out)
    have HQ8:=Lib.hid ((hb8.block _ (Array.getElem?_eq_some_iff.1 HQ7.out).1).trans HQ7.out)
    have HB8:=Lib.hid (below_call HB7.out HB7.out.size hb8)
    have HW8:=Lib.hid (below_call HW7.out HW7.out.size hb8)
    clear hb8 HP7 HQ7 HB7 HW7
    go_wp2_with (refine wpList_load_row rfl _ _ rfl Q rfl _ _ _ _ HQ8.out Tryz.underlying31 rfl infoCh ?_)
    have hrh:=rhead_any e L rs HF.out HK.out A2 A1 c2 c1 w8 (HV5.out.keep HW8.out)
    rw [HHD.out] at hrh
    have HRH:=Lib.hid hrh
    clear hrh
    refine (HRH.out).mono ?_
    rintro e' w9 ⟨rfl,hb9⟩
    have HP9:=Lib.hid ((hb9.block _ (Array.getElem?_eq_some_iff.1 HP8.out).1).trans HP8.out)
    have HQ9:=Lib.hid ((hb9.block _ (Array.getElem?_eq_some_iff.1 HQ8.out).1).trans HQ8.out)
    have HB9:=Lib.hid (below_call HB8.out HB8.out.size hb9)
    have HW9:=Lib.hid (below_call HW8.out HW8.out.size hb9)
    clear hb9 HP8 HQ8 HB8 HW8
    go_wp2_with fail
    refine (alive22_any _).mono ?_
    rintro e' w10 ⟨rfl,hb10⟩
    have HP10:=Lib.hid ((hb10.block _ (Array.getElem?_eq_some_iff.1 HP9.out).1).trans HP9.out)
    have HQ10:=Lib.hid ((hb10.block _ (Array.getElem?_eq_some_iff.1 HQ9.out).1).trans HQ9.out)
    have HB10:=Lib.hid (below_call HB9.out HB9.out.size hb10)
    have HW10:=Lib.hid (below_call HW9.out HW9.out.size hb10)
    clear hb10 HP9 HQ9 HB9 HW9
    go_wp2_with (first | (refine wpl_load_w (by rfl) rfl rfl HP10.out Tryz.underlying31 rfl infoCh ?_) | (refine wpl_load_w (by rfl) rfl rfl HQ10.out Tryz.underlying31 rfl infoCh ?_))
    refine (like22_any e L rs A2 A1 A2 A1 c2 c1 c2 c1 _ (HV5.out.keep HW10.out) (HV5.out.keep HW10.out)).mono ?_
    rintro e' w11 ⟨rfl,hb11⟩
    have HP11:=Lib.hid ((hb11.block _ (Array.getElem?_eq_some_iff.1 HP10.out).1).trans HP10.out)
    have HQ11:=Lib.hid ((hb11.block _ (Array.getElem?_eq_some_iff.1 HQ10.out).1).trans HQ10.out)
    have HB11:=Lib.hid (below_call HB10.out HB10.out.size hb11)
    have HW11:=Lib.hid (below_call HW10.out HW10.out.size hb11)
    clear hb11 HP10 HQ10 HB10 HW10
    have hdd:(hd == hd)=true:=by rw [beq_self_eq_true]
    go_wp2_with (refine wpl_load_w (by rfl) rfl rfl HP11.out Tryz.underlying31 rfl infoCh ?_)
    refine (cright_yes e L rs HF.out HK.out A2 A1 c2 c1 _ (HV5.out.keep HW11.out)).mono ?_
    rintro e' w12 ⟨rfl,hb12⟩
    have HP12:=Lib.hid ((hb12.block _ (Array.getElem?_eq_some_iff.1 HP11.out).1).trans HP11.out)
    have HQ12:=Lib.hid ((hb12.block _ (Array.getElem?_eq_some_iff.1 HQ11.out).1).trans HQ11.out)
    have HB12:=Lib.hid (below_call HB11.out HB11.out.size hb12)
    have HW12:=Lib.hid (below_call HW11.out HW11.out.size hb12)
    clear hb12 HP11 HQ11 HB11 HW11
    go_wp2_with fail
    go_ret
    exact ⟨rfl,HB12.out⟩
end Go.Proofs.YtdfmheademcbkaaGreat
