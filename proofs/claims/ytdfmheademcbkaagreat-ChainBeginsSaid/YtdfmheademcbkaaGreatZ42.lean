/- The walk of state.Right. -/
import Derived.Test.YtdfmheademcbkaaGreatZ39
import Derived.Test.YtdfmheademcbkaaGreatZ40
import Derived.Test.YtdfmheademcbkaaGreatZ03
namespace Go.Proofs.YtdfmheademcbkaaGreat
set_option linter.unusedVariables false
set_option linter.unusedSimpArgs false
open Go.RowKit
set_option maxHeartbeats 8000000
set_option maxRecDepth 100000
theorem Right15_any (l:List Ac) (hl:l.length≤1000) (hs:smallA l) (A:Option Addr) (c:Nat) (w:World) (hv:AcsV Any w l A c) :
  Calls Tryz.prog 32 #[.slice A l.length c] w fun e w'=>e=.returned (.bool (rightS l))∧Below w.heap.size w w':=by
 have HV:=Lib.hid (Rep.old hv)
 have HS:=Lib.hid hs
 have hlI:(l.length:Int)≤1000:=by omega
 clear hv hs
 by_cases h24:l.length≤24
 ·have h24I:(l.length:Int)≤24:=by omega
  have HR:Hid (rightS l=rightL none supplyN l):=Lib.hid (by unfold rightS;rw [decide_eq_true h24];rfl)
  go_enter Tryz.func32,Tryz.ntmps32
  go_wp2_with fail
  go_loopw [3,11] (fun x a wr=>∃ i left:Nat,a=.int .i64 i∧x=.int .u64 left∧i≤l.length∧left≤4611686018427387904∧Hid (rightS l=rightL (prevA l i) left (l.drop i))∧Below w.heap.size w wr) (fun _ a _=>l.length - (intOf a).toNat)
  case atStart=>exact ⟨0,4611686018427387904,rfl,rfl,Nat.zero_le _,Nat.le_refl _,HR,Below.refl _ _⟩
  case round =>
   clear HR
   obtain ⟨i,left,rfl,rfl,hi,hleft,HR,hB⟩:=hrel
   by_cases hlt:i < l.length
   ·obtain ⟨a,ha⟩:=getElem_ex hlt
    obtain ⟨g,o,rfl,hgo,hc⟩:=acs_at HV.out ha
    have hltI:(i:Int) < l.length:=by omega
    have hsm:=HS.out a (List.mem_of_getElem? ha)
    rw [right_step ha] at HR
    have hpa:prevA l (i+1)=some a.addr:=by rw [prevA,ha];rfl
    obtain ⟨s,b,n⟩:=a
    simp only [] at hsm HR hpa
    have q0:=(hB.cell (p:=⟨g,o+i * 3+0,none⟩) hgo).trans (hc 0 _ rfl)
    have q1:=(hB.cell (p:=⟨g,o+i * 3+1,none⟩) hgo).trans (hc 1 _ rfl)
    have q2:=(hB.cell (p:=⟨g,o+i * 3+2,none⟩) hgo).trans (hc 2 _ rfl)
    simp only [Nat.add_zero] at q0 q1 q2
    obtain ⟨k,pvo,hk0,hk1,hkp,hpvo⟩:∃ (k:Nat) (pvo:Option Bytes),(i=0→pvo=none)∧(0 < i→i=k+1∧∃ pv,pvo=some pv)∧PrevAt wr g (o+k * 3) pvo∧prevA l i=pvo:=by
     cases i with
     | zero=>exact ⟨0,none,fun _=>rfl,fun h=>absurd h (by omega),fun pv h=>(by cases h),rfl⟩
     | succ k =>
      obtain ⟨p,hp⟩:=getElem_ex (show k < l.length by omega)
      refine ⟨k,some p.addr,fun h=>by omega,fun _=>⟨rfl,_,rfl⟩,fun pv h=>?_,by rw [prevA,hp];rfl⟩
      injection h with h
      subst h
      obtain ⟨g2,o2,h2,hgo2,hc2⟩:=acs_at HV.out hp
      injection h2 with h2
      injection h2 with h2 h3
      subst h2;subst h3
      exact (hB.cell (p:=⟨g,o+k * 3+0,none⟩) hgo2).trans (hc2 0 _ rfl)
    rw [hpvo] at HR
    obtain ⟨X,hXe⟩:∃ X,wr.heap.size=X:=⟨_,rfl⟩
    have hX0:=heap_alloc_new wr (.cells #[.string (bs s),.int .u64 (b:Int),.int .u64 (n:Int)] 44)
    have hb0:Below wr.heap.size wr (wr.alloc (.cells #[.string (bs s),.int .u64 (b:Int),.int .u64 (n:Int)] 44)):=(Below.refl _ _).alloc (Nat.le_refl _) _
    have hB0:=below_call hB hB.size hb0
    have hP0:PrevAt (wr.alloc (.cells #[.string (bs s),.int .u64 (b:Int),.int .u64 (n:Int)] 44)) g (o+k * 3) pvo:=PrevAt.keep hkp hb0
    rw [hXe] at hX0
    have HX0:=Lib.hid hX0
    have HB0:=Lib.hid hB0
    have HBW0:=Lib.hid hb0
    have HP0:=Lib.hid hP0
    have HPA:=Lib.hid hpa
    have HK1:=Lib.hid hk1
    have HK0:=Lib.hid hk0
    clear hX0 hb0 hB0 hP0 hkp hpvo hc ha hgo hpa hk1 hk0
    go_wp2_with fail
    try rw [hXe]
    have hX:(wr.alloc (.cells #[.string (bs s),.int .u64 (b:Int),.int .u64 (n:Int)] 44)).drew.heap[X]? = some (.cells #[.string (bs s),.int .u64 (b:Int),.int .u64 (n:Int)] 44 (0,0)):=HX0.out
    have hB:Below w.heap.size w (wr.alloc (.cells #[.string (bs s),.int .u64 (b:Int),.int .u64 (n:Int)] 44)).drew:=HB0.out.drew
    have hBW:Below wr.heap.size wr (wr.alloc (.cells #[.string (bs s),.int .u64 (b:Int),.int .u64 (n:Int)] 44)).drew:=HBW0.out.drew
    have hP:PrevAt (wr.alloc (.cells #[.string (bs s),.int .u64 (b:Int),.int .u64 (n:Int)] 44)).drew g (o+k * 3) pvo:=HP0.out
    clear HX0 HB0 HBW0 HP0 q0 q1 q2
    by_cases h20:s.length=20
    rotate_left
    ·have h20I:((s.length:Int) == 20)=false:=beq_eq_false_iff_ne.2 (by omega)
     have h20J:¬ (s.length:Int)=20:=by omega
     have HRB:Hid (rightS l=false):=Lib.hid (by rw [HR.out,if_pos (badA_n20 (by omega))])
     clear HR HS HV
     refine wp_region_R [(99,fun w'=>w'.heap[X]? = some (.cells #[.string (bs s),.int .u64 (b:Int),.int .u64 (n:Int)] 44 (0,0))∧PrevAt w' g (o+k * 3) pvo)] (by kernel_rfl) ?_
     generalize (wr.alloc (.cells #[.string (bs s),.int .u64 (b:Int),.int .u64 (n:Int)] 44)).drew=W at hX hB hBW hP ⊢
     refine R_p (i:=0) (v:=.pointer (some ⟨X,0,none⟩)) (Meets.here ⟨hX,hP⟩ Meets.nil) ?_
     refine R_l (i:=1) (v:=.string (bs s)) 99 _ List.mem_cons_self rfl (yieldsIf_load_cell rfl rfl rfl (fun w' hS=>rc hS.1 0 rfl) Tryz.underlying9 rfl) (Meets.here ⟨hX,hP⟩ Meets.nil) ?_
     refine R_p (i:=2) (v:=.int .i64 (s.length:Int)) (Meets.here ⟨hX,hP⟩ Meets.nil) ?_
     refine R_p (i:=3) (v:=.bool true) (Meets.here ⟨hX,hP⟩ Meets.nil) ?_
     refine R_p (i:=4) (v:=.bool true) (Meets.here ⟨hX,hP⟩ Meets.nil) ?_
     refine R_s (i:=5) (Meets.here ⟨hX,hP⟩ Meets.nil) ?_
     refine R_s (i:=6) (Meets.here ⟨hX,hP⟩ Meets.nil) ?_
     refine R_s (i:=7) (Meets.here ⟨hX,hP⟩ Meets.nil) ?_
     refine R_s (i:=8) (Meets.here ⟨hX,hP⟩ Meets.nil) ?_
     refine R_s (i:=9) (Meets.here ⟨hX,hP⟩ Meets.nil) ?_
     refine R_s (i:=10) (Meets.here ⟨hX,hP⟩ Meets.nil) ?_
     refine R_s (i:=11) (Meets.here ⟨hX,hP⟩ Meets.nil) ?_
     refine R_s (i:=12) (Meets.here ⟨hX,hP⟩ Meets.nil) ?_
     refine R_s (i:=13) (Meets.here ⟨hX,hP⟩ Meets.nil) ?_
     refine R_s (i:=14) (Meets.here ⟨hX,hP⟩ Meets.nil) ?_
     refine R_s (i:=15) (Meets.here ⟨hX,hP⟩ Meets.nil) ?_
     refine R_s (i:=16) (Meets.here ⟨hX,hP⟩ Meets.nil) ?_
     refine R_s (i:=17) (Meets.here ⟨hX,hP⟩ Meets.nil) ?_
     refine R_p (i:=18) (v:=.bool true) (Meets.here ⟨hX,hP⟩ Meets.nil) ?_
     refine R_p (i:=19) (v:=.bool true) (Meets.here ⟨hX,hP⟩ Meets.nil) ?_
     refine R_s (i:=20) (Meets.here ⟨hX,hP⟩ Meets.nil) ?_
     refine R_s (i:=21) (Meets.here ⟨hX,hP⟩ Meets.nil) ?_
     refine R_p (i:=22) (v:=.bool true) (Meets.here ⟨hX,hP⟩ Meets.nil) ?_
     refine R_p (i:=23) (v:=.bool true) (Meets.here ⟨hX,hP⟩ Meets.nil) ?_
     refine R_s (i:=24) (Meets.here ⟨hX,hP⟩ Meets.nil) ?_
     refine R_s (i:=25) (Meets.here ⟨hX,hP⟩ Meets.nil) ?_
     refine R_s (i:=26) (Meets.here ⟨hX,hP⟩ Meets.nil) ?_
     refine R_s (i:=27) (Meets.here ⟨hX,hP⟩ Meets.nil) ?_
     refine R_p (i:=28) (v:=.bool true) (Meets.here ⟨hX,hP⟩ Meets.nil) ?_
     refine R_done (by kernel_rfl) ?_ _
     go_wp2_with fail
     go_ret
     rw [HRB.out]
     exact ⟨rfl,hB⟩
    have h20I:((s.length:Int) == 20)=true:=beq_iff_eq.2 (by omega)
    have h20J:(s.length:Int)=20:=by omega
    by_cases h0:i=0
    ·obtain rfl:=HK0.out h0
     have h0I:¬ (0:Int) < i:=by omega
     have hC:∀ W:World,Calls Tryz.prog 58 #[.agg #[.string (bs s),.int .u64 (b:Int),.int .u64 (n:Int)]] W fun e w'=>e=.returned (.bool (b == 0 && n == 0))∧Below W.heap.size W w':=fun W=>empty_any ⟨s,b,n⟩ W
     cases hE:(b == 0 && n == 0)
     case true =>
      rw [hE] at hC
      have HC:=Lib.hid hC
      have HRB:Hid (rightS l=false):=Lib.hid (by rw [HR.out,if_pos (badA_empty hE)])
      clear HR HS HV hC hE
      refine wp_region_R [(99,fun w'=>w'.heap[X]? = some (.cells #[.string (bs s),.int .u64 (b:Int),.int .u64 (n:Int)] 44 (0,0))∧PrevAt w' g (o+k * 3) none)] (by kernel_rfl) ?_
      generalize (wr.alloc (.cells #[.string (bs s),.int .u64 (b:Int),.int .u64 (n:Int)] 44)).drew=W at hX hB hBW hP ⊢
      refine R_p (i:=0) (v:=.pointer (some ⟨X,0,none⟩)) (Meets.here ⟨hX,hP⟩ Meets.nil) ?_
      refine R_l (i:=1) (v:=.string (bs s)) 99 _ List.mem_cons_self rfl (yieldsIf_load_cell rfl rfl rfl (fun w' hS=>rc hS.1 0 rfl) Tryz.underlying9 rfl) (Meets.here ⟨hX,hP⟩ Meets.nil) ?_
      refine R_p (i:=2) (v:=.int .i64 (s.length:Int)) (Meets.here ⟨hX,hP⟩ Meets.nil) ?_
      refine R_p (i:=3) (v:=.bool false) (Meets.here ⟨hX,hP⟩ Meets.nil) ?_
      refine R_p (i:=4) (v:=.bool false) (Meets.here ⟨hX,hP⟩ Meets.nil) ?_
      refine R_p (i:=5) (v:=.int .i64 (i:Int)) (Meets.here ⟨hX,hP⟩ Meets.nil) ?_
      refine R_p (i:=6) (v:=.bool false) (Meets.here ⟨hX,hP⟩ Meets.nil) ?_
      refine R_p (i:=7) (v:=.bool false) (Meets.here ⟨hX,hP⟩ Meets.nil) ?_
      refine R_s (i:=8) (Meets.here ⟨hX,hP⟩ Meets.nil) ?_
      refine R_s (i:=9) (Meets.here ⟨hX,hP⟩ Meets.nil) ?_
      refine R_s (i:=10) (Meets.here ⟨hX,hP⟩ Meets.nil) ?_
      refine R_s (i:=11) (Meets.here ⟨hX,hP⟩ Meets.nil) ?_
      refine R_s (i:=12) (Meets.here ⟨hX,hP⟩ Meets.nil) ?_
      refine R_s (i:=13) (Meets.here ⟨hX,hP⟩ Meets.nil) ?_
      refine R_s (i:=14) (Meets.here ⟨hX,hP⟩ Meets.nil) ?_
      refine R_s (i:=15) (Meets.here ⟨hX,hP⟩ Meets.nil) ?_
      refine R_s (i:=16) (Meets.here ⟨hX,hP⟩ Meets.nil) ?_
      refine R_p (i:=17) (v:=.bool false) (Meets.here ⟨hX,hP⟩ Meets.nil) ?_
      refine R_p (i:=18) (v:=.bool false) (Meets.here ⟨hX,hP⟩ Meets.nil) ?_
      refine R_p (i:=19) (v:=.bool false) (Meets.here ⟨hX,hP⟩ Meets.nil) ?_
      refine R_l (i:=20) (v:=.agg #[.string (bs s),.int .u64 (b:Int),.int .u64 (n:Int)]) 99 _ List.mem_cons_self rfl (yieldsIf_load_row rfl rfl rfl (fun w' hS=>hS.1) Tryz.underlying44 rfl infoA) (Meets.here ⟨hX,hP⟩ Meets.nil) ?_
      refine R_now 21 fun K hK=>?_
      go_simp
      refine (HC.out _).mono ?_
      rintro e w6 ⟨rfl,hb6⟩
      replace hP:=hP.keep hb6
      replace hX:=(hb6.block _ (Array.getElem?_eq_some_iff.1 hX).1).trans hX
      replace hB:=below_call hB hB.size hb6
      replace hBW:=below_call hBW hBW.size hb6
      clear hb6
      refine hK.out _ _ (Meets.here ⟨hX,hP⟩ Meets.nil) (fun hMeets=>?_)
      clear hK K hMeets
      refine lay_R ?_
      refine R_p (i:=22) (v:=.bool true) (Meets.here ⟨hX,hP⟩ Meets.nil) ?_
      refine R_p (i:=23) (v:=.bool true) (Meets.here ⟨hX,hP⟩ Meets.nil) ?_
      refine R_s (i:=24) (Meets.here ⟨hX,hP⟩ Meets.nil) ?_
      refine R_s (i:=25) (Meets.here ⟨hX,hP⟩ Meets.nil) ?_
      refine R_s (i:=26) (Meets.here ⟨hX,hP⟩ Meets.nil) ?_
      refine R_s (i:=27) (Meets.here ⟨hX,hP⟩ Meets.nil) ?_
      refine R_p (i:=28) (v:=.bool true) (Meets.here ⟨hX,hP⟩ Meets.nil) ?_
      refine R_done (by kernel_rfl) ?_ _
      go_wp2_with fail
      go_ret
      rw [HRB.out]
      exact ⟨rfl,hB⟩
     rw [hE] at hC
     have HC:=Lib.hid hC
     by_cases hm:left < b
     ·have hmI:(left:Int) < b:=by omega
      have HRB:Hid (rightS l=false):=Lib.hid (by rw [HR.out,if_pos (badA_much hm)])
      clear HR HS HV hC hE
      refine wp_region_R [(99,fun w'=>w'.heap[X]? = some (.cells #[.string (bs s),.int .u64 (b:Int),.int .u64 (n:Int)] 44 (0,0))∧PrevAt w' g (o+k * 3) none)] (by kernel_rfl) ?_
      generalize (wr.alloc (.cells #[.string (bs s),.int .u64 (b:Int),.int .u64 (n:Int)] 44)).drew=W at hX hB hBW hP ⊢
      refine R_p (i:=0) (v:=.pointer (some ⟨X,0,none⟩)) (Meets.here ⟨hX,hP⟩ Meets.nil) ?_
      refine R_l (i:=1) (v:=.string (bs s)) 99 _ List.mem_cons_self rfl (yieldsIf_load_cell rfl rfl rfl (fun w' hS=>rc hS.1 0 rfl) Tryz.underlying9 rfl) (Meets.here ⟨hX,hP⟩ Meets.nil) ?_
      refine R_p (i:=2) (v:=.int .i64 (s.length:Int)) (Meets.here ⟨hX,hP⟩ Meets.nil) ?_
      refine R_p (i:=3) (v:=.bool false) (Meets.here ⟨hX,hP⟩ Meets.nil) ?_
      refine R_p (i:=4) (v:=.bool false) (Meets.here ⟨hX,hP⟩ Meets.nil) ?_
      refine R_p (i:=5) (v:=.int .i64 (i:Int)) (Meets.here ⟨hX,hP⟩ Meets.nil) ?_
      refine R_p (i:=6) (v:=.bool false) (Meets.here ⟨hX,hP⟩ Meets.nil) ?_
      refine R_p (i:=7) (v:=.bool false) (Meets.here ⟨hX,hP⟩ Meets.nil) ?_
      refine R_s (i:=8) (Meets.here ⟨hX,hP⟩ Meets.nil) ?_
      refine R_s (i:=9) (Meets.here ⟨hX,hP⟩ Meets.nil) ?_
      refine R_s (i:=10) (Meets.here ⟨hX,hP⟩ Meets.nil) ?_
      refine R_s (i:=11) (Meets.here ⟨hX,hP⟩ Meets.nil) ?_
      refine R_s (i:=12) (Meets.here ⟨hX,hP⟩ Meets.nil) ?_
      refine R_s (i:=13) (Meets.here ⟨hX,hP⟩ Meets.nil) ?_
      refine R_s (i:=14) (Meets.here ⟨hX,hP⟩ Meets.nil) ?_
      refine R_s (i:=15) (Meets.here ⟨hX,hP⟩ Meets.nil) ?_
      refine R_s (i:=16) (Meets.here ⟨hX,hP⟩ Meets.nil) ?_
      refine R_p (i:=17) (v:=.bool false) (Meets.here ⟨hX,hP⟩ Meets.nil) ?_
      refine R_p (i:=18) (v:=.bool false) (Meets.here ⟨hX,hP⟩ Meets.nil) ?_
      refine R_p (i:=19) (v:=.bool false) (Meets.here ⟨hX,hP⟩ Meets.nil) ?_
      refine R_l (i:=20) (v:=.agg #[.string (bs s),.int .u64 (b:Int),.int .u64 (n:Int)]) 99 _ List.mem_cons_self rfl (yieldsIf_load_row rfl rfl rfl (fun w' hS=>hS.1) Tryz.underlying44 rfl infoA) (Meets.here ⟨hX,hP⟩ Meets.nil) ?_
      refine R_now 21 fun K hK=>?_
      go_simp
      refine (HC.out _).mono ?_
      rintro e w6 ⟨rfl,hb6⟩
      replace hP:=hP.keep hb6
      replace hX:=(hb6.block _ (Array.getElem?_eq_some_iff.1 hX).1).trans hX
      replace hB:=below_call hB hB.size hb6
      replace hBW:=below_call hBW hBW.size hb6
      clear hb6
      refine hK.out _ _ (Meets.here ⟨hX,hP⟩ Meets.nil) (fun hMeets=>?_)
      clear hK K hMeets
      refine lay_R ?_
      refine R_p (i:=22) (v:=.bool false) (Meets.here ⟨hX,hP⟩ Meets.nil) ?_
      refine R_p (i:=23) (v:=.bool false) (Meets.here ⟨hX,hP⟩ Meets.nil) ?_
      refine R_p (i:=24) (v:=.pointer (some ⟨X,1,none⟩)) (Meets.here ⟨hX,hP⟩ Meets.nil) ?_
      refine R_l (i:=25) (v:=.int .u64 (b:Int)) 99 _ List.mem_cons_self rfl (yieldsIf_load_cell rfl rfl rfl (fun w' hS=>rc hS.1 1 rfl) Tryz.underlying22 rfl) (Meets.here ⟨hX,hP⟩ Meets.nil) ?_
      refine R_p (i:=26) (v:=.int .u64 (left:Int)) (Meets.here ⟨hX,hP⟩ Meets.nil) ?_
      refine R_p (i:=27) (v:=.bool true) (Meets.here ⟨hX,hP⟩ Meets.nil) ?_
      refine R_p (i:=28) (v:=.bool true) (Meets.here ⟨hX,hP⟩ Meets.nil) ?_
      refine R_done (by kernel_rfl) ?_ _
      go_wp2_with fail
      go_ret
      rw [HRB.out]
      exact ⟨rfl,hB⟩
     ·have hmI:¬ (left:Int) < b:=by omega
      have HRG:Hid (rightS l=rightL (prevA l (i+1)) (left - b) (l.drop (i+1))):=Lib.hid (by rw [HR.out,if_neg (by rw [badA_first h20 hE hm];decide)])
      clear HR HS HV hC hE
      refine wp_region_R [(99,fun w'=>w'.heap[X]? = some (.cells #[.string (bs s),.int .u64 (b:Int),.int .u64 (n:Int)] 44 (0,0))∧PrevAt w' g (o+k * 3) none)] (by kernel_rfl) ?_
      generalize (wr.alloc (.cells #[.string (bs s),.int .u64 (b:Int),.int .u64 (n:Int)] 44)).drew=W at hX hB hBW hP ⊢
      refine R_p (i:=0) (v:=.pointer (some ⟨X,0,none⟩)) (Meets.here ⟨hX,hP⟩ Meets.nil) ?_
      refine R_l (i:=1) (v:=.string (bs s)) 99 _ List.mem_cons_self rfl (yieldsIf_load_cell rfl rfl rfl (fun w' hS=>rc hS.1 0 rfl) Tryz.underlying9 rfl) (Meets.here ⟨hX,hP⟩ Meets.nil) ?_
      refine R_p (i:=2) (v:=.int .i64 (s.length:Int)) (Meets.here ⟨hX,hP⟩ Meets.nil) ?_
      refine R_p (i:=3) (v:=.bool false) (Meets.here ⟨hX,hP⟩ Meets.nil) ?_
      refine R_p (i:=4) (v:=.bool false) (Meets.here ⟨hX,hP⟩ Meets.nil) ?_
      refine R_p (i:=5) (v:=.int .i64 (i:Int)) (Meets.here ⟨hX,hP⟩ Meets.nil) ?_
      refine R_p (i:=6) (v:=.bool false) (Meets.here ⟨hX,hP⟩ Meets.nil) ?_
      refine R_p (i:=7) (v:=.bool false) (Meets.here ⟨hX,hP⟩ Meets.nil) ?_
      refine R_s (i:=8) (Meets.here ⟨hX,hP⟩ Meets.nil) ?_
      refine R_s (i:=9) (Meets.here ⟨hX,hP⟩ Meets.nil) ?_
      refine R_s (i:=10) (Meets.here ⟨hX,hP⟩ Meets.nil) ?_
      refine R_s (i:=11) (Meets.here ⟨hX,hP⟩ Meets.nil) ?_
      refine R_s (i:=12) (Meets.here ⟨hX,hP⟩ Meets.nil) ?_
      refine R_s (i:=13) (Meets.here ⟨hX,hP⟩ Meets.nil) ?_
      refine R_s (i:=14) (Meets.here ⟨hX,hP⟩ Meets.nil) ?_
      refine R_s (i:=15) (Meets.here ⟨hX,hP⟩ Meets.nil) ?_
      refine R_s (i:=16) (Meets.here ⟨hX,hP⟩ Meets.nil) ?_
      refine R_p (i:=17) (v:=.bool false) (Meets.here ⟨hX,hP⟩ Meets.nil) ?_
      refine R_p (i:=18) (v:=.bool false) (Meets.here ⟨hX,hP⟩ Meets.nil) ?_
      refine R_p (i:=19) (v:=.bool false) (Meets.here ⟨hX,hP⟩ Meets.nil) ?_
      refine R_l (i:=20) (v:=.agg #[.string (bs s),.int .u64 (b:Int),.int .u64 (n:Int)]) 99 _ List.mem_cons_self rfl (yieldsIf_load_row rfl rfl rfl (fun w' hS=>hS.1) Tryz.underlying44 rfl infoA) (Meets.here ⟨hX,hP⟩ Meets.nil) ?_
      refine R_now 21 fun K hK=>?_
      go_simp
      refine (HC.out _).mono ?_
      rintro e w6 ⟨rfl,hb6⟩
      replace hP:=hP.keep hb6
      replace hX:=(hb6.block _ (Array.getElem?_eq_some_iff.1 hX).1).trans hX
      replace hB:=below_call hB hB.size hb6
      replace hBW:=below_call hBW hBW.size hb6
      clear hb6
      refine hK.out _ _ (Meets.here ⟨hX,hP⟩ Meets.nil) (fun hMeets=>?_)
      clear hK K hMeets
      refine lay_R ?_
      refine R_p (i:=22) (v:=.bool false) (Meets.here ⟨hX,hP⟩ Meets.nil) ?_
      refine R_p (i:=23) (v:=.bool false) (Meets.here ⟨hX,hP⟩ Meets.nil) ?_
      refine R_p (i:=24) (v:=.pointer (some ⟨X,1,none⟩)) (Meets.here ⟨hX,hP⟩ Meets.nil) ?_
      refine R_l (i:=25) (v:=.int .u64 (b:Int)) 99 _ List.mem_cons_self rfl (yieldsIf_load_cell rfl rfl rfl (fun w' hS=>rc hS.1 1 rfl) Tryz.underlying22 rfl) (Meets.here ⟨hX,hP⟩ Meets.nil) ?_
      refine R_p (i:=26) (v:=.int .u64 (left:Int)) (Meets.here ⟨hX,hP⟩ Meets.nil) ?_
      refine R_p (i:=27) (v:=.bool false) (Meets.here ⟨hX,hP⟩ Meets.nil) ?_
      refine R_p (i:=28) (v:=.bool false) (Meets.here ⟨hX,hP⟩ Meets.nil) ?_
      refine R_done (by kernel_rfl) ?_ _
      have c1:_=some (Value.int .u64 (b:Int)):=rc1 hX
      have HB:=Lib.hid hB
      have HX:=Lib.hid hX
      clear hX hB hP hBW
      have hw:IntKind.u64.wrap ((left:Int) - (b:Int))=((left - b:Nat):Int):=by rw [IntWalk.u64_in _ (by omega)];omega
      go_wp2_with fail
      go_roundw
      case rel=>exact ⟨i+1,left - b,by go_num,by simp,by omega,by omega,HRG,HB.out⟩
      case measure=>simp [intOf];omega
    ·obtain ⟨hik,pv,rfl⟩:=HK1.out (by omega)
     have h0I:(0:Int) < i:=by omega
     have h0N:0 < i:=by omega
     have s1:IntKind.i64.wrap ((i:Int) - 1)=(k:Int):=by rw [IntWalk.i64_in _ (by omega)];omega
     have hkI:(k:Int) < l.length:=by omega
     cases hbl:Op.bytesLess pv s
     case false =>
      have HRB:Hid (rightS l=false):=Lib.hid (by rw [HR.out,if_pos (badA_prev (by rw [← lessB_eq];exact hbl))])
      clear HR HS HV hik
      refine wp_region_R [(99,fun w'=>w'.heap[X]? = some (.cells #[.string (bs s),.int .u64 (b:Int),.int .u64 (n:Int)] 44 (0,0))∧PrevAt w' g (o+k * 3) (some pv))] (by kernel_rfl) ?_
      generalize (wr.alloc (.cells #[.string (bs s),.int .u64 (b:Int),.int .u64 (n:Int)] 44)).drew=W at hX hB hBW hP ⊢
      refine R_p (i:=0) (v:=.pointer (some ⟨X,0,none⟩)) (Meets.here ⟨hX,hP⟩ Meets.nil) ?_
      refine R_l (i:=1) (v:=.string (bs s)) 99 _ List.mem_cons_self rfl (yieldsIf_load_cell rfl rfl rfl (fun w' hS=>rc hS.1 0 rfl) Tryz.underlying9 rfl) (Meets.here ⟨hX,hP⟩ Meets.nil) ?_
      refine R_p (i:=2) (v:=.int .i64 (s.length:Int)) (Meets.here ⟨hX,hP⟩ Meets.nil) ?_
      refine R_p (i:=3) (v:=.bool false) (Meets.here ⟨hX,hP⟩ Meets.nil) ?_
      refine R_p (i:=4) (v:=.bool false) (Meets.here ⟨hX,hP⟩ Meets.nil) ?_
      refine R_p (i:=5) (v:=.int .i64 (i:Int)) (Meets.here ⟨hX,hP⟩ Meets.nil) ?_
      refine R_p (i:=6) (v:=.bool true) (Meets.here ⟨hX,hP⟩ Meets.nil) ?_
      refine R_p (i:=7) (v:=.bool true) (Meets.here ⟨hX,hP⟩ Meets.nil) ?_
      refine R_p (i:=8) (v:=.slice (some ⟨g,o,none⟩) l.length c) (Meets.here ⟨hX,hP⟩ Meets.nil) ?_
      refine R_p (i:=9) (v:=.int .i64 (i:Int)) (Meets.here ⟨hX,hP⟩ Meets.nil) ?_
      refine R_p (i:=10) (v:=.int .i64 (k:Int)) (Meets.here ⟨hX,hP⟩ Meets.nil) ?_
      refine R_p (i:=11) (v:=.pointer (some ⟨g,o+k * 3,none⟩)) (Meets.here ⟨hX,hP⟩ Meets.nil) ?_
      refine R_p (i:=12) (v:=.pointer (some ⟨g,o+k * 3,none⟩)) (Meets.here ⟨hX,hP⟩ Meets.nil) ?_
      refine R_l (i:=13) (v:=.string (bs pv)) 99 _ List.mem_cons_self rfl (yieldsIf_load_cell rfl rfl rfl (fun w' hS=>hS.2 pv rfl) Tryz.underlying9 rfl) (Meets.here ⟨hX,hP⟩ Meets.nil) ?_
      refine R_p (i:=14) (v:=.pointer (some ⟨X,0,none⟩)) (Meets.here ⟨hX,hP⟩ Meets.nil) ?_
      refine R_l (i:=15) (v:=.string (bs s)) 99 _ List.mem_cons_self rfl (yieldsIf_load_cell rfl rfl rfl (fun w' hS=>rc hS.1 0 rfl) Tryz.underlying9 rfl) (Meets.here ⟨hX,hP⟩ Meets.nil) ?_
      refine R_p (i:=16) (v:=.bool true) (Meets.here ⟨hX,hP⟩ Meets.nil) ?_
      refine R_p (i:=17) (v:=.bool true) (Meets.here ⟨hX,hP⟩ Meets.nil) ?_
      refine R_p (i:=18) (v:=.bool true) (Meets.here ⟨hX,hP⟩ Meets.nil) ?_
      refine R_p (i:=19) (v:=.bool true) (Meets.here ⟨hX,hP⟩ Meets.nil) ?_
      refine R_s (i:=20) (Meets.here ⟨hX,hP⟩ Meets.nil) ?_
      refine R_s (i:=21) (Meets.here ⟨hX,hP⟩ Meets.nil) ?_
      refine R_p (i:=22) (v:=.bool true) (Meets.here ⟨hX,hP⟩ Meets.nil) ?_
      refine R_p (i:=23) (v:=.bool true) (Meets.here ⟨hX,hP⟩ Meets.nil) ?_
      refine R_s (i:=24) (Meets.here ⟨hX,hP⟩ Meets.nil) ?_
      refine R_s (i:=25) (Meets.here ⟨hX,hP⟩ Meets.nil) ?_
      refine R_s (i:=26) (Meets.here ⟨hX,hP⟩ Meets.nil) ?_
      refine R_s (i:=27) (Meets.here ⟨hX,hP⟩ Meets.nil) ?_
      refine R_p (i:=28) (v:=.bool true) (Meets.here ⟨hX,hP⟩ Meets.nil) ?_
      refine R_done (by kernel_rfl) ?_ _
      go_wp2_with fail
      go_ret
      rw [HRB.out]
      exact ⟨rfl,hB⟩
     have HBL:=Lib.hid (show lessB pv s=true by rw [← lessB_eq];exact hbl)
     clear hik
     have hC:∀ W:World,Calls Tryz.prog 58 #[.agg #[.string (bs s),.int .u64 (b:Int),.int .u64 (n:Int)]] W fun e w'=>e=.returned (.bool (b == 0 && n == 0))∧Below W.heap.size W w':=fun W=>empty_any ⟨s,b,n⟩ W
     cases hE:(b == 0 && n == 0)
     case true =>
      rw [hE] at hC
      have HC:=Lib.hid hC
      have HRB:Hid (rightS l=false):=Lib.hid (by rw [HR.out,if_pos (badA_empty hE)])
      clear HR HS HV hC hE
      refine wp_region_R [(99,fun w'=>w'.heap[X]? = some (.cells #[.string (bs s),.int .u64 (b:Int),.int .u64 (n:Int)] 44 (0,0))∧PrevAt w' g (o+k * 3) (some pv))] (by kernel_rfl) ?_
      generalize (wr.alloc (.cells #[.string (bs s),.int .u64 (b:Int),.int .u64 (n:Int)] 44)).drew=W at hX hB hBW hP ⊢
      refine R_p (i:=0) (v:=.pointer (some ⟨X,0,none⟩)) (Meets.here ⟨hX,hP⟩ Meets.nil) ?_
      refine R_l (i:=1) (v:=.string (bs s)) 99 _ List.mem_cons_self rfl (yieldsIf_load_cell rfl rfl rfl (fun w' hS=>rc hS.1 0 rfl) Tryz.underlying9 rfl) (Meets.here ⟨hX,hP⟩ Meets.nil) ?_
      refine R_p (i:=2) (v:=.int .i64 (s.length:Int)) (Meets.here ⟨hX,hP⟩ Meets.nil) ?_
      refine R_p (i:=3) (v:=.bool false) (Meets.here ⟨hX,hP⟩ Meets.nil) ?_
      refine R_p (i:=4) (v:=.bool false) (Meets.here ⟨hX,hP⟩ Meets.nil) ?_
      refine R_p (i:=5) (v:=.int .i64 (i:Int)) (Meets.here ⟨hX,hP⟩ Meets.nil) ?_
      refine R_p (i:=6) (v:=.bool true) (Meets.here ⟨hX,hP⟩ Meets.nil) ?_
      refine R_p (i:=7) (v:=.bool true) (Meets.here ⟨hX,hP⟩ Meets.nil) ?_
      refine R_p (i:=8) (v:=.slice (some ⟨g,o,none⟩) l.length c) (Meets.here ⟨hX,hP⟩ Meets.nil) ?_
      refine R_p (i:=9) (v:=.int .i64 (i:Int)) (Meets.here ⟨hX,hP⟩ Meets.nil) ?_
      refine R_p (i:=10) (v:=.int .i64 (k:Int)) (Meets.here ⟨hX,hP⟩ Meets.nil) ?_
      refine R_p (i:=11) (v:=.pointer (some ⟨g,o+k * 3,none⟩)) (Meets.here ⟨hX,hP⟩ Meets.nil) ?_
      refine R_p (i:=12) (v:=.pointer (some ⟨g,o+k * 3,none⟩)) (Meets.here ⟨hX,hP⟩ Meets.nil) ?_
      refine R_l (i:=13) (v:=.string (bs pv)) 99 _ List.mem_cons_self rfl (yieldsIf_load_cell rfl rfl rfl (fun w' hS=>hS.2 pv rfl) Tryz.underlying9 rfl) (Meets.here ⟨hX,hP⟩ Meets.nil) ?_
      refine R_p (i:=14) (v:=.pointer (some ⟨X,0,none⟩)) (Meets.here ⟨hX,hP⟩ Meets.nil) ?_
      refine R_l (i:=15) (v:=.string (bs s)) 99 _ List.mem_cons_self rfl (yieldsIf_load_cell rfl rfl rfl (fun w' hS=>rc hS.1 0 rfl) Tryz.underlying9 rfl) (Meets.here ⟨hX,hP⟩ Meets.nil) ?_
      refine R_p (i:=16) (v:=.bool false) (Meets.here ⟨hX,hP⟩ Meets.nil) ?_
      refine R_p (i:=17) (v:=.bool false) (Meets.here ⟨hX,hP⟩ Meets.nil) ?_
      refine R_p (i:=18) (v:=.bool false) (Meets.here ⟨hX,hP⟩ Meets.nil) ?_
      refine R_p (i:=19) (v:=.bool false) (Meets.here ⟨hX,hP⟩ Meets.nil) ?_
      refine R_l (i:=20) (v:=.agg #[.string (bs s),.int .u64 (b:Int),.int .u64 (n:Int)]) 99 _ List.mem_cons_self rfl (yieldsIf_load_row rfl rfl rfl (fun w' hS=>hS.1) Tryz.underlying44 rfl infoA) (Meets.here ⟨hX,hP⟩ Meets.nil) ?_
      refine R_now 21 fun K hK=>?_
      go_simp
      refine (HC.out _).mono ?_
      rintro e w6 ⟨rfl,hb6⟩
      replace hP:=hP.keep hb6
      replace hX:=(hb6.block _ (Array.getElem?_eq_some_iff.1 hX).1).trans hX
      replace hB:=below_call hB hB.size hb6
      replace hBW:=below_call hBW hBW.size hb6
      clear hb6
      refine hK.out _ _ (Meets.here ⟨hX,hP⟩ Meets.nil) (fun hMeets=>?_)
      clear hK K hMeets
      refine lay_R ?_
      refine R_p (i:=22) (v:=.bool true) (Meets.here ⟨hX,hP⟩ Meets.nil) ?_
      refine R_p (i:=23) (v:=.bool true) (Meets.here ⟨hX,hP⟩ Meets.nil) ?_
      refine R_s (i:=24) (Meets.here ⟨hX,hP⟩ Meets.nil) ?_
      refine R_s (i:=25) (Meets.here ⟨hX,hP⟩ Meets.nil) ?_
      refine R_s (i:=26) (Meets.here ⟨hX,hP⟩ Meets.nil) ?_
      refine R_s (i:=27) (Meets.here ⟨hX,hP⟩ Meets.nil) ?_
      refine R_p (i:=28) (v:=.bool true) (Meets.here ⟨hX,hP⟩ Meets.nil) ?_
      refine R_done (by kernel_rfl) ?_ _
      go_wp2_with fail
      go_ret
      rw [HRB.out]
      exact ⟨rfl,hB⟩
     rw [hE] at hC
     have HC:=Lib.hid hC
     by_cases hm:left < b
     ·have hmI:(left:Int) < b:=by omega
      have HRB:Hid (rightS l=false):=Lib.hid (by rw [HR.out,if_pos (badA_much hm)])
      clear HR HS HV hC hE
      refine wp_region_R [(99,fun w'=>w'.heap[X]? = some (.cells #[.string (bs s),.int .u64 (b:Int),.int .u64 (n:Int)] 44 (0,0))∧PrevAt w' g (o+k * 3) (some pv))] (by kernel_rfl) ?_
      generalize (wr.alloc (.cells #[.string (bs s),.int .u64 (b:Int),.int .u64 (n:Int)] 44)).drew=W at hX hB hBW hP ⊢
      refine R_p (i:=0) (v:=.pointer (some ⟨X,0,none⟩)) (Meets.here ⟨hX,hP⟩ Meets.nil) ?_
      refine R_l (i:=1) (v:=.string (bs s)) 99 _ List.mem_cons_self rfl (yieldsIf_load_cell rfl rfl rfl (fun w' hS=>rc hS.1 0 rfl) Tryz.underlying9 rfl) (Meets.here ⟨hX,hP⟩ Meets.nil) ?_
      refine R_p (i:=2) (v:=.int .i64 (s.length:Int)) (Meets.here ⟨hX,hP⟩ Meets.nil) ?_
      refine R_p (i:=3) (v:=.bool false) (Meets.here ⟨hX,hP⟩ Meets.nil) ?_
      refine R_p (i:=4) (v:=.bool false) (Meets.here ⟨hX,hP⟩ Meets.nil) ?_
      refine R_p (i:=5) (v:=.int .i64 (i:Int)) (Meets.here ⟨hX,hP⟩ Meets.nil) ?_
      refine R_p (i:=6) (v:=.bool true) (Meets.here ⟨hX,hP⟩ Meets.nil) ?_
      refine R_p (i:=7) (v:=.bool true) (Meets.here ⟨hX,hP⟩ Meets.nil) ?_
      refine R_p (i:=8) (v:=.slice (some ⟨g,o,none⟩) l.length c) (Meets.here ⟨hX,hP⟩ Meets.nil) ?_
      refine R_p (i:=9) (v:=.int .i64 (i:Int)) (Meets.here ⟨hX,hP⟩ Meets.nil) ?_
      refine R_p (i:=10) (v:=.int .i64 (k:Int)) (Meets.here ⟨hX,hP⟩ Meets.nil) ?_
      refine R_p (i:=11) (v:=.pointer (some ⟨g,o+k * 3,none⟩)) (Meets.here ⟨hX,hP⟩ Meets.nil) ?_
      refine R_p (i:=12) (v:=.pointer (some ⟨g,o+k * 3,none⟩)) (Meets.here ⟨hX,hP⟩ Meets.nil) ?_
      refine R_l (i:=13) (v:=.string (bs pv)) 99 _ List.mem_cons_self rfl (yieldsIf_load_cell rfl rfl rfl (fun w' hS=>hS.2 pv rfl) Tryz.underlying9 rfl) (Meets.here ⟨hX,hP⟩ Meets.nil) ?_
      refine R_p (i:=14) (v:=.pointer (some ⟨X,0,none⟩)) (Meets.here ⟨hX,hP⟩ Meets.nil) ?_
      refine R_l (i:=15) (v:=.string (bs s)) 99 _ List.mem_cons_self rfl (yieldsIf_load_cell rfl rfl rfl (fun w' hS=>rc hS.1 0 rfl) Tryz.underlying9 rfl) (Meets.here ⟨hX,hP⟩ Meets.nil) ?_
      refine R_p (i:=16) (v:=.bool false) (Meets.here ⟨hX,hP⟩ Meets.nil) ?_
      refine R_p (i:=17) (v:=.bool false) (Meets.here ⟨hX,hP⟩ Meets.nil) ?_
      refine R_p (i:=18) (v:=.bool false) (Meets.here ⟨hX,hP⟩ Meets.nil) ?_
      refine R_p (i:=19) (v:=.bool false) (Meets.here ⟨hX,hP⟩ Meets.nil) ?_
      refine R_l (i:=20) (v:=.agg #[.string (bs s),.int .u64 (b:Int),.int .u64 (n:Int)]) 99 _ List.mem_cons_self rfl (yieldsIf_load_row rfl rfl rfl (fun w' hS=>hS.1) Tryz.underlying44 rfl infoA) (Meets.here ⟨hX,hP⟩ Meets.nil) ?_
      refine R_now 21 fun K hK=>?_
      go_simp
      refine (HC.out _).mono ?_
      rintro e w6 ⟨rfl,hb6⟩
      replace hP:=hP.keep hb6
      replace hX:=(hb6.block _ (Array.getElem?_eq_some_iff.1 hX).1).trans hX
      replace hB:=below_call hB hB.size hb6
      replace hBW:=below_call hBW hBW.size hb6
      clear hb6
      refine hK.out _ _ (Meets.here ⟨hX,hP⟩ Meets.nil) (fun hMeets=>?_)
      clear hK K hMeets
      refine lay_R ?_
      refine R_p (i:=22) (v:=.bool false) (Meets.here ⟨hX,hP⟩ Meets.nil) ?_
      refine R_p (i:=23) (v:=.bool false) (Meets.here ⟨hX,hP⟩ Meets.nil) ?_
      refine R_p (i:=24) (v:=.pointer (some ⟨X,1,none⟩)) (Meets.here ⟨hX,hP⟩ Meets.nil) ?_
      refine R_l (i:=25) (v:=.int .u64 (b:Int)) 99 _ List.mem_cons_self rfl (yieldsIf_load_cell rfl rfl rfl (fun w' hS=>rc hS.1 1 rfl) Tryz.underlying22 rfl) (Meets.here ⟨hX,hP⟩ Meets.nil) ?_
      refine R_p (i:=26) (v:=.int .u64 (left:Int)) (Meets.here ⟨hX,hP⟩ Meets.nil) ?_
      refine R_p (i:=27) (v:=.bool true) (Meets.here ⟨hX,hP⟩ Meets.nil) ?_
      refine R_p (i:=28) (v:=.bool true) (Meets.here ⟨hX,hP⟩ Meets.nil) ?_
      refine R_done (by kernel_rfl) ?_ _
      go_wp2_with fail
      go_ret
      rw [HRB.out]
      exact ⟨rfl,hB⟩
     ·have hmI:¬ (left:Int) < b:=by omega
      have HRG:Hid (rightS l=rightL (prevA l (i+1)) (left - b) (l.drop (i+1))):=Lib.hid (by rw [HR.out,if_neg (by rw [badA_next HBL.out h20 hE hm];decide)])
      clear HR HS HV hC hE
      refine wp_region_R [(99,fun w'=>w'.heap[X]? = some (.cells #[.string (bs s),.int .u64 (b:Int),.int .u64 (n:Int)] 44 (0,0))∧PrevAt w' g (o+k * 3) (some pv))] (by kernel_rfl) ?_
      generalize (wr.alloc (.cells #[.string (bs s),.int .u64 (b:Int),.int .u64 (n:Int)] 44)).drew=W at hX hB hBW hP ⊢
      refine R_p (i:=0) (v:=.pointer (some ⟨X,0,none⟩)) (Meets.here ⟨hX,hP⟩ Meets.nil) ?_
      refine R_l (i:=1) (v:=.string (bs s)) 99 _ List.mem_cons_self rfl (yieldsIf_load_cell rfl rfl rfl (fun w' hS=>rc hS.1 0 rfl) Tryz.underlying9 rfl) (Meets.here ⟨hX,hP⟩ Meets.nil) ?_
      refine R_p (i:=2) (v:=.int .i64 (s.length:Int)) (Meets.here ⟨hX,hP⟩ Meets.nil) ?_
      refine R_p (i:=3) (v:=.bool false) (Meets.here ⟨hX,hP⟩ Meets.nil) ?_
      refine R_p (i:=4) (v:=.bool false) (Meets.here ⟨hX,hP⟩ Meets.nil) ?_
      refine R_p (i:=5) (v:=.int .i64 (i:Int)) (Meets.here ⟨hX,hP⟩ Meets.nil) ?_
      refine R_p (i:=6) (v:=.bool true) (Meets.here ⟨hX,hP⟩ Meets.nil) ?_
      refine R_p (i:=7) (v:=.bool true) (Meets.here ⟨hX,hP⟩ Meets.nil) ?_
      refine R_p (i:=8) (v:=.slice (some ⟨g,o,none⟩) l.length c) (Meets.here ⟨hX,hP⟩ Meets.nil) ?_
      refine R_p (i:=9) (v:=.int .i64 (i:Int)) (Meets.here ⟨hX,hP⟩ Meets.nil) ?_
      refine R_p (i:=10) (v:=.int .i64 (k:Int)) (Meets.here ⟨hX,hP⟩ Meets.nil) ?_
      refine R_p (i:=11) (v:=.pointer (some ⟨g,o+k * 3,none⟩)) (Meets.here ⟨hX,hP⟩ Meets.nil) ?_
      refine R_p (i:=12) (v:=.pointer (some ⟨g,o+k * 3,none⟩)) (Meets.here ⟨hX,hP⟩ Meets.nil) ?_
      refine R_l (i:=13) (v:=.string (bs pv)) 99 _ List.mem_cons_self rfl (yieldsIf_load_cell rfl rfl rfl (fun w' hS=>hS.2 pv rfl) Tryz.underlying9 rfl) (Meets.here ⟨hX,hP⟩ Meets.nil) ?_
      refine R_p (i:=14) (v:=.pointer (some ⟨X,0,none⟩)) (Meets.here ⟨hX,hP⟩ Meets.nil) ?_
      refine R_l (i:=15) (v:=.string (bs s)) 99 _ List.mem_cons_self rfl (yieldsIf_load_cell rfl rfl rfl (fun w' hS=>rc hS.1 0 rfl) Tryz.underlying9 rfl) (Meets.here ⟨hX,hP⟩ Meets.nil) ?_
      refine R_p (i:=16) (v:=.bool false) (Meets.here ⟨hX,hP⟩ Meets.nil) ?_
      refine R_p (i:=17) (v:=.bool false) (Meets.here ⟨hX,hP⟩ Meets.nil) ?_
      refine R_p (i:=18) (v:=.bool false) (Meets.here ⟨hX,hP⟩ Meets.nil) ?_
      refine R_p (i:=19) (v:=.bool false) (Meets.here ⟨hX,hP⟩ Meets.nil) ?_
      refine R_l (i:=20) (v:=.agg #[.string (bs s),.int .u64 (b:Int),.int .u64 (n:Int)]) 99 _ List.mem_cons_self rfl (yieldsIf_load_row rfl rfl rfl (fun w' hS=>hS.1) Tryz.underlying44 rfl infoA) (Meets.here ⟨hX,hP⟩ Meets.nil) ?_
      refine R_now 21 fun K hK=>?_
      go_simp
      refine (HC.out _).mono ?_
      rintro e w6 ⟨rfl,hb6⟩
      replace hP:=hP.keep hb6
      replace hX:=(hb6.block _ (Array.getElem?_eq_some_iff.1 hX).1).trans hX
      replace hB:=below_call hB hB.size hb6
      replace hBW:=below_call hBW hBW.size hb6
      clear hb6
      refine hK.out _ _ (Meets.here ⟨hX,hP⟩ Meets.nil) (fun hMeets=>?_)
      clear hK K hMeets
      refine lay_R ?_
      refine R_p (i:=22) (v:=.bool false) (Meets.here ⟨hX,hP⟩ Meets.nil) ?_
      refine R_p (i:=23) (v:=.bool false) (Meets.here ⟨hX,hP⟩ Meets.nil) ?_
      refine R_p (i:=24) (v:=.pointer (some ⟨X,1,none⟩)) (Meets.here ⟨hX,hP⟩ Meets.nil) ?_
      refine R_l (i:=25) (v:=.int .u64 (b:Int)) 99 _ List.mem_cons_self rfl (yieldsIf_load_cell rfl rfl rfl (fun w' hS=>rc hS.1 1 rfl) Tryz.underlying22 rfl) (Meets.here ⟨hX,hP⟩ Meets.nil) ?_
      refine R_p (i:=26) (v:=.int .u64 (left:Int)) (Meets.here ⟨hX,hP⟩ Meets.nil) ?_
      refine R_p (i:=27) (v:=.bool false) (Meets.here ⟨hX,hP⟩ Meets.nil) ?_
      refine R_p (i:=28) (v:=.bool false) (Meets.here ⟨hX,hP⟩ Meets.nil) ?_
      refine R_done (by kernel_rfl) ?_ _
      have c1:_=some (Value.int .u64 (b:Int)):=rc1 hX
      have HB:=Lib.hid hB
      have HX:=Lib.hid hX
      clear hX hB hP hBW
      have hw:IntKind.u64.wrap ((left:Int) - (b:Int))=((left - b:Nat):Int):=by rw [IntWalk.u64_in _ (by omega)];omega
      go_wp2_with fail
      go_roundw
      case rel=>exact ⟨i+1,left - b,by go_num,by simp,by omega,by omega,HRG,HB.out⟩
      case measure=>simp [intOf];omega
   ·obtain rfl:i=l.length:=by omega
    rw [right_end] at HR
    go_wp2_with fail
    go_ret
    rw [HR.out]
    exact ⟨rfl,hB⟩
 ·have h24I:¬ (l.length:Int)≤24:=by omega
  have h24J:24 < (l.length:Int):=by omega
  have HR:Hid (rightS l=false):=Lib.hid (by unfold rightS;rw [decide_eq_false h24];rfl)
  go_enter Tryz.func32,Tryz.ntmps32
  go_wp2_with fail
  go_ret
  rw [HR.out]
  exact ⟨rfl,Below.refl _ _⟩
end Go.Proofs.YtdfmheademcbkaaGreat
