/- The walk of the reference's Many. -/
import Derived.Test.YtdfmheademcbkaaGreatZ36
namespace Go.Proofs.YtdfmheademcbkaaGreat
set_option linter.unusedVariables false
set_option linter.unusedSimpArgs false
open Go.RowKit
set_option maxHeartbeats 4000000
set_option maxRecDepth 100000
/-- behind Many, up to 1000 -/
def ManyPost (fs:List Fd) (w:World) (e:Ending) (w':World):Prop:=∃ m:Nat,e=.returned (.int .i64 m)∧(totF fs≤1000→m≤1000)∧Below w.heap.size w w'
theorem Many11_any (fs:List Fd) (hl:fs.length≤1000) (A:Option Addr) (c:Nat) (w:World) (hv:FdsV Any w fs A c) :
  Calls Tryz.prog 92 #[.slice A fs.length c,.int .i64 1000] w (ManyPost fs w):=by
 have HV:=Lib.hid (Rep.old hv)
 have hl1:(fs.length:Int)≤1000:=by omega
 clear hv
 go_enter Tryz.func92,Tryz.ntmps92
 go_wp2_with fail
 go_loopw [5,14] (fun q a wr=>∃ (i:Nat) (ys:List Value),a=.int .i64 i∧i≤fs.length∧wr.ownsRow w.heap.size 56 3 q i ys∧Hid (RepN (Old w) w 3 (fdsD (fs.take i)) ys)∧Below w.heap.size w wr) (fun _ a _=>fs.length - (intOf a).toNat)
 case atStart=>exact ⟨0,[],rfl,Nat.zero_le _,World.ownsRow_lit w _ 0 (Nat.le_refl _) (Nat.zero_le _) rfl,Lib.hid .nil,(Below.refl _ _).alloc (Nat.le_refl _) _⟩
 case round =>
  obtain ⟨i,ys,rfl,hi,hown,hrep,hB⟩:=hrel
  obtain ⟨A',c',rfl⟩:=own_form hown
  have hBs:=hB.size
  by_cases hlt:i < fs.length
  ·obtain ⟨f,hf⟩:=getElem_ex hlt
   obtain ⟨g,o,A2,c2,rfl,hgo,hlv,hcf⟩:=fds_at HV.out hf
   have hlt':(i:Int) < fs.length:=by omega
   have q0:=(hB.cell (p:=⟨g,o+i * 3+0,none⟩) hgo).trans (hcf 0 _ rfl)
   have q1:=(hB.cell (p:=⟨g,o+i * 3+1,none⟩) hgo).trans (hcf 1 _ rfl)
   have q2:=(hB.cell (p:=⟨g,o+i * 3+2,none⟩) hgo).trans (hcf 2 _ rfl)
   simp only [Nat.add_zero] at q0
   have HR1:Hid (RepN (Old w) w 3 (fdsD (fs.take (i+1))) (ys ++ fdC f A2 c2)):=Lib.hid (by rw [take_snoc hf,fdsD_append];exact RepN.snoc (fd_rep hlv) rfl hrep.out)
   have HW:=Lib.hid hown
   have HB:=Lib.hid hB
   clear hf hown hrep hB hlv hcf
   go_wp2_with (at_builtin;refine wpl_append elField rfl rfl w.heap.size ((HW.out.alloc _).alloc _) rfl (m:=1) [.int .u64 (f.n:Int),.string (bs f.b),.slice A2 f.l.length c2] rfl rfl ?_ ?_ ?_ ?_ ?_ ?_;exact (lies_new' _ _ (by simp) _ _);(intro u hu;simp at hu;rcases hu with rfl | rfl | rfl <;> rfl);(simp only [maxLen];omega);omega;(simp;omega);intro v1 w4 hown4 hg4 hat4;obtain ⟨A3,c3,rfl⟩:=own_form hown4)
   go_roundw
   case rel=>exact ⟨i+1,ys ++ fdC f A2 c2,by go_num,by omega,hown4,HR1,below_app ((HB.out.alloc hBs _).alloc (by simp;omega) _) ((HW.out.alloc _).alloc _) hg4 (by simp;omega) (Nat.le_refl _)⟩
   case measure=>simp [intOf];omega
  ·obtain rfl:i=fs.length:=by omega
   have hrep0:=hrep.out
   rw [List.take_length] at hrep0
   have HW0:=Lib.hid hown
   have HP0:=Lib.hid hrep0
   have HB0:=Lib.hid hB
   clear hown hrep hrep0 hB hlt hi
   go_wp2_with fail
   go_loopw [5,8] (fun q a wr=>∃ (i:Nat) (Q:List Fd) (ys:List Value),a=.int .i64 i∧i≤Q.length∧Q.length≤1001∧Hid (totF fs≤1000→Q.length+sumL (Q.drop i)=totF fs)∧wr.ownsRow w.heap.size 56 3 q Q.length ys∧Hid (RepN (Old w) w 3 (fdsD Q) ys)∧Below w.heap.size w wr) (fun _ a _=>1001 - (intOf a).toNat)
   case atStart=>exact ⟨0,fs,ys,rfl,Nat.zero_le _,by omega,Lib.hid (fun _=>rfl),HW0.out,HP0,HB0.out⟩
   case round =>
    clear HW0 HP0 HB0 hBs
    obtain ⟨i,Q,ys,rfl,hi,hQ,hsum,hown,hrep,hB⟩:=hrel
    obtain ⟨A',c',rfl⟩:=own_form hown
    have hBs:=hB.size
    by_cases hlt:i < Q.length
    ·have hlt':(i:Int) < Q.length:=by omega
     by_cases hQ0:Q.length≤1000
     ·have hQI:(Q.length:Int)≤1000:=by omega
      obtain ⟨f,hf⟩:=getElem_ex hlt
      obtain ⟨g,A1,c1,rfl,hlv,d0,d1,d2⟩:=own_field hown hrep.out hf
      have hdr:sumL (Q.drop i)=f.l.length+sumL (Q.drop (i+1)):=by
       obtain ⟨hi',hfe⟩:=List.getElem?_eq_some_iff.1 hf
       rw [← List.getElem_cons_drop (h:=hi'),hfe];rfl
      have HS:Hid (totF fs≤1000→Q.length+sumL (Q.drop (i+1))+(f.l.length - 0)=totF fs):=Lib.hid (fun h=>by have:=hsum.out h;omega)
      have hfm:(f.l.length:Int)≤9223372036854775807:=by have h1:=(Rep.slice_len hlv).2.1;have h2:=(Rep.slice_len hlv).2.2;simp only [maxLen] at h2;omega
      have HL:=Lib.hid hlv
      have HW:=Lib.hid hown
      have HB:=Lib.hid hB
      clear hown hB hlv hdr hsum hf d0 d1
      obtain ⟨wo,hwo⟩:∃ wo:World,wo=wr:=⟨_,rfl⟩
      subst hwo
      go_wp2_with fail
      go_loopw [5,45] (fun q a wr=>∃ (j:Nat) (Q':List Fd) (ys:List Value),a=.int .i64 j∧j≤f.l.length∧i+1≤Q'.length∧Q'.length≤1001∧Hid (totF fs≤1000→Q'.length+sumL (Q'.drop (i+1))+(f.l.length - j)=totF fs)∧wr.ownsRow w.heap.size 56 3 q Q'.length ys∧Hid (RepN (Old w) w 3 (fdsD Q') ys)∧Below w.heap.size w wr) (fun _ a _=>f.l.length - (intOf a).toNat)
      case atStart=>exact ⟨0,Q,ys,rfl,Nat.zero_le _,by omega,hQ,HS,HW.out,hrep,HB.out⟩
      case round =>
       clear HW HB hrep HS d2
       obtain ⟨j,Q',ys',rfl,hj,hiQ,hQ',hsum,hown,hrep,hB⟩:=hrel
       obtain ⟨A2,c2,rfl⟩:=own_form hown
       have hBs':=hB.size
       by_cases hjl:j < f.l.length
       ·have hjI:(j:Int) < f.l.length:=by omega
        obtain ⟨x,hx⟩:=getElem_ex hjl
        obtain ⟨gx,ox,A3,c3,rfl,hgx,hlx,hcx⟩:=lfs_at HL.out hx
        have q0:=(hB.cell (p:=⟨gx,ox+j * 3+0,none⟩) hgx).trans (hcx 0 _ rfl)
        have q1:=(hB.cell (p:=⟨gx,ox+j * 3+1,none⟩) hgx).trans (hcx 1 _ rfl)
        have q2:=(hB.cell (p:=⟨gx,ox+j * 3+2,none⟩) hgx).trans (hcx 2 _ rfl)
        simp only [Nat.add_zero] at q0
        by_cases hq:Q'.length≤1000
        ·have hqI:(Q'.length:Int)≤1000:=by omega
         have HR1:Hid (RepN (Old w) w 3 (fdsD (Q' ++ [upF x])) (ys' ++ fdC (upF x) A3 c3)):=Lib.hid (by rw [fdsD_append];exact RepN.snoc (fd_rep (f:=upF x) hlx) rfl hrep.out)
         have HS1:Hid (totF fs≤1000→(Q' ++ [upF x]).length+sumL ((Q' ++ [upF x]).drop (i+1))+(f.l.length - (j+1))=totF fs):=Lib.hid (fun h=>by
          have:=hsum.out h
          rw [List.drop_append_of_le_length (by omega),sumL_append,List.length_append]
          simp [sumL,upF];omega)
         have HW:=Lib.hid hown
         have HB:=Lib.hid hB
         clear hown hrep hB hsum hlx hcx hx
         go_wp2_with (at_builtin;refine wpl_append elField rfl rfl w.heap.size ((HW.out.alloc _).alloc _) rfl (m:=1) (fdC (upF x) A3 c3) rfl rfl ?_ ?_ ?_ ?_ ?_ ?_;exact (lies_new' _ _ (by simp) _ _);(intro u hu;simp [fdC] at hu;rcases hu with rfl | rfl | rfl <;> rfl);(simp only [maxLen];omega);omega;(simp;omega);intro v1 w4 hown4 hg4 hat4;obtain ⟨A5,c5,rfl⟩:=own_form hown4)
         go_roundw
         case rel=>exact ⟨j+1,Q' ++ [upF x],ys' ++ fdC (upF x) A3 c3,by go_num,by omega,by simp;omega,by simp;omega,HS1,by rw [List.length_append];exact hown4,HR1,below_app ((HB.out.alloc hBs' _).alloc (by simp;omega) _) ((HW.out.alloc _).alloc _) hg4 (by simp;omega) (Nat.le_refl _)⟩
         case measure=>simp [intOf];omega
        ·have hqI:¬ (Q'.length:Int)≤1000:=by omega
         have HS1:Hid (totF fs≤1000→Q'.length+sumL (Q'.drop (i+1))+(f.l.length - (j+1))=totF fs):=Lib.hid (fun h=>by have:=hsum.out h;omega)
         have HW:=Lib.hid hown
         have HB:=Lib.hid hB
         clear hown hB hsum hlx hcx hx
         go_wp2_with fail
         go_roundw
         case rel=>exact ⟨j+1,Q',ys',by go_num,by omega,hiQ,hQ',HS1,HW.out.alloc _,hrep,HB.out.alloc hBs' _⟩
         case measure=>simp [intOf];omega
       ·obtain rfl:j=f.l.length:=by omega
        have HS1:Hid (totF fs≤1000→Q'.length+sumL (Q'.drop (i+1))=totF fs):=Lib.hid (fun h=>by have:=hsum.out h;omega)
        have HW:=Lib.hid hown
        have HB:=Lib.hid hB
        clear hown hB hsum
        go_wp2_with fail
        go_roundw
        case rel=>exact ⟨i+1,Q',ys',by go_num,hiQ,hQ',HS1,HW.out,hrep,HB.out⟩
        case measure=>simp [intOf];omega
     ·have hQI:¬ (Q.length:Int)≤1000:=by omega
      have HM:Hid (totF fs≤1000→Q.length≤1000):=Lib.hid (fun h=>by have:=hsum.out h;omega)
      have HB:=Lib.hid hB
      clear hown hB hsum hrep
      go_wp2_with fail
      go_ret
      exact ⟨Q.length,rfl,HM.out,HB.out⟩
    ·obtain rfl:i=Q.length:=by omega
     have HM:Hid (totF fs≤1000→Q.length≤1000):=Lib.hid (fun h=>by have:=hsum.out h;omega)
     have HB:=Lib.hid hB
     clear hown hB hsum hrep
     go_wp2_with fail
     go_ret
     exact ⟨Q.length,rfl,HM.out,HB.out⟩
/- The walks of the reference's fits, all, Fits. -/
theorem eqI (a b:Nat):((a:Int) == (b:Int))=(a == b):=by rw [Bool.eq_iff_iff];simp only [beq_iff_eq];omega
theorem fits_num (n:Nat) (b:Bytes) (A:Option Addr) (m cf:Nat) (w:World) :
  Calls Tryz.prog 146 #[.string (bs [110]),.agg #[.int .u64 (n:Int),.string (bs b),.slice A m cf]] w fun e w'=>e=.returned (.bool (m == 0 && fitC 110 (n,b)))∧Below w.heap.size w w':=by
 have hnB:((n:Int) == 0)=(n == 0):=eqI n 0
 have hmB:((m:Int) == 0)=(m == 0):=eqI m 0
 have hf:fitC 110 (n,b)=b.isEmpty:=rfl
 rw [hf]
 have hbB:(b == [])=b.isEmpty:=by cases b <;> rfl
 obtain ⟨x,hx⟩:∃ x,(n == 0)=x:=⟨_,rfl⟩
 obtain ⟨y,hy⟩:∃ y,(m == 0)=y:=⟨_,rfl⟩
 obtain ⟨z,hz⟩:∃ z,b.isEmpty=z:=⟨_,rfl⟩
 rw [hx] at hnB;rw [hy] at hmB ⊢;rw [hz] at hbB ⊢
 clear hf hx hy hz
 cases x <;> cases y <;> cases z
 all_goals
  go_enter Tryz.func146,Tryz.ntmps146
  go_wp2_with fail
  go_ret
  exact ⟨rfl,(Below.refl _ _).alloc (Nat.le_refl _) _⟩
theorem fits_byt (c:UInt8) (hc:c=104∨c=97∨c=115∨c=98) (n:Nat) (b:Bytes) (A:Option Addr) (m cf:Nat) (w:World) :
  Calls Tryz.prog 146 #[.string (bs [c]),.agg #[.int .u64 (n:Int),.string (bs b),.slice A m cf]] w fun e w'=>e=.returned (.bool (m == 0 && fitC c (n,b)))∧Below w.heap.size w w':=by
 have hnB:((n:Int) == 0)=(n == 0):=eqI n 0
 have hmB:((m:Int) == 0)=(m == 0):=eqI m 0
 obtain ⟨L,hL⟩:∃ L,(if c=98 then decide (b.length≤64) else b.length == sizeC c)=L:=⟨_,rfl⟩
 have hf:fitC c (n,b)=((n == 0) && L):=by
  rw [← hL]
  rcases hc with rfl | rfl | rfl | rfl <;> simp [fitC]
 rw [hf]
 have h104:c=104→((b.length:Int) == 32)=L:=fun h=>by subst h;rw [← hL];exact eqI _ 32
 have h97:c=97→((b.length:Int) == 20)=L:=fun h=>by subst h;rw [← hL];exact eqI _ 20
 have h115:c=115→((b.length:Int) == 65)=L:=fun h=>by subst h;rw [← hL];exact eqI _ 65
 have h98:c=98→decide ((b.length:Int)≤64)=L:=fun h=>by subst h;rw [← hL,if_pos rfl,Bool.eq_iff_iff];simp only [decide_eq_true_eq];omega
 obtain ⟨x,hx⟩:∃ x,(n == 0)=x:=⟨_,rfl⟩
 obtain ⟨y,hy⟩:∃ y,(m == 0)=y:=⟨_,rfl⟩
 rw [hx] at hnB ⊢;rw [hy] at hmB ⊢
 clear hf hx hy hL
 rcases hc with rfl | rfl | rfl | rfl
 ·have hl:=h104 rfl
  clear h104 h97 h115 h98
  cases x <;> cases y <;> cases L
  all_goals
   go_enter Tryz.func146,Tryz.ntmps146
   go_wp2_with fail
   go_ret
   exact ⟨rfl,(Below.refl _ _).alloc (Nat.le_refl _) _⟩
 ·have hl:=h97 rfl
  clear h104 h97 h115 h98
  cases x <;> cases y <;> cases L
  all_goals
   go_enter Tryz.func146,Tryz.ntmps146
   go_wp2_with fail
   go_ret
   exact ⟨rfl,(Below.refl _ _).alloc (Nat.le_refl _) _⟩
 ·have hl:=h115 rfl
  clear h104 h97 h115 h98
  cases x <;> cases y <;> cases L
  all_goals
   go_enter Tryz.func146,Tryz.ntmps146
   go_wp2_with fail
   go_ret
   exact ⟨rfl,(Below.refl _ _).alloc (Nat.le_refl _) _⟩
 ·have hl:=h98 rfl
  clear h104 h97 h115 h98
  cases x <;> cases y <;> cases L
  all_goals
   try simp only [decide_eq_true_eq,decide_eq_false_iff_not] at hl
   go_enter Tryz.func146,Tryz.ntmps146
   go_wp2_with fail
   go_ret
   exact ⟨rfl,(Below.refl _ _).alloc (Nat.le_refl _) _⟩
theorem fits_plain (c:UInt8) (hc:okC c) (n:Nat) (b:Bytes) (A:Option Addr) (m cf:Nat) (w:World) :
  Calls Tryz.prog 146 #[.string (bs [c]),.agg #[.int .u64 (n:Int),.string (bs b),.slice A m cf]] w fun e w'=>e=.returned (.bool (m == 0 && fitC c (n,b)))∧Below w.heap.size w w':=by
 rcases hc with rfl | h | h | h | h
 ·exact fits_num n b A m cf w
 ·exact fits_byt c (.inl h) n b A m cf w
 ·exact fits_byt c (.inr (.inl h)) n b A m cf w
 ·exact fits_byt c (.inr (.inr (.inl h))) n b A m cf w
 ·exact fits_byt c (.inr (.inr (.inr h))) n b A m cf w
/- The walks of the reference's fits at a list of plain kinds, all, Fits. -/
theorem fits_star (kc:UInt8) (hkc:okC kc) (f:Fd) (hl:f.l.length≤100000) (A:Option Addr) (c:Nat) (w:World) (hv:LfsV Any w f.l A c) :
  Calls Tryz.prog 146 #[.string (bs [42,kc]),.agg (fdC f A c).toArray] w fun e w'=>e=.returned (.bool (fitF ⟨kc,true⟩ f))∧Below w.heap.size w w':=by
 obtain ⟨n,b,l⟩:=f
 simp only [] at hl hv
 obtain ⟨ni,hni⟩:∃ ni:Int,(n:Int)=ni:=⟨_,rfl⟩
 have hfd:(fdC ⟨n,b,l⟩ A c).toArray=#[.int .u64 ni,.string (bs b),.slice A l.length c]:=by rw [← hni];rfl
 rw [hfd]
 have hnB:(ni == 0)=(n == 0):=by rw [← hni];exact eqI n 0
 have hnN:(ni != 0) = !(n == 0):=by rw [← hnB];rfl
 have hbB:(b == [])=b.isEmpty:=by cases b <;> rfl
 have hf:fitF ⟨kc,true⟩ ⟨n,b,l⟩=(((n == 0) && b.isEmpty) && (decide (l.length≤40) && l.all (fitC kc))):=by simp [fitF,Bool.and_assoc]
 rw [hf]
 obtain ⟨x,hx⟩:∃ x,(n == 0)=x:=⟨_,rfl⟩
 obtain ⟨z,hz⟩:∃ z,b.isEmpty=z:=⟨_,rfl⟩
 have hbE:b.isEmpty=z:=hz
 rw [hx] at hnB hnN ⊢;rw [hz] at hbB ⊢
 clear hni
 have hb:Below w.heap.size w (w.alloc (.cells #[.int .u64 ni,.string (bs b),.slice A l.length c] 56)):=(Below.refl _ _).alloc (Nat.le_refl _) _
 have HB:=Lib.hid hb
 have HV:=Lib.hid (Rep.old hv)
 have hlI:(l.length:Int)≤100000:=by omega
 clear hf hx hz hfd hb hv
 cases x
 ·clear hbB hbE
  go_enter Tryz.func146,Tryz.ntmps146
  go_wp2_with fail
  go_ret
  exact ⟨rfl,HB.out⟩
 ·cases z
  ·go_enter Tryz.func146,Tryz.ntmps146
   go_wp2_with fail
   go_ret
   exact ⟨rfl,HB.out⟩
  ·go_enter Tryz.func146,Tryz.ntmps146
   go_wp2_with fail
   go_loopw [85] (fun a wr=>∃ j:Nat,a=.int .i64 j∧j≤l.length∧Hid ((l.take j).all (fitC kc)=true)∧wr.heap[w.heap.size]? = some (.cells #[.int .u64 ni,.string (bs b),.slice A l.length c] 56 (0,0))∧Below w.heap.size w wr) (fun a _=>l.length - (intOf a).toNat)
   case atStart=>exact ⟨0,rfl,Nat.zero_le _,Lib.hid rfl,heap_alloc_new w _,HB.out⟩
   case round =>
    clear HB
    obtain ⟨j,rfl,hj,hall,hF,hB⟩:=hrel
    have hBs:=hB.size
    by_cases hjl:j < l.length
    ·have hjI:(j:Int) < l.length:=by omega
     obtain ⟨x,hx⟩:=getElem_ex hjl
     obtain ⟨gx,ox,A3,c3,rfl,hgx,hlx,hcx⟩:=lfs_at HV.out hx
     have q0:=(hB.cell (p:=⟨gx,ox+j * 3+0,none⟩) hgx).trans (hcx 0 _ rfl)
     have q1:=(hB.cell (p:=⟨gx,ox+j * 3+1,none⟩) hgx).trans (hcx 1 _ rfl)
     have q2:=(hB.cell (p:=⟨gx,ox+j * 3+2,none⟩) hgx).trans (hcx 2 _ rfl)
     simp only [Nat.add_zero] at q0
     have HSA:Hid ((l.take (j+1)).all (fitC kc)=((l.take j).all (fitC kc) && fitC kc x)):=Lib.hid (by rw [take_snoc hx,List.all_append];simp)
     have HC0:=fun w3:World=>fits_plain kc hkc x.1 x.2 A3 0 c3 w3
     have HXM:Hid (l.all (fitC kc)=true→fitC kc x=true):=Lib.hid (fun h=>List.all_eq_true.1 h x (List.mem_of_getElem? hx))
     obtain ⟨ok,hok⟩:∃ ok,fitC kc x=ok:=⟨_,rfl⟩
     have hm0:((0:Nat) == 0 && fitC kc (x.1,x.2))=ok:=by rw [← hok];rfl
     simp only [hm0] at HC0
     rw [hok] at HSA HXM
     have HC:Hid (∀ w3:World,Calls Tryz.prog 146 #[.string (bs [kc]),.agg #[.int .u64 ((upF x).n:Int),.string (bs (upF x).b),.slice A3 (upF x).l.length c3]] w3 fun e w'=>e=.returned (.bool ok)∧Below w3.heap.size w3 w'):=Lib.hid HC0
     have HB:=Lib.hid hB
     have HF:=Lib.hid hF
     clear hF hB hx hok hm0 HC0 hlx hcx
     go_wp2_with fail
     have hba:Below wr.heap.size wr (wr.alloc (.cells #[.int .u64 ((upF x).n:Int),.string (bs (upF x).b),.slice A3 (upF x).l.length c3] 56)).drew:=((Below.refl _ _).alloc (Nat.le_refl _) _).drew
     have hV:(wr.alloc (.cells #[.int .u64 ((upF x).n:Int),.string (bs (upF x).b),.slice A3 (upF x).l.length c3] 56)).drew.heap[wr.heap.size]? = some (.cells #[.int .u64 ((upF x).n:Int),.string (bs (upF x).b),.slice A3 (upF x).l.length c3] 56 (0,0)):=heap_alloc_new wr _
     have hB:=below_call HB.out hBs hba
     have hF:=(hba.block _ (Array.getElem?_eq_some_iff.1 HF.out).1).trans HF.out
     obtain ⟨V,hVe⟩:∃ V,wr.heap.size=V:=⟨_,rfl⟩
     rw [hVe] at hV ⊢
     clear hba
     refine wp_region_R [(99,fun w'=>w'.heap[V]? = some (.cells #[.int .u64 ((upF x).n:Int),.string (bs (upF x).b),.slice A3 (upF x).l.length c3] 56 (0,0)))] (by kernel_rfl) ?_
     generalize (wr.alloc (.cells #[.int .u64 ((upF x).n:Int),.string (bs (upF x).b),.slice A3 (upF x).l.length c3] 56)).drew=w3 at hV hB hF ⊢
     refine R_p (i:=0) (v:=.string (bs [42,kc])) (Meets.here hV Meets.nil) ?_
     refine R_p (i:=1) (v:=.string (bs [kc])) (Meets.here hV Meets.nil) ?_
     refine R_l (i:=2) (v:=.agg #[.int .u64 ((upF x).n:Int),.string (bs (upF x).b),.slice A3 (upF x).l.length c3]) 99 _ List.mem_cons_self rfl (yieldsIf_load_row rfl rfl rfl (fun w' hS=>hS) Tryz.underlying56 rfl infoF) (Meets.here hV Meets.nil) ?_
     refine R_now 3 fun K hK=>?_
     go_simp
     refine (HC.out w3).mono ?_
     rintro e w4 ⟨rfl,hb4⟩
     replace hV:=(hb4.block _ (Array.getElem?_eq_some_iff.1 hV).1).trans hV
     replace hF:=(hb4.block _ (Array.getElem?_eq_some_iff.1 hF).1).trans hF
     replace hB:=below_call hB hB.size hb4
     clear hb4
     refine hK.out _ _ (Meets.here hV Meets.nil) (fun hMeets=>?_)
     clear hK K hMeets
     refine lay_R ?_
     refine R_p (i:=4) (v:=.bool (!ok)) (Meets.here hV Meets.nil) ?_
     refine R_done (by kernel_rfl) ?_ _
     have HB4:=Lib.hid hB
     have HF4:=Lib.hid hF
     clear hB hV HB HC hF HF
     cases ok with
     | false =>
      have hno:l.all (fitC kc)=false:=Bool.eq_false_iff.2 (fun h=>by have:=HXM.out h;cases this)
      have HNO:=Lib.hid hno
      clear hno
      go_wp2_with fail
      go_ret
      rw [HNO.out]
      exact ⟨by simp,HB4.out⟩
     | true =>
      go_wp2_with fail
      go_roundw
      case rel=>exact ⟨j+1,by go_num,by omega,Lib.hid (by rw [HSA.out,hall.out];rfl),HF4.out,HB4.out⟩
      case measure=>simp [intOf];omega
    ·obtain rfl:j=l.length:=by omega
     have HAL:Hid (l.all (fitC kc)=true):=Lib.hid (by have:=hall.out;rwa [List.take_length] at this)
     have y2:wr.cell? ⟨w.heap.size,2,none⟩=some (.slice A l.length c):=rc2 hF
     have HB4:=Lib.hid hB
     clear hF hB hall
     by_cases h40:l.length≤40
     ·have h40I:(l.length:Int)≤40:=by omega
      go_wp2_with fail
      go_ret
      rw [HAL.out]
      exact ⟨by simp [h40],HB4.out⟩
     ·have h40I:¬ (l.length:Int)≤40:=by omega
      go_wp2_with fail
      go_ret
      exact ⟨rfl,HB4.out⟩
theorem refFits_kind (k:Kd) (hk:okC k.c) (f:Fd) (hl:f.l.length≤100000) (A:Option Addr) (c:Nat) (w:World) (hv:LfsV Any w f.l A c) :
  Calls Tryz.prog 146 #[.string (bs k.txt),.agg (fdC f A c).toArray] w fun e w'=>e=.returned (.bool (fitF k f))∧Below w.heap.size w w':=by
 obtain ⟨kc,st⟩:=k
 cases st with
 | true=>exact fits_star kc hk f hl A c w hv
 | false =>
  have:=fits_plain kc hk f.n f.b A f.l.length c w
  have hf:fitF ⟨kc,false⟩ f=((f.l.length == 0) && fitC kc (f.n,f.b)):=by
   unfold fitF;rw [if_neg (by simp)];cases f.l <;> simp
  rw [hf]
  exact this
theorem refAll_any (ks:List Kd) (hf:OkForm ks) (fs:List Fd) (hfl:fs.length≤1000) (hll:∀ f∈fs,f.l.length≤100000) (Ak:Option Addr) (ck:Nat) (A:Option Addr) (c:Nat) (w:World) (hks:StrV Any w (ks.map Kd.txt) Ak ck) (hv:FdsV Any w fs A c) :
  Calls Tryz.prog 93 #[.slice Ak ks.length ck,.slice A fs.length c] w fun e w'=>e=.returned (.bool (fitsP ks fs))∧Below w.heap.size w w':=by
 obtain ⟨OK,hOK⟩:∃ OK,fitsP ks fs=OK:=⟨_,rfl⟩
 rw [hOK]
 by_cases hlen:fs.length=ks.length
 case neg =>
  have hno:OK=false:=by rw [← hOK,← fits_range];simp [hlen]
  have hlI:((ks.length:Int) == (fs.length:Int))=false:=by rw [beq_eq_false_iff_ne];omega
  have hlN:((ks.length:Int) != (fs.length:Int))=true:=by simp [bne,hlI]
  subst hno
  clear hOK hlen hf hll hks hv
  go_enter Tryz.func93,Tryz.ntmps93
  go_wp2_with fail
  go_ret
  exact ⟨rfl,Below.refl _ _⟩
 have hlI:((ks.length:Int) == (fs.length:Int))=true:=by rw [beq_iff_eq];omega
 have hlN:((ks.length:Int) != (fs.length:Int))=false:=by simp [bne,hlI]
 have hOKr:Hid (OK=(List.range fs.length).all fun i=>fitF (ks.getD i noK) (fs.getD i noF)):=Lib.hid (by rw [← hOK,← fits_range];simp [hlen])
 have HLEN:=Lib.hid hlen
 have HOK:=Lib.hid hf
 have HLL:=Lib.hid hll
 have HKS:=Lib.hid (Rep.old hks)
 have HV:=Lib.hid (Rep.old hv)
 clear hOK hlen hf hll hks hv
 go_enter Tryz.func93,Tryz.ntmps93
 go_wp2_with fail
 go_loopw [13] (fun a wr=>∃ i:Nat,a=.int .i64 i∧i≤fs.length∧Hid ((List.range i).all (fun i=>fitF (ks.getD i noK) (fs.getD i noF))=true)∧Below w.heap.size w wr) (fun a _=>fs.length - (intOf a).toNat)
 case atStart=>exact ⟨0,rfl,Nat.zero_le _,Lib.hid rfl,Below.refl _ _⟩
 case round =>
  obtain ⟨i,rfl,hi,hall,hB⟩:=hrel
  by_cases hlt:i < fs.length
  ·have hlt':(i:Int) < fs.length:=by omega
   obtain ⟨f,hf⟩:=getElem_ex hlt
   obtain ⟨k,hk⟩:∃ k,ks[i]? = some k:=getElem_ex (by have:=HLEN.out;omega)
   have hikI:(i:Int) < ks.length:=by have:=HLEN.out;omega
   obtain ⟨gx,ox,A3,c3,rfl,hgx,hlx,hcx⟩:=fds_at HV.out hf
   obtain ⟨gk,ok,rfl,hgk,hck⟩:=StrV.at_ (p:=k.txt) HKS.out (by rw [List.getElem?_map,hk];rfl)
   have HSA:Hid ((List.range (i+1)).all (fun i=>fitF (ks.getD i noK) (fs.getD i noF))=((List.range i).all (fun i=>fitF (ks.getD i noK) (fs.getD i noF)) && fitF k f)):=Lib.hid (by
    rw [List.range_succ,List.all_append,List.all_cons,List.all_nil,Bool.and_true,getD_some hk,getD_some hf])
   have HXM:Hid (OK=true→fitF k f=true):=Lib.hid (fun h=>by
    rw [hOKr.out] at h
    have:=List.all_eq_true.1 h i (List.mem_range.2 hlt)
    rwa [getD_some hk,getD_some hf] at this)
   have HF:=Lib.hid hf
   have HK:=Lib.hid hk
   have HLX:=Lib.hid hlx
   have HB:=Lib.hid hB
   have HCX:=Lib.hid hcx
   have HCK:=Lib.hid hck
   clear hf hk hB hlx hcx hck
   go_wp2_with fail
   have hB:Below w.heap.size w wr.drew:=HB.out.drew
   have hk:wr.drew.cell? ⟨gk,ok+i,none⟩=some (.string (bs k.txt)):=(hB.cell (p:=⟨gk,ok+i,none⟩) hgk).trans HCK.out
   have hx:∀ j u,(fdC f A3 c3)[j]? = some u→wr.drew.cell? ⟨gx,ox+i * 3+j,none⟩=some u:=fun j u hj=>(hB.cell (p:=⟨gx,ox+i * 3+j,none⟩) hgx).trans (HCX.out j u hj)
   refine wp_region_R [(99,fun w'=>(w'.cell? ⟨gk,ok+i,none⟩=some (.string (bs k.txt)))∧∀ j u,(fdC f A3 c3)[j]? = some u→w'.cell? ⟨gx,ox+i * 3+j,none⟩=some u)] (by kernel_rfl) ?_
   generalize wr.drew=w3 at hB hk hx ⊢
   refine R_p (i:=0) (v:=.slice (some ⟨gk,ok,none⟩) ks.length ck) (Meets.here ⟨hk,hx⟩ Meets.nil) ?_
   refine R_p (i:=1) (v:=.int .i64 (i:Int)) (Meets.here ⟨hk,hx⟩ Meets.nil) ?_
   refine R_p (i:=2) (v:=.pointer (some ⟨gk,ok+i,none⟩)) (Meets.here ⟨hk,hx⟩ Meets.nil) ?_
   refine R_l (i:=3) (v:=.string (bs k.txt)) 99 _ List.mem_cons_self rfl (yieldsIf_load_cell rfl rfl rfl (fun w' hS=>hS.1) Tryz.underlying9 rfl) (Meets.here ⟨hk,hx⟩ Meets.nil) ?_
   refine R_p (i:=4) (v:=.slice (some ⟨gx,ox,none⟩) fs.length c) (Meets.here ⟨hk,hx⟩ Meets.nil) ?_
   refine R_p (i:=5) (v:=.int .i64 (i:Int)) (Meets.here ⟨hk,hx⟩ Meets.nil) ?_
   refine R_p (i:=6) (v:=.pointer (some ⟨gx,ox+i * 3,none⟩)) (Meets.here ⟨hk,hx⟩ Meets.nil) ?_
   refine R_l (i:=7) (v:=.agg (fdC f A3 c3).toArray) 99 _ List.mem_cons_self rfl (yieldsIf_load_at rfl rfl rfl (fdC f A3 c3) (fun w' hS=>hS.2) Tryz.underlying56 rfl infoF) (Meets.here ⟨hk,hx⟩ Meets.nil) ?_
   refine R_now 8 fun K hK=>?_
   go_simp
   refine (refFits_kind k (HOK.out k (List.mem_of_getElem? HK.out)) f (HLL.out f (List.mem_of_getElem? HF.out)) A3 c3 w3 (Rep.any (Rep.mono HLX.out (S':=Old w) fun b hb hs=>⟨hs,hB.block b hb⟩))).mono ?_
   rintro e w4 ⟨rfl,hb4⟩
   have hx4:∀ j u,(fdC f A3 c3)[j]? = some u→w4.cell? ⟨gx,ox+i * 3+j,none⟩=some u:=fun j u hj=>(hb4.cell (p:=⟨gx,ox+i * 3+j,none⟩) (lt_of_cell (hx j u hj))).trans (hx j u hj)
   replace hk:=(hb4.cell (lt_of_cell hk)).trans hk
   replace hB:=below_call hB hB.size hb4
   clear hb4 hx
   obtain ⟨okb,hokb⟩:∃ okb,fitF k f=okb:=⟨_,rfl⟩
   rw [hokb]
   refine hK.out _ _ (Meets.here ⟨hk,hx4⟩ Meets.nil) (fun hMeets=>?_)
   clear hK K hMeets
   refine lay_R ?_
   refine R_p (i:=9) (v:=.bool (!okb)) (Meets.here ⟨hk,hx4⟩ Meets.nil) ?_
   refine R_done (by kernel_rfl) ?_ _
   have HB4:=Lib.hid hB
   rw [hokb] at HSA HXM
   clear hB hk hx4 HB hokb
   cases okb with
   | false =>
    have hno:OK=false:=Bool.eq_false_iff.2 (fun h=>by have:=HXM.out h;cases this)
    have HNO:=Lib.hid hno
    clear hno
    go_wp2_with fail
    go_ret
    rw [HNO.out]
    exact ⟨rfl,HB4.out⟩
   | true =>
    go_wp2_with fail
    go_roundw
    case rel=>exact ⟨i+1,by go_num,by omega,Lib.hid (by rw [HSA.out,hall.out];rfl),HB4.out⟩
    case measure=>simp [intOf];omega
  ·obtain rfl:i=fs.length:=by omega
   have HOKT:Hid (OK=true):=Lib.hid (by rw [hOKr.out];exact hall.out)
   go_wp2_with fail
   go_ret
   rw [HOKT.out]
   exact ⟨rfl,hB⟩
/- The walk of the reference's Fits. -/
theorem refFits_any (ks:List Kd) (hf:OkForm ks) (hl:(formP ks).length≤40) (fs:List Fd) (hfl:fs.length≤1000) (hll:∀ f∈fs,f.l.length≤100000) (A:Option Addr) (c:Nat) (w:World) (hv:FdsV Any w fs A c) :
  Calls Tryz.prog 51 #[.string (bs (formP ks)),.slice A fs.length c] w fun e w'=>e=.returned (.bool (fitsP ks fs))∧Below w.heap.size w w':=by
 have hK:=refKinds_any ks hf hl w
 have hno:¬ totF fs≤1000→fitsP ks fs=false:=fun h=>Bool.eq_false_iff.2 fun h1=>by
  have:=fits_total ks fs h1
  omega
 have hall:∀ (Ak:Option Addr) (ck:Nat) (W:World),StrV Any W (ks.map Kd.txt) Ak ck→Below w.heap.size w W→Calls Tryz.prog 93 #[.slice Ak ks.length ck,.slice A fs.length c] W fun e w'=>e=.returned (.bool (fitsP ks fs))∧Below W.heap.size W w' :=
  fun Ak ck W hs hb=>refAll_any ks hf fs hfl hll Ak ck A c W hs (Rep.keep hv hb)
 obtain ⟨OK,hOK⟩:∃ OK,fitsP ks fs=OK:=⟨_,rfl⟩
 rw [hOK] at hno hall ⊢
 obtain ⟨F,hF⟩:∃ F,formP ks=F:=⟨_,rfl⟩
 rw [hF] at hK ⊢
 have HK:=Lib.hid hK
 have HA:=Lib.hid hall
 have HV:=Lib.hid hv
 have HNO:=Lib.hid hno
 clear hK hall hno hOK hF hv hf hll hl
 go_enter Tryz.func51,Tryz.ntmps51
 go_wp2_with fail
 refine HK.out.mono ?_
 clear HK
 rintro e w1 ⟨Ak,ck,rfl,hs1,hb1⟩
 have HS1:=Lib.hid hs1
 have HB1:=Lib.hid hb1
 clear hs1
 go_wp2_with fail
 refine (Many11_any fs hfl A c w1 (Rep.keep HV.out hb1)).mono ?_
 clear hb1
 rintro e w2 ⟨m,rfl,hm,hb2⟩
 have HB2:=Lib.hid (below_call HB1.out HB1.out.size hb2)
 have HS2:=Lib.hid (Rep.keep HS1.out hb2)
 have HM:=Lib.hid hm
 clear hm hb2 HS1 HB1
 by_cases hm:m≤1000
 ·have hmI:(m:Int)≤1000:=by omega
  go_wp2_with fail
  refine (HA.out Ak ck w2 (Rep.any HS2.out) HB2.out).mono ?_
  rintro e w3 ⟨rfl,hb3⟩
  have HB3:=Lib.hid (below_call HB2.out HB2.out.size hb3)
  clear hb3
  go_wp2_with fail
  go_ret
  exact ⟨rfl,HB3.out⟩
 ·have hmI:¬ (m:Int)≤1000:=by omega
  have hno:OK=false:=HNO.out (fun h=>hm (HM.out h))
  have HN:=Lib.hid hno
  clear hno hm
  go_wp2_with fail
  go_ret
  rw [HN.out]
  exact ⟨rfl,HB2.out⟩
/- The walk of the reference's item of a field. -/
theorem ritem_num (n:Nat) (hn:n < 18446744073709551616) (b:Bytes) (A:Option Addr) (m cf:Nat) (w:World) :
  Calls Tryz.prog 52 #[.string (bs [110]),.agg #[.int .u64 (n:Int),.string (bs b),.slice A m cf]] w fun e w'=>e=.returned (.agg #[.bool false,.string (bs (digs n)),.slice none 0 0])∧Below w.heap.size w w':=by
 obtain ⟨ni,hni⟩:∃ ni:Int,(n:Int)=ni:=⟨_,rfl⟩
 rw [hni]
 obtain ⟨W,hW⟩:∃ W,W=(w.alloc (.cells #[.int .u64 ni,.string (bs b),.slice A m cf] 56)).alloc (.cells #[.bool false,.string ⟨#[]⟩,.slice none 0 0] 86):=⟨_,rfl⟩
 have hb:Below w.heap.size w W:=by rw [hW];exact ((Below.refl _ _).alloc (Nat.le_refl _) _).alloc (by simp) _
 have hr:W.heap[w.heap.size+1]? = some (.cells #[.bool false,.string ⟨#[]⟩,.slice none 0 0] 86 (0,0)):=by
  rw [hW]
  have:=heap_alloc_new (w.alloc (.cells #[.int .u64 ni,.string (bs b),.slice A m cf] 56)) (.cells #[.bool false,.string ⟨#[]⟩,.slice none 0 0] 86)
  rwa [World.size_alloc] at this
 have hC:=refNumber_any ni (by omega) (by omega) W
 rw [show ni.toNat=n by omega] at hC
 rw [hW] at hb hr hC
 have HB:=Lib.hid hb
 have HR:=Lib.hid hr
 have HC:=Lib.hid hC
 clear hni hW hb hr hC hn
 go_enter Tryz.func52,Tryz.ntmps52
 go_wp2_with fail
 refine HC.out.mono ?_
 clear HC
 rintro e w1 ⟨rfl,hb1⟩
 have hr1:=(hb1.block _ (Array.getElem?_eq_some_iff.1 HR.out).1).trans HR.out
 have hB1:=below_call HB.out HB.out.size hb1
 have c0:w1.cell? ⟨w.heap.size+1,0,none⟩=some (.bool false):=rc0 hr1
 have c1:w1.cell? ⟨w.heap.size+1,1,none⟩=some (.string ⟨#[]⟩):=rc1 hr1
 have c2:w1.cell? ⟨w.heap.size+1,2,none⟩=some (.slice none 0 0):=rc2 hr1
 have f0:=rf hr1 0
 have f1:=rf hr1 1
 have f2:=rf hr1 2
 have HR1:=Lib.hid hr1
 have HB1:=Lib.hid hB1
 clear hr1 hB1 hb1 HB HR
 go_wp2_with fail
 have hfin:=heap_setCell_here (heap_setCell_here (heap_setCell_here HR1.out (i:=0) (.bool false)) (i:=1) (.string (bs (digs n)))) (i:=2) (.slice none 0 0)
 exact bodyPost_ret (v:=.agg #[.bool false,.string (bs (digs n)),.slice none 0 0]) (results_cell_row rfl _ _ (w.heap.size+1) _ _ _ _ rfl hfin Tryz.underlying86 rfl infoI) rfl ⟨rfl,((HB1.out.setCell (p:=⟨w.heap.size+1,_,_⟩) (Nat.le_succ _) _).setCell (p:=⟨w.heap.size+1,_,_⟩) (Nat.le_succ _) _).setCell (p:=⟨w.heap.size+1,_,_⟩) (Nat.le_succ _) _⟩
theorem ritem_byt (c:UInt8) (hc:c=104∨c=97∨c=115∨c=98) (n:Nat) (b:Bytes) (A:Option Addr) (m cf:Nat) (w:World) :
  Calls Tryz.prog 52 #[.string (bs [c]),.agg #[.int .u64 (n:Int),.string (bs b),.slice A m cf]] w fun e w'=>e=.returned (.agg #[.bool false,.string (bs b),.slice none 0 0])∧Below w.heap.size w w':=by
 obtain ⟨ni,hni⟩:∃ ni:Int,(n:Int)=ni:=⟨_,rfl⟩
 rw [hni]
 clear hni
 rcases hc with rfl | rfl | rfl | rfl
 all_goals
  go_enter Tryz.func52,Tryz.ntmps52
  go_wp2_with fail
 all_goals
  have h1:=heap_alloc_new (w.alloc (.cells #[.int .u64 ni,.string (bs b),.slice A m cf] 56)) (.cells #[.bool false,.string (bs b),.slice none 0 0] 86)
  rw [World.size_alloc] at h1
  have hfin:=(heap_alloc_old _ (.cells #[.bool true,.string ⟨#[]⟩,.slice none 0 0] 86) (by simp)).trans h1
  exact bodyPost_ret (v:=.agg #[.bool false,.string (bs b),.slice none 0 0]) (results_cell_row rfl _ _ (w.heap.size+1) _ _ _ _ rfl hfin Tryz.underlying86 rfl infoI) rfl ⟨rfl,(((Below.refl _ _).alloc (Nat.le_refl _) _).alloc (by simp) _).alloc (by simp;omega) _⟩
theorem ritem_plain (c:UInt8) (hc:okC c) (n:Nat) (hn:n < 18446744073709551616) (b:Bytes) (A:Option Addr) (m cf:Nat) (w:World) :
  Calls Tryz.prog 52 #[.string (bs [c]),.agg #[.int .u64 (n:Int),.string (bs b),.slice A m cf]] w (ItPost (lfI c (n,b)) w):=by
 have key:∀ (s:Bytes),lfI c (n,b)=leafIt s →
   Calls Tryz.prog 52 #[.string (bs [c]),.agg #[.int .u64 (n:Int),.string (bs b),.slice A m cf]] w (fun e w'=>e=.returned (.agg #[.bool false,.string (bs s),.slice none 0 0])∧Below w.heap.size w w') →
   Calls Tryz.prog 52 #[.string (bs [c]),.agg #[.int .u64 (n:Int),.string (bs b),.slice A m cf]] w (ItPost (lfI c (n,b)) w):=by
  intro s h1 h
  refine h.mono ?_
  rintro e w' ⟨rfl,hb⟩
  rw [h1]
  exact ⟨none,0,rfl,ItemV.leaf s false,hb⟩
 rcases hc with rfl | h | h | h | h
 ·exact key (digs n) (by simp [lfI]) (ritem_num n hn b A m cf w)
 ·exact key b (by subst h;simp [lfI]) (ritem_byt c (.inl h) n b A m cf w)
 ·exact key b (by subst h;simp [lfI]) (ritem_byt c (.inr (.inl h)) n b A m cf w)
 ·exact key b (by subst h;simp [lfI]) (ritem_byt c (.inr (.inr (.inl h))) n b A m cf w)
 ·exact key b (by subst h;simp [lfI]) (ritem_byt c (.inr (.inr (.inr h))) n b A m cf w)
/- The walk of the reference's item of a list of fields. -/
theorem ritem_star (kc:UInt8) (hkc:okC kc) (f:Fd) (hs:∀ x∈f.l,x.1 < 18446744073709551616) (hl:f.l.length≤100000) (A:Option Addr) (c:Nat) (w:World) (hv:LfsV Any w f.l A c) :
  Calls Tryz.prog 52 #[.string (bs [42,kc]),.agg (fdC f A c).toArray] w (ItPost (itemF ⟨kc,true⟩ f) w):=by
 obtain ⟨n,b,l⟩:=f
 simp only [] at hs hl hv
 obtain ⟨ni,hni⟩:∃ ni:Int,(n:Int)=ni:=⟨_,rfl⟩
 have hfd:(fdC ⟨n,b,l⟩ A c).toArray=#[.int .u64 ni,.string (bs b),.slice A l.length c]:=by rw [← hni];rfl
 rw [hfd,show itemF ⟨kc,true⟩ ⟨n,b,l⟩=listIt (l.map (lfI kc)) from rfl]
 have hlI:(l.length:Int)≤100000:=by omega
 obtain ⟨W,hW⟩:∃ W,W=((w.alloc (.cells #[.int .u64 ni,.string (bs b),.slice A l.length c] 56)).alloc (.cells #[.bool false,.string ⟨#[]⟩,.slice none 0 0] 86)).alloc (.cells #[.bool true,.string ⟨#[]⟩,.slice none 0 0] 86):=⟨_,rfl⟩
 obtain ⟨X,hXe⟩:∃ X,X=w.heap.size+1+1:=⟨_,rfl⟩
 have hb:Below w.heap.size w W:=by rw [hW];exact (((Below.refl _ _).alloc (Nat.le_refl _) _).alloc (by simp) _).alloc (by simp;omega) _
 have hX:W.heap[X]? = some (.cells #[.bool true,.string ⟨#[]⟩,.slice none 0 0] 86 (0,0)):=by
  rw [hW,hXe]
  have:=heap_alloc_new ((w.alloc (.cells #[.int .u64 ni,.string (bs b),.slice A l.length c] 56)).alloc (.cells #[.bool false,.string ⟨#[]⟩,.slice none 0 0] 86)) (.cells #[.bool true,.string ⟨#[]⟩,.slice none 0 0] 86)
  simpa only [World.size_alloc] using this
 have hR:W.heap[w.heap.size+1]? = some (.cells #[.bool false,.string ⟨#[]⟩,.slice none 0 0] 86 (0,0)):=by
  rw [hW,heap_alloc_old _ _ (by simp)]
  have:=heap_alloc_new (w.alloc (.cells #[.int .u64 ni,.string (bs b),.slice A l.length c] 56)) (.cells #[.bool false,.string ⟨#[]⟩,.slice none 0 0] 86)
  rwa [World.size_alloc] at this
 have hF:W.heap[w.heap.size]? = some (.cells #[.int .u64 ni,.string (bs b),.slice A l.length c] 56 (0,0)):=by
  rw [hW,heap_alloc_old _ _ (by simp;omega),heap_alloc_old _ _ (by simp)];exact heap_alloc_new w _
 have HW:=Lib.hid hW
 have HB:=Lib.hid hb
 have HX:=Lib.hid hX
 have HR:=Lib.hid hR
 have HF:=Lib.hid hF
 have HV:=Lib.hid (Rep.old hv)
 have HS:=Lib.hid hs
 have HXE:=Lib.hid hXe
 have hXw:w.heap.size+1 < X:=by omega
 clear hfd hni hW hb hX hR hF hv hs hXe
 go_enter Tryz.func52,Tryz.ntmps52
 go_wp2_with fail
 rw [← HW.out,← HXE.out]
 go_loopw [48] (fun a wr=>∃ (j:Nat) (ys:List Value) (u:Value),a=.int .i64 j∧j≤l.length∧wr.heap[X]? = some (.cells #[.bool true,.string ⟨#[]⟩,u] 86 (0,0))∧wr.heap[w.heap.size+1]? = some (.cells #[.bool false,.string ⟨#[]⟩,.slice none 0 0] 86 (0,0))∧wr.heap[w.heap.size]? = some (.cells #[.int .u64 ni,.string (bs b),.slice A l.length c] 56 (0,0)) ∧
   wr.ownsRow (X+1) 86 3 u j ys∧RepN (RowS (X+1) u) wr 3 (itemsD ((l.take j).map (lfI kc))) ys∧Below w.heap.size w wr) (fun a _=>l.length - (intOf a).toNat)
 case atStart=>exact ⟨0,[],_,rfl,Nat.zero_le _,HX.out,HR.out,HF.out,World.ownsRow_nil _ _ _ _,.nil,HB.out⟩
 case round =>
  clear HX HR HF HB HW HXE
  obtain ⟨j,ys,u,rfl,hj,hX,hR,hF,hown,hrep,hB⟩:=hrel
  obtain ⟨A',c',rfl⟩:=own_form hown
  have hXl:=(Array.getElem?_eq_some_iff.1 hX).1
  have hBs:=hB.size
  by_cases hlt:j < l.length
  ·have hjI:(j:Int) < l.length:=by omega
   obtain ⟨x,hx⟩:=getElem_ex hlt
   obtain ⟨gx,ox,A3,c3,rfl,hgx,hlx,hcx⟩:=lfs_at HV.out hx
   have q0:=(hB.cell (p:=⟨gx,ox+j * 3+0,none⟩) hgx).trans (hcx 0 _ rfl)
   have q1:=(hB.cell (p:=⟨gx,ox+j * 3+1,none⟩) hgx).trans (hcx 1 _ rfl)
   have q2:=(hB.cell (p:=⟨gx,ox+j * 3+2,none⟩) hgx).trans (hcx 2 _ rfl)
   simp only [Nat.add_zero] at q0
   obtain ⟨y,hye⟩:∃ y,lfI kc x=y:=⟨_,rfl⟩
   have HC0:=fun w3:World=>ritem_plain kc hkc x.1 (HS.out x (List.mem_of_getElem? hx)) x.2 A3 0 c3 w3
   have hye':lfI kc (x.1,x.2)=y:=hye
   simp only [hye'] at HC0
   have HC:Hid (∀ w3:World,Calls Tryz.prog 52 #[.string (bs [kc]),.agg #[.int .u64 ((upF x).n:Int),.string (bs (upF x).b),.slice A3 (upF x).l.length c3]] w3 (ItPost y w3)):=Lib.hid HC0
   have HYE:=Lib.hid hye
   have HXX:=Lib.hid hx
   have HX:=Lib.hid hX
   have HR:=Lib.hid hR
   have HF:=Lib.hid hF
   have HO:=Lib.hid hown
   have HP:=Lib.hid hrep
   have HB:=Lib.hid hB
   clear hX hR hF hown hrep hB hye hye' hx HC0 hlx hcx
   go_wp2_with fail
   have hba:Below wr.heap.size wr (wr.alloc (.cells #[.int .u64 ((upF x).n:Int),.string (bs (upF x).b),.slice A3 (upF x).l.length c3] 56)).drew:=((Below.refl _ _).alloc (Nat.le_refl _) _).drew
   have hV:(wr.alloc (.cells #[.int .u64 ((upF x).n:Int),.string (bs (upF x).b),.slice A3 (upF x).l.length c3] 56)).drew.heap[wr.heap.size]? = some (.cells #[.int .u64 ((upF x).n:Int),.string (bs (upF x).b),.slice A3 (upF x).l.length c3] 56 (0,0)):=heap_alloc_new wr _
   have hX:=(hba.block _ (Array.getElem?_eq_some_iff.1 HX.out).1).trans HX.out
   have hR:=(hba.block _ (Array.getElem?_eq_some_iff.1 HR.out).1).trans HR.out
   have hF:=(hba.block _ (Array.getElem?_eq_some_iff.1 HF.out).1).trans HF.out
   have hown:=own_keep HO.out hba
   have hrep:=HP.out.keep hba
   have hB:=below_call HB.out HB.out.size hba
   have hVl:wr.heap.size < (wr.alloc (.cells #[.int .u64 ((upF x).n:Int),.string (bs (upF x).b),.slice A3 (upF x).l.length c3] 56)).drew.heap.size:=by simp
   replace hXl:=Nat.lt_of_lt_of_le hXl hba.size
   obtain ⟨V,hVe⟩:∃ V,wr.heap.size=V:=⟨_,rfl⟩
   have HOL:Hid (∀ k,(Value.slice A' j c').ownBlock=some k→X+1≤k∧k < V):=Lib.hid (fun k e=>by rw [← hVe];exact HO.out.lt _ e)
   rw [hVe] at hV hVl ⊢
   have hXV:X < V:=by rw [← hVe];exact (Array.getElem?_eq_some_iff.1 HX.out).1
   clear hba HX HR HF HO HP HB
   refine wp_region_R [(7,fun w'=>w'.cell? ⟨X,2,none⟩=some (.slice A' j c')),(99,fun w'=>w'.heap[V]? = some (.cells #[.int .u64 ((upF x).n:Int),.string (bs (upF x).b),.slice A3 (upF x).l.length c3] 56 (0,0)))] (by kernel_rfl) ?_
   generalize (wr.alloc (.cells #[.int .u64 ((upF x).n:Int),.string (bs (upF x).b),.slice A3 (upF x).l.length c3] 56)).drew=w3 at hX hR hF hV hown hrep hB hXl hVl ⊢
   refine R_p (i:=0) (v:=.pointer (some ⟨X,2,none⟩)) (Meets.here (rc2 hX) (Meets.here hV Meets.nil)) ?_
   refine R_l (i:=1) (v:=.slice A' j c') 7 _ List.mem_cons_self rfl (yieldsIf_load_cell rfl rfl rfl (fun w' hS=>hS) Tryz.underlying84 rfl) (Meets.here (rc2 hX) (Meets.here hV Meets.nil)) ?_
   refine R_p (i:=2) (v:=.string (bs [42,kc])) (Meets.here (rc2 hX) (Meets.here hV Meets.nil)) ?_
   refine R_p (i:=3) (v:=.string (bs [kc])) (Meets.here (rc2 hX) (Meets.here hV Meets.nil)) ?_
   refine R_l (i:=4) (v:=.agg #[.int .u64 ((upF x).n:Int),.string (bs (upF x).b),.slice A3 (upF x).l.length c3]) 99 _ (List.mem_cons_of_mem _ List.mem_cons_self) rfl (yieldsIf_load_row rfl rfl rfl (fun w' hS=>hS) Tryz.underlying56 rfl infoF) (Meets.here (rc2 hX) (Meets.here hV Meets.nil)) ?_
   have hX5:=hXl
   have ho5:=hown.lt
   refine R_now 5 fun K hK=>?_
   go_simp
   refine (HC.out w3).mono ?_
   rintro e w6 ⟨Ay,cy,rfl,hy6,hb6⟩
   have hY:ItemV (RowS (X+1) (.slice A' j c')) w6 y Ay cy:=hy6.mono fun b _ hb=>⟨⟨Nat.le_trans hX5 hb,fun e=>by have h1:=(ho5 _ e).2;have h2:w3.heap.size≤b:=hb;omega⟩,rfl⟩
   clear hy6 ho5
   replace hR:=(hb6.block _ (Array.getElem?_eq_some_iff.1 hR).1).trans hR
   replace hX:=(hb6.block _ (Array.getElem?_eq_some_iff.1 hX).1).trans hX
   replace hV:=(hb6.block _ (Array.getElem?_eq_some_iff.1 hV).1).trans hV
   replace hF:=(hb6.block _ (Array.getElem?_eq_some_iff.1 hF).1).trans hF
   replace hB:=below_call hB hB.size hb6
   replace hown:=own_keep hown hb6
   replace hrep:=hrep.keep hb6
   replace hXl:=Nat.lt_of_lt_of_le hXl hb6.size
   replace hVl:=Nat.lt_of_lt_of_le hVl hb6.size
   clear hb6
   refine hK.out _ _ (Meets.here (rc2 hX) (Meets.here hV Meets.nil)) (fun hMeets=>?_)
   clear hK K hMeets
   refine lay_R ?_
   refine R_now 6 fun K hK=>?_
   have hbb:Below w6.heap.size w6 (w6.alloc (.cells #[.bool y.l,.string (bs y.b),.slice Ay y.ks.length cy] 86)):=(Below.refl _ _).alloc (Nat.le_refl _) _
   replace hR:=(hbb.block _ (Array.getElem?_eq_some_iff.1 hR).1).trans hR
   replace hX:=(hbb.block _ (Array.getElem?_eq_some_iff.1 hX).1).trans hX
   replace hV:=(hbb.block _ (Array.getElem?_eq_some_iff.1 hV).1).trans hV
   replace hF:=(hbb.block _ (Array.getElem?_eq_some_iff.1 hF).1).trans hF
   replace hB:=below_call hB hB.size hbb
   replace hown:=own_keep hown hbb
   replace hrep:=hrep.keep hbb
   replace hXl:=Nat.lt_of_lt_of_le hXl hbb.size
   replace hVl:=Nat.lt_of_lt_of_le hVl hbb.size
   replace hY:=hY.keep hbb
   have hL:=lies_new w6 #[.bool y.l,.string (bs y.b),.slice Ay y.ks.length cy] 86
   clear hbb
   go_simp
   refine hK.out _ _ (Meets.here (rc2 hX) (Meets.here hV Meets.nil)) (fun hMeets=>?_)
   clear hK K hMeets
   refine lay_R ?_
   refine R_now 7 fun K hK=>?_
   refine stl_append elItem rfl rfl (X+1) hown rfl (m:=1) [.bool y.l,.string (bs y.b),.slice Ay y.ks.length cy] rfl rfl hL (by intro u hu;simp at hu;rcases hu with rfl | rfl | rfl <;> rfl) (by simp only [maxLen];omega) (by omega) (by omega) ?_
   intro v1 w8 hown1 hg1 hat1
   obtain ⟨A2,c2,rfl⟩:=own_form hown1
   have hrep8:RepN (RowS (X+1) (.slice A2 (j+1) c2)) w8 3 (itemsD ((l.take (j+1)).map (lfI kc))) (ys ++ [.bool y.l,.string (bs y.b),.slice Ay y.ks.length cy]):=by
    rw [take_snoc HXX.out,List.map_append,List.map_cons,List.map_nil,HYE.out,itemsD_append]
    exact repN_app (RepN.snoc hY rfl hrep) hg1 hat1
   have hX8:=(hg1.block X (by omega) (fun e=>by have:=HOL.out _ e.symm;omega)).trans hX
   have hR8:=(hg1.block (w.heap.size+1) (by omega) (fun e=>by have:=HOL.out _ e.symm;omega)).trans hR
   have hF8:=(hg1.block w.heap.size (by omega) (fun e=>by have:=HOL.out _ e.symm;omega)).trans hF
   have hV8:=(hg1.block V (by omega) (fun e=>by have:=HOL.out _ e.symm;omega)).trans hV
   have hB8:=below_app hB hown hg1 (by omega) (by omega)
   clear hX hR hF hV hB hown hrep hY hL hg1 hat1
   try simp only [Act.put,List.setIfInBounds_toArray,List.set_cons_zero,List.set_cons_succ,List.getElem_toArray,List.getElem_cons_zero,List.getElem_cons_succ]
   refine hK.out _ _ (Meets.past (by kernel_rfl) (Meets.here hV8 Meets.nil)) (fun hMeets=>?_)
   clear hK K hMeets
   refine lay_R ?_
   refine R_p (i:=8) (v:=.pointer (some ⟨X,2,none⟩)) (Meets.past (by kernel_rfl) (Meets.here hV8 Meets.nil)) ?_
   have d2:w8.cell? ⟨X,2,none⟩=some (.slice A' j c'):=rc2 hX8
   have df:=rf hX8 2
   refine R_now 9 fun K hK=>?_
   have HX9:Hid ((w8.setCell ⟨X,2,none⟩ (.slice A2 (j+1) c2)).heap[X]? = some (.cells #[.bool true,.string ⟨#[]⟩,.slice A2 (j+1) c2] 86 (0,0))):=Lib.hid (heap_setCell_here hX8 _)
   have HR9:Hid ((w8.setCell ⟨X,2,none⟩ (.slice A2 (j+1) c2)).heap[w.heap.size+1]? = some (.cells #[.bool false,.string ⟨#[]⟩,.slice none 0 0] 86 (0,0))):=Lib.hid ((heap_set_ne (by omega) _).trans hR8)
   have HF9:Hid ((w8.setCell ⟨X,2,none⟩ (.slice A2 (j+1) c2)).heap[w.heap.size]? = some (.cells #[.int .u64 ni,.string (bs b),.slice (some ⟨gx,ox,none⟩) l.length c] 56 (0,0))):=Lib.hid ((heap_set_ne (by omega) _).trans hF8)
   have hV9:(w8.setCell ⟨X,2,none⟩ (.slice A2 (j+1) c2)).heap[V]? = some (.cells #[.int .u64 ((upF x).n:Int),.string (bs (upF x).b),.slice A3 (upF x).l.length c3] 56 (0,0)):=(heap_set_ne (by omega) _).trans hV8
   have HB9:Hid (Below w.heap.size w (w8.setCell ⟨X,2,none⟩ (.slice A2 (j+1) c2))):=Lib.hid (hB8.setCell (p:=⟨X,2,none⟩) (by simp;omega) _)
   have HO9:=Lib.hid (own_setOther (g:=X) (i:=2) hown1 (by omega) (.slice A2 (j+1) c2))
   have HP9:Hid (RepN (RowS (X+1) (.slice A2 (j+1) c2)) (w8.setCell ⟨X,2,none⟩ (.slice A2 (j+1) c2)) 3 (itemsD ((l.take (j+1)).map (lfI kc))) (ys ++ [.bool y.l,.string (bs y.b),.slice Ay y.ks.length cy])):=Lib.hid (RepN.mono hrep8 fun b _ hb=>⟨hb,heap_set_ne (by have:=hb.1;omega) _⟩)
   clear hX8 hR8 hF8 hV8 hB8 hown1 hrep8
   go_simp
   refine hK.out _ _ (Meets.past (by kernel_rfl) (Meets.here hV9 Meets.nil)) (fun hMeets=>?_)
   clear hK K hMeets
   refine lay_R ?_
   refine R_done (by kernel_rfl) ?_ _
   go_wp2_with fail
   go_roundw
   case rel=>exact ⟨j+1,ys ++ [.bool y.l,.string (bs y.b),.slice Ay y.ks.length cy],.slice A2 (j+1) c2,by go_num,by omega,HX9.out,HR9.out,HF9.out,HO9.out,HP9.out,HB9.out⟩
   case measure=>simp [intOf];omega
  ·obtain rfl:j=l.length:=by omega
   rw [List.take_length] at hrep
   have r0:wr.cell? ⟨w.heap.size+1,0,none⟩=some (.bool false):=rc0 hR
   have r1:wr.cell? ⟨w.heap.size+1,1,none⟩=some (.string ⟨#[]⟩):=rc1 hR
   have r2:wr.cell? ⟨w.heap.size+1,2,none⟩=some (.slice none 0 0):=rc2 hR
   have f0:=rf hR 0
   have f1:=rf hR 1
   have f2:=rf hR 2
   have x0:wr.cell? ⟨X,0,none⟩=some (.bool true):=rc0 hX
   have x1:wr.cell? ⟨X,1,none⟩=some (.string ⟨#[]⟩):=rc1 hX
   have x2:wr.cell? ⟨X,2,none⟩=some (.slice A' l.length c'):=rc2 hX
   have HR:=Lib.hid hR
   have HO:=Lib.hid hown
   have HP:=Lib.hid hrep
   have HB:=Lib.hid hB
   clear hR hown hrep hB hX hF
   go_wp2_with fail
   have hfin:=heap_setCell_here (heap_setCell_here (heap_setCell_here HR.out (i:=0) (.bool true)) (i:=1) (.string ⟨#[]⟩)) (i:=2) (.slice A' l.length c')
   refine bodyPost_ret (v:=.agg #[.bool true,.string ⟨#[]⟩,.slice A' l.length c']) (results_cell_row rfl _ _ (w.heap.size+1) _ _ _ _ rfl hfin Tryz.underlying86 rfl infoI) rfl ?_
   have hO:=own_setOther (g:=w.heap.size+1) (i:=2) (own_setOther (g:=w.heap.size+1) (i:=1) (own_setOther (g:=w.heap.size+1) (i:=0) HO.out (by omega) (.bool true)) (by omega) (.string ⟨#[]⟩)) (by omega) (.slice A' l.length c')
   have hkl:(l.map (lfI kc)).length=l.length:=by simp
   have hq:ItemV (From w.heap.size) (((wr.setCell ⟨w.heap.size+1,0,none⟩ (.bool true)).setCell ⟨w.heap.size+1,1,none⟩ (.string ⟨#[]⟩)).setCell ⟨w.heap.size+1,2,none⟩ (.slice A' l.length c')) (listIt (l.map (lfI kc))) A' c':=by
    refine itemV_mk ?_
    show Rep _ _ (.sl 3 (itemsD (l.map (lfI kc)))) [.slice A' (l.map (lfI kc)).length c']
    rw [hkl]
    refine rep_own hO (RepN.mono HP.out fun b _ hb=>⟨?_,?_⟩) (by rw [itemsD_len,hkl]) (fun b h1 _=>?_)
    ·have:=hb.1;show w.heap.size≤b;omega
    ·have:=hb.1;rw [heap_set_ne (by omega),heap_set_ne (by omega),heap_set_ne (by omega)]
    ·show w.heap.size≤b;omega
   refine ⟨A',c',?_,hq,((HB.out.setCell (p:=⟨w.heap.size+1,_,_⟩) (Nat.le_succ _) _).setCell (p:=⟨w.heap.size+1,_,_⟩) (Nat.le_succ _) _).setCell (p:=⟨w.heap.size+1,_,_⟩) (Nat.le_succ _) _⟩
   rw [show (listIt (l.map (lfI kc))).ks.length=l.length from hkl]
   rfl
theorem ritem_kind (k:Kd) (hk:okC k.c) (f:Fd) (hn:f.n < 18446744073709551616) (hs:∀ x∈f.l,x.1 < 18446744073709551616) (hl:f.l.length≤100000) (A:Option Addr) (c:Nat) (w:World) (hv:LfsV Any w f.l A c) :
  Calls Tryz.prog 52 #[.string (bs k.txt),.agg (fdC f A c).toArray] w (ItPost (itemF k f) w):=by
 obtain ⟨kc,st⟩:=k
 cases st with
 | true=>exact ritem_star kc hk f hs hl A c w hv
 | false=>exact ritem_plain kc hk f.n hn f.b A f.l.length c w
/- The walk of the reference's Write. -/
theorem rWrite_any (ks:List Kd) (hf:OkForm ks) (hl:(formP ks).length≤40) (hk:ks.length≤20) (fs:List Fd) (hn:smallF fs) (hfl:fs.length≤1000) (hll:∀ f∈fs,f.l.length≤100000) (A:Option Addr) (c:Nat) (w:World) (hv:FdsV Any w fs A c) :
  Calls Tryz.prog 29 #[.string (bs (formP ks)),.slice A fs.length c] w fun e w'=>e=.returned (.tuple #[.string (bs (fwP ks fs).1),.int .i64 (fwP ks fs).2])∧Below w.heap.size w w':=by
 have hK:=refKinds_any ks hf hl w
 have hF:=fun (W:World) (hb:Below w.heap.size w W)=>refFits_any ks hf hl fs hfl hll A c W (Rep.keep hv hb)
 obtain ⟨it,hit⟩:∃ it:Nat→Item,it=fun i=>itemF (ks.getD i noK) (fs.getD i noF):=⟨_,rfl⟩
 have hI:=fun (i:Nat) (k:Kd) (f:Fd) (A3:Option Addr) (c3:Nat) (W:World) (hki:ks[i]? = some k) (hfi:fs[i]? = some f) (hlv:LfsV (Old w) w f.l A3 c3) (hb:Below w.heap.size w W) =>
  ritem_kind k (hf k (List.mem_of_getElem? hki)) f (small_at hn hfi).1 (small_at hn hfi).2 (hll f (List.mem_of_getElem? hfi)) A3 c3 W (Rep.any (Rep.mono hlv (S':=Old w) fun b h1 h2=>⟨h2,hb.block b h1⟩))
 have hfine:=fun (h:fitsP ks fs=true)=>rec_fine h hn hk
 have hrec:=fun (h:fitsP ks fs=true)=>(items_range ks fs (fitsP_len h).symm)
 have hflen:=fun (h:fitsP ks fs=true)=>(fitsP_len h).symm
 obtain ⟨FW,hFW⟩:∃ FW,fwP ks fs=FW:=⟨_,rfl⟩
 have hyes:fitsP ks fs=true→encR (recF ks fs)=FW:=fun h=>by rw [← hFW];unfold fwP;rw [if_pos h]
 have hnot:fitsP ks fs=false→FW=([],1):=fun h=>by rw [← hFW];unfold fwP;rw [if_neg (by rw [h];decide)]
 rw [hFW]
 obtain ⟨F,hFe⟩:∃ F,formP ks=F:=⟨_,rfl⟩
 obtain ⟨OK,hOK⟩:∃ OK,fitsP ks fs=OK:=⟨_,rfl⟩
 rw [hOK] at hF hfine hrec hflen hyes hnot
 rw [hFe] at hK hF ⊢
 have HK:=Lib.hid hK
 have HF:=Lib.hid hF
 have HI:=Lib.hid hI
 have HFINE:=Lib.hid hfine
 have HREC:=Lib.hid hrec
 have HFL:=Lib.hid hflen
 have HYES:=Lib.hid hyes
 have HNOT:=Lib.hid hnot
 have HIT:=Lib.hid hit
 have HV:=Lib.hid (Rep.old hv)
 clear hK hF hI hfine hrec hflen hyes hnot hit hv hFW hFe hOK hn hll hf hl
 go_enter Tryz.func29,Tryz.ntmps29
 go_wp2_with fail
 refine HK.out.mono ?_
 clear HK
 rintro e w1 ⟨Ak,ck,rfl,hs1,hb1⟩
 have HS1:=Lib.hid (Rep.old hs1)
 have HB1:=Lib.hid hb1
 clear hs1
 go_wp2_with fail
 refine (HF.out w1 hb1).mono ?_
 clear hb1 HF
 rintro e w2 ⟨rfl,hb2⟩
 have HB2:=Lib.hid (below_call HB1.out HB1.out.size hb2)
 have HB12:=Lib.hid hb2
 clear hb2
 cases OK with
 | false =>
  go_wp2_with fail
  go_ret2
  rw [HNOT.out (by simp)]
  exact ⟨rfl,HB2.out⟩
 | true =>
  have hlen:=HFL.out (by simp)
  have HLEN:=Lib.hid hlen
  clear hlen
  have hw2:=HB2.out.size
  go_wp2_with fail
  obtain ⟨X,hXe⟩:∃ X,w2.heap.size=X:=⟨_,rfl⟩
  have hX0:=heap_alloc_new w2 (.cells #[.bool true,.string ⟨#[]⟩,.slice none 0 0] 86)
  have hb0:Below w2.heap.size w2 (w2.alloc (.cells #[.bool true,.string ⟨#[]⟩,.slice none 0 0] 86)):=(Below.refl _ _).alloc (Nat.le_refl _) _
  have HB0:=Lib.hid (below_call HB2.out HB2.out.size hb0)
  rw [hXe] at hX0 ⊢
  have HX0:=Lib.hid hX0
  clear hX0 hb0
  go_loopw [27] (fun a wr=>∃ (i:Nat) (ys:List Value) (u:Value),a=.int .i64 i∧i≤ks.length∧wr.heap[X]? = some (.cells #[.bool true,.string ⟨#[]⟩,u] 86 (0,0))∧wr.ownsRow (X+1) 86 3 u i ys∧RepN (RowS (X+1) u) wr 3 (itemsD ((List.range i).map it)) ys∧Below w.heap.size w wr∧Below w2.heap.size w2 wr) (fun a _=>ks.length - (intOf a).toNat)
  case atStart=>exact ⟨0,[],_,rfl,Nat.zero_le _,HX0.out,World.ownsRow_nil _ _ _ _,.nil,HB0.out,(Below.refl _ _).alloc (Nat.le_refl _) _⟩
  case round =>
   clear HX0 HB0
   obtain ⟨i,ys,u,rfl,hi,hX,hown,hrep,hB,hB2w⟩:=hrel
   obtain ⟨A',c',rfl⟩:=own_form hown
   have hXl:=(Array.getElem?_eq_some_iff.1 hX).1
   by_cases hlt:i < ks.length
   ·have hiI:(i:Int) < ks.length:=by omega
    obtain ⟨k,hki⟩:=getElem_ex hlt
    obtain ⟨f,hfi⟩:∃ f,fs[i]? = some f:=getElem_ex (by have:=HLEN.out;omega)
    have hifI:(i:Int) < fs.length:=by have:=HLEN.out;omega
    obtain ⟨gx,ox,A3,c3,rfl,hgx,hlx,hcx⟩:=fds_at HV.out hfi
    obtain ⟨gk,ok,rfl,hgk,hck⟩:=StrV.at_ (p:=k.txt) HS1.out (by rw [List.getElem?_map,hki];rfl)
    have z1:w2.cell? ⟨gk,ok+i,none⟩=some (.string (bs k.txt)):=(HB12.out.cell (p:=⟨gk,ok+i,none⟩) hgk).trans hck
    have z0:wr.cell? ⟨gk,ok+i,none⟩=some (.string (bs k.txt)):=(hB2w.cell (p:=⟨gk,ok+i,none⟩) (lt_of_cell z1)).trans z1
    obtain ⟨y,hye⟩:∃ y,it i=y:=⟨_,rfl⟩
    have hye':itemF k f=y:=by rw [← hye,HIT.out];show _=itemF (ks.getD i noK) (fs.getD i noF);rw [getD_some hki,getD_some hfi]
    have HC:Hid (∀ w3:World,Below w.heap.size w w3→Calls Tryz.prog 52 #[.string (bs k.txt),.agg (fdC f A3 c3).toArray] w3 (ItPost y w3)):=Lib.hid (fun w3 hb3=>by rw [← hye'];exact HI.out i k f A3 c3 w3 hki hfi hlx hb3)
    have HYE:=Lib.hid hye
    have HX:=Lib.hid hX
    have HO:=Lib.hid hown
    have HP:=Lib.hid hrep
    have HB:=Lib.hid hB
    have HBW:=Lib.hid hB2w
    have HCX:=Lib.hid hcx
    have HOL:Hid (∀ k,(Value.slice A' i c').ownBlock=some k→X+1≤k∧k < wr.heap.size):=Lib.hid (fun k e=>hown.lt _ e)
    clear hX hown hrep hB hB2w hki hfi hlx hcx hck z1 hye hye'
    go_wp2_with fail
    have hbd:Below wr.heap.size wr wr.drew:=(Below.refl _ _).drew
    have hX:=(hbd.block _ (Array.getElem?_eq_some_iff.1 HX.out).1).trans HX.out
    have hown:=own_keep HO.out hbd
    have hrep:=HP.out.keep hbd
    have hB:=below_call HB.out HB.out.size hbd
    have hx:∀ j u,(fdC f A3 c3)[j]? = some u→wr.drew.cell? ⟨gx,ox+i * 3+j,none⟩=some u:=fun j u hj=>(hB.cell (p:=⟨gx,ox+i * 3+j,none⟩) hgx).trans (HCX.out j u hj)
    have hxs:wr.heap.size=wr.drew.heap.size:=rfl
    have hBW:=HBW.out.drew
    rw [hxs] at hXl
    clear hbd HX HO HP HB hxs
    refine wp_region_R [(9,fun w'=>w'.cell? ⟨X,2,none⟩=some (.slice A' i c')),(99,fun w'=>∀ j u,(fdC f A3 c3)[j]? = some u→w'.cell? ⟨gx,ox+i * 3+j,none⟩=some u)] (by kernel_rfl) ?_
    generalize wr.drew=w3 at hX hown hrep hB hXl hx hBW ⊢
    refine R_p (i:=0) (v:=.pointer (some ⟨X,2,none⟩)) (Meets.here (rc2 hX) (Meets.here hx Meets.nil)) ?_
    refine R_l (i:=1) (v:=.slice A' i c') 9 _ List.mem_cons_self rfl (yieldsIf_load_cell rfl rfl rfl (fun w' hS=>hS) Tryz.underlying84 rfl) (Meets.here (rc2 hX) (Meets.here hx Meets.nil)) ?_
    refine R_p (i:=2) (v:=.string (bs k.txt)) (Meets.here (rc2 hX) (Meets.here hx Meets.nil)) ?_
    refine R_p (i:=3) (v:=.slice (some ⟨gx,ox,none⟩) fs.length c) (Meets.here (rc2 hX) (Meets.here hx Meets.nil)) ?_
    refine R_p (i:=4) (v:=.int .i64 (i:Int)) (Meets.here (rc2 hX) (Meets.here hx Meets.nil)) ?_
    refine R_p (i:=5) (v:=.pointer (some ⟨gx,ox+i * 3,none⟩)) (Meets.here (rc2 hX) (Meets.here hx Meets.nil)) ?_
    refine R_l (i:=6) (v:=.agg (fdC f A3 c3).toArray) 99 _ (List.mem_cons_of_mem _ List.mem_cons_self) rfl (yieldsIf_load_at rfl rfl rfl (fdC f A3 c3) (fun w' hS=>hS) Tryz.underlying56 rfl infoF) (Meets.here (rc2 hX) (Meets.here hx Meets.nil)) ?_
    have hX5:=hXl
    have ho5:=hown.lt
    refine R_now 7 fun K hK=>?_
    go_simp
    refine (HC.out w3 hB).mono ?_
    rintro e w6 ⟨Ay,cy,rfl,hy6,hb6⟩
    have hY:ItemV (RowS (X+1) (.slice A' i c')) w6 y Ay cy:=hy6.mono fun b _ hb=>⟨⟨Nat.le_trans hX5 hb,fun e=>by have h1:=(ho5 _ e).2;have h2:w3.heap.size≤b:=hb;omega⟩,rfl⟩
    clear hy6 ho5
    replace hX:=(hb6.block _ (Array.getElem?_eq_some_iff.1 hX).1).trans hX
    replace hBW:=below_call hBW hBW.size hb6
    replace hB:=below_call hB hB.size hb6
    replace hown:=own_keep hown hb6
    replace hrep:=hrep.keep hb6
    replace hXl:=Nat.lt_of_lt_of_le hXl hb6.size
    replace hx:∀ j u,(fdC f A3 c3)[j]? = some u→_=some u:=fun j u hj=>(hb6.cell (p:=⟨gx,ox+i * 3+j,none⟩) (lt_of_cell (hx j u hj))).trans (hx j u hj)
    clear hb6
    refine hK.out _ _ (Meets.here (rc2 hX) (Meets.here hx Meets.nil)) (fun hMeets=>?_)
    clear hK K hMeets
    refine lay_R ?_
    refine R_now 8 fun K hK=>?_
    have hbb:Below w6.heap.size w6 (w6.alloc (.cells #[.bool y.l,.string (bs y.b),.slice Ay y.ks.length cy] 86)):=(Below.refl _ _).alloc (Nat.le_refl _) _
    replace hX:=(hbb.block _ (Array.getElem?_eq_some_iff.1 hX).1).trans hX
    replace hBW:=below_call hBW hBW.size hbb
    replace hB:=below_call hB hB.size hbb
    replace hown:=own_keep hown hbb
    replace hrep:=hrep.keep hbb
    replace hXl:=Nat.lt_of_lt_of_le hXl hbb.size
    replace hY:=hY.keep hbb
    replace hx:∀ j u,(fdC f A3 c3)[j]? = some u→_=some u:=fun j u hj=>(hbb.cell (p:=⟨gx,ox+i * 3+j,none⟩) (lt_of_cell (hx j u hj))).trans (hx j u hj)
    have hL:=lies_new w6 #[.bool y.l,.string (bs y.b),.slice Ay y.ks.length cy] 86
    clear hbb
    go_simp
    refine hK.out _ _ (Meets.here (rc2 hX) (Meets.here hx Meets.nil)) (fun hMeets=>?_)
    clear hK K hMeets
    refine lay_R ?_
    refine R_now 9 fun K hK=>?_
    refine stl_append elItem rfl rfl (X+1) hown rfl (m:=1) [.bool y.l,.string (bs y.b),.slice Ay y.ks.length cy] rfl rfl hL (by intro u hu;simp at hu;rcases hu with rfl | rfl | rfl <;> rfl) (by simp only [maxLen];omega) (by omega) (by omega) ?_
    intro v1 w8 hown1 hg1 hat1
    obtain ⟨A2,c2,rfl⟩:=own_form hown1
    have hrep8:RepN (RowS (X+1) (.slice A2 (i+1) c2)) w8 3 (itemsD ((List.range (i+1)).map it)) (ys ++ [.bool y.l,.string (bs y.b),.slice Ay y.ks.length cy]):=by
     rw [List.range_succ,List.map_append,List.map_cons,List.map_nil,HYE.out,itemsD_append]
     exact repN_app (RepN.snoc hY rfl hrep) hg1 hat1
    have hX8:=(hg1.block X (by omega) (fun e=>by have:=HOL.out _ e.symm;omega)).trans hX
    have hB8:=below_app hB hown hg1 (by omega) (by omega)
    have hx8:∀ j u,(fdC f A3 c3)[j]? = some u→w8.cell? ⟨gx,ox+i * 3+j,none⟩=some u:=fun j u hj=>(hB8.cell (p:=⟨gx,ox+i * 3+j,none⟩) hgx).trans (HCX.out j u hj)
    have hBW8:=below_app hBW hown hg1 (by omega) (by omega)
    clear hX hB hBW hown hrep hY hL hg1 hat1 hx
    try simp only [Act.put,List.setIfInBounds_toArray,List.set_cons_zero,List.set_cons_succ,List.getElem_toArray,List.getElem_cons_zero,List.getElem_cons_succ]
    refine hK.out _ _ (Meets.past (by kernel_rfl) (Meets.here hx8 Meets.nil)) (fun hMeets=>?_)
    clear hK K hMeets
    refine lay_R ?_
    refine R_p (i:=10) (v:=.pointer (some ⟨X,2,none⟩)) (Meets.past (by kernel_rfl) (Meets.here hx8 Meets.nil)) ?_
    have d2:w8.cell? ⟨X,2,none⟩=some (.slice A' i c'):=rc2 hX8
    have df:=rf hX8 2
    refine R_now 11 fun K hK=>?_
    have HX9:Hid ((w8.setCell ⟨X,2,none⟩ (.slice A2 (i+1) c2)).heap[X]? = some (.cells #[.bool true,.string ⟨#[]⟩,.slice A2 (i+1) c2] 86 (0,0))):=Lib.hid (heap_setCell_here hX8 _)
    have hB9:Below w.heap.size w (w8.setCell ⟨X,2,none⟩ (.slice A2 (i+1) c2)):=hB8.setCell (p:=⟨X,2,none⟩) (by simp;omega) _
    have hx9:∀ j u,(fdC f A3 c3)[j]? = some u→(w8.setCell ⟨X,2,none⟩ (.slice A2 (i+1) c2)).cell? ⟨gx,ox+i * 3+j,none⟩=some u:=fun j u hj=>(hB9.cell (p:=⟨gx,ox+i * 3+j,none⟩) hgx).trans (HCX.out j u hj)
    have HB9:=Lib.hid hB9
    have HBW9:Hid (Below w2.heap.size w2 (w8.setCell ⟨X,2,none⟩ (.slice A2 (i+1) c2))):=Lib.hid (hBW8.setCell (p:=⟨X,2,none⟩) (by simp;omega) _)
    have HO9:=Lib.hid (own_setOther (g:=X) (i:=2) hown1 (by omega) (.slice A2 (i+1) c2))
    have HP9:Hid (RepN (RowS (X+1) (.slice A2 (i+1) c2)) (w8.setCell ⟨X,2,none⟩ (.slice A2 (i+1) c2)) 3 (itemsD ((List.range (i+1)).map it)) (ys ++ [.bool y.l,.string (bs y.b),.slice Ay y.ks.length cy])):=Lib.hid (RepN.mono hrep8 fun b _ hb=>⟨hb,heap_set_ne (by have:=hb.1;omega) _⟩)
    clear hX8 hB8 hown1 hrep8 hB9 hx8
    go_simp
    refine hK.out _ _ (Meets.past (by kernel_rfl) (Meets.here hx9 Meets.nil)) (fun hMeets=>?_)
    clear hK K hMeets
    refine lay_R ?_
    refine R_done (by kernel_rfl) ?_ _
    go_wp2_with fail
    go_roundw
    case rel=>exact ⟨i+1,ys ++ [.bool y.l,.string (bs y.b),.slice Ay y.ks.length cy],.slice A2 (i+1) c2,by go_num,by omega,HX9.out,HO9.out,HP9.out,HB9.out,HBW9.out⟩
    case measure=>simp [intOf];omega
   ·obtain rfl:i=ks.length:=by omega
    have x0:wr.cell? ⟨X,0,none⟩=some (.bool true):=rc0 hX
    have x1:wr.cell? ⟨X,1,none⟩=some (.string ⟨#[]⟩):=rc1 hX
    have x2:wr.cell? ⟨X,2,none⟩=some (.slice A' ks.length c'):=rc2 hX
    have hx:listIt ((List.range ks.length).map it)=recF ks fs:=by
     unfold recF;rw [← HREC.out (by simp),HIT.out,HLEN.out]
    have hkl:((List.range ks.length).map it).length=ks.length:=by simp
    have hq:ItemV Any wr (listIt ((List.range ks.length).map it)) A' c':=by
     refine itemV_mk ?_
     show Rep _ _ (.sl 3 (itemsD ((List.range ks.length).map it))) [.slice A' ((List.range ks.length).map it).length c']
     rw [hkl]
     exact rep_own hown (RepN.mono hrep fun b _ hb=>⟨trivial,rfl⟩) (by rw [itemsD_len,hkl]) (fun _ _ _=>trivial)
    have hfn:=HFINE.out (by simp)
    have hE:=refEncode_any (listIt ((List.range ks.length).map it)) A' c' wr (by rw [hx];omega) hq (by rw [hx];omega)
    rw [show encR (listIt ((List.range ks.length).map it))=FW from by rw [hx];exact HYES.out (by simp),show (listIt ((List.range ks.length).map it)).ks.length=ks.length from hkl] at hE
    have HE:=Lib.hid hE
    have HB:=Lib.hid hB
    clear hE hfn hq hkl hx hX hown hrep hB hB2w
    go_wp2_with fail
    refine HE.out.mono ?_
    rintro e w4 ⟨rfl,hb4⟩
    go_wp2_with fail
    go_ret2
    exact ⟨rfl,below_call HB.out HB.out.size hb4⟩
end Go.Proofs.YtdfmheademcbkaaGreat
