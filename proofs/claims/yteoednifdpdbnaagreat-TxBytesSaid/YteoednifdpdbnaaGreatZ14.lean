/- The walks of rlp and of the reference: numbers and heads. -/
import Derived.Test.YteoednifdpdbnaaGreatProg
import Derived.Test.YteoednifdpdbnaaGreatZ03
import Derived.Test.YteoednifdpdbnaaGreatZ01
import Derived.Outline
namespace Go.Proofs.YteoednifdpdbnaaGreat
set_option linter.unusedVariables false
set_option linter.unusedSimpArgs false
open Go.RowKit
set_option maxHeartbeats 1000000
theorem elByte:ElemOk Tryz.prog 97 5 (.int .u8 0) 1 1:=⟨Tryz.underlying97,by kernel_rfl,rfl,by omega⟩
theorem qef {a b:List UInt8} (h:a=b):Ending.returned (.string (bs a))=.returned (.string (bs b)):=by rw [h]
theorem ql1 (n:Int) (h0:0≤n) (hn:n < 18446744073709551616) (w:World) :
  Calls Tryz.prog 217 #[.int .u64 n] w fun e w'=>e=.returned (.string (bs (digs n.toNat)))∧Below w.heap.size w w':=by
 obtain ⟨n,rfl⟩:=Int.eq_ofNat_of_zero_le h0
 rw [Int.toNat_natCast]
 clear h0
 have hl8:=qbf 8 n (by omega)
 go_enter Tryz.func217,Tryz.ntmps217
 go_wp2_with fail
 go_loopw [0,3] (fun a v wr=>∃ (m:Nat) (l:Bytes),m≤n∧a=.int .u64 m∧wr.ownsRow w.heap.size 5 1 v l.length (l.map cellB)∧digs n=digs m ++ l∧Below w.heap.size w wr) (fun a _ _=>(intOf a).toNat)
 case atStart=>exact ⟨n,[],Nat.le_refl _,rfl,by simpa using World.ownsRow_nil w _ _ _,by simp,Below.refl _ _⟩
 case round =>
  obtain ⟨m,l,hm,rfl,hown,hd,hb⟩:=hrel
  have hll:l.length≤8:=by rw [hd] at hl8;simp at hl8;omega
  have Hd:=qh hd
  clear hd
  obtain ⟨A,c,rfl⟩:=qau hown
  have hbs:=hb.size
  by_cases h0:0 < m
  ·go_wp2_with (at_builtin;refine qaw elByte rfl rfl w.heap.size (World.ownsRow_lit wr #[.int .u8 ((m:Int) % 256)] 1 hbs (by simp only [maxLen];omega) rfl) rfl (l.map cellB) rfl (by simp) (qce (hown.alloc _) (fun _ _ _=>trivial)) (qvo l) (by simp only [maxLen];omega) (by omega) (by simp;omega) ?_;intro v1 w1 hown1 hg1 hat1)
   go_roundw
   case rel =>
    refine ⟨m / 256,UInt8.ofNat (m % 256) :: l,by omega,rfl,?_,?_,?_⟩
    ·have:=hown1
     rw [Nat.add_comm] at this
     simpa [qoy] using this
    ·rw [Hd.out,qda h0];simp
    ·exact (hb.alloc hbs _).grown hg1 (by simp;omega) (fun k hk=>by simp [Value.ownBlock] at hk;omega)
   case measure=>simp [intOf];omega
  ·obtain rfl:m=0:=by omega
   have hcv:=qav (src:=97) (dst:=9) (c:=c) Tryz.underlying97 Tryz.underlying5 Tryz.underlying9 (qce hown (fun _ _ _=>trivial))
   go_wp2_with fail
   go_ret
   exact ⟨qef (by rw [Hd.out,qb9];rfl),hb⟩
theorem qk0 (f n:Int) (hf:f=128∨f=192) (h0:0≤n) (hn:n < 16777216) (w:World) :
  Calls Tryz.prog 169 #[.int .u8 f,.int .i64 n] w fun e w'=>e=.returned (.string (bs (headP f.toNat n.toNat)))∧Below w.heap.size w w':=by
 have hf1:128≤f:=by omega
 have hf2:f≤192:=by omega
 obtain ⟨f,rfl⟩:=Int.eq_ofNat_of_zero_le (a:=f) (by omega)
 clear hf
 obtain ⟨n,rfl⟩:=Int.eq_ofNat_of_zero_le h0
 simp only [Int.toNat_natCast]
 clear h0
 by_cases hs:(n:Int)≤55
 ·obtain ⟨c,hc,hce⟩:=qii (f+n) (by omega)
  have hcv:=qcx Tryz.underlying97 Tryz.underlying5 Tryz.underlying9 ((f:Int)+n) c (by omega)
  have Hc:=qh hce
  clear hc hce
  go_enter Tryz.func169,Tryz.ntmps169
  go_wp2_with fail
  go_ret
  refine ⟨qef ?_,(Below.refl _ _).alloc qn _⟩
  unfold headP;rw [if_pos (by omega),Hc.out]
 ·have hl8:=qbf 3 n (by omega)
  obtain ⟨c,hc,hce⟩:=qii (f+55+(digs n).length) (by omega)
  have hcv:=qcx Tryz.underlying97 Tryz.underlying5 Tryz.underlying9 ((f:Int)+55+(digs n).length) c (by omega)
  have Hc:=qh hce
  clear hc hce
  go_enter Tryz.func169,Tryz.ntmps169
  go_wp2_with fail
  refine (ql1 _ (by omega) (by omega) _).mono ?_
  rintro e w1 ⟨rfl,hb1⟩
  rw [Int.toNat_natCast]
  go_wp2_with fail
  go_ret
  refine ⟨qef ?_,hb1.alloc hb1.size _⟩
  unfold headP;rw [if_neg (by omega),Hc.out]
theorem qgf (n:Int) (h0:0≤n) (hn:n < 18446744073709551616) (w:World) :
  Calls Tryz.prog 174 #[.int .u64 n] w fun e w'=>e=.returned (.string (bs (digs n.toNat)))∧Below w.heap.size w w':=by
 obtain ⟨n,rfl⟩:=Int.eq_ofNat_of_zero_le h0
 rw [Int.toNat_natCast]
 clear h0
 have hl8:=qbf 8 n (by omega)
 go_enter Tryz.func174,Tryz.ntmps174
 go_wp2_with fail
 go_loopw [0,3] (fun a v wr=>∃ (m:Nat) (l:Bytes),m≤n∧a=.int .u64 m∧v=.string (bs l)∧digs n=digs m ++ l∧Below w.heap.size w wr) (fun a _ _=>(intOf a).toNat)
 case atStart=>exact ⟨n,[],Nat.le_refl _,rfl,rfl,by simp,Below.refl _ _⟩
 case round =>
  obtain ⟨m,l,hm,rfl,rfl,hd,hb⟩:=hrel
  have hll:l.length≤8:=by rw [hd] at hl8;simp at hl8;omega
  have Hd:=qh hd
  clear hd
  have hbs:=hb.size
  by_cases h0:0 < m
  ·obtain ⟨c,hc,hce⟩:=qii (m % 256) (by omega)
   have hcv:=qcx Tryz.underlying97 Tryz.underlying5 Tryz.underlying9 ((m:Int) % 256) c (by omega)
   have Hc:=qh hce
   clear hc hce
   go_wp2_with fail
   go_roundw
   case rel=>exact ⟨m / 256,c :: l,by omega,rfl,rfl,by rw [Hd.out,qda h0,Hc.out];simp,hb.alloc hbs _⟩
   case measure=>simp [intOf];omega
  ·obtain rfl:m=0:=by omega
   go_wp2_with fail
   go_ret
   exact ⟨qef (by rw [Hd.out,qb9];rfl),hb⟩
theorem qff (f n:Int) (hf:f=128∨f=192) (h0:0≤n) (hn:n < 16777216) (w:World) :
  Calls Tryz.prog 119 #[.int .i64 f,.int .i64 n] w fun e w'=>e=.returned (.string (bs (headP f.toNat n.toNat)))∧Below w.heap.size w w':=by
 have hf1:128≤f:=by omega
 have hf2:f≤192:=by omega
 obtain ⟨f,rfl⟩:=Int.eq_ofNat_of_zero_le (a:=f) (by omega)
 clear hf
 obtain ⟨n,rfl⟩:=Int.eq_ofNat_of_zero_le h0
 simp only [Int.toNat_natCast]
 clear h0
 by_cases hs:(n:Int) < 56
 ·obtain ⟨c,hc,hce⟩:=qii (f+n) (by omega)
  have hcv:=qcx Tryz.underlying97 Tryz.underlying5 Tryz.underlying9 ((f:Int)+n) c (by omega)
  have Hc:=qh hce
  clear hc hce
  go_enter Tryz.func119,Tryz.ntmps119
  go_wp2_with fail
  go_ret
  refine ⟨qef ?_,(Below.refl _ _).alloc qn _⟩
  unfold headP;rw [if_pos (by omega),Hc.out]
 ·have hl8:=qbf 3 n (by omega)
  obtain ⟨c,hc,hce⟩:=qii (f+55+(digs n).length) (by omega)
  have hcv:=qcx Tryz.underlying97 Tryz.underlying5 Tryz.underlying9 ((f:Int)+55+(digs n).length) c (by omega)
  have Hc:=qh hce
  clear hc hce
  go_enter Tryz.func119,Tryz.ntmps119
  go_wp2_with fail
  refine (qgf _ (by omega) (by omega) _).mono ?_
  rintro e w1 ⟨rfl,hb1⟩
  rw [Int.toNat_natCast]
  go_wp2_with fail
  go_ret
  refine ⟨qef ?_,hb1.alloc hb1.size _⟩
  unfold headP;rw [if_neg (by omega),Hc.out]
/- The walks of rlp and of the reference: functions that go down an item. -/
theorem qry {k:IntKind} {a b:Int} (h:a=b):Ending.returned (.int k a)=.returned (.int k b):=by rw [h]
theorem qod (N:Nat):∀ (x:Item) (A:Option Addr) (c:Nat) (w:World),countP x≤N→countP x≤1000000→pureP x=true→ItemV Any w x A c →
  Calls Tryz.prog 111 #[.agg #[.bool x.l,.string (bs x.b),.slice A x.ks.length c]] w fun e w'=>e=.returned (.int .i64 (depthP x))∧Below w.heap.size w w':=by
 induction N with
 | zero=>intro x A c w h;have:=qc3 x;omega
 | succ N ih =>
  intro x A c w hN hM hp hv
  cases hl:x.l with
  | false =>
   have hk:=qjx hp hl
   have h0:depthP x=0:=by rw [qhu,hk,hl];simp [depthsP]
   rw [h0]
   clear h0 hk hl
   go_enter Tryz.func111,Tryz.ntmps111
   go_wp2_with fail
   go_ret
   exact ⟨rfl,(Below.refl _ _).alloc qn _⟩
  | true =>
   have hlen:=qbn x.ks
   have hcnt:countP x=1+countsP x.ks:=by cases x;rfl
   have hdc:=qem x
   have hkl:x.ks.length≤1000000:=by omega
   have Hl:=qh hl
   have Hd:=qh hcnt
   have hd:Hid (depthP x=depthsP x.ks+1):=by show _=_;rw [qhu,hl];rfl
   clear hl hcnt
   go_enter Tryz.func111,Tryz.ntmps111
   go_wp2_with fail
   go_loopw [3,5,12] (fun d _ i wr=>∃ k:Nat,k≤x.ks.length∧i=.int .i64 k∧d=.int .i64 (depthsP (x.ks.take k))∧Below (w.heap.size+1) (w.alloc (.cells #[.bool true,.string (bs x.b),.slice A x.ks.length c] 53)) wr) (fun _ _ i _=>x.ks.length - (intOf i).toNat)
   case atStart=>exact ⟨0,Nat.zero_le _,rfl,rfl,Below.refl _ _⟩
   case round =>
    obtain ⟨k,hk,rfl,rfl,hb⟩:=hrel
    by_cases hlt:k < x.ks.length
    ·obtain ⟨y,hy⟩:=qal hlt
     have hv':=(hv.alloc (.cells #[.bool true,.string (bs x.b),.slice A x.ks.length c] 53)).keep (hb.mono (by simp))
     obtain ⟨g,o,A',c',hA,_,hvy,c0,c1,c2⟩:=hv'.at_ hy
     subst hA
     go_wp2_with fail
     refine (ih y A' c' _ (by have:=qbg hy;omega) (by have:=qbg hy;omega) (qme hp hy) (hvy.alloc _)).mono ?_
     rintro e w1 ⟨rfl,hb1⟩
     have hmx:=qgt hy
     have Hmx:=qh hmx
     clear hmx
     go_wp2_with fail
     go_roundw
     case rel=>
      refine ⟨k+1,hlt,by go_num,?_,?_⟩
      ·rw [Hmx.out];congr 1;split <;> omega
      ·exact qco hb (by have:=hb.size;simpa using this) hb1
     case measure=>simp [intOf];omega
    ·obtain rfl:k=x.ks.length:=by omega
     have hds:depthsP x.ks≤1000000:=by have:=hd.out;omega
     rw [List.take_length] 
     go_wp2_with fail
     go_ret
     exact ⟨qry (by have:=hd.out;omega),qa1 hb⟩
theorem qlg (N:Nat):∀ (x:Item) (A:Option Addr) (c:Nat) (w:World),countP x≤N→countP x≤1000000→ItemV Any w x A c →
  Calls Tryz.prog 78 #[.agg #[.bool x.l,.string (bs x.b),.slice A x.ks.length c]] w fun e w'=>e=.returned (.int .i64 (depthP x))∧Below w.heap.size w w':=by
 induction N with
 | zero=>intro x A c w h;have:=qc3 x;omega
 | succ N ih =>
  intro x A c w hN hM hv
  have hlen:=qbn x.ks
  have hcnt:countP x=1+countsP x.ks:=by cases x;rfl
  have hdc:=qem x
  have hkl:x.ks.length≤1000000:=by omega
  have Hd:=qh hcnt
  have hd:Hid (depthP x=depthsP x.ks+if x.l then 1 else 0):=qhu x
  have hds:depthsP x.ks≤1000000:=by have:=hd.out;omega
  clear hcnt
  go_enter Tryz.func78,Tryz.ntmps78
  go_wp2_with fail
  go_loopw [3,5,6,10] (fun d _ _ i wr=>∃ k:Nat,k≤x.ks.length∧i=.int .i64 k∧d=.int .i64 (depthsP (x.ks.take k))∧Below (w.heap.size+1) (w.alloc (.cells #[.bool x.l,.string (bs x.b),.slice A x.ks.length c] 53)) wr) (fun _ _ _ i _=>x.ks.length - (intOf i).toNat)
  case atStart=>exact ⟨0,Nat.zero_le _,rfl,rfl,Below.refl _ _⟩
  case round =>
   obtain ⟨k,hk,rfl,rfl,hb⟩:=hrel
   by_cases hlt:k < x.ks.length
   ·obtain ⟨y,hy⟩:=qal hlt
    have hv':=(hv.alloc (.cells #[.bool x.l,.string (bs x.b),.slice A x.ks.length c] 53)).keep (hb.mono (by simp))
    obtain ⟨g,o,A',c',hA,_,hvy,c0,c1,c2⟩:=hv'.at_ hy
    subst hA
    go_wp2_with fail
    refine (ih y A' c' _ (by have:=qbg hy;omega) (by have:=qbg hy;omega) (hvy.alloc _)).mono ?_
    rintro e w1 ⟨rfl,hb1⟩
    have hmx:=qgt hy
    have Hmx:=qh hmx
    clear hmx
    go_wp2_with fail
    all_goals
     go_roundw
     case rel =>
      refine ⟨k+1,hlt,by go_num,?_,?_⟩
      ·rw [Hmx.out];congr 1;omega
      ·exact qco hb (by have:=hb.size;simpa using this) hb1
     case measure=>simp [intOf];omega
   ·obtain rfl:k=x.ks.length:=by omega
    rw [List.take_length]
    obtain ⟨q1,q2⟩:=bcell hb
    have hcl:wr.cell? ⟨w.heap.size,0,none⟩=some (.bool x.l):=by rw [q1 _ _ (by omega)];simp
    clear q1 q2
    cases hl:x.l
    all_goals
     rw [hl] at hcl
     have Hl:=qh hl
     clear hl
     go_wp2_with fail
     go_ret
     exact ⟨qry (by have:=hd.out;rw [Hl.out] at this;simp at this;omega),qa1 hb⟩
theorem pure_any (N:Nat):∀ (x:Item) (A:Option Addr) (c:Nat) (w:World),countP x≤N→countP x≤1000000→ItemV Any w x A c →
  Calls Tryz.prog 77 #[.agg #[.bool x.l,.string (bs x.b),.slice A x.ks.length c]] w fun e w'=>e=.returned (.bool (pureP x))∧Below w.heap.size w w':=by
 induction N with
 | zero=>intro x A c w h;have:=qc3 x;omega
 | succ N ih =>
  intro x A c w hN hM hv
  have hlen:=qbn x.ks
  have hcnt:countP x=1+countsP x.ks:=by cases x;rfl
  have hkl:x.ks.length≤1000000:=by omega
  have Hd:=qh hcnt
  clear hcnt
  have hpe:pureP x=((if x.l then x.b.isEmpty else x.ks.isEmpty) && puresP x.ks):=by cases x;rfl
  by_cases hbad:(if x.l then x.b.isEmpty else x.ks.isEmpty)=true
  ·rw [hbad,Bool.true_and] at hpe
   have Hpe:=qh hpe
   clear hpe
   have hh:(x.l=true∧x.b = [])∨(x.l=false∧x.ks.length=0):=by
    cases hl:x.l <;> simp [hl] at hbad <;> simp [hbad]
   clear hbad
   rcases hh with ⟨hl,hb0⟩ | ⟨hl,hk0⟩
   ·have Hb:=qh hb0
    have hv1:=hv.alloc (.cells #[.bool x.l,.string (bs x.b),.slice A x.ks.length c] 53)
    rw [hl,hb0] at hv1
    rw [hl,hb0]
    have Hl:=qh hl
    clear hl hb0
    go_enter Tryz.func77,Tryz.ntmps77
    go_wp2_with fail
    go_loopw [4,26] (fun _ i wr=>∃ k:Nat,k≤x.ks.length∧i=.int .i64 k∧puresP (x.ks.take k)=true∧Below (w.heap.size+1) (w.alloc (.cells #[.bool true,.string (bs []),.slice A x.ks.length c] 53)) wr) (fun _ i _=>x.ks.length - (intOf i).toNat)
    case atStart=>exact ⟨0,Nat.zero_le _,rfl,rfl,Below.refl _ _⟩
    case round =>
     obtain ⟨k,hk,rfl,hpk,hb⟩:=hrel
     by_cases hlt:k < x.ks.length
     ·obtain ⟨y,hy⟩:=qal hlt
      have hv':=hv1.keep (hb.mono (by simp))
      obtain ⟨g,o,A',c',hA,_,hvy,c0,c1,c2⟩:=hv'.at_ hy
      subst hA
      have hpt:=qh3 hy
      rw [hpk,Bool.true_and] at hpt
      have Hpt:=qh hpt
      clear hpt hpk
      cases hpy:pureP y
      ·have Hpy:=qh hpy
       clear hpy
       go_wp2_with fail
       refine (ih y A' c' _ (by have:=qbg hy;have:=Hd.out;omega) (by have:=qbg hy;have:=Hd.out;omega) (hvy.alloc _)).mono ?_
       rintro e w1 ⟨rfl,hb1⟩
       rw [Hpy.out]
       go_wp2_with fail
       go_ret
       refine ⟨?_,qa1 (qco hb (by have:=hb.size;simpa using this) hb1)⟩
       rw [Hpe.out,qnp hy Hpy.out];rfl
      ·have Hpy:=qh hpy
       clear hpy
       go_wp2_with fail
       refine (ih y A' c' _ (by have:=qbg hy;have:=Hd.out;omega) (by have:=qbg hy;have:=Hd.out;omega) (hvy.alloc _)).mono ?_
       rintro e w1 ⟨rfl,hb1⟩
       rw [Hpy.out]
       go_wp2_with fail
       go_roundw
       case rel=>exact ⟨k+1,hlt,by go_num,by rw [Hpt.out,Hpy.out],qco hb (by have:=hb.size;simpa using this) hb1⟩
       case measure=>simp [intOf];omega
     ·obtain rfl:k=x.ks.length:=by omega
      rw [List.take_length] at hpk
      have Hpk:=qh hpk
      clear hpk
      go_wp2_with fail
      go_ret
      exact ⟨by rw [Hpe.out,Hpk.out];rfl,qa1 hb⟩
   ·have hkn:x.ks = []:=List.eq_nil_of_length_eq_zero hk0
    have hp1:pureP x=true:=by rw [Hpe.out,hkn];rfl
    rw [hl,hp1,hk0]
    clear hl hp1 hk0 hkn
    go_enter Tryz.func77,Tryz.ntmps77
    go_wp2_with fail
    go_loopw [4,26] (fun _ i wr=>i=.int .i64 0∧Below (w.heap.size+1) (w.alloc (.cells #[.bool false,.string (bs x.b),.slice A 0 c] 53)) wr) (fun _ i _=>0)
    case atStart=>exact ⟨rfl,Below.refl _ _⟩
    case round =>
     obtain ⟨rfl,hb⟩:=hrel
     go_wp2_with fail
     go_ret
     exact ⟨rfl,qa1 hb⟩
  ·have hpf:pureP x=false:=by rw [hpe];simp [hbad]
   rw [hpf]
   have hh:(x.l=true∧(x.b == [])=false)∨(x.l=false∧0 < (x.ks.length:Int)):=by
    cases hl:x.l
    ·rw [hl] at hbad
     refine .inr ⟨rfl,?_⟩
     cases hk:x.ks
     ·rw [hk] at hbad;simp at hbad
     ·simp
    ·rw [hl] at hbad
     refine .inl ⟨rfl,?_⟩
     cases hk:x.b
     ·rw [hk] at hbad;simp at hbad
     ·rfl
   clear hpf hbad hpe
   rcases hh with ⟨hl,hb0⟩ | ⟨hl,hb0⟩
   all_goals
    rw [hl]
    clear hl
    go_enter Tryz.func77,Tryz.ntmps77
    go_wp2_with fail
    go_ret
    exact ⟨rfl,(Below.refl _ _).alloc qn _⟩
/- The walks of rlp.well and of the reference's Many: items in a row, one behind the other. -/
theorem qft:ElemOk Tryz.prog 51 53 (.agg #[.bool false,.string ⟨#[]⟩,.slice none 0 0]) 3 48:=⟨Tryz.underlying51,by kernel_rfl,rfl,by omega⟩
theorem well_any (x:Item) (A:Option Addr) (c:Nat) (w:World) (hv:ItemV Any w x A c) :
  Calls Tryz.prog 110 #[.agg #[.bool x.l,.string (bs x.b),.slice A x.ks.length c]] w fun e w'=>e=.returned (.bool (wellP x))∧Below w.heap.size w w':=by
 go_enter Tryz.func110,Tryz.ntmps110
 go_wp2_with fail
 go_loopw [3,4,5] (fun v i _ wr=>∃ (k:Nat) (q:List Item) (xs:List Value),k≤q.length∧q.length≤4000∧i=.int .i64 k∧wr.ownsRow (w.heap.size+1) 53 3 v q.length xs∧RepN Any w 3 (itemsD q) xs ∧
   Hid (countP x=k+countsP (q.drop k))∧Hid (pureP x=puresP (q.drop k))∧Below (w.heap.size+1) (w.alloc (.cells #[.bool x.l,.string (bs x.b),.slice A x.ks.length c] 53)) wr) (fun _ i _ _=>4001 - (intOf i).toNat)
 case atStart =>
  refine ⟨0,[x],itemC x A c,by simp,by simp,rfl,?_,?_,?_,?_,?_⟩
  ·have:=World.ownsRow_lit (base:=w.heap.size+1) (e:=53) (size:=3) (w.alloc (.cells #[.bool x.l,.string (bs x.b),.slice A x.ks.length c] 53)) #[.bool x.l,.string (bs x.b),.slice A x.ks.length c] 1 (by simp) (by simp only [maxLen];omega) rfl
   simpa [itemC] using this
  ·exact .cons hv rfl .nil
  ·show _=_;simp [countsP]
  ·show _=_;simp [puresP]
  ·exact ((Below.refl _ _).alloc (by simp) _)
 case round =>
  obtain ⟨k,q,xs,hk,hq,rfl,hown,hr,H1,H2,hb⟩:=hrel
  obtain ⟨A1,c1,rfl⟩:=qau hown
  have hbs:=hb.size
  simp at hbs
  by_cases hlt:k < q.length
  ·obtain ⟨y,hy⟩:=qal hlt
   obtain ⟨g,A',c',hA,hvy,d0,d1,d2⟩:=qov hown hr hy
   subst hA
   have hstep:=qhx hy
   have hmore:=qmb hy
   have Hs1:=qh hstep.1
   have Hs2:=qh hstep.2
   clear hstep
   have hyl:=hvy.len
   rcases quj y with ⟨hok,hh⟩ | ⟨hok,hh⟩
   ·rw [hok,Bool.true_and] at Hs2
    clear hok
    have hfin:((y.l=true∧y.b = [])∨(y.l=false∧y.ks.length=0)):=hh
    by_cases hmany:(4000:Int) - q.length < y.ks.length
    ·have hwf:Hid (wellP x=false):=by show _=_;unfold wellP;rw [decide_eq_false (by have:=H1.out;omega),Bool.and_false]
     rcases hh with ⟨hl,hb0⟩ | ⟨hl,hb0⟩
     ·rw [hl] at d0
      rw [hb0] at d1
      clear hl hb0 hfin
      go_wp2_with fail
      go_ret
      exact ⟨by rw [hwf.out];rfl,qa1 (hb.alloc (by omega) _)⟩
     ·omega
    ·obtain ⟨css,hkr,hkl,hkn,hko⟩:=hvy.kids.slice_open
     rcases hh with ⟨hl,hb0⟩ | ⟨hl,hb0⟩
     ·rw [hl] at d0
      rw [hb0] at d1
      clear hl hb0 hfin
      go_wp2_with (at_builtin;refine qaw qft rfl rfl (w.heap.size+1) (hown.alloc _) rfl css rfl hkn ((hkl.mono (fun b hlt hs=>⟨hs,(qa1 (hb.alloc (by omega) _)).block b hlt⟩))) hko (by simp only [maxLen];omega) (by omega) (by simp;omega) ?_;intro v1 w1 hown1 hg1 hat1)
      go_roundw
      case rel =>
       refine ⟨k+1,q ++ y.ks,xs ++ css,by simp;omega,by simp;omega,by go_num,by simpa using hown1,?_,?_,?_,?_⟩
       ·rw [qbo];exact RepN.append hkr hr
       ·show _=_;rw [H1.out,Hs1.out]
       ·show _=_;rw [H2.out,Hs2.out]
       ·exact qay (hb.alloc (by omega) _) (hown.alloc _) hg1 (by simp;omega) qn
      case measure=>simp [intOf];omega
     ·rw [hl] at d0
      have hky:y.ks = []:=List.eq_nil_of_length_eq_zero hb0
      have hcs:css = []:=List.eq_nil_of_length_eq_zero (by rw [hkn,hb0])
      subst hcs
      rw [hb0] at d2
      have Hky:=qh hky
      clear hl hb0 hfin hky hkr hkn hmany hyl hmore
      go_wp2_with (at_builtin;refine qaw qft rfl rfl (w.heap.size+1) (hown.alloc _) rfl [] rfl rfl Lies.nil (fun u hu=>by cases hu) (by simp only [maxLen];omega) (by omega) (by simp;omega) ?_;intro v1 w1 hown1 hg1 hat1)
      go_roundw
      case rel =>
       refine ⟨k+1,q,xs,by omega,by omega,by go_num,by simpa using hown1,hr,?_,?_,?_⟩
       ·show _=_;have:=Hs1.out;rw [Hky.out,List.append_nil] at this;rw [H1.out,this]
       ·show _=_;have:=Hs2.out;rw [Hky.out,List.append_nil] at this;rw [H2.out,this]
       ·exact qay (hb.alloc (by omega) _) (hown.alloc _) hg1 (by simp;omega) qn
      case measure=>simp [intOf];omega
   ·have hwf:Hid (wellP x=false):=by show _=_;unfold wellP;rw [H2.out,Hs2.out,hok];rfl
    clear hok hvy hmore hyl Hs1 Hs2
    generalize hn:y.ks.length=n at d2 hh
    clear hn
    rcases hh with ⟨hl,hb0⟩ | ⟨hl,hb0⟩
    all_goals
     rw [hl] at d0
     clear hl
     go_wp2_with fail
     go_ret
     exact ⟨by rw [hwf.out];rfl,qa1 (hb.alloc (by omega) _)⟩
  ·obtain rfl:k=q.length:=by omega
   have hwf:Hid (wellP x=true):=by
    show _=_
    have h1:=H1.out
    have h2:=H2.out
    simp [countsP,puresP] at h1 h2
    unfold wellP;rw [h2,decide_eq_true (by omega)];rfl
   clear hr
   go_wp2_with fail
   go_ret
   exact ⟨by rw [hwf.out];rfl,qa1 hb⟩
theorem Many_any (x:Item) (A:Option Addr) (c:Nat) (w:World) (hv:ItemV Any w x A c) :
  Calls Tryz.prog 76 #[.agg #[.bool x.l,.string (bs x.b),.slice A x.ks.length c],.int .i64 4000] w fun e w'=>∃ n:Nat,e=.returned (.int .i64 n)∧n≤4001∧(4000 < n↔4000 < countP x)∧Below w.heap.size w w':=by
 go_enter Tryz.func76,Tryz.ntmps76
 go_wp2_with fail
 go_loopw [5,6,8] (fun v i _ wr=>∃ (k:Nat) (q:List Item) (xs:List Value),k≤q.length∧i=.int .i64 k∧wr.ownsRow (w.heap.size+1) 53 3 v q.length xs∧RepN Any w 3 (itemsD q) xs ∧
   Hid (ManyS x k q)∧Below (w.heap.size+1) (w.alloc (.cells #[.bool x.l,.string (bs x.b),.slice A x.ks.length c] 53)) wr) (fun _ i _ _=>4002 - (intOf i).toNat)
 case atStart =>
  refine ⟨0,[x],itemC x A c,by simp,rfl,?_,?_,?_,?_⟩
  ·have:=World.ownsRow_lit (base:=w.heap.size+1) (e:=53) (size:=3) (w.alloc (.cells #[.bool x.l,.string (bs x.b),.slice A x.ks.length c] 53)) #[.bool x.l,.string (bs x.b),.slice A x.ks.length c] 1 (by simp) (by simp only [maxLen];omega) rfl
   simpa [itemC] using this
  ·exact .cons hv rfl .nil
  ·exact .inl ⟨by simp,by simp [countsP]⟩
  ·exact ((Below.refl _ _).alloc (by simp) _)
 case round =>
  obtain ⟨k,q,xs,hk,rfl,hown,hr,HS,hb⟩:=hrel
  obtain ⟨A1,c1,rfl⟩:=qau hown
  have hbs:=hb.size
  simp at hbs
  have hql:=HS.out.le
  by_cases hlt:k < q.length
  ·by_cases hle:(q.length:Int)≤4000
   ·obtain ⟨y,hy⟩:=qal hlt
    obtain ⟨g,A',c',hA,hvy,d0,d1,d2⟩:=qov hown hr hy
    subst hA
    have hyb:y.ks.length≤9223372036854775807:=by have:=hvy.len;simp only [maxLen] at this;omega
    clear d0 d1
    go_wp2_with fail
    go_loopw [5,8,29] (fun v _ i wr2=>∃ (j:Nat) (q2:List Item) (xs2:List Value),j≤y.ks.length∧i=.int .i64 j∧wr2.ownsRow (w.heap.size+1) 53 3 v q2.length xs2∧RepN Any w 3 (itemsD q2) xs2 ∧
      Hid (ManyI x q y.ks j q2)∧Below (w.heap.size+1) (w.alloc (.cells #[.bool x.l,.string (bs x.b),.slice A x.ks.length c] 53)) wr2) (fun _ _ i _=>y.ks.length - (intOf i).toNat)
    case atStart=>exact ⟨0,q,xs,Nat.zero_le _,rfl,hown,hr,ManyI.start HS.out,hb⟩
    case round =>
     obtain ⟨j,q2,xs2,hj,rfl,hown2,hr2,HI,hb2⟩:=hrel
     obtain ⟨A2,c2,rfl⟩:=qau hown2
     have hbs2:=hb2.size
     simp at hbs2
     have hql2:=HI.out.le
     by_cases hjt:j < y.ks.length
     ·obtain ⟨z,hz⟩:=qal hjt
      have hwr:=qa1 hb2
      obtain ⟨g3,o3,A3,c3,hA3,_,hvz,e0,e1,e2⟩:=(hvy.keep hwr).at_ hz
      subst hA3
      have hvz0:ItemV Any w z A3 c3:=by
       obtain ⟨g4,o4,A4,c4,hA4,_,hv4,f0,f1,f2⟩:=hvy.at_ hz
       injection hA4 with hA4
       injection hA4 with hg ho _
       subst hg;subst ho
       have:=hwr.cell (p:=⟨g3,o3+j * 3+2,none⟩) (qap f2)
       rw [f2,e2] at this
       injection this with this
       injection this with h1 h2 h3
       subst h1;subst h3
       exact hv4
      by_cases hle2:(q2.length:Int)≤4000
      ·go_wp2_with (at_builtin;refine qaw qft rfl rfl (w.heap.size+1) ((hown2.alloc _).alloc _) rfl (m:=1) (itemC z A3 c3) rfl rfl (qbw _ _ (by simp) #[.bool z.l,.string (bs z.b),.slice A3 z.ks.length c3] _) (qil _ _ _) (by simp only [maxLen];omega) (by omega) (by simp;omega) ?_;intro v1 w1 hown1 hg1 hat1)
       go_roundw
       case rel =>
        refine ⟨j+1,q2 ++ [z],xs2 ++ itemC z A3 c3,hjt,by go_num,by simpa using hown1,?_,ManyI.more HS.out (by omega) hy hz HI.out (by omega),?_⟩
        ·rw [qbo];exact RepN.append (.cons hvz0 rfl .nil) hr2
        ·exact qay ((hb2.alloc (by omega) _).alloc (by simp;omega) _) ((hown2.alloc _).alloc _) hg1 (by simp;omega) qn
       case measure=>simp [intOf];omega
      ·go_wp2_with fail
       go_roundw
       case rel=>exact ⟨j+1,q2,xs2,hjt,by go_num,hown2.alloc _,hr2,ManyI.stay hz HI.out (by omega),hb2.alloc (by omega) _⟩
       case measure=>simp [intOf];omega
     ·obtain rfl:j=y.ks.length:=by omega
      have HN:Hid (ManyS x (k+1) q2):=ManyS.next HS.out (by omega) hy HI.out
      have hkq:k+1≤q2.length:=by
       rcases HI.out with ⟨e,_⟩ | ⟨e,_⟩
       ·rw [e];simp;omega
       ·omega
      go_wp2_with fail
      go_roundw
      case rel=>exact ⟨k+1,q2,xs2,hkq,by go_num,hown2,hr2,HN,hb2⟩
      case measure=>simp [intOf];omega
   ·have hfin:=HS.out.fin (by omega) hk
    go_wp2_with fail
    go_ret
    exact ⟨q.length,rfl,hql,hfin,qa1 hb⟩
  ·have hfin:=HS.out.fin (by omega) hk
   have hkk:k=q.length:=by omega
   subst hkk
   go_wp2_with fail
   go_ret
   exact ⟨q.length,rfl,hql,hfin,qa1 hb⟩
end Go.Proofs.YteoednifdpdbnaaGreat
