/- The walks of rlp and of the reference: numbers and heads. -/
import Derived.Test.YteoednifdpdbnaaGreatProg
import Derived.Test.YteoednifdpdbnaaGreatZ04
import Derived.Test.YteoednifdpdbnaaGreatZ01
import Derived.Outline
namespace Go.Proofs.YteoednifdpdbnaaGreat
set_option linter.unusedVariables false
set_option linter.unusedSimpArgs false
open Go.RowKit
set_option maxHeartbeats 800000
theorem elByte:ElemOk Tryz.prog 97 5 (.int .u8 0) 1 1:=⟨Tryz.underlying97,by kernel_rfl,rfl,by omega⟩
theorem qj7 {a b:List UInt8} (h:a=b):Ending.returned (.string (bs a))=.returned (.string (bs b)):=by rw [h]
theorem qk9 (n:Int) (h0:0≤n) (hn:n < 18446744073709551616) (w:World) :
  Calls Tryz.prog 217 #[.int .u64 n] w fun e w'=>e=.returned (.string (bs (digs n.toNat)))∧Below w.heap.size w w':=by
 obtain ⟨n,rfl⟩:=Int.eq_ofNat_of_zero_le h0
 rw [Int.toNat_natCast]
 clear h0
 have hl8:=qbl 8 n (by omega)
 go_enter Tryz.func217,Tryz.ntmps217
 go_wp2_with fail
 go_loopw [0,3] (fun a v wr=>∃ (m:Nat) (l:Bytes),m≤n∧a=.int .u64 m∧wr.ownsRow w.heap.size 5 1 v l.length (l.map cellB)∧digs n=digs m ++ l∧Below w.heap.size w wr) (fun a _ _=>(intOf a).toNat)
 case atStart=>exact ⟨n,[],Nat.le_refl _,rfl,by simpa using World.ownsRow_nil w _ _ _,by simp,Below.refl _ _⟩
 case round =>
  obtain ⟨m,l,hm,rfl,hown,hd,hb⟩:=hrel
  have hll:l.length≤8:=by rw [hd] at hl8;simp at hl8;omega
  have Hd:=qh hd
  clear hd
  obtain ⟨A,c,rfl⟩:=qa4 hown
  have hbs:=hb.size
  by_cases h0:0 < m
  ·go_wp2_with (at_builtin;refine qa0 elByte rfl rfl w.heap.size (World.ownsRow_lit wr #[.int .u8 ((m:Int) % 256)] 1 hbs (by simp only [maxLen];omega) rfl) rfl (l.map cellB) rfl (by simp) (qdl (hown.alloc _) (fun _ _ _=>trivial)) (qs9 l) (by simp only [maxLen];omega) (by omega) (by simp;omega) ?_;intro v1 w1 hown1 hg1 hat1)
   go_roundw
   case rel =>
    refine ⟨m / 256,UInt8.ofNat (m % 256) :: l,by omega,rfl,?_,?_,?_⟩
    ·have:=hown1
     rw [Nat.add_comm] at this
     simpa [qn7] using this
    ·rw [Hd.out,qds h0];simp
    ·exact (hb.alloc hbs _).grown hg1 (by simp;omega) (fun k hk=>by simp [Value.ownBlock] at hk;omega)
   case measure=>simp [intOf];omega
  ·obtain rfl:m=0:=by omega
   have hcv:=qa3 (src:=97) (dst:=9) (c:=c) Tryz.underlying97 Tryz.underlying5 Tryz.underlying9 (qdl hown (fun _ _ _=>trivial))
   go_wp2_with fail
   go_ret
   exact ⟨qj7 (by rw [Hd.out,qce];rfl),hb⟩
theorem qjh (f n:Int) (hf:f=128∨f=192) (h0:0≤n) (hn:n < 16777216) (w:World) :
  Calls Tryz.prog 169 #[.int .u8 f,.int .i64 n] w fun e w'=>e=.returned (.string (bs (headP f.toNat n.toNat)))∧Below w.heap.size w w':=by
 have hf1:128≤f:=by omega
 have hf2:f≤192:=by omega
 obtain ⟨f,rfl⟩:=Int.eq_ofNat_of_zero_le (a:=f) (by omega)
 clear hf
 obtain ⟨n,rfl⟩:=Int.eq_ofNat_of_zero_le h0
 simp only [Int.toNat_natCast]
 clear h0
 by_cases hs:(n:Int)≤55
 ·obtain ⟨c,hc,hce⟩:=qs6 (f+n) (by omega)
  have hcv:=qgp Tryz.underlying97 Tryz.underlying5 Tryz.underlying9 ((f:Int)+n) c (by omega)
  have Hc:=qh hce
  clear hc hce
  go_enter Tryz.func169,Tryz.ntmps169
  go_wp2_with fail
  go_ret
  refine ⟨qj7 ?_,(Below.refl _ _).alloc qn _⟩
  unfold headP;rw [if_pos (by omega),Hc.out]
 ·have hl8:=qbl 3 n (by omega)
  obtain ⟨c,hc,hce⟩:=qs6 (f+55+(digs n).length) (by omega)
  have hcv:=qgp Tryz.underlying97 Tryz.underlying5 Tryz.underlying9 ((f:Int)+55+(digs n).length) c (by omega)
  have Hc:=qh hce
  clear hc hce
  go_enter Tryz.func169,Tryz.ntmps169
  go_wp2_with fail
  refine (qk9 _ (by omega) (by omega) _).mono ?_
  rintro e w1 ⟨rfl,hb1⟩
  rw [Int.toNat_natCast]
  go_wp2_with fail
  go_ret
  refine ⟨qj7 ?_,hb1.alloc hb1.size _⟩
  unfold headP;rw [if_neg (by omega),Hc.out]
/- The walks of rlp and of the reference: functions that go down an item. -/
theorem ret_int {k:IntKind} {a b:Int} (h:a=b):Ending.returned (.int k a)=.returned (.int k b):=by rw [h]
theorem qn0 (N:Nat):∀ (x:Item) (A:Option Addr) (c:Nat) (w:World),countP x≤N→countP x≤1000000→pureP x=true→ItemV Any w x A c →
  Calls Tryz.prog 111 #[.agg #[.bool x.l,.string (bs x.b),.slice A x.ks.length c]] w fun e w'=>e=.returned (.int .i64 (depthP x))∧Below w.heap.size w w':=by
 induction N with
 | zero=>intro x A c w h;have:=qgc x;omega
 | succ N ih =>
  intro x A c w hN hM hp hv
  cases hl:x.l with
  | false =>
   have hk:=qo5 hp hl
   have h0:depthP x=0:=by rw [qk3,hk,hl];simp [depthsP]
   rw [h0]
   clear h0 hk hl
   go_enter Tryz.func111,Tryz.ntmps111
   go_wp2_with fail
   go_ret
   exact ⟨rfl,(Below.refl _ _).alloc qn _⟩
  | true =>
   have hlen:=qcj x.ks
   have hcnt:countP x=1+countsP x.ks:=by cases x;rfl
   have hdc:=qhy x
   have hkl:x.ks.length≤1000000:=by omega
   have Hl:=qh hl
   have Hd:=qh hcnt
   have hd:Hid (depthP x=depthsP x.ks+1):=by show _=_;rw [qk3,hl];rfl
   clear hl hcnt
   go_enter Tryz.func111,Tryz.ntmps111
   go_wp2_with fail
   go_loopw [3,5,12] (fun d _ i wr=>∃ k:Nat,k≤x.ks.length∧i=.int .i64 k∧d=.int .i64 (depthsP (x.ks.take k))∧Below (w.heap.size+1) (w.alloc (.cells #[.bool true,.string (bs x.b),.slice A x.ks.length c] 53)) wr) (fun _ _ i _=>x.ks.length - (intOf i).toNat)
   case atStart=>exact ⟨0,Nat.zero_le _,rfl,rfl,Below.refl _ _⟩
   case round =>
    obtain ⟨k,hk,rfl,rfl,hb⟩:=hrel
    by_cases hlt:k < x.ks.length
    ·obtain ⟨y,hy⟩:=qan hlt
     have hv':=(hv.alloc (.cells #[.bool true,.string (bs x.b),.slice A x.ks.length c] 53)).keep (hb.mono (by simp))
     obtain ⟨g,o,A',c',hA,_,hvy,c0,c1,c2⟩:=hv'.at_ hy
     subst hA
     go_wp2_with fail
     refine (ih y A' c' _ (by have:=qdf hy;omega) (by have:=qdf hy;omega) (qsd hp hy) (hvy.alloc _)).mono ?_
     rintro e w1 ⟨rfl,hb1⟩
     have hmx:=qlu hy
     have Hmx:=qh hmx
     clear hmx
     go_wp2_with fail
     go_roundw
     case rel=>
      refine ⟨k+1,hlt,by go_num,?_,?_⟩
      ·rw [Hmx.out];congr 1;split <;> omega
      ·exact qgh hb (by have:=hb.size;simpa using this) hb1
     case measure=>simp [intOf];omega
    ·obtain rfl:k=x.ks.length:=by omega
     have hds:depthsP x.ks≤1000000:=by have:=hd.out;omega
     rw [List.take_length] 
     go_wp2_with fail
     go_ret
     exact ⟨ret_int (by have:=hd.out;omega),qbg hb⟩
/- The walks of rlp.well and of the reference's Many: items in a row, one behind the other. -/
theorem qi6:ElemOk Tryz.prog 51 53 (.agg #[.bool false,.string ⟨#[]⟩,.slice none 0 0]) 3 48:=⟨Tryz.underlying51,by kernel_rfl,rfl,by omega⟩
theorem well_any (x:Item) (A:Option Addr) (c:Nat) (w:World) (hv:ItemV Any w x A c) :
  Calls Tryz.prog 110 #[.agg #[.bool x.l,.string (bs x.b),.slice A x.ks.length c]] w fun e w'=>e=.returned (.bool (wellP x))∧Below w.heap.size w w':=by
 go_enter Tryz.func110,Tryz.ntmps110
 go_wp2_with fail
 go_loopw [3,4,5] (fun v i _ wr=>∃ (k:Nat) (q:List Item) (xs:List Value),k≤q.length∧q.length≤4000∧i=.int .i64 k∧wr.ownsRow (w.heap.size+1) 53 3 v q.length xs∧RepN Any w 3 (itemsD q) xs ∧
   Hid (countP x=k+countsP (q.drop k))∧Hid (pureP x=puresP (q.drop k))∧Below (w.heap.size+1) (w.alloc (.cells #[.bool x.l,.string (bs x.b),.slice A x.ks.length c] 53)) wr) (fun _ i _ _=>4001 - (intOf i).toNat)
 case atStart =>
  refine ⟨0,[x],itemC x A c,by simp,by simp,rfl,?_,?_,?_,?_,?_⟩
  ·have:=World.ownsRow_lit (base:=w.heap.size+1) (e:=53) (size:=3) (w.alloc (.cells #[.bool x.l,.string (bs x.b),.slice A x.ks.length c] 53)) #[.bool x.l,.string (bs x.b),.slice A x.ks.length c] 1 (by simp) (by simp only [maxLen];omega) rfl
   simpa [itemC] using this
  ·exact .cons hv rfl .nil
  ·show _=_;simp [countsP]
  ·show _=_;simp [puresP]
  ·exact ((Below.refl _ _).alloc (by simp) _)
 case round =>
  obtain ⟨k,q,xs,hk,hq,rfl,hown,hr,H1,H2,hb⟩:=hrel
  obtain ⟨A1,c1,rfl⟩:=qa4 hown
  have hbs:=hb.size
  simp at hbs
  by_cases hlt:k < q.length
  ·obtain ⟨y,hy⟩:=qan hlt
   obtain ⟨g,A',c',hA,hvy,d0,d1,d2⟩:=own_item hown hr hy
   subst hA
   have hstep:=qhk hy
   have hmore:=qlx hy
   have Hs1:=qh hstep.1
   have Hs2:=qh hstep.2
   clear hstep
   have hyl:=hvy.len
   rcases qpy y with ⟨hok,hh⟩ | ⟨hok,hh⟩
   ·rw [hok,Bool.true_and] at Hs2
    clear hok
    have hfin:((y.l=true∧y.b = [])∨(y.l=false∧y.ks.length=0)):=hh
    by_cases hmany:(4000:Int) - q.length < y.ks.length
    ·have hwf:Hid (wellP x=false):=by show _=_;unfold wellP;rw [decide_eq_false (by have:=H1.out;omega),Bool.and_false]
     rcases hh with ⟨hl,hb0⟩ | ⟨hl,hb0⟩
     ·rw [hl] at d0
      rw [hb0] at d1
      clear hl hb0 hfin
      go_wp2_with fail
      go_ret
      exact ⟨by rw [hwf.out];rfl,qbg (hb.alloc (by omega) _)⟩
     ·omega
    ·obtain ⟨css,hkr,hkl,hkn,hko⟩:=hvy.kids.slice_open
     rcases hh with ⟨hl,hb0⟩ | ⟨hl,hb0⟩
     ·rw [hl] at d0
      rw [hb0] at d1
      clear hl hb0 hfin
      go_wp2_with (at_builtin;refine qa0 qi6 rfl rfl (w.heap.size+1) (hown.alloc _) rfl css rfl hkn ((hkl.mono (fun b hlt hs=>⟨hs,(qbg (hb.alloc (by omega) _)).block b hlt⟩))) hko (by simp only [maxLen];omega) (by omega) (by simp;omega) ?_;intro v1 w1 hown1 hg1 hat1)
      go_roundw
      case rel =>
       refine ⟨k+1,q ++ y.ks,xs ++ css,by simp;omega,by simp;omega,by go_num,by simpa using hown1,?_,?_,?_,?_⟩
       ·rw [qcw];exact RepN.append hkr hr
       ·show _=_;rw [H1.out,Hs1.out]
       ·show _=_;rw [H2.out,Hs2.out]
       ·exact qa7 (hb.alloc (by omega) _) (hown.alloc _) hg1 (by simp;omega) qn
      case measure=>simp [intOf];omega
     ·rw [hl] at d0
      have hky:y.ks = []:=List.eq_nil_of_length_eq_zero hb0
      have hcs:css = []:=List.eq_nil_of_length_eq_zero (by rw [hkn,hb0])
      subst hcs
      rw [hb0] at d2
      have Hky:=qh hky
      clear hl hb0 hfin hky hkr hkn hmany hyl hmore
      go_wp2_with (at_builtin;refine qa0 qi6 rfl rfl (w.heap.size+1) (hown.alloc _) rfl [] rfl rfl Lies.nil (fun u hu=>by cases hu) (by simp only [maxLen];omega) (by omega) (by simp;omega) ?_;intro v1 w1 hown1 hg1 hat1)
      go_roundw
      case rel =>
       refine ⟨k+1,q,xs,by omega,by omega,by go_num,by simpa using hown1,hr,?_,?_,?_⟩
       ·show _=_;have:=Hs1.out;rw [Hky.out,List.append_nil] at this;rw [H1.out,this]
       ·show _=_;have:=Hs2.out;rw [Hky.out,List.append_nil] at this;rw [H2.out,this]
       ·exact qa7 (hb.alloc (by omega) _) (hown.alloc _) hg1 (by simp;omega) qn
      case measure=>simp [intOf];omega
   ·have hwf:Hid (wellP x=false):=by show _=_;unfold wellP;rw [H2.out,Hs2.out,hok];rfl
    clear hok hvy hmore hyl Hs1 Hs2
    generalize hn:y.ks.length=n at d2 hh
    clear hn
    rcases hh with ⟨hl,hb0⟩ | ⟨hl,hb0⟩
    all_goals
     rw [hl] at d0
     clear hl
     go_wp2_with fail
     go_ret
     exact ⟨by rw [hwf.out];rfl,qbg (hb.alloc (by omega) _)⟩
  ·obtain rfl:k=q.length:=by omega
   have hwf:Hid (wellP x=true):=by
    show _=_
    have h1:=H1.out
    have h2:=H2.out
    simp [countsP,puresP] at h1 h2
    unfold wellP;rw [h2,decide_eq_true (by omega)];rfl
   clear hr
   go_wp2_with fail
   go_ret
   exact ⟨by rw [hwf.out];rfl,qbg hb⟩
end Go.Proofs.YteoednifdpdbnaaGreat
