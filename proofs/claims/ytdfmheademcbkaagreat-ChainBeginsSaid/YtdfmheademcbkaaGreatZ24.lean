/- The walks of rlp and of the reference: functions that go down an item. -/
import Derived.Test.YtdfmheademcbkaaGreatZ23
import Derived.Test.YtdfmheademcbkaaGreatZ14
namespace Go.Proofs.YtdfmheademcbkaaGreat
set_option linter.unusedVariables false
set_option linter.unusedSimpArgs false
open Go.RowKit
set_option maxHeartbeats 1000000
theorem ret_int {k:IntKind} {a b:Int} (h:a=b):Ending.returned (.int k a)=.returned (.int k b):=by rw [h]
theorem deep_any (N:Nat):∀ (x:Item) (A:Option Addr) (c:Nat) (w:World),countP x≤N→countP x≤1000000→pureP x=true→ItemV Any w x A c →
  Calls Tryz.prog 77 #[.agg #[.bool x.l,.string (bs x.b),.slice A x.ks.length c]] w fun e w'=>e=.returned (.int .i64 (depthP x))∧Below w.heap.size w w':=by
 induction N with
 | zero=>intro x A c w h;have:=countP_pos x;omega
 | succ N ih =>
  intro x A c w hN hM hp hv
  cases hl:x.l with
  | false =>
   have hk:=pureP_leaf hp hl
   have h0:depthP x=0:=by rw [depthP_eq,hk,hl];simp [depthsP]
   rw [h0]
   clear h0 hk hl
   go_enter Tryz.func77,Tryz.ntmps77
   go_wp2_with fail
   go_ret
   exact ⟨rfl,(Below.refl _ _).alloc (Nat.le_refl _) _⟩
  | true =>
   have hlen:=countsP_ge x.ks
   have hcnt:countP x=1+countsP x.ks:=by cases x;rfl
   have hdc:=depthP_le_count x
   have hkl:x.ks.length≤1000000:=by omega
   have Hl:=Lib.hid hl
   have Hd:=Lib.hid hcnt
   have hd:Hid (depthP x=depthsP x.ks+1):=by show _=_;rw [depthP_eq,hl];rfl
   clear hl hcnt
   go_enter Tryz.func77,Tryz.ntmps77
   go_wp2_with fail
   go_loopw [3,5,12] (fun d _ i wr=>∃ k:Nat,k≤x.ks.length∧i=.int .i64 k∧d=.int .i64 (depthsP (x.ks.take k))∧Below (w.heap.size+1) (w.alloc (.cells #[.bool true,.string (bs x.b),.slice A x.ks.length c] 86)) wr) (fun _ _ i _=>x.ks.length - (intOf i).toNat)
   case atStart=>exact ⟨0,Nat.zero_le _,rfl,rfl,Below.refl _ _⟩
   case round =>
    obtain ⟨k,hk,rfl,rfl,hb⟩:=hrel
    by_cases hlt:k < x.ks.length
    ·obtain ⟨y,hy⟩:=getElem_ex hlt
     have hv':=(hv.alloc (.cells #[.bool true,.string (bs x.b),.slice A x.ks.length c] 86)).keep (hb.mono (by simp))
     obtain ⟨g,o,A',c',hA,_,hvy,c0,c1,c2⟩:=hv'.at_ hy
     subst hA
     go_wp2_with fail
     refine (ih y A' c' _ (by have:=countP_mem hy;omega) (by have:=countP_mem hy;omega) (pureP_mem hp hy) (hvy.alloc _)).mono ?_
     rintro e w1 ⟨rfl,hb1⟩
     have hmx:=depthsP_take hy
     have Hmx:=Lib.hid hmx
     clear hmx
     go_wp2_with fail
     go_roundw
     case rel=>
      refine ⟨k+1,hlt,by go_num,?_,?_⟩
      ·rw [Hmx.out];congr 1;split <;> omega
      ·exact below_next hb (by have:=hb.size;simpa using this) hb1
     case measure=>simp [intOf];omega
    ·obtain rfl:k=x.ks.length:=by omega
     have hds:depthsP x.ks≤1000000:=by have:=hd.out;omega
     rw [List.take_length] 
     go_wp2_with fail
     go_ret
     exact ⟨ret_int (by have:=hd.out;omega),below_box hb⟩
theorem Depth_any (N:Nat):∀ (x:Item) (A:Option Addr) (c:Nat) (w:World),countP x≤N→countP x≤1000000→ItemV Any w x A c →
  Calls Tryz.prog 98 #[.agg #[.bool x.l,.string (bs x.b),.slice A x.ks.length c]] w fun e w'=>e=.returned (.int .i64 (depthP x))∧Below w.heap.size w w':=by
 induction N with
 | zero=>intro x A c w h;have:=countP_pos x;omega
 | succ N ih =>
  intro x A c w hN hM hv
  have hlen:=countsP_ge x.ks
  have hcnt:countP x=1+countsP x.ks:=by cases x;rfl
  have hdc:=depthP_le_count x
  have hkl:x.ks.length≤1000000:=by omega
  have Hd:=Lib.hid hcnt
  have hd:Hid (depthP x=depthsP x.ks+if x.l then 1 else 0):=depthP_eq x
  have hds:depthsP x.ks≤1000000:=by have:=hd.out;omega
  clear hcnt
  go_enter Tryz.func98,Tryz.ntmps98
  go_wp2_with fail
  go_loopw [3,5,6,10] (fun d _ _ i wr=>∃ k:Nat,k≤x.ks.length∧i=.int .i64 k∧d=.int .i64 (depthsP (x.ks.take k))∧Below (w.heap.size+1) (w.alloc (.cells #[.bool x.l,.string (bs x.b),.slice A x.ks.length c] 86)) wr) (fun _ _ _ i _=>x.ks.length - (intOf i).toNat)
  case atStart=>exact ⟨0,Nat.zero_le _,rfl,rfl,Below.refl _ _⟩
  case round =>
   obtain ⟨k,hk,rfl,rfl,hb⟩:=hrel
   by_cases hlt:k < x.ks.length
   ·obtain ⟨y,hy⟩:=getElem_ex hlt
    have hv':=(hv.alloc (.cells #[.bool x.l,.string (bs x.b),.slice A x.ks.length c] 86)).keep (hb.mono (by simp))
    obtain ⟨g,o,A',c',hA,_,hvy,c0,c1,c2⟩:=hv'.at_ hy
    subst hA
    go_wp2_with fail
    refine (ih y A' c' _ (by have:=countP_mem hy;omega) (by have:=countP_mem hy;omega) (hvy.alloc _)).mono ?_
    rintro e w1 ⟨rfl,hb1⟩
    have hmx:=depthsP_take hy
    have Hmx:=Lib.hid hmx
    clear hmx
    go_wp2_with fail
    all_goals
     go_roundw
     case rel =>
      refine ⟨k+1,hlt,by go_num,?_,?_⟩
      ·rw [Hmx.out];congr 1;omega
      ·exact below_next hb (by have:=hb.size;simpa using this) hb1
     case measure=>simp [intOf];omega
   ·obtain rfl:k=x.ks.length:=by omega
    rw [List.take_length]
    obtain ⟨q1,q2⟩:=bcell hb
    have hcl:wr.cell? ⟨w.heap.size,0,none⟩=some (.bool x.l):=by rw [q1 _ _ (by omega)];simp
    clear q1 q2
    cases hl:x.l
    all_goals
     rw [hl] at hcl
     have Hl:=Lib.hid hl
     clear hl
     go_wp2_with fail
     go_ret
     exact ⟨ret_int (by have:=hd.out;rw [Hl.out] at this;simp at this;omega),below_box hb⟩
theorem pure_any (N:Nat):∀ (x:Item) (A:Option Addr) (c:Nat) (w:World),countP x≤N→countP x≤1000000→ItemV Any w x A c →
  Calls Tryz.prog 97 #[.agg #[.bool x.l,.string (bs x.b),.slice A x.ks.length c]] w fun e w'=>e=.returned (.bool (pureP x))∧Below w.heap.size w w':=by
 induction N with
 | zero=>intro x A c w h;have:=countP_pos x;omega
 | succ N ih =>
  intro x A c w hN hM hv
  have hlen:=countsP_ge x.ks
  have hcnt:countP x=1+countsP x.ks:=by cases x;rfl
  have hkl:x.ks.length≤1000000:=by omega
  have Hd:=Lib.hid hcnt
  clear hcnt
  have hpe:pureP x=((if x.l then x.b.isEmpty else x.ks.isEmpty) && puresP x.ks):=by cases x;rfl
  by_cases hbad:(if x.l then x.b.isEmpty else x.ks.isEmpty)=true
  ·rw [hbad,Bool.true_and] at hpe
   have Hpe:=Lib.hid hpe
   clear hpe
   have hh:(x.l=true∧x.b = [])∨(x.l=false∧x.ks.length=0):=by
    cases hl:x.l <;> simp [hl] at hbad <;> simp [hbad]
   clear hbad
   rcases hh with ⟨hl,hb0⟩ | ⟨hl,hk0⟩
   ·have Hb:=Lib.hid hb0
    have hv1:=hv.alloc (.cells #[.bool x.l,.string (bs x.b),.slice A x.ks.length c] 86)
    rw [hl,hb0] at hv1
    rw [hl,hb0]
    have Hl:=Lib.hid hl
    clear hl hb0
    go_enter Tryz.func97,Tryz.ntmps97
    go_wp2_with fail
    go_loopw [4,26] (fun _ i wr=>∃ k:Nat,k≤x.ks.length∧i=.int .i64 k∧puresP (x.ks.take k)=true∧Below (w.heap.size+1) (w.alloc (.cells #[.bool true,.string (bs []),.slice A x.ks.length c] 86)) wr) (fun _ i _=>x.ks.length - (intOf i).toNat)
    case atStart=>exact ⟨0,Nat.zero_le _,rfl,rfl,Below.refl _ _⟩
    case round =>
     obtain ⟨k,hk,rfl,hpk,hb⟩:=hrel
     by_cases hlt:k < x.ks.length
     ·obtain ⟨y,hy⟩:=getElem_ex hlt
      have hv':=hv1.keep (hb.mono (by simp))
      obtain ⟨g,o,A',c',hA,_,hvy,c0,c1,c2⟩:=hv'.at_ hy
      subst hA
      have hpt:=puresP_take hy
      rw [hpk,Bool.true_and] at hpt
      have Hpt:=Lib.hid hpt
      clear hpt hpk
      cases hpy:pureP y
      ·have Hpy:=Lib.hid hpy
       clear hpy
       go_wp2_with fail
       refine (ih y A' c' _ (by have:=countP_mem hy;have:=Hd.out;omega) (by have:=countP_mem hy;have:=Hd.out;omega) (hvy.alloc _)).mono ?_
       rintro e w1 ⟨rfl,hb1⟩
       rw [Hpy.out]
       go_wp2_with fail
       go_ret
       refine ⟨?_,below_box (below_next hb (by have:=hb.size;simpa using this) hb1)⟩
       rw [Hpe.out,pures_false hy Hpy.out];rfl
      ·have Hpy:=Lib.hid hpy
       clear hpy
       go_wp2_with fail
       refine (ih y A' c' _ (by have:=countP_mem hy;have:=Hd.out;omega) (by have:=countP_mem hy;have:=Hd.out;omega) (hvy.alloc _)).mono ?_
       rintro e w1 ⟨rfl,hb1⟩
       rw [Hpy.out]
       go_wp2_with fail
       go_roundw
       case rel=>exact ⟨k+1,hlt,by go_num,by rw [Hpt.out,Hpy.out],below_next hb (by have:=hb.size;simpa using this) hb1⟩
       case measure=>simp [intOf];omega
     ·obtain rfl:k=x.ks.length:=by omega
      rw [List.take_length] at hpk
      have Hpk:=Lib.hid hpk
      clear hpk
      go_wp2_with fail
      go_ret
      exact ⟨by rw [Hpe.out,Hpk.out];rfl,below_box hb⟩
   ·have hkn:x.ks = []:=List.eq_nil_of_length_eq_zero hk0
    have hp1:pureP x=true:=by rw [Hpe.out,hkn];rfl
    rw [hl,hp1,hk0]
    clear hl hp1 hk0 hkn
    go_enter Tryz.func97,Tryz.ntmps97
    go_wp2_with fail
    go_loopw [4,26] (fun _ i wr=>i=.int .i64 0∧Below (w.heap.size+1) (w.alloc (.cells #[.bool false,.string (bs x.b),.slice A 0 c] 86)) wr) (fun _ i _=>0)
    case atStart=>exact ⟨rfl,Below.refl _ _⟩
    case round =>
     obtain ⟨rfl,hb⟩:=hrel
     go_wp2_with fail
     go_ret
     exact ⟨rfl,below_box hb⟩
  ·have hpf:pureP x=false:=by rw [hpe];simp [hbad]
   rw [hpf]
   have hh:(x.l=true∧(x.b == [])=false)∨(x.l=false∧0 < (x.ks.length:Int)):=by
    cases hl:x.l
    ·rw [hl] at hbad
     refine .inr ⟨rfl,?_⟩
     cases hk:x.ks
     ·rw [hk] at hbad;simp at hbad
     ·simp
    ·rw [hl] at hbad
     refine .inl ⟨rfl,?_⟩
     cases hk:x.b
     ·rw [hk] at hbad;simp at hbad
     ·rfl
   clear hpf hbad hpe
   rcases hh with ⟨hl,hb0⟩ | ⟨hl,hb0⟩
   all_goals
    rw [hl]
    clear hl
    go_enter Tryz.func97,Tryz.ntmps97
    go_wp2_with fail
    go_ret
    exact ⟨rfl,(Below.refl _ _).alloc (Nat.le_refl _) _⟩
/- The walks of rlp.well and of the reference's Many: items in a row, one behind the other. -/
theorem elItem:ElemOk Tryz.prog 84 86 (.agg #[.bool false,.string ⟨#[]⟩,.slice none 0 0]) 3 48:=⟨Tryz.underlying84,by kernel_rfl,rfl,by omega⟩
theorem well_any (x:Item) (A:Option Addr) (c:Nat) (w:World) (hv:ItemV Any w x A c) :
  Calls Tryz.prog 76 #[.agg #[.bool x.l,.string (bs x.b),.slice A x.ks.length c]] w fun e w'=>e=.returned (.bool (wellP x))∧Below w.heap.size w w':=by
 go_enter Tryz.func76,Tryz.ntmps76
 go_wp2_with fail
 go_loopw [3,4,5] (fun v i _ wr=>∃ (k:Nat) (q:List Item) (xs:List Value),k≤q.length∧q.length≤4000∧i=.int .i64 k∧wr.ownsRow (w.heap.size+1) 86 3 v q.length xs∧RepN Any w 3 (itemsD q) xs ∧
   Hid (countP x=k+countsP (q.drop k))∧Hid (pureP x=puresP (q.drop k))∧Below (w.heap.size+1) (w.alloc (.cells #[.bool x.l,.string (bs x.b),.slice A x.ks.length c] 86)) wr) (fun _ i _ _=>4001 - (intOf i).toNat)
 case atStart =>
  refine ⟨0,[x],itemC x A c,by simp,by simp,rfl,?_,?_,?_,?_,?_⟩
  ·have:=World.ownsRow_lit (base:=w.heap.size+1) (e:=86) (size:=3) (w.alloc (.cells #[.bool x.l,.string (bs x.b),.slice A x.ks.length c] 86)) #[.bool x.l,.string (bs x.b),.slice A x.ks.length c] 1 (by simp) (by simp only [maxLen];omega) rfl
   simpa [itemC] using this
  ·exact .cons hv rfl .nil
  ·show _=_;simp [countsP]
  ·show _=_;simp [puresP]
  ·exact ((Below.refl _ _).alloc (by simp) _)
 case round =>
  obtain ⟨k,q,xs,hk,hq,rfl,hown,hr,H1,H2,hb⟩:=hrel
  obtain ⟨A1,c1,rfl⟩:=own_form hown
  have hbs:=hb.size
  simp at hbs
  by_cases hlt:k < q.length
  ·obtain ⟨y,hy⟩:=getElem_ex hlt
   obtain ⟨g,A',c',hA,hvy,d0,d1,d2⟩:=own_item hown hr hy
   subst hA
   have hstep:=wait_step hy
   have hmore:=wait_more hy
   have Hs1:=Lib.hid hstep.1
   have Hs2:=Lib.hid hstep.2
   clear hstep
   have hyl:=hvy.len
   rcases okB_cases y with ⟨hok,hh⟩ | ⟨hok,hh⟩
   ·rw [hok,Bool.true_and] at Hs2
    clear hok
    have hfin:((y.l=true∧y.b = [])∨(y.l=false∧y.ks.length=0)):=hh
    by_cases hmany:(4000:Int) - q.length < y.ks.length
    ·have hwf:Hid (wellP x=false):=by show _=_;unfold wellP;rw [decide_eq_false (by have:=H1.out;omega),Bool.and_false]
     rcases hh with ⟨hl,hb0⟩ | ⟨hl,hb0⟩
     ·rw [hl] at d0
      rw [hb0] at d1
      clear hl hb0 hfin
      go_wp2_with fail
      go_ret
      exact ⟨by rw [hwf.out];rfl,below_box (hb.alloc (by omega) _)⟩
     ·omega
    ·obtain ⟨css,hkr,hkl,hkn,hko⟩:=hvy.kids.slice_open
     rcases hh with ⟨hl,hb0⟩ | ⟨hl,hb0⟩
     ·rw [hl] at d0
      rw [hb0] at d1
      clear hl hb0 hfin
      go_wp2_with (at_builtin;refine wpl_append elItem rfl rfl (w.heap.size+1) (hown.alloc _) rfl css rfl hkn ((hkl.mono (fun b hlt hs=>⟨hs,(below_box (hb.alloc (by omega) _)).block b hlt⟩))) hko (by simp only [maxLen];omega) (by omega) (by simp;omega) ?_;intro v1 w1 hown1 hg1 hat1)
      go_roundw
      case rel =>
       refine ⟨k+1,q ++ y.ks,xs ++ css,by simp;omega,by simp;omega,by go_num,by simpa using hown1,?_,?_,?_,?_⟩
       ·rw [itemsD_append];exact RepN.append hkr hr
       ·show _=_;rw [H1.out,Hs1.out]
       ·show _=_;rw [H2.out,Hs2.out]
       ·exact below_app (hb.alloc (by omega) _) (hown.alloc _) hg1 (by simp;omega) (Nat.le_refl _)
      case measure=>simp [intOf];omega
     ·rw [hl] at d0
      have hky:y.ks = []:=List.eq_nil_of_length_eq_zero hb0
      have hcs:css = []:=List.eq_nil_of_length_eq_zero (by rw [hkn,hb0])
      subst hcs
      rw [hb0] at d2
      have Hky:=Lib.hid hky
      clear hl hb0 hfin hky hkr hkn hmany hyl hmore
      go_wp2_with (at_builtin;refine wpl_append elItem rfl rfl (w.heap.size+1) (hown.alloc _) rfl [] rfl rfl Lies.nil (fun u hu=>by cases hu) (by simp only [maxLen];omega) (by omega) (by simp;omega) ?_;intro v1 w1 hown1 hg1 hat1)
      go_roundw
      case rel =>
       refine ⟨k+1,q,xs,by omega,by omega,by go_num,by simpa using hown1,hr,?_,?_,?_⟩
       ·show _=_;have:=Hs1.out;rw [Hky.out,List.append_nil] at this;rw [H1.out,this]
       ·show _=_;have:=Hs2.out;rw [Hky.out,List.append_nil] at this;rw [H2.out,this]
       ·exact below_app (hb.alloc (by omega) _) (hown.alloc _) hg1 (by simp;omega) (Nat.le_refl _)
      case measure=>simp [intOf];omega
   ·have hwf:Hid (wellP x=false):=by show _=_;unfold wellP;rw [H2.out,Hs2.out,hok];rfl
    clear hok hvy hmore hyl Hs1 Hs2
    generalize hn:y.ks.length=n at d2 hh
    clear hn
    rcases hh with ⟨hl,hb0⟩ | ⟨hl,hb0⟩
    all_goals
     rw [hl] at d0
     clear hl
     go_wp2_with fail
     go_ret
     exact ⟨by rw [hwf.out];rfl,below_box (hb.alloc (by omega) _)⟩
  ·obtain rfl:k=q.length:=by omega
   have hwf:Hid (wellP x=true):=by
    show _=_
    have h1:=H1.out
    have h2:=H2.out
    simp [countsP,puresP] at h1 h2
    unfold wellP;rw [h2,decide_eq_true (by omega)];rfl
   clear hr
   go_wp2_with fail
   go_ret
   exact ⟨by rw [hwf.out];rfl,below_box hb⟩
theorem Many_any (x:Item) (A:Option Addr) (c:Nat) (w:World) (hv:ItemV Any w x A c) :
  Calls Tryz.prog 96 #[.agg #[.bool x.l,.string (bs x.b),.slice A x.ks.length c],.int .i64 4000] w fun e w'=>∃ n:Nat,e=.returned (.int .i64 n)∧n≤4001∧(4000 < n↔4000 < countP x)∧Below w.heap.size w w':=by
 go_enter Tryz.func96,Tryz.ntmps96
 go_wp2_with fail
 go_loopw [5,6,8] (fun v i _ wr=>∃ (k:Nat) (q:List Item) (xs:List Value),k≤q.length∧i=.int .i64 k∧wr.ownsRow (w.heap.size+1) 86 3 v q.length xs∧RepN Any w 3 (itemsD q) xs ∧
   Hid (ManyS x k q)∧Below (w.heap.size+1) (w.alloc (.cells #[.bool x.l,.string (bs x.b),.slice A x.ks.length c] 86)) wr) (fun _ i _ _=>4002 - (intOf i).toNat)
 case atStart =>
  refine ⟨0,[x],itemC x A c,by simp,rfl,?_,?_,?_,?_⟩
  ·have:=World.ownsRow_lit (base:=w.heap.size+1) (e:=86) (size:=3) (w.alloc (.cells #[.bool x.l,.string (bs x.b),.slice A x.ks.length c] 86)) #[.bool x.l,.string (bs x.b),.slice A x.ks.length c] 1 (by simp) (by simp only [maxLen];omega) rfl
   simpa [itemC] using this
  ·exact .cons hv rfl .nil
  ·exact .inl ⟨by simp,by simp [countsP]⟩
  ·exact ((Below.refl _ _).alloc (by simp) _)
 case round =>
  obtain ⟨k,q,xs,hk,rfl,hown,hr,HS,hb⟩:=hrel
  obtain ⟨A1,c1,rfl⟩:=own_form hown
  have hbs:=hb.size
  simp at hbs
  have hql:=HS.out.le
  by_cases hlt:k < q.length
  ·by_cases hle:(q.length:Int)≤4000
   ·obtain ⟨y,hy⟩:=getElem_ex hlt
    obtain ⟨g,A',c',hA,hvy,d0,d1,d2⟩:=own_item hown hr hy
    subst hA
    have hyb:y.ks.length≤9223372036854775807:=by have:=hvy.len;simp only [maxLen] at this;omega
    clear d0 d1
    go_wp2_with fail
    go_loopw [5,8,29] (fun v _ i wr2=>∃ (j:Nat) (q2:List Item) (xs2:List Value),j≤y.ks.length∧i=.int .i64 j∧wr2.ownsRow (w.heap.size+1) 86 3 v q2.length xs2∧RepN Any w 3 (itemsD q2) xs2 ∧
      Hid (ManyI x q y.ks j q2)∧Below (w.heap.size+1) (w.alloc (.cells #[.bool x.l,.string (bs x.b),.slice A x.ks.length c] 86)) wr2) (fun _ _ i _=>y.ks.length - (intOf i).toNat)
    case atStart=>exact ⟨0,q,xs,Nat.zero_le _,rfl,hown,hr,ManyI.start HS.out,hb⟩
    case round =>
     obtain ⟨j,q2,xs2,hj,rfl,hown2,hr2,HI,hb2⟩:=hrel
     obtain ⟨A2,c2,rfl⟩:=own_form hown2
     have hbs2:=hb2.size
     simp at hbs2
     have hql2:=HI.out.le
     by_cases hjt:j < y.ks.length
     ·obtain ⟨z,hz⟩:=getElem_ex hjt
      have hwr:=below_box hb2
      obtain ⟨g3,o3,A3,c3,hA3,_,hvz,e0,e1,e2⟩:=(hvy.keep hwr).at_ hz
      subst hA3
      have hvz0:ItemV Any w z A3 c3:=by
       obtain ⟨g4,o4,A4,c4,hA4,_,hv4,f0,f1,f2⟩:=hvy.at_ hz
       injection hA4 with hA4
       injection hA4 with hg ho _
       subst hg;subst ho
       have:=hwr.cell (p:=⟨g3,o3+j * 3+2,none⟩) (lt_of_cell f2)
       rw [f2,e2] at this
       injection this with this
       injection this with h1 h2 h3
       subst h1;subst h3
       exact hv4
      by_cases hle2:(q2.length:Int)≤4000
      ·go_wp2_with (at_builtin;refine wpl_append elItem rfl rfl (w.heap.size+1) ((hown2.alloc _).alloc _) rfl (m:=1) (itemC z A3 c3) rfl rfl (lies_new' _ _ (by simp) #[.bool z.l,.string (bs z.b),.slice A3 z.ks.length c3] _) (itemC_one _ _ _) (by simp only [maxLen];omega) (by omega) (by simp;omega) ?_;intro v1 w1 hown1 hg1 hat1)
       go_roundw
       case rel =>
        refine ⟨j+1,q2 ++ [z],xs2 ++ itemC z A3 c3,hjt,by go_num,by simpa using hown1,?_,ManyI.more HS.out (by omega) hy hz HI.out (by omega),?_⟩
        ·rw [itemsD_append];exact RepN.append (.cons hvz0 rfl .nil) hr2
        ·exact below_app ((hb2.alloc (by omega) _).alloc (by simp;omega) _) ((hown2.alloc _).alloc _) hg1 (by simp;omega) (Nat.le_refl _)
       case measure=>simp [intOf];omega
      ·go_wp2_with fail
       go_roundw
       case rel=>exact ⟨j+1,q2,xs2,hjt,by go_num,hown2.alloc _,hr2,ManyI.stay hz HI.out (by omega),hb2.alloc (by omega) _⟩
       case measure=>simp [intOf];omega
     ·obtain rfl:j=y.ks.length:=by omega
      have HN:Hid (ManyS x (k+1) q2):=ManyS.next HS.out (by omega) hy HI.out
      have hkq:k+1≤q2.length:=by
       rcases HI.out with ⟨e,_⟩ | ⟨e,_⟩
       ·rw [e];simp;omega
       ·omega
      go_wp2_with fail
      go_roundw
      case rel=>exact ⟨k+1,q2,xs2,hkq,by go_num,hown2,hr2,HN,hb2⟩
      case measure=>simp [intOf];omega
   ·have hfin:=HS.out.fin (by omega) hk
    go_wp2_with fail
    go_ret
    exact ⟨q.length,rfl,hql,hfin,below_box hb⟩
  ·have hfin:=HS.out.fin (by omega) hk
   have hkk:k=q.length:=by omega
   subst hkk
   go_wp2_with fail
   go_ret
   exact ⟨q.length,rfl,hql,hfin,below_box hb⟩
end Go.Proofs.YtdfmheademcbkaaGreat
