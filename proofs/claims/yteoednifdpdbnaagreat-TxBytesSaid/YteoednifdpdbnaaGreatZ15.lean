/- The walks of rlp.write and of the reference's Write. -/
import Derived.Test.YteoednifdpdbnaaGreatZ14
import Derived.Test.YteoednifdpdbnaaGreatZ13
import Derived.Deep.RegionHeld3
import Derived.BigQuiet
namespace Go.Proofs.YteoednifdpdbnaaGreat
set_option linter.unusedVariables false
set_option linter.unusedSimpArgs false
open Go.RowKit
set_option maxHeartbeats 800000
theorem qnl (l:List UInt8):Lib.strCells (bs l)=Lib.byteCells l:=rfl
theorem qe8 {T e:TypeId} {B b:Nat} {p:Value} {l:List Value} {w w':World} (h:Lib.BuilderAt T e B b p l w) (hb:Below w.heap.size w w'):Lib.BuilderAt T e B b p l w':=by
 have hlt:=h.lt
 obtain ⟨h1,v,h2,h3,h4⟩:=h
 exact ⟨h1,v,(hb.block b hlt).trans h2,h3.kept (qic hb) (by cases hv:v.ownBlock <;> simp),h4⟩
theorem qek {T e:TypeId} {B b:Nat} {l:List Value} {w w':World} (h:Lib.IsBuilder T e B b l w) (hb:Below w.heap.size w w'):Lib.IsBuilder T e B b l w' :=
 h.imp (fun h=>qe8 h hb) (fun h=>qe8 h hb)
theorem qm9 (w:World) (T e:TypeId):Lib.IsBuilder T e w.heap.size w.heap.size [] (w.alloc (.cells #[.pointer none,.slice none 0 0] T)) :=
 .inl ⟨Nat.le_refl _,.slice none 0 0,heap_alloc_new w _,World.ownsRow_nil _ _ _ _,by simp [Value.ownBlock]⟩
theorem qtx (N:Nat):∀ (x:Item) (A:Option Addr) (c:Nat) (w:World),countP x≤N→countP x≤1000000→(writeP x).length < 16777216→ItemV Any w x A c →
  Calls Tryz.prog 112 #[.agg #[.bool x.l,.string (bs x.b),.slice A x.ks.length c]] w fun e w'=>e=.returned (.string (bs (writeP x)))∧Below w.heap.size w w':=by
 induction N with
 | zero=>intro x A c w h;have:=qc3 x;omega
 | succ N ih =>
  intro x A c w hN hM hW hv
  cases hl:x.l with
  | false =>
   have hwx:writeP x=if x.b.length=1∧(x.b.headD 0).toNat < 128 then x.b else headP 128 x.b.length ++ x.b:=by obtain ⟨l,b,ks⟩:=x;simp only [Item.l] at hl;subst hl;rfl
   by_cases h1:x.b.length=1
   ·obtain ⟨d,hd⟩:∃ d,x.b = [d]:=by
     match hx:x.b,h1 with
     | [d],_=>exact ⟨d,rfl⟩
    rw [hd] at hwx ⊢
    clear h1 hl
    by_cases h2:(d.toNat:Int) < 128
    ·rw [if_pos ⟨rfl,by simp;omega⟩] at hwx
     rw [hwx]
     clear hwx hd hv
     go_enter Tryz.func112,Tryz.ntmps112
     go_wp2_with fail
     go_ret
     exact ⟨rfl,(Below.refl _ _).alloc qn _⟩
    ·rw [if_neg (by rintro ⟨_,h⟩;simp at h;omega)] at hwx
     rw [hwx]
     have Hd:=qh hd
     have hnf:(9223372036854775807 < (headP 128 1).length+1)=False:=by have hhl:=qb6 128 1 (by omega);simp;omega
     clear hwx hd hv
     go_enter Tryz.func112,Tryz.ntmps112
     go_wp2_with fail
     go_region_held3 (fun w'=>w'.cell? ⟨w.heap.size,1,none⟩=some (.string (bs [d]))) (first | (rw [(bcell hb1).1 _ _ (by simp)];simp;done) | go_keep)
      ((go_at_call 169;refine (qk0 128 _ (.inl rfl) (by omega) (by omega) _).mono ?_;rintro e w1 ⟨rfl,hb1⟩))
     go_wp2_with fail
     go_ret
     exact ⟨rfl,qc5 hb1⟩
   ·have hbl:x.b.length < 16777216:=by
     rw [hwx,if_neg (by omega),List.length_append] at hW;omega
    rw [if_neg (by omega)] at hwx
    rw [hwx]
    have hhl:=qb6 128 x.b.length (by omega)
    have hne:((x.b.length:Int) == 1)=false:=by rw [beq_eq_false_iff_ne];omega
    clear hwx hv h1 hl
    generalize x.b=b at *
    have hnf:(9223372036854775807 < (headP 128 b.length).length+b.length)=False:=by simp;omega
    go_enter Tryz.func112,Tryz.ntmps112
    go_wp2_with fail
    go_region_held3 (fun w'=>w'.cell? ⟨w.heap.size,1,none⟩=some (.string (bs b))) (first | (rw [(bcell hb1).1 _ _ (by simp)];simp;done) | go_keep)
     ((go_at_call 169;refine (qk0 128 _ (.inl rfl) (by omega) (by omega) _).mono ?_;rintro e w1 ⟨rfl,hb1⟩))
    go_wp2_with fail
    go_ret
    exact ⟨rfl,qc5 hb1⟩
  | true =>
   have hwx:writeP x=headP 192 (writesP x.ks).length ++ writesP x.ks:=by obtain ⟨l,b,ks⟩:=x;simp only [Item.l] at hl;subst hl;rfl
   have hWk:(writesP x.ks).length < 16777216:=by rw [hwx,List.length_append] at hW;omega
   have hhl:=qb6 192 (writesP x.ks).length (by omega)
   have hlen:=qbn x.ks
   have hcnt:countP x=1+countsP x.ks:=by cases x;rfl
   have hkl:x.ks.length≤1000000:=by omega
   have Hwx:=qh hwx
   have Hl:=qh hl
   clear hwx hcnt hl
   go_enter Tryz.func112,Tryz.ntmps112
   go_wp2_with fail
   go_loopw [5,11] (fun _ i wr=>∃ k:Nat,k≤x.ks.length∧i=.int .i64 k∧Lib.IsBuilder 237 5 (w.heap.size+1) (w.heap.size+1) (Lib.byteCells (writesP (x.ks.take k))) wr ∧
     Below (w.heap.size+1) (w.alloc (.cells #[.bool true,.string (bs x.b),.slice A x.ks.length c] 53)) wr) (fun _ i _=>x.ks.length - (intOf i).toNat)
   case atStart =>
    refine ⟨0,Nat.zero_le _,rfl,?_,(Below.refl _ _).alloc (by simp) _⟩
    have:=qm9 (w.alloc (.cells #[.bool true,.string (bs x.b),.slice A x.ks.length c] 53)) 237 5
    simpa [writesP,Lib.byteCells] using this
   case round =>
    obtain ⟨k,hk,rfl,hB,hb⟩:=hrel
    have hbs:=hb.size
    simp at hbs
    by_cases hlt:k < x.ks.length
    ·obtain ⟨y,hy⟩:=qal hlt
     have hv':=hv.keep (qa1 hb)
     obtain ⟨g,o,A',c',hA,_,hvy,c0,c1,c2⟩:=hv'.at_ hy
     subst hA
     have hwl:=qgg x.ks (k+1)
     have hwt:=qew hy
     have hwm:=qjk hy
     have Hwt:=qh hwt
     have hwl2:(writesP (x.ks.take k)).length+(writeP y).length < 16777216:=by rw [hwt,List.length_append] at hwl;omega
     clear hwt hwl
     go_wp2_with fail
     refine (ih y A' c' _ (by have:=qbg hy;omega) (by have:=qbg hy;omega) (by omega) (hvy.alloc _)).mono ?_
     rintro e w1 ⟨rfl,hb1⟩
     have hB1:=qek (qek hB ((Below.refl _ _).alloc qn _)) hb1
     have hb1s:=hb1.size
     simp at hb1s
     go_wp2_with fail
     refine (qlz (w.heap.size+1) (w.heap.size+1) _ (bs (writeP y)) _ hB1 (by simp [size_bs,Lib.byteCells];omega) (by omega)).mono ?_
     rintro e w2 ⟨rfl,hB2,hb2⟩
     go_wp2_with fail
     go_roundw
     case rel =>
      refine ⟨k+1,hlt,by go_num,?_,(qco hb hbs hb1).trans hb2⟩
      have:=hB2
      rw [qnl] at this
      refine .inr ?_
      rw [Hwt.out]
      simpa [Lib.byteCells] using this
     case measure=>simp [intOf];omega
    ·obtain rfl:k=x.ks.length:=by omega
     rw [List.take_length] at hB
     go_wp2_with fail
     refine (bLen (w.heap.size+1) (w.heap.size+1) _ _ hB).mono ?_
     rintro e w1 ⟨rfl,rfl⟩
     rw [show (Lib.byteCells (writesP x.ks)).length=(writesP x.ks).length by simp [Lib.byteCells]]
     go_wp2_with fail
     refine (qk0 192 _ (.inr rfl) (by omega) (by omega) _).mono ?_
     rintro e w1 ⟨rfl,hb1⟩
     go_wp2_with fail
     refine (bString (w.heap.size+1) (w.heap.size+1) _ _ (qek hB hb1) (by have:=hb1.size;omega)).mono ?_
     rintro e w2 ⟨rfl,hb2⟩
     have hfold:(⟨(writesP x.ks).toArray⟩:ByteArray)=bs (writesP x.ks):=rfl
     rw [hfold]
     clear hfold
     go_wp2_with fail
     go_ret
     exact ⟨qef (by rw [Hwx.out]),qa1 ((qab hb hbs hb1).trans hb2)⟩
theorem qk5 (N:Nat):∀ (x:Item) (A:Option Addr) (c:Nat) (w:World),countP x≤N→countP x≤1000000→(writeP x).length < 16777216→ItemV Any w x A c →
  Calls Tryz.prog 69 #[.agg #[.bool x.l,.string (bs x.b),.slice A x.ks.length c]] w fun e w'=>e=.returned (.string (bs (writeP x)))∧Below w.heap.size w w':=by
 induction N with
 | zero=>intro x A c w h;have:=qc3 x;omega
 | succ N ih =>
  intro x A c w hN hM hW hv
  cases hl:x.l with
  | false =>
   have hwx:writeP x=if x.b.length=1∧(x.b.headD 0).toNat < 128 then x.b else headP 128 x.b.length ++ x.b:=by obtain ⟨l,b,ks⟩:=x;simp only [Item.l] at hl;subst hl;rfl
   by_cases h1:x.b.length=1
   ·obtain ⟨d,hd⟩:∃ d,x.b = [d]:=by
     match hx:x.b,h1 with
     | [d],_=>exact ⟨d,rfl⟩
    rw [hd] at hwx ⊢
    clear h1 hl
    by_cases h2:(d.toNat:Int) < 128
    ·rw [if_pos ⟨rfl,by simp;omega⟩] at hwx
     rw [hwx]
     clear hwx hd hv
     go_enter Tryz.func69,Tryz.ntmps69
     go_wp2_with fail
     go_ret
     exact ⟨rfl,(Below.refl _ _).alloc qn _⟩
    ·rw [if_neg (by rintro ⟨_,h⟩;simp at h;omega)] at hwx
     rw [hwx]
     have Hd:=qh hd
     have hnf:(9223372036854775807 < (headP 128 1).length+1)=False:=by have hhl:=qb6 128 1 (by omega);simp;omega
     clear hwx hd hv
     go_enter Tryz.func69,Tryz.ntmps69
     go_wp2_with fail
     go_region_held3 (fun w'=>w'.cell? ⟨w.heap.size,1,none⟩=some (.string (bs [d]))) (first | (rw [(bcell hb1).1 _ _ (by simp)];simp;done) | go_keep)
      ((go_at_call 119;refine (qff 128 _ (.inl rfl) (by omega) (by omega) _).mono ?_;rintro e w1 ⟨rfl,hb1⟩))
     go_wp2_with fail
     go_ret
     exact ⟨rfl,qc5 hb1⟩
   ·have hbl:x.b.length < 16777216:=by
     rw [hwx,if_neg (by omega),List.length_append] at hW;omega
    rw [if_neg (by omega)] at hwx
    rw [hwx]
    have hhl:=qb6 128 x.b.length (by omega)
    have hne:((x.b.length:Int) == 1)=false:=by rw [beq_eq_false_iff_ne];omega
    clear hwx hv h1 hl
    generalize x.b=b at *
    have hnf:(9223372036854775807 < (headP 128 b.length).length+b.length)=False:=by simp;omega
    go_enter Tryz.func69,Tryz.ntmps69
    go_wp2_with fail
    go_region_held3 (fun w'=>w'.cell? ⟨w.heap.size,1,none⟩=some (.string (bs b))) (first | (rw [(bcell hb1).1 _ _ (by simp)];simp;done) | go_keep)
     ((go_at_call 119;refine (qff 128 _ (.inl rfl) (by omega) (by omega) _).mono ?_;rintro e w1 ⟨rfl,hb1⟩))
    go_wp2_with fail
    go_ret
    exact ⟨rfl,qc5 hb1⟩
  | true =>
   have hwx:writeP x=headP 192 (writesP x.ks).length ++ writesP x.ks:=by obtain ⟨l,b,ks⟩:=x;simp only [Item.l] at hl;subst hl;rfl
   have hWk:(writesP x.ks).length < 16777216:=by rw [hwx,List.length_append] at hW;omega
   have hhl:=qb6 192 (writesP x.ks).length (by omega)
   have hlen:=qbn x.ks
   have hcnt:countP x=1+countsP x.ks:=by cases x;rfl
   have hkl:x.ks.length≤1000000:=by omega
   have Hwx:=qh hwx
   have Hl:=qh hl
   clear hwx hcnt hl
   go_enter Tryz.func69,Tryz.ntmps69
   go_wp2_with fail
   go_loopw [3,5,11] (fun s _ i wr=>∃ k:Nat,k≤x.ks.length∧i=.int .i64 k∧s=.string (bs (writesP (x.ks.take k))) ∧
     Below (w.heap.size+1) (w.alloc (.cells #[.bool true,.string (bs x.b),.slice A x.ks.length c] 53)) wr) (fun _ _ i _=>x.ks.length - (intOf i).toNat)
   case atStart=>exact ⟨0,Nat.zero_le _,rfl,rfl,Below.refl _ _⟩
   case round =>
    obtain ⟨k,hk,rfl,rfl,hb⟩:=hrel
    have hbs:=hb.size
    simp at hbs
    by_cases hlt:k < x.ks.length
    ·obtain ⟨y,hy⟩:=qal hlt
     have hv':=hv.keep (qa1 hb)
     obtain ⟨g,o,A',c',hA,_,hvy,c0,c1,c2⟩:=hv'.at_ hy
     subst hA
     have hwl:=qgg x.ks (k+1)
     have hwt:=qew hy
     have hwm:=qjk hy
     have Hwt:=qh hwt
     have hwl2:(writesP (x.ks.take k)).length+(writeP y).length < 16777216:=by rw [hwt,List.length_append] at hwl;omega
     clear hwt hwl
     go_wp2_with fail
     refine (ih y A' c' _ (by have:=qbg hy;omega) (by have:=qbg hy;omega) (by omega) (hvy.alloc _)).mono ?_
     rintro e w1 ⟨rfl,hb1⟩
     go_wp2_with fail
     go_roundw
     case rel=>exact ⟨k+1,hlt,by go_num,by rw [Hwt.out],qco hb hbs hb1⟩
     case measure=>simp [intOf];omega
    ·obtain rfl:k=x.ks.length:=by omega
     rw [List.take_length]
     go_wp2_with fail
     refine (qff 192 _ (.inr rfl) (by omega) (by omega) _).mono ?_
     rintro e w1 ⟨rfl,hb1⟩
     go_wp2_with fail
     go_ret
     exact ⟨qef (by rw [Hwx.out]),qa1 (qab hb hbs hb1)⟩
/-- what encoding an item answers -/
def encR (x:Item):Bytes×Nat :=
 if wellP x=false then ([],1) else if 8 < depthP x then ([],5) else if 4000 < (writeP x).length then ([],2) else (writeP x,0)
theorem qpf (x:Item) (A:Option Addr) (c:Nat) (w:World) (hW:(writeP x).length < 16777216) (hv:ItemV Any w x A c) :
  Calls Tryz.prog 56 #[.agg #[.bool x.l,.string (bs x.b),.slice A x.ks.length c]] w fun e w'=>e=.returned (.tuple #[.string (bs (encR x).1),.int .i64 (encR x).2])∧Below w.heap.size w w':=by
 have hE:Hid (encR x=if wellP x=false then ([],1) else if 8 < depthP x then ([],5) else if 4000 < (writeP x).length then ([],2) else (writeP x,0)):=rfl
 go_enter Tryz.func56,Tryz.ntmps56
 go_wp2_with fail
 refine (well_any x A c _ (hv.alloc _)).mono ?_
 rintro e w1 ⟨rfl,hb1⟩
 obtain ⟨q1,q2⟩:=bcell hb1
 have hb:=qa1 (hb1.mono (by simp))
 have hvw:=hv.keep hb
 have d0:w1.cell? ⟨w.heap.size,0,none⟩=some (.bool x.l):=by rw [q1 _ _ (by simp)];simp
 have d1:w1.cell? ⟨w.heap.size,1,none⟩=some (.string (bs x.b)):=by rw [q1 _ _ (by simp)];simp
 have d2:w1.cell? ⟨w.heap.size,2,none⟩=some (.slice A x.ks.length c):=by rw [q1 _ _ (by simp)];simp
 clear q1 q2
 cases hwe:wellP x with
 | false =>
  have Hwe:=qh hwe
  clear hwe
  go_wp2_with fail
  go_ret2
  exact ⟨by rw [hE.out,if_pos Hwe.out];rfl,hb⟩
 | true =>
  have hwp:pureP x=true∧countP x≤4000:=by unfold wellP at hwe;simpa using hwe
  obtain ⟨hp,hc⟩:=hwp
  have Hwe:=qh hwe
  clear hwe
  go_wp2_with fail
  refine (qod 4000 x A c _ hc (by omega) hp hvw).mono ?_
  rintro e w2 ⟨rfl,hb2⟩
  have hvw2:=hvw.keep hb2
  have hlt:w.heap.size < w1.heap.size:=qap d0
  have d0':w2.cell? ⟨w.heap.size,0,none⟩=some (.bool x.l):=by rw [(bcell hb2).1 _ _ hlt];exact d0
  have d1':w2.cell? ⟨w.heap.size,1,none⟩=some (.string (bs x.b)):=by rw [(bcell hb2).1 _ _ hlt];exact d1
  have d2':w2.cell? ⟨w.heap.size,2,none⟩=some (.slice A x.ks.length c):=by rw [(bcell hb2).1 _ _ hlt];exact d2
  by_cases hd:(8:Int) < depthP x
  ·go_wp2_with fail
   go_ret2
   exact ⟨by rw [hE.out,if_neg (by rw [Hwe.out];simp),if_pos (by omega)];rfl,hb.trans (hb2.mono hb.size)⟩
  ·go_wp2_with fail
   refine (qtx 4000 x A c _ hc (by omega) hW hvw2).mono ?_
   rintro e w3 ⟨rfl,hb3⟩
   by_cases hl:(4000:Int) < (writeP x).length
   ·go_wp2_with fail
    go_ret2
    exact ⟨by rw [hE.out,if_neg (by rw [Hwe.out];simp),if_neg (by omega),if_pos (by omega)];rfl,(hb.trans (hb2.mono hb.size)).trans (hb3.mono (by have:=hb.size;have:=hb2.size;omega))⟩
   ·go_wp2_with fail
    go_ret2
    exact ⟨by rw [hE.out,if_neg (by rw [Hwe.out];simp),if_neg (by omega),if_neg (by omega)];rfl,(hb.trans (hb2.mono hb.size)).trans (hb3.mono (by have:=hb.size;have:=hb2.size;omega))⟩
theorem qkb (x:Item) (A:Option Addr) (c:Nat) (w:World) (hW:(writeP x).length < 16777216) (hv:ItemV Any w x A c) (hM:countP x≤1000000) :
  Calls Tryz.prog 27 #[.agg #[.bool x.l,.string (bs x.b),.slice A x.ks.length c]] w fun e w'=>e=.returned (.tuple #[.string (bs (encR x).1),.int .i64 (encR x).2])∧Below w.heap.size w w':=by
 have hE:Hid (encR x=if wellP x=false then ([],1) else if 8 < depthP x then ([],5) else if 4000 < (writeP x).length then ([],2) else (writeP x,0)):=rfl
 have hC0:=Cells.new w #[.bool x.l,.string (bs x.b),.slice A x.ks.length c] 53
 go_enter Tryz.func27,Tryz.ntmps27
 go_wp2_with fail
 refine (Many_any x A c _ (hv.alloc _)).mono ?_
 rintro e w1 ⟨n,rfl,hn,hnc,hb1⟩
 have hb:=qa1 (hb1.mono (by simp))
 have hvw:=hv.keep hb
 have hC:=hC0.keep hb1
 clear hC0
 have d0:=hC 0 _ rfl
 have d1:=hC 1 _ rfl
 have d2:=hC 2 _ rfl
 by_cases hn2:(4000:Int) < n
 ·have hwe:Hid (wellP x=false):=by show _=_;unfold wellP;rw [decide_eq_false (by omega),Bool.and_false]
  go_wp2_with fail
  go_ret2
  exact ⟨by rw [hE.out,if_pos hwe.out];rfl,hb⟩
 ·have hcn:countP x≤4000:=by omega
  go_wp2_with fail
  refine (pure_any 4000 x A c _ hcn hM hvw).mono ?_
  rintro e w2 ⟨rfl,hb2⟩
  have hvw2:=hvw.keep hb2
  have hC2:=hC.keep hb2
  have hbb:=qab hb hb.size hb2
  clear hC d0 d1 d2
  have d0:=hC2 0 _ rfl
  have d1:=hC2 1 _ rfl
  have d2:=hC2 2 _ rfl
  cases hpx:pureP x with
  | false =>
   have hwe:Hid (wellP x=false):=by show _=_;unfold wellP;rw [hpx];rfl
   clear hpx
   go_wp2_with fail
   go_ret2
   exact ⟨by rw [hE.out,if_pos hwe.out];rfl,hbb⟩
  | true =>
   have hwe:Hid (wellP x=true):=by show _=_;unfold wellP;rw [hpx,decide_eq_true hcn];rfl
   clear hpx
   go_wp2_with fail
   refine (qlg 4000 x A c _ hcn hM hvw2).mono ?_
   rintro e w3 ⟨rfl,hb3⟩
   have hvw3:=hvw2.keep hb3
   have hC3:=hC2.keep hb3
   have hbc:=qab hbb hbb.size hb3
   clear hC2 d0 d1 d2
   have d0:=hC3 0 _ rfl
   have d1:=hC3 1 _ rfl
   have d2:=hC3 2 _ rfl
   by_cases hd:(8:Int) < depthP x
   ·go_wp2_with fail
    go_ret2
    exact ⟨by rw [hE.out,if_neg (by rw [hwe.out];simp),if_pos (by omega)];rfl,hbc⟩
   ·go_wp2_with fail
    refine (qk5 4000 x A c _ hcn hM hW hvw3).mono ?_
    rintro e w4 ⟨rfl,hb4⟩
    have hbd:=qab hbc hbc.size hb4
    by_cases hl:(4000:Int) < (writeP x).length
    ·go_wp2_with fail
     go_ret2
     exact ⟨by rw [hE.out,if_neg (by rw [hwe.out];simp),if_neg (by omega),if_pos (by omega)];rfl,hbd⟩
    ·go_wp2_with fail
     go_ret2
     exact ⟨by rw [hE.out,if_neg (by rw [hwe.out];simp),if_neg (by omega),if_neg (by omega)];rfl,hbd⟩
/- Reading rlp: heads, in plain Lean and as rlp.cut reads them. -/
/-- what rlp.cut reads; none: it panics -/
def cutP:Bytes→Option (Bool×Nat×Nat)
 | []=>none
 | c :: t =>
  if c.toNat < 128 then some (false,0,1) else
  let is:=decide (192≤c.toNat)
  let n:=c.toNat - (if is then 192 else 128)
  if n≤55 then some (is,1,1+n) else
  let size:=n - 55
  if 2 < size∨t.length < size∨t.headD 0=0 then none else
  if num (t.take size)≤55 then none else some (is,1+size,1+size+num (t.take size))
/-- what rlp panics with -/
def badV:Value:=.iface 173 (.agg #[])
theorem qot {l:Bytes} {i:Nat} {d:UInt8} (h:l[i]? = some d):num (l.take (i+1))=num (l.take i) * 256+d.toNat:=by
 obtain ⟨hi,hd⟩:=List.getElem?_eq_some_iff.1 h
 rw [List.take_succ_eq_append_getElem hi,hd,qg4]
theorem ret3 {p:Bool} {a b a' b':Int} (h:a=a') (h2:b=b'):Ending.returned (.tuple #[.bool p,.int .i64 a,.int .i64 b])=.returned (.tuple #[.bool p,.int .i64 a',.int .i64 b']):=by rw [h,h2]
theorem cut_any (s:Bytes) (w:World) (hs:s.length≤1000000) :
  Calls Tryz.prog 172 #[.string (bs s)] w fun e w' =>
   (match cutP s with
    | some (is,f,t)=>e=.returned (.tuple #[.bool is,.int .i64 f,.int .i64 t])
    | none=>e=.panicked [{ v:=badV,recovered:=false }])∧Below w.heap.size w w':=by
 cases s with
 | nil =>
  simp only [cutP]
  go_enter Tryz.func172,Tryz.ntmps172
  go_wp2_with fail
  exact ⟨rfl,rfl,Below.refl _ _⟩
 | cons c t =>
  by_cases h1:(c.toNat:Int) < 128
  ·simp only [cutP]
   rw [if_pos (by omega)]
   have hg:decide (192≤(c.toNat:Int))=false:=by rw [decide_eq_false_iff_not];omega
   go_enter Tryz.func172,Tryz.ntmps172
   go_wp2_with fail
   go_ret3
   exact ⟨rfl,Below.refl _ _⟩
  ·have hlt:=c.toNat_lt
   obtain ⟨is,f,hf1,hf2,hfe,hg⟩:∃ (is:Bool) (f:Nat),((is=false∧f=128)∨(is=true∧f=192))∧c.toNat≤f+63∧Hid (cutP (c :: t) =
     if c.toNat - f≤55 then some (is,1,1+(c.toNat - f)) else if 2 < c.toNat - f - 55∨t.length < c.toNat - f - 55∨t.headD 0=0 then none else
     if num (t.take (c.toNat - f - 55))≤55 then none else some (is,1+(c.toNat - f - 55),1+(c.toNat - f - 55)+num (t.take (c.toNat - f - 55))))∧(f≤c.toNat∧decide (192≤(c.toNat:Int))=is):=by
    by_cases h2:192≤c.toNat
    ·refine ⟨true,192,.inr ⟨rfl,rfl⟩,by omega,?_,h2,by rw [decide_eq_true_iff];omega⟩
     show _=_
     simp only [cutP]
     rw [if_neg (by omega),decide_eq_true h2]
     rfl
    ·refine ⟨false,128,.inl ⟨rfl,rfl⟩,by omega,?_,by omega,by rw [decide_eq_false_iff_not];omega⟩
     show _=_
     simp only [cutP]
     rw [if_neg (by omega),decide_eq_false h2]
     rfl
   obtain ⟨hg1,hg2⟩:=hg
   have i1:(128:Int)≤c.toNat:=by omega
   have i2:(c.toNat:Int)≤255:=by omega
   have i3:(c.toNat:Int)≤(f:Int)+63:=by omega
   have i4:(f:Int)≤c.toNat:=by omega
   have HH:=qh (And.intro hf2 (And.intro hg1 hlt))
   clear hlt hf2 hg1
   rcases hf1 with ⟨rfl,rfl⟩ | ⟨rfl,rfl⟩
   ·have j1:(c.toNat:Int)≤128+63:=i3
    have j2:(128:Int)≤c.toNat:=i4
    have hh:=qh HH.out
    clear i3 i4 HH
    by_cases hn:(c.toNat:Int) - 128≤55
    ·have hv:cutP (c :: t)=some (false,1,1+(c.toNat - 128)):=by have:=hh.out;rw [hfe.out,if_pos (by omega)]
     rw [hv]
     clear hv hfe
     go_enter Tryz.func172,Tryz.ntmps172
     go_wp2_with fail
     go_ret3
     exact ⟨ret3 rfl (by have:=hh.out;omega),Below.refl _ _⟩
    ·by_cases hb1:(2:Int) < (c.toNat:Int) - 128 - 55
     ·have hv:cutP (c :: t)=none:=by have:=hh.out;rw [hfe.out,if_neg (by omega),if_pos (.inl (by omega))]
      rw [hv]
      clear hv hfe
      go_enter Tryz.func172,Tryz.ntmps172
      go_wp2_with fail
      exact ⟨rfl,rfl,Below.refl _ _⟩
     ·by_cases hb2:(t.length:Int)+1 < 1+((c.toNat:Int) - 128 - 55)
      ·have hv:cutP (c :: t)=none:=by have:=hh.out;rw [hfe.out,if_neg (by omega),if_pos (.inr (.inl (by omega)))]
       rw [hv]
       clear hv hfe
       go_enter Tryz.func172,Tryz.ntmps172
       go_wp2_with fail
       exact ⟨rfl,rfl,Below.refl _ _⟩
      ·obtain ⟨d,t,rfl⟩:∃ d t',t=d :: t':=by
        cases t with
        | nil=>simp at hb2;omega
        | cons d t=>exact ⟨d,t,rfl⟩
       replace hb2:1+((c.toNat:Int) - 128 - 55)≤(t.length:Int)+1+1:=by simp only [List.length_cons] at hb2;omega
       cases hd:((d.toNat:Int) == 0) with
       | true =>
        obtain rfl:d=0:=UInt8.toNat_inj.1 (by rw [beq_iff_eq] at hd;simp only [UInt8.toNat_zero];omega)
        have hv:cutP (c :: 0 :: t)=none:=by
         have:=hh.out
         rw [hfe.out,if_neg (by omega),if_pos (.inr (.inr rfl))]
        clear hd
        rw [hv]
        have hs2:(t.length:Int)≤1000000:=by simp at hs;omega
        rcases (by omega:(c.toNat:Int)=184∨(c.toNat:Int)=185) with hN | hN
        ·obtain rfl:c=184:=UInt8.toNat_inj.1 (by simp;omega)
         clear hv hfe hs i1 i2 hg2 j1 j2 hh h1 hn hb1 hN hb2
         go_enter Tryz.func172,Tryz.ntmps172
         go_wp2_with fail
         exact ⟨rfl,rfl,Below.refl _ _⟩
        ·obtain rfl:c=185:=UInt8.toNat_inj.1 (by simp;omega)
         have hl1:(1:Int)≤t.length:=by simp at hb2;omega
         clear hv hfe hs i1 i2 hg2 j1 j2 hh h1 hn hb1 hN hb2
         go_enter Tryz.func172,Tryz.ntmps172
         go_wp2_with fail
         exact ⟨rfl,rfl,Below.refl _ _⟩
       | false =>
        have hd0:¬ d=0:=by intro h;subst h;simp at hd
        rcases (by omega:(c.toNat:Int)=184∨(c.toNat:Int)=185) with hN | hN
        ·obtain rfl:c=184:=UInt8.toNat_inj.1 (by simp;omega)
         have hfe2:=hfe.out
         rw [show (184:UInt8).toNat - 128 - 55=1 from rfl,if_neg (by decide),if_neg (by simp;exact hd0)] at hfe2
         have hnum:num ((d :: t).take 1)=d.toNat:=by simp [num]
         rw [hnum] at hfe2
         clear hnum
         have hor:=qcn 0 d.toNat (by omega) d.toNat_lt
         rw [show ((0:Nat):Int) * 256=0 by omega,Int.zero_add] at hor
         have hs2:(t.length:Int)≤1000000:=by simp at hs;omega
         have hdi:(d.toNat:Int)≤255:=by have:=d.toNat_lt;omega
         clear hfe hd0 i1 i2 hg2 j1 j2 hh h1 hn hb1 hN hb2 hs
         by_cases h55:(d.toNat:Int)≤55
         ·rw [if_pos (by omega)] at hfe2
          rw [hfe2]
          clear hfe2
          go_enter Tryz.func172,Tryz.ntmps172
          go_wp2_with fail
          refine wp_loop_rounds 2 ?_
          rw [rounds_succ]
          go_wp2_with fail
          rw [rounds_succ]
          go_wp2_with fail
          exact ⟨rfl,rfl,Below.refl _ _⟩
         ·rw [if_neg (by omega)] at hfe2
          rw [hfe2]
          clear hfe2
          go_enter Tryz.func172,Tryz.ntmps172
          go_wp2_with fail
          refine wp_loop_rounds 2 ?_
          rw [rounds_succ]
          go_wp2_with fail
          rw [rounds_succ]
          go_wp2_with fail
          go_ret3
          exact ⟨ret3 (by omega) (by omega),Below.refl _ _⟩
        ·obtain rfl:c=185:=UInt8.toNat_inj.1 (by simp;omega)
         obtain ⟨d2,t,rfl⟩:∃ d2 t',t=d2 :: t':=by
          cases t with
          | nil=>simp at hb2
          | cons d2 t=>exact ⟨d2,t,rfl⟩
         have hfe2:=hfe.out
         rw [show (185:UInt8).toNat - 128 - 55=2 from rfl,if_neg (by decide),if_neg (by simp;exact hd0)] at hfe2
         have hnum:num ((d :: d2 :: t).take 2)=d.toNat * 256+d2.toNat:=by simp [num]
         rw [hnum] at hfe2
         clear hnum
         have hor:=qcn 0 d.toNat (by omega) d.toNat_lt
         rw [show ((0:Nat):Int) * 256=0 by omega,Int.zero_add] at hor
         have hor2:=qcn d.toNat d2.toNat (by have:=d.toNat_lt;omega) d2.toNat_lt
         have hd2i:(d2.toNat:Int)≤255:=by have:=d2.toNat_lt;omega
         have hs2:(t.length:Int)≤1000000:=by simp at hs;omega
         have hdi:(d.toNat:Int)≤255:=by have:=d.toNat_lt;omega
         clear hfe hd0 i1 i2 hg2 j1 j2 hh h1 hn hb1 hN hb2 hs
         by_cases h55:(d.toNat:Int) * 256+d2.toNat≤55
         ·rw [if_pos (by omega)] at hfe2
          rw [hfe2]
          clear hfe2
          go_enter Tryz.func172,Tryz.ntmps172
          go_wp2_with fail
          refine wp_loop_rounds 3 ?_
          rw [rounds_succ]
          go_wp2_with fail
          rw [rounds_succ]
          go_wp2_with fail
          rw [rounds_succ]
          go_wp2_with fail
          exact ⟨rfl,rfl,Below.refl _ _⟩
         ·rw [if_neg (by omega)] at hfe2
          rw [hfe2]
          clear hfe2
          go_enter Tryz.func172,Tryz.ntmps172
          go_wp2_with fail
          refine wp_loop_rounds 3 ?_
          rw [rounds_succ]
          go_wp2_with fail
          rw [rounds_succ]
          go_wp2_with fail
          rw [rounds_succ]
          go_wp2_with fail
          go_ret3
          exact ⟨ret3 (by omega) (by omega),Below.refl _ _⟩
   ·have j1:(c.toNat:Int)≤192+63:=i3
    have j2:(192:Int)≤c.toNat:=i4
    have hh:=qh HH.out
    clear i3 i4 HH
    by_cases hn:(c.toNat:Int) - 192≤55
    ·have hv:cutP (c :: t)=some (true,1,1+(c.toNat - 192)):=by have:=hh.out;rw [hfe.out,if_pos (by omega)]
     rw [hv]
     clear hv hfe
     go_enter Tryz.func172,Tryz.ntmps172
     go_wp2_with fail
     go_ret3
     exact ⟨ret3 rfl (by have:=hh.out;omega),Below.refl _ _⟩
    ·by_cases hb1:(2:Int) < (c.toNat:Int) - 192 - 55
     ·have hv:cutP (c :: t)=none:=by have:=hh.out;rw [hfe.out,if_neg (by omega),if_pos (.inl (by omega))]
      rw [hv]
      clear hv hfe
      go_enter Tryz.func172,Tryz.ntmps172
      go_wp2_with fail
      exact ⟨rfl,rfl,Below.refl _ _⟩
     ·by_cases hb2:(t.length:Int)+1 < 1+((c.toNat:Int) - 192 - 55)
      ·have hv:cutP (c :: t)=none:=by have:=hh.out;rw [hfe.out,if_neg (by omega),if_pos (.inr (.inl (by omega)))]
       rw [hv]
       clear hv hfe
       go_enter Tryz.func172,Tryz.ntmps172
       go_wp2_with fail
       exact ⟨rfl,rfl,Below.refl _ _⟩
      ·obtain ⟨d,t,rfl⟩:∃ d t',t=d :: t':=by
        cases t with
        | nil=>simp at hb2;omega
        | cons d t=>exact ⟨d,t,rfl⟩
       replace hb2:1+((c.toNat:Int) - 192 - 55)≤(t.length:Int)+1+1:=by simp only [List.length_cons] at hb2;omega
       cases hd:((d.toNat:Int) == 0) with
       | true =>
        obtain rfl:d=0:=UInt8.toNat_inj.1 (by rw [beq_iff_eq] at hd;simp only [UInt8.toNat_zero];omega)
        have hv:cutP (c :: 0 :: t)=none:=by
         have:=hh.out
         rw [hfe.out,if_neg (by omega),if_pos (.inr (.inr rfl))]
        clear hd
        rw [hv]
        have hs2:(t.length:Int)≤1000000:=by simp at hs;omega
        rcases (by omega:(c.toNat:Int)=248∨(c.toNat:Int)=249) with hN | hN
        ·obtain rfl:c=248:=UInt8.toNat_inj.1 (by simp;omega)
         clear hv hfe hs i1 i2 hg2 j1 j2 hh h1 hn hb1 hN hb2
         go_enter Tryz.func172,Tryz.ntmps172
         go_wp2_with fail
         exact ⟨rfl,rfl,Below.refl _ _⟩
        ·obtain rfl:c=249:=UInt8.toNat_inj.1 (by simp;omega)
         have hl1:(1:Int)≤t.length:=by simp at hb2;omega
         clear hv hfe hs i1 i2 hg2 j1 j2 hh h1 hn hb1 hN hb2
         go_enter Tryz.func172,Tryz.ntmps172
         go_wp2_with fail
         exact ⟨rfl,rfl,Below.refl _ _⟩
       | false =>
        have hd0:¬ d=0:=by intro h;subst h;simp at hd
        rcases (by omega:(c.toNat:Int)=248∨(c.toNat:Int)=249) with hN | hN
        ·obtain rfl:c=248:=UInt8.toNat_inj.1 (by simp;omega)
         have hfe2:=hfe.out
         rw [show (248:UInt8).toNat - 192 - 55=1 from rfl,if_neg (by decide),if_neg (by simp;exact hd0)] at hfe2
         have hnum:num ((d :: t).take 1)=d.toNat:=by simp [num]
         rw [hnum] at hfe2
         clear hnum
         have hor:=qcn 0 d.toNat (by omega) d.toNat_lt
         rw [show ((0:Nat):Int) * 256=0 by omega,Int.zero_add] at hor
         have hs2:(t.length:Int)≤1000000:=by simp at hs;omega
         have hdi:(d.toNat:Int)≤255:=by have:=d.toNat_lt;omega
         clear hfe hd0 i1 i2 hg2 j1 j2 hh h1 hn hb1 hN hb2 hs
         by_cases h55:(d.toNat:Int)≤55
         ·rw [if_pos (by omega)] at hfe2
          rw [hfe2]
          clear hfe2
          go_enter Tryz.func172,Tryz.ntmps172
          go_wp2_with fail
          refine wp_loop_rounds 2 ?_
          rw [rounds_succ]
          go_wp2_with fail
          rw [rounds_succ]
          go_wp2_with fail
          exact ⟨rfl,rfl,Below.refl _ _⟩
         ·rw [if_neg (by omega)] at hfe2
          rw [hfe2]
          clear hfe2
          go_enter Tryz.func172,Tryz.ntmps172
          go_wp2_with fail
          refine wp_loop_rounds 2 ?_
          rw [rounds_succ]
          go_wp2_with fail
          rw [rounds_succ]
          go_wp2_with fail
          go_ret3
          exact ⟨ret3 (by omega) (by omega),Below.refl _ _⟩
        ·obtain rfl:c=249:=UInt8.toNat_inj.1 (by simp;omega)
         obtain ⟨d2,t,rfl⟩:∃ d2 t',t=d2 :: t':=by
          cases t with
          | nil=>simp at hb2
          | cons d2 t=>exact ⟨d2,t,rfl⟩
         have hfe2:=hfe.out
         rw [show (249:UInt8).toNat - 192 - 55=2 from rfl,if_neg (by decide),if_neg (by simp;exact hd0)] at hfe2
         have hnum:num ((d :: d2 :: t).take 2)=d.toNat * 256+d2.toNat:=by simp [num]
         rw [hnum] at hfe2
         clear hnum
         have hor:=qcn 0 d.toNat (by omega) d.toNat_lt
         rw [show ((0:Nat):Int) * 256=0 by omega,Int.zero_add] at hor
         have hor2:=qcn d.toNat d2.toNat (by have:=d.toNat_lt;omega) d2.toNat_lt
         have hd2i:(d2.toNat:Int)≤255:=by have:=d2.toNat_lt;omega
         have hs2:(t.length:Int)≤1000000:=by simp at hs;omega
         have hdi:(d.toNat:Int)≤255:=by have:=d.toNat_lt;omega
         clear hfe hd0 i1 i2 hg2 j1 j2 hh h1 hn hb1 hN hb2 hs
         by_cases h55:(d.toNat:Int) * 256+d2.toNat≤55
         ·rw [if_pos (by omega)] at hfe2
          rw [hfe2]
          clear hfe2
          go_enter Tryz.func172,Tryz.ntmps172
          go_wp2_with fail
          refine wp_loop_rounds 3 ?_
          rw [rounds_succ]
          go_wp2_with fail
          rw [rounds_succ]
          go_wp2_with fail
          rw [rounds_succ]
          go_wp2_with fail
          exact ⟨rfl,rfl,Below.refl _ _⟩
         ·rw [if_neg (by omega)] at hfe2
          rw [hfe2]
          clear hfe2
          go_enter Tryz.func172,Tryz.ntmps172
          go_wp2_with fail
          refine wp_loop_rounds 3 ?_
          rw [rounds_succ]
          go_wp2_with fail
          rw [rounds_succ]
          go_wp2_with fail
          rw [rounds_succ]
          go_wp2_with fail
          go_ret3
          exact ⟨ret3 (by omega) (by omega),Below.refl _ _⟩
/- Heads that are written are read; items that stand first: plain Lean. -/
theorem cutP_low {c:UInt8} (r:Bytes) (h:c.toNat < 128):cutP (c :: r)=some (false,0,1):=by simp only [cutP];rw [if_pos h]
theorem qlm {F n:Nat} (hF:F=128∨F=192) (hn:n < 65536) (r:Bytes) :
  cutP (headP F n ++ r)=some (decide (F=192),(headP F n).length,(headP F n).length+n):=by
 obtain ⟨c,t,e,g1,g2,g3,g4⟩:=qcm F n hF hn
 have hl:=qbf 2 n (by omega)
 rw [e]
 have hc:¬ c.toNat < 128:=by omega
 have hlt:=c.toNat_lt
 have his:decide (192≤c.toNat)=decide (F=192):=by
  rcases hF with rfl | rfl
  ·have:=g2 rfl;rw [decide_eq_false (by omega)];rfl
  ·rw [decide_eq_true (by omega)];rfl
 have hfr:(if decide (F=192)=true then 192 else 128)=F:=by rcases hF with rfl | rfl <;> rfl
 simp only [List.cons_append,cutP]
 rw [if_neg hc,his,hfr]
 by_cases h55:n≤55
 ·obtain ⟨rfl,hcn⟩:=g3 h55
  rw [if_pos (by omega),show c.toNat - F=n by omega];rfl
 ·obtain ⟨rfl,hcn⟩:=g4 (by omega)
  have hp:=qc9 (n:=n) (by omega)
  rw [if_neg (by omega),show c.toNat - F - 55=(digs n).length by omega,List.take_left' rfl,qf2,if_neg ?_,if_neg (by omega)]
  ·simp;omega
  ·rintro (h | h | h)
   ·omega
   ·simp at h;omega
   ·cases hd:digs n with
    | nil=>rw [hd] at hp;simp at hp
    | cons a l=>rw [hd] at h;simp at h;exact ql8 n a l hd h
theorem qf3 {s:Bytes} {is:Bool} {f t:Nat} (h:cutP s=some (is,f,t)) :
  (is=false∧f=0∧t=1∧∃ c r,s=c :: r∧c.toNat < 128) ∨
  (1≤f∧f≤t∧t - f < 65536∧s=headP (if is then 192 else 128) (t - f) ++ s.drop f∧(headP (if is then 192 else 128) (t - f)).length=f):=by
 cases s with
 | nil=>cases h
 | cons c r =>
  simp only [cutP] at h
  by_cases h1:c.toNat < 128
  ·rw [if_pos h1] at h
   simp at h
   obtain ⟨rfl,rfl,rfl⟩:=h
   exact .inl ⟨rfl,rfl,rfl,c,r,rfl,h1⟩
  ·rw [if_neg h1] at h
   have hlt:=c.toNat_lt
   obtain ⟨F,hFe,hFc,hF2⟩:∃ F,(if decide (192≤c.toNat)=true then 192 else 128)=F∧F≤c.toNat∧(F=128∨F=192):=by
    by_cases h2:192≤c.toNat
    ·exact ⟨192,by rw [decide_eq_true h2];rfl,h2,.inr rfl⟩
    ·exact ⟨128,by rw [decide_eq_false h2];rfl,by omega,.inl rfl⟩
   have hF63:c.toNat≤F+63:=by
    by_cases h2:192≤c.toNat
    ·rw [decide_eq_true h2] at hFe;simp at hFe;omega
    ·rcases hF2 with rfl | rfl <;> omega
   rw [hFe] at h
   by_cases h55:c.toNat - F≤55
   ·rw [if_pos h55] at h
    simp at h
    obtain ⟨rfl,rfl,rfl⟩:=h
    rw [hFe,Nat.add_sub_cancel_left]
    have hh:headP F (c.toNat - F) = [c]:=by
     unfold headP;rw [if_pos h55,show F+(c.toNat - F)=c.toNat by omega];simp
    exact .inr ⟨by omega,by omega,by omega,by rw [hh];rfl,by rw [hh];rfl⟩
   ·rw [if_neg h55] at h
    by_cases hbad:2 < c.toNat - F - 55∨r.length < c.toNat - F - 55∨r.headD 0=0
    ·rw [if_pos hbad] at h;cases h
    ·rw [if_neg hbad] at h
     have hb1:c.toNat - F - 55≤2:=by omega
     have hb2:c.toNat - F - 55≤r.length:=by omega
     have hb3:r.headD 0≠0:=fun e=>hbad (.inr (.inr e))
     generalize hz:c.toNat - F - 55=z at *
     by_cases hm:num (r.take z)≤55
     ·rw [if_pos hm] at h;cases h
     ·rw [if_neg hm] at h
      simp at h
      obtain ⟨rfl,rfl,rfl⟩:=h
      have hnl:=qjz (r.take z)
      rw [List.length_take,Nat.min_eq_left hb2] at hnl
      have hz2:(256:Nat) ^ z≤256 ^ 2:=Nat.pow_le_pow_right (by omega) hb1
      have hdg:digs (num (r.take z))=r.take z:=qn8 _ (by
       intro a l e
       cases r with
       | nil=>simp at e
       | cons b r =>
        cases z with
        | zero=>simp at e
        | succ z=>simp at e;simp at hb3;rw [← e.1];exact hb3)
      have hdl:(digs (num (r.take z))).length=z:=by rw [hdg,List.length_take,Nat.min_eq_left hb2]
      rw [hFe,Nat.add_sub_cancel_left]
      have hh:headP F (num (r.take z))=c :: r.take z:=by
       unfold headP;rw [if_neg hm,hdg,List.length_take,Nat.min_eq_left hb2,show F+55+z=c.toNat by omega];simp
      refine .inr ⟨by omega,by omega,by omega,?_,?_⟩
      ·rw [hh,Nat.add_comm 1 z];simp
      ·rw [hh];simp;omega
/-- the head of an item that is written -/
theorem qdr {x:Item} (hx:pureP x=true) (hl:(writeP x).length < 65536) (r:Bytes) :
  (x.l=true∧∃ H,cutP (writeP x ++ r)=some (true,H,H+(writesP x.ks).length)∧H+(writesP x.ks).length=(writeP x).length∧(writeP x ++ r).drop H=writesP x.ks ++ r) ∨
  (x.l=false∧∃ c,x.b = [c]∧c.toNat < 128∧cutP (writeP x ++ r)=some (false,0,1)∧writeP x = [c]) ∨
  (x.l=false∧¬ (x.b.length=1∧(x.b.headD 0).toNat < 128)∧∃ H,1≤H∧cutP (writeP x ++ r)=some (false,H,H+x.b.length)∧H+x.b.length=(writeP x).length∧(writeP x ++ r).drop H=x.b ++ r):=by
 obtain ⟨l,b,ks⟩:=x
 cases l with
 | true =>
  simp only [writeP,Item.l,Item.ks] at hl ⊢
  rw [List.length_append] at hl
  refine .inl ⟨trivial,(headP 192 (writesP ks).length).length,?_,by rw [List.length_append],?_⟩
  ·rw [List.append_assoc,qlm (.inr rfl) (by omega)];rfl
  ·rw [List.append_assoc,List.drop_left' rfl]
 | false =>
  simp only [Item.l,Item.b]
  by_cases h1:b.length=1∧(b.headD 0).toNat < 128
  ·obtain ⟨c,rfl⟩:∃ c,b = [c]:=by
    match b,h1.1 with
    | [c],_=>exact ⟨c,rfl⟩
   have h2:=h1.2
   simp at h2
   refine .inr (.inl ⟨trivial,c,rfl,h2,?_,?_⟩)
   ·simp only [writeP];rw [if_pos h1];exact cutP_low _ h2
   ·simp only [writeP];rw [if_pos h1]
  ·have hw:writeP (.mk false b ks)=headP 128 b.length ++ b:=by simp only [writeP];rw [if_neg h1]
   rw [hw] at hl ⊢
   rw [List.length_append] at hl
   refine .inr (.inr ⟨trivial,h1,(headP 128 b.length).length,qfz _ _,?_,by rw [List.length_append],?_⟩)
   ·rw [List.append_assoc,qlm (.inl rfl) (by omega)];rfl
   ·rw [List.append_assoc,List.drop_left' rfl]
/-- some items, written, that others begin with -/
theorem qf4:∀ (a c:List Item) (b:Bytes),puresP a=true→puresP c=true→(writesP c).length < 65536→writesP a ++ b=writesP c→∃ d,c=a ++ d∧b=writesP d∧puresP d=true
 | [],c,b,_,hc,_,h=>⟨c,rfl,by simpa [writesP] using h,hc⟩
 | k :: a,[],b,_,_,_,h=>by
  exfalso
  have h1:=qcq k
  have h2:=congrArg List.length h
  simp only [writesP,List.length_append,List.length_nil] at h2;omega
 | k :: a,k' :: c,b,ha,hc,hl,h=>by
  simp only [puresP,Bool.and_eq_true] at ha hc
  simp only [writesP,List.length_append] at hl
  have hk:(writeP k).length < 65536:=by
   have h2:=congrArg List.length h
   simp only [writesP,List.length_append] at h2;omega
  simp only [writesP,List.append_assoc] at h
  obtain ⟨rfl,h3⟩:=qc4 k k' _ _ ha.1 hc.1 hk (by omega) h
  obtain ⟨d,rfl,hb,hd⟩:=qf4 a c b ha.2 hc.2 (by omega) h3
  exact ⟨d,rfl,hb,hd⟩
/-- no item stands first -/
def NoItem (s:Bytes):Prop:=∀ x r,pureP x=true→s≠writeP x ++ r
theorem qi8 {s:Bytes} (hs:s.length < 65536) (h:cutP s=none):NoItem s:=by
 rintro x r hx rfl
 have hl:(writeP x).length < 65536:=by rw [List.length_append] at hs;omega
 rcases qdr hx hl r with ⟨_,H,e,_⟩ | ⟨_,c,_,_,e,_⟩ | ⟨_,_,H,_,e,_⟩ <;> rw [h] at e <;> cases e
theorem qm5 {s:Bytes} {is:Bool} {f t:Nat} (hs:s.length < 65536) (h:cutP s=some (is,f,t)) (ht:s.length < t):NoItem s:=by
 rintro x r hx rfl
 have hl:(writeP x).length < 65536:=by rw [List.length_append] at hs;omega
 rw [List.length_append] at ht
 rcases qdr hx hl r with ⟨_,H,e,e2,_⟩ | ⟨_,c,_,_,e,e2⟩ | ⟨_,_,H,_,e,e2,_⟩
 ·rw [h] at e;simp at e;omega
 ·rw [h] at e;simp at e;rw [e2] at ht;simp at ht;omega
 ·rw [h] at e;simp at e;omega
/-- bytes that could stand for themselves -/
theorem qnh {s:Bytes} {t:Nat} (hs:s.length < 65536) (h:cutP s=some (false,1,t)) (ht:t≤s.length) (h1:((s.take t).drop 1).length=1) (h2:(((s.take t).drop 1).headD 0).toNat < 128):NoItem s:=by
 rintro x r hx rfl
 have hl:(writeP x).length < 65536:=by rw [List.length_append] at hs;omega
 rcases qdr hx hl r with ⟨_,H,e,e2,_⟩ | ⟨_,c,_,_,e,e2⟩ | ⟨_,hn,H,_,e,e2,e3⟩
 ·rw [h] at e;simp at e
 ·rw [h] at e;simp at e
 ·rw [h] at e;simp at e
  obtain ⟨rfl,rfl⟩:=e
  have hb:((writeP x ++ r).take (1+x.b.length)).drop 1=x.b:=by
   rw [List.drop_take,e3,Nat.add_sub_cancel_left,List.take_left' rfl]
  rw [hb] at h1 h2
  exact hn ⟨h1,h2⟩
/-- bytes that stand first -/
theorem qq4 {s:Bytes} {f t:Nat} (h:cutP s=some (false,f,t)) (ht:t≤s.length) (hn:¬ (f=1∧((s.take t).drop f).length=1∧(((s.take t).drop f).headD 0).toNat < 128)) :
  s=writeP (.mk false ((s.take t).drop f) []) ++ s.drop t:=by
 rcases qf3 h with ⟨_,rfl,rfl,c,r,rfl,hc⟩ | ⟨h1,h2,h3,h4,h5⟩
 ·simp [writeP,hc]
 ·simp only [Bool.false_eq_true,if_false] at h4 h5
  have hlen:((s.take t).drop f).length=t - f:=by rw [List.length_drop,List.length_take];omega
  have hw:writeP (.mk false ((s.take t).drop f) [])=headP 128 (t - f) ++ (s.take t).drop f:=by
   simp only [writeP]
   rw [if_neg,hlen]
   rintro ⟨g1,g2⟩
   refine hn ⟨?_,g1,g2⟩
   rw [hlen] at g1
   rw [← h5,g1];rfl
  rw [hw,List.append_assoc]
  conv=>lhs;rw [h4]
  congr 1
  rw [List.drop_take]
  conv=>lhs;rw [← List.take_append_drop (t - f) (s.drop f)]
  congr 1
  rw [List.drop_drop];congr 1;omega
/-- a list that stands first -/
theorem qu7 {s:Bytes} {f t:Nat} {ks:List Item} (h:cutP s=some (true,f,t)) (ht:t≤s.length) (hk:(s.take t).drop f=writesP ks):s=writeP (.mk true [] ks) ++ s.drop t:=by
 rcases qf3 h with ⟨h0,_⟩ | ⟨h1,h2,h3,h4,h5⟩
 ·cases h0
 ·simp only [if_true] at h4 h5
  have hlen:(writesP ks).length=t - f:=by rw [← hk,List.length_drop,List.length_take];omega
  simp only [writeP]
  rw [hlen,List.append_assoc]
  conv=>lhs;rw [h4]
  congr 1
  rw [← hk,List.drop_take]
  conv=>lhs;rw [← List.take_append_drop (t - f) (s.drop f)]
  congr 1
  rw [List.drop_drop];congr 1;omega
/-- where an item in a list is none, the list is none -/
theorem qp5 {s body:Bytes} {f t:Nat} {ks:List Item} (hs:s.length < 65536) (h:cutP s=some (true,f,t)) (ht:t≤s.length) (hp:puresP ks=true) (hk:(s.take t).drop f=writesP ks ++ body) (hb:body ≠ []) (hn:NoItem body):NoItem s:=by
 rintro x r hx rfl
 have hl:(writeP x).length < 65536:=by rw [List.length_append] at hs;omega
 rcases qdr hx hl r with ⟨hxl,H,e,e2,e3⟩ | ⟨_,c,_,_,e,e2⟩ | ⟨_,_,H,_,e,e2,e3⟩
 ·rw [h] at e;simp at e
  obtain ⟨rfl,rfl⟩:=e
  have hbb:((writeP x ++ r).take (f+(writesP x.ks).length)).drop f=writesP x.ks:=by
   rw [List.drop_take,e3,Nat.add_sub_cancel_left,List.take_left' rfl]
  rw [hbb] at hk
  have hpx:puresP x.ks=true:=by rw [qos] at hx;simp at hx;exact hx.2
  obtain ⟨d,hd,hbd,hpd⟩:=qf4 ks x.ks body hp hpx (by omega) hk.symm
  cases d with
  | nil=>exact hb (by rw [hbd];rfl)
  | cons k d =>
   simp only [puresP,Bool.and_eq_true] at hpd
   exact hn k (writesP d) hpd.1 (by rw [hbd];rfl)
 ·rw [h] at e;simp at e
 ·rw [h] at e;simp at e
/- ecclesiaref08.size. -/
def sizeD (d:Nat) (t:Bytes):Int×Int :=
  if d < 128 then (0,1) else if d≤183 then (1,(d:Int) - 128) else
  if 3 < d - 183∨t.length < d - 183 then (-1,0) else (1+((d - 183:Nat):Int),num (t.take (d - 183)))
/-- what size says: how long the head is, how much stands behind it -/
def sizeP:Bytes→Int×Int
 | []=>(0,0)
 | c :: t=>sizeD (if 192≤c.toNat then c.toNat - 64 else c.toNat) t
theorem qd4 {c:UInt8} (t:Bytes) (h:c.toNat < 192):sizeP (c :: t)=sizeD c.toNat t:=by simp only [sizeP];rw [if_neg (by omega)]
theorem qe5 {c:UInt8} (t:Bytes) (h:192≤c.toNat):sizeP (c :: t)=sizeD (c.toNat - 64) t:=by simp only [sizeP];rw [if_pos h]
theorem qb5 {a b a' b':Int} (h:a=a') (h2:b=b'):Ending.returned (.tuple #[.int .i64 a,.int .i64 b])=.returned (.tuple #[.int .i64 a',.int .i64 b']):=by rw [h,h2]
def SizeSaid (s:Bytes) (w:World):Prop:=Calls Tryz.prog 173 #[.string (bs s)] w fun e w' =>
   e=.returned (.tuple #[.int .i64 (sizeP s).1,.int .i64 (sizeP s).2])∧Below w.heap.size w w'
theorem size_184 (d1:UInt8) (t:Bytes) (w:World) (hs:(t.length:Int)≤1000000):SizeSaid (184 :: d1 :: t) w:=by
 show Calls _ _ _ _ _
 have hp:sizeP (184 :: d1 :: t)=(2,((num [d1]:Nat):Int)):=by
  rw [qd4 _ (by decide),sizeD,if_neg (by decide),if_neg (by decide),if_neg (by simp)]
  rfl
 rw [hp]
 have hn:((num [d1]:Nat):Int)=d1.toNat:=by simp [num]
 rw [hn]
 have i1:(d1.toNat:Int)≤255:=by have:=d1.toNat_lt;omega
 clear hp hn
 go_enter Tryz.func173,Tryz.ntmps173
 go_wp2_with fail
 refine wp_loop_rounds 2 ?_
 rw [rounds_succ]
 go_wp2_with fail
 rw [rounds_succ]
 go_wp2_with fail
 go_ret2
 exact ⟨qb5 rfl (by omega),Below.refl _ _⟩
theorem size_185 (d1 d2:UInt8) (t:Bytes) (w:World) (hs:(t.length:Int)≤1000000):SizeSaid (185 :: d1 :: d2 :: t) w:=by
 show Calls _ _ _ _ _
 have hp:sizeP (185 :: d1 :: d2 :: t)=(3,((num [d1,d2]:Nat):Int)):=by
  rw [qd4 _ (by decide),sizeD,if_neg (by decide),if_neg (by decide),if_neg (by simp)]
  rfl
 rw [hp]
 have hn:((num [d1,d2]:Nat):Int)=256 * d1.toNat+d2.toNat:=by simp [num];omega
 rw [hn]
 have i1:(d1.toNat:Int)≤255:=by have:=d1.toNat_lt;omega
 have i2:(d2.toNat:Int)≤255:=by have:=d2.toNat_lt;omega
 clear hp hn
 go_enter Tryz.func173,Tryz.ntmps173
 go_wp2_with fail
 refine wp_loop_rounds 3 ?_
 rw [rounds_succ]
 go_wp2_with fail
 rw [rounds_succ]
 go_wp2_with fail
 rw [rounds_succ]
 go_wp2_with fail
 go_ret2
 exact ⟨qb5 rfl (by omega),Below.refl _ _⟩
theorem size_186 (d1 d2 d3:UInt8) (t:Bytes) (w:World) (hs:(t.length:Int)≤1000000):SizeSaid (186 :: d1 :: d2 :: d3 :: t) w:=by
 show Calls _ _ _ _ _
 have hp:sizeP (186 :: d1 :: d2 :: d3 :: t)=(4,((num [d1,d2,d3]:Nat):Int)):=by
  rw [qd4 _ (by decide),sizeD,if_neg (by decide),if_neg (by decide),if_neg (by simp)]
  rfl
 rw [hp]
 have hn:((num [d1,d2,d3]:Nat):Int)=256 * (256 * d1.toNat+d2.toNat)+d3.toNat:=by simp [num];omega
 rw [hn]
 have i1:(d1.toNat:Int)≤255:=by have:=d1.toNat_lt;omega
 have i2:(d2.toNat:Int)≤255:=by have:=d2.toNat_lt;omega
 have i3:(d3.toNat:Int)≤255:=by have:=d3.toNat_lt;omega
 clear hp hn
 go_enter Tryz.func173,Tryz.ntmps173
 go_wp2_with fail
 refine wp_loop_rounds 4 ?_
 rw [rounds_succ]
 go_wp2_with fail
 rw [rounds_succ]
 go_wp2_with fail
 rw [rounds_succ]
 go_wp2_with fail
 rw [rounds_succ]
 go_wp2_with fail
 go_ret2
 exact ⟨qb5 rfl (by omega),Below.refl _ _⟩
theorem size_248 (d1:UInt8) (t:Bytes) (w:World) (hs:(t.length:Int)≤1000000):SizeSaid (248 :: d1 :: t) w:=by
 show Calls _ _ _ _ _
 have hp:sizeP (248 :: d1 :: t)=(2,((num [d1]:Nat):Int)):=by
  rw [qe5 _ (by decide),sizeD,if_neg (by decide),if_neg (by decide),if_neg (by simp)]
  rfl
 rw [hp]
 have hn:((num [d1]:Nat):Int)=d1.toNat:=by simp [num]
 rw [hn]
 have i1:(d1.toNat:Int)≤255:=by have:=d1.toNat_lt;omega
 clear hp hn
 go_enter Tryz.func173,Tryz.ntmps173
 go_wp2_with fail
 refine wp_loop_rounds 2 ?_
 rw [rounds_succ]
 go_wp2_with fail
 rw [rounds_succ]
 go_wp2_with fail
 go_ret2
 exact ⟨qb5 rfl (by omega),Below.refl _ _⟩
theorem size_249 (d1 d2:UInt8) (t:Bytes) (w:World) (hs:(t.length:Int)≤1000000):SizeSaid (249 :: d1 :: d2 :: t) w:=by
 show Calls _ _ _ _ _
 have hp:sizeP (249 :: d1 :: d2 :: t)=(3,((num [d1,d2]:Nat):Int)):=by
  rw [qe5 _ (by decide),sizeD,if_neg (by decide),if_neg (by decide),if_neg (by simp)]
  rfl
 rw [hp]
 have hn:((num [d1,d2]:Nat):Int)=256 * d1.toNat+d2.toNat:=by simp [num];omega
 rw [hn]
 have i1:(d1.toNat:Int)≤255:=by have:=d1.toNat_lt;omega
 have i2:(d2.toNat:Int)≤255:=by have:=d2.toNat_lt;omega
 clear hp hn
 go_enter Tryz.func173,Tryz.ntmps173
 go_wp2_with fail
 refine wp_loop_rounds 3 ?_
 rw [rounds_succ]
 go_wp2_with fail
 rw [rounds_succ]
 go_wp2_with fail
 rw [rounds_succ]
 go_wp2_with fail
 go_ret2
 exact ⟨qb5 rfl (by omega),Below.refl _ _⟩
theorem size_250 (d1 d2 d3:UInt8) (t:Bytes) (w:World) (hs:(t.length:Int)≤1000000):SizeSaid (250 :: d1 :: d2 :: d3 :: t) w:=by
 show Calls _ _ _ _ _
 have hp:sizeP (250 :: d1 :: d2 :: d3 :: t)=(4,((num [d1,d2,d3]:Nat):Int)):=by
  rw [qe5 _ (by decide),sizeD,if_neg (by decide),if_neg (by decide),if_neg (by simp)]
  rfl
 rw [hp]
 have hn:((num [d1,d2,d3]:Nat):Int)=256 * (256 * d1.toNat+d2.toNat)+d3.toNat:=by simp [num];omega
 rw [hn]
 have i1:(d1.toNat:Int)≤255:=by have:=d1.toNat_lt;omega
 have i2:(d2.toNat:Int)≤255:=by have:=d2.toNat_lt;omega
 have i3:(d3.toNat:Int)≤255:=by have:=d3.toNat_lt;omega
 clear hp hn
 go_enter Tryz.func173,Tryz.ntmps173
 go_wp2_with fail
 refine wp_loop_rounds 4 ?_
 rw [rounds_succ]
 go_wp2_with fail
 rw [rounds_succ]
 go_wp2_with fail
 rw [rounds_succ]
 go_wp2_with fail
 rw [rounds_succ]
 go_wp2_with fail
 go_ret2
 exact ⟨qb5 rfl (by omega),Below.refl _ _⟩
theorem qqj (c:UInt8) (t:Bytes) (w:World) (hs:(t.length:Int)≤1000000) (h:(c.toNat:Int) < 128):SizeSaid (c :: t) w:=by
 show Calls _ _ _ _ _
 have hp:sizeP (c :: t)=(0,1):=by
  rw [qd4 _ (by omega),sizeD]
  rw [if_pos (by omega)]
 rw [hp]
 have hc:(c.toNat:Int)≤255:=by have:=c.toNat_lt;omega
 clear hp
 have hg:decide (192≤(c.toNat:Int))=false:=by rw [decide_eq_false_iff_not];omega
 have h2:(c.toNat:Int) < 192:=by omega
 go_enter Tryz.func173,Tryz.ntmps173
 go_wp2_with fail
 go_ret2
 exact ⟨qb5 rfl (by omega),Below.refl _ _⟩
theorem size_lo (c:UInt8) (t:Bytes) (w:World) (hs:(t.length:Int)≤1000000) (h:(128:Int)≤c.toNat) (h3:(c.toNat:Int)≤183):SizeSaid (c :: t) w:=by
 show Calls _ _ _ _ _
 have hp:sizeP (c :: t)=(1,(c.toNat:Int) - 128):=by
  rw [qd4 _ (by omega),sizeD]
  rw [if_neg (by omega),if_pos (by omega)]
 rw [hp]
 have hc:(c.toNat:Int)≤255:=by have:=c.toNat_lt;omega
 clear hp
 have hg:decide (192≤(c.toNat:Int))=false:=by rw [decide_eq_false_iff_not];omega
 have h2:(c.toNat:Int) < 192:=by omega
 have h4:¬ (c.toNat:Int) < 128:=by omega
 go_enter Tryz.func173,Tryz.ntmps173
 go_wp2_with fail
 go_ret2
 exact ⟨qb5 rfl (by omega),Below.refl _ _⟩
theorem size_hi (c:UInt8) (t:Bytes) (w:World) (hs:(t.length:Int)≤1000000) (h:(192:Int)≤c.toNat) (h3:(c.toNat:Int) - 64≤183):SizeSaid (c :: t) w:=by
 show Calls _ _ _ _ _
 have hp:sizeP (c :: t)=(1,(c.toNat:Int) - 64 - 128):=by
  rw [qe5 _ (by omega),sizeD]
  rw [if_neg (by omega),if_pos (by omega),show ((c.toNat - 64:Nat):Int)=(c.toNat:Int) - 64 by omega]
 rw [hp]
 have hc:(c.toNat:Int)≤255:=by have:=c.toNat_lt;omega
 clear hp
 have hg:decide (192≤(c.toNat:Int))=true:=by rw [decide_eq_true_iff];omega
 have h4:¬ (c.toNat:Int) - 64 < 128:=by omega
 go_enter Tryz.func173,Tryz.ntmps173
 go_wp2_with fail
 go_ret2
 exact ⟨qb5 rfl (by omega),Below.refl _ _⟩
theorem qqk (c:UInt8) (t:Bytes) (w:World) (hs:(t.length:Int)≤1000000) (h:¬ (c.toNat:Int)≤183) (h2:(c.toNat:Int) < 192) (hk:(3:Int) < (c.toNat:Int) - 183):SizeSaid (c :: t) w:=by
 show Calls _ _ _ _ _
 have hp:sizeP (c :: t)=(-1,0):=by
  rw [qd4 _ (by omega),sizeD]
  rw [if_neg (by omega),if_neg (by omega),if_pos (.inl (by omega))]
 rw [hp]
 have hc:(c.toNat:Int)≤255:=by have:=c.toNat_lt;omega
 clear hp
 have hg:decide (192≤(c.toNat:Int))=false:=by rw [decide_eq_false_iff_not];omega
 have h4:¬ (c.toNat:Int) < 128:=by omega
 go_enter Tryz.func173,Tryz.ntmps173
 go_wp2_with fail
 go_ret2
 exact ⟨qb5 rfl (by omega),Below.refl _ _⟩
theorem qpr (c:UInt8) (t:Bytes) (w:World) (hs:(t.length:Int)≤1000000) (h:(183:Int) < (c.toNat:Int) - 64) (h2:(192:Int)≤c.toNat) (hk:(3:Int) < (c.toNat:Int) - 64 - 183):SizeSaid (c :: t) w:=by
 show Calls _ _ _ _ _
 have hp:sizeP (c :: t)=(-1,0):=by
  rw [qe5 _ (by omega),sizeD]
  rw [if_neg (by omega),if_neg (by omega),if_pos (.inl (by omega))]
 rw [hp]
 have hc:(c.toNat:Int)≤255:=by have:=c.toNat_lt;omega
 clear hp
 have hg:decide (192≤(c.toNat:Int))=true:=by rw [decide_eq_true_iff];omega
 have h4:¬ (c.toNat:Int) - 64 < 128:=by omega
 go_enter Tryz.func173,Tryz.ntmps173
 go_wp2_with fail
 go_ret2
 exact ⟨qb5 rfl (by omega),Below.refl _ _⟩
theorem ql7 (c:UInt8) (t:Bytes) (w:World) (hs:(t.length:Int)≤1000000) (h:¬ (c.toNat:Int)≤183) (h2:(c.toNat:Int) < 192) (hk:(c.toNat:Int) - 183≤3) (hl:(t.length:Int)+1 < 1+((c.toNat:Int) - 183)):SizeSaid (c :: t) w:=by
 show Calls _ _ _ _ _
 have hp:sizeP (c :: t)=(-1,0):=by
  rw [qd4 _ (by omega),sizeD]
  rw [if_neg (by omega),if_neg (by omega),if_pos (.inr (by omega))]
 rw [hp]
 have hc:(c.toNat:Int)≤255:=by have:=c.toNat_lt;omega
 clear hp
 have hg:decide (192≤(c.toNat:Int))=false:=by rw [decide_eq_false_iff_not];omega
 have h4:¬ (c.toNat:Int) < 128:=by omega
 go_enter Tryz.func173,Tryz.ntmps173
 go_wp2_with fail
 go_ret2
 exact ⟨qb5 rfl (by omega),Below.refl _ _⟩
theorem qlk (c:UInt8) (t:Bytes) (w:World) (hs:(t.length:Int)≤1000000) (h:(183:Int) < (c.toNat:Int) - 64) (h2:(192:Int)≤c.toNat) (hk:(c.toNat:Int) - 64 - 183≤3) (hl:(t.length:Int)+1 < 1+((c.toNat:Int) - 64 - 183)):SizeSaid (c :: t) w:=by
 show Calls _ _ _ _ _
 have hp:sizeP (c :: t)=(-1,0):=by
  rw [qe5 _ (by omega),sizeD]
  rw [if_neg (by omega),if_neg (by omega),if_pos (.inr (by omega))]
 rw [hp]
 have hc:(c.toNat:Int)≤255:=by have:=c.toNat_lt;omega
 clear hp
 have hg:decide (192≤(c.toNat:Int))=true:=by rw [decide_eq_true_iff];omega
 have h4:¬ (c.toNat:Int) - 64 < 128:=by omega
 go_enter Tryz.func173,Tryz.ntmps173
 go_wp2_with fail
 go_ret2
 exact ⟨qb5 rfl (by omega),Below.refl _ _⟩
theorem qeb {t:Bytes} {n:Nat} (h:n+1≤t.length):∃ d r,t=d :: r∧n≤r.length:=by
 cases t with
 | nil=>simp at h
 | cons d r=>exact ⟨d,r,rfl,by simpa using h⟩
theorem size_any (c:UInt8) (t:Bytes) (w:World) (hs:t.length≤1000000):SizeSaid (c :: t) w:=by
 have hs':(t.length:Int)≤1000000:=by omega
 have hc:=c.toNat_lt
 by_cases h2:c.toNat < 192
 ·by_cases h:c.toNat < 128
  ·exact qqj c t w hs' (by omega)
  ·by_cases h3:c.toNat≤183
   ·exact size_lo c t w hs' (by omega) (by omega)
   ·by_cases hk:3 < c.toNat - 183
    ·exact qqk c t w hs' (by omega) (by omega) (by omega)
    ·by_cases hl:t.length < c.toNat - 183
     ·exact ql7 c t w hs' (by omega) (by omega) (by omega) (by omega)
     ·rcases (by omega:c.toNat=184∨c.toNat=185∨c.toNat=186) with hN | hN | hN
      ·have hl':1≤t.length:=by omega
       obtain rfl:c=184:=UInt8.toNat_inj.1 (by simp;omega)
       clear hN hl hk h3 h h2 hc
       obtain ⟨d1,t,rfl,k1⟩:=qeb (n:=0) hl'
       exact size_184 d1 t w (by simp at hs;omega)
      ·have hl':2≤t.length:=by omega
       obtain rfl:c=185:=UInt8.toNat_inj.1 (by simp;omega)
       clear hN hl hk h3 h h2 hc
       obtain ⟨d1,t,rfl,k1⟩:=qeb (n:=1) hl'
       obtain ⟨d2,t,rfl,k2⟩:=qeb (n:=0) k1
       exact size_185 d1 d2 t w (by simp at hs;omega)
      ·have hl':3≤t.length:=by omega
       obtain rfl:c=186:=UInt8.toNat_inj.1 (by simp;omega)
       clear hN hl hk h3 h h2 hc
       obtain ⟨d1,t,rfl,k1⟩:=qeb (n:=2) hl'
       obtain ⟨d2,t,rfl,k2⟩:=qeb (n:=1) k1
       obtain ⟨d3,t,rfl,k3⟩:=qeb (n:=0) k2
       exact size_186 d1 d2 d3 t w (by simp at hs;omega)
 ·by_cases h3:c.toNat≤247
  ·exact size_hi c t w hs' (by omega) (by omega)
  ·by_cases hk:3 < c.toNat - 247
   ·exact qpr c t w hs' (by omega) (by omega) (by omega)
   ·by_cases hl:t.length < c.toNat - 247
    ·exact qlk c t w hs' (by omega) (by omega) (by omega) (by omega)
    ·rcases (by omega:c.toNat=248∨c.toNat=249∨c.toNat=250) with hN | hN | hN
     ·have hl':1≤t.length:=by omega
      obtain rfl:c=248:=UInt8.toNat_inj.1 (by simp;omega)
      clear hN hl hk h3 h2 hc
      obtain ⟨d1,t,rfl,k1⟩:=qeb (n:=0) hl'
      exact size_248 d1 t w (by simp at hs;omega)
     ·have hl':2≤t.length:=by omega
      obtain rfl:c=249:=UInt8.toNat_inj.1 (by simp;omega)
      clear hN hl hk h3 h2 hc
      obtain ⟨d1,t,rfl,k1⟩:=qeb (n:=1) hl'
      obtain ⟨d2,t,rfl,k2⟩:=qeb (n:=0) k1
      exact size_249 d1 d2 t w (by simp at hs;omega)
     ·have hl':3≤t.length:=by omega
      obtain rfl:c=250:=UInt8.toNat_inj.1 (by simp;omega)
      clear hN hl hk h3 h2 hc
      obtain ⟨d1,t,rfl,k1⟩:=qeb (n:=2) hl'
      obtain ⟨d2,t,rfl,k2⟩:=qeb (n:=1) k1
      obtain ⟨d3,t,rfl,k3⟩:=qeb (n:=0) k2
      exact size_250 d1 d2 d3 t w (by simp at hs;omega)
/-- size and cut speak of one head -/
theorem qiw {s:Bytes} {is:Bool} {f t:Nat} (h:cutP s=some (is,f,t)):sizeP s=((f:Int),(t:Int) - f)∧f≤t∧∃ c r,s=c :: r∧is=decide (192≤c.toNat):=by
 cases s with
 | nil=>cases h
 | cons c r =>
  have hlt:=c.toNat_lt
  simp only [cutP] at h
  simp only [sizeP,sizeD]
  by_cases h1:c.toNat < 128
  ·rw [if_pos h1] at h
   simp at h
   obtain ⟨rfl,rfl,rfl⟩:=h
   rw [if_neg (show ¬ 192≤c.toNat by omega),if_pos h1]
   exact ⟨rfl,by omega,c,r,rfl,by rw [decide_eq_false (by omega)]⟩
  ·rw [if_neg h1] at h
   obtain ⟨F,hFe,hFc,hd⟩:∃ F,(if decide (192≤c.toNat)=true then 192 else 128)=F∧F≤c.toNat∧(if 192≤c.toNat then c.toNat - 64 else c.toNat)=c.toNat - F+128:=by
    by_cases h2:192≤c.toNat
    ·exact ⟨192,by rw [decide_eq_true h2];rfl,h2,by rw [if_pos h2];omega⟩
    ·exact ⟨128,by rw [decide_eq_false h2];rfl,by omega,by rw [if_neg h2];omega⟩
   rw [hFe] at h
   rw [hd,if_neg (by omega)]
   by_cases h55:c.toNat - F≤55
   ·rw [if_pos h55] at h
    simp at h
    obtain ⟨h0,rfl,rfl⟩:=h
    rw [if_pos (by omega)]
    refine ⟨?_,by omega,c,r,rfl,h0.symm⟩
    rw [Prod.mk.injEq];exact ⟨rfl,by omega⟩
   ·rw [if_neg h55] at h
    by_cases hbad:2 < c.toNat - F - 55∨r.length < c.toNat - F - 55∨r.headD 0=0
    ·rw [if_pos hbad] at h;cases h
    ·rw [if_neg hbad] at h
     by_cases hm:num (r.take (c.toNat - F - 55))≤55
     ·rw [if_pos hm] at h;cases h
     ·rw [if_neg hm] at h
      simp at h
      obtain ⟨h0,rfl,rfl⟩:=h
      have e:c.toNat - F+128 - 183=c.toNat - F - 55:=by omega
      rw [if_neg (by omega),e,if_neg (by omega)]
      refine ⟨?_,by omega,c,r,rfl,h0.symm⟩
      rw [Prod.mk.injEq];exact ⟨by omega,by omega⟩
/-- what size says is small -/
theorem sizeP_le (c:UInt8) (t:Bytes):(sizeP (c :: t)=(-1,0))∨(0≤(sizeP (c :: t)).1∧0≤(sizeP (c :: t)).2∧1≤(sizeP (c :: t)).1+(sizeP (c :: t)).2∧(sizeP (c :: t)).1≤4∧(sizeP (c :: t)).2 < 16777216 ∧
  ((sizeP (c :: t)).1=0→(sizeP (c :: t)).2=1∧c.toNat < 128)):=by
 have hlt:=c.toNat_lt
 generalize hz:sizeP (c :: t)=z
 simp only [sizeP,sizeD] at hz
 generalize hd:(if 192≤c.toNat then c.toNat - 64 else c.toNat)=d at hz
 have hd2:d < 192∧(d < 128→c.toNat < 128):=by
  by_cases h:192≤c.toNat
  ·rw [if_pos h] at hd;omega
  ·rw [if_neg h] at hd;omega
 by_cases h1:d < 128
 ·rw [if_pos h1] at hz
  subst hz
  exact .inr ⟨by simp,by simp,by simp,by simp,by simp,fun _=>⟨rfl,hd2.2 h1⟩⟩
 ·rw [if_neg h1] at hz
  by_cases h2:d≤183
  ·rw [if_pos h2] at hz
   subst hz
   exact .inr ⟨by simp,by show (0:Int)≤(d:Int) - 128;omega,by show (1:Int)≤1+((d:Int) - 128);omega,by simp,by show (d:Int) - 128 < _;omega,fun h=>by simp at h⟩
  ·rw [if_neg h2] at hz
   by_cases h3:3 < d - 183∨t.length < d - 183
   ·rw [if_pos h3] at hz;exact .inl hz.symm
   ·rw [if_neg h3] at hz
    subst hz
    have hn:=qjz (t.take (d - 183))
    rw [List.length_take,Nat.min_eq_left (by omega)] at hn
    have h4:(256:Nat) ^ (d - 183)≤256 ^ 3:=Nat.pow_le_pow_right (by omega) (by omega)
    refine .inr ⟨?_,?_,?_,?_,?_,fun h=>?_⟩ <;> simp only [] at * <;> omega
end Go.Proofs.YteoednifdpdbnaaGreat
