/- The walks of rlp.write and of the reference's Write. -/
import Derived.Test.YtdfmheademcbkaaGreatZ24
import Derived.Test.YtdfmheademcbkaaGreatZ25
import Derived.Deep.RegionHeld3
import Derived.BigQuiet
namespace Go.Proofs.YtdfmheademcbkaaGreat
set_option linter.unusedVariables false
set_option linter.unusedSimpArgs false
open Go.RowKit
set_option maxHeartbeats 800000
theorem strCells_bs (l:List UInt8):Lib.strCells (bs l)=Lib.byteCells l:=rfl
theorem builderAt_keep {T e:TypeId} {B b:Nat} {p:Value} {l:List Value} {w w':World} (h:Lib.BuilderAt T e B b p l w) (hb:Below w.heap.size w w'):Lib.BuilderAt T e B b p l w':=by
 have hlt:=h.lt
 obtain ⟨h1,v,h2,h3,h4⟩:=h
 exact ⟨h1,v,(hb.block b hlt).trans h2,h3.kept (grown_below hb) (by cases hv:v.ownBlock <;> simp),h4⟩
theorem builder_keep {T e:TypeId} {B b:Nat} {l:List Value} {w w':World} (h:Lib.IsBuilder T e B b l w) (hb:Below w.heap.size w w'):Lib.IsBuilder T e B b l w' :=
 h.imp (fun h=>builderAt_keep h hb) (fun h=>builderAt_keep h hb)
theorem builder_new (w:World) (T e:TypeId):Lib.IsBuilder T e w.heap.size w.heap.size [] (w.alloc (.cells #[.pointer none,.slice none 0 0] T)) :=
 .inl ⟨Nat.le_refl _,.slice none 0 0,heap_alloc_new w _,World.ownsRow_nil _ _ _ _,by simp [Value.ownBlock]⟩
theorem write_any (N:Nat):∀ (x:Item) (A:Option Addr) (c:Nat) (w:World),countP x≤N→countP x≤1000000→(writeP x).length < 16777216→ItemV Any w x A c →
  Calls Tryz.prog 78 #[.agg #[.bool x.l,.string (bs x.b),.slice A x.ks.length c]] w fun e w'=>e=.returned (.string (bs (writeP x)))∧Below w.heap.size w w':=by
 induction N with
 | zero=>intro x A c w h;have:=countP_pos x;omega
 | succ N ih =>
  intro x A c w hN hM hW hv
  cases hl:x.l with
  | false =>
   have hwx:writeP x=if x.b.length=1∧(x.b.headD 0).toNat < 128 then x.b else headP 128 x.b.length ++ x.b:=by obtain ⟨l,b,ks⟩:=x;simp only [Item.l] at hl;subst hl;rfl
   by_cases h1:x.b.length=1
   ·obtain ⟨d,hd⟩:∃ d,x.b = [d]:=by
     match hx:x.b,h1 with
     | [d],_=>exact ⟨d,rfl⟩
    rw [hd] at hwx ⊢
    clear h1 hl
    by_cases h2:(d.toNat:Int) < 128
    ·rw [if_pos ⟨rfl,by simp;omega⟩] at hwx
     rw [hwx]
     clear hwx hd hv
     go_enter Tryz.func78,Tryz.ntmps78
     go_wp2_with fail
     go_ret
     exact ⟨rfl,(Below.refl _ _).alloc (Nat.le_refl _) _⟩
    ·rw [if_neg (by rintro ⟨_,h⟩;simp at h;omega)] at hwx
     rw [hwx]
     have Hd:=Lib.hid hd
     have hnf:(9223372036854775807 < (headP 128 1).length+1)=False:=by have hhl:=headP_len_le4 128 1 (by omega);simp;omega
     clear hwx hd hv
     go_enter Tryz.func78,Tryz.ntmps78
     go_wp2_with fail
     go_region_held3 (fun w'=>w'.cell? ⟨w.heap.size,1,none⟩=some (.string (bs [d]))) (first | (rw [(bcell hb1).1 _ _ (by simp)];simp;done) | go_keep)
      ((go_at_call 128;refine (head_any 128 _ (.inl rfl) (by omega) (by omega) _).mono ?_;rintro e w1 ⟨rfl,hb1⟩))
     go_wp2_with fail
     go_ret
     exact ⟨rfl,below_box' hb1⟩
   ·have hbl:x.b.length < 16777216:=by
     rw [hwx,if_neg (by omega),List.length_append] at hW;omega
    rw [if_neg (by omega)] at hwx
    rw [hwx]
    have hhl:=headP_len_le4 128 x.b.length (by omega)
    have hne:((x.b.length:Int) == 1)=false:=by rw [beq_eq_false_iff_ne];omega
    clear hwx hv h1 hl
    generalize x.b=b at *
    have hnf:(9223372036854775807 < (headP 128 b.length).length+b.length)=False:=by simp;omega
    go_enter Tryz.func78,Tryz.ntmps78
    go_wp2_with fail
    go_region_held3 (fun w'=>w'.cell? ⟨w.heap.size,1,none⟩=some (.string (bs b))) (first | (rw [(bcell hb1).1 _ _ (by simp)];simp;done) | go_keep)
     ((go_at_call 128;refine (head_any 128 _ (.inl rfl) (by omega) (by omega) _).mono ?_;rintro e w1 ⟨rfl,hb1⟩))
    go_wp2_with fail
    go_ret
    exact ⟨rfl,below_box' hb1⟩
  | true =>
   have hwx:writeP x=headP 192 (writesP x.ks).length ++ writesP x.ks:=by obtain ⟨l,b,ks⟩:=x;simp only [Item.l] at hl;subst hl;rfl
   have hWk:(writesP x.ks).length < 16777216:=by rw [hwx,List.length_append] at hW;omega
   have hhl:=headP_len_le4 192 (writesP x.ks).length (by omega)
   have hlen:=countsP_ge x.ks
   have hcnt:countP x=1+countsP x.ks:=by cases x;rfl
   have hkl:x.ks.length≤1000000:=by omega
   have Hwx:=Lib.hid hwx
   have Hl:=Lib.hid hl
   clear hwx hcnt hl
   go_enter Tryz.func78,Tryz.ntmps78
   go_wp2_with fail
   go_loopw [5,11] (fun _ i wr=>∃ k:Nat,k≤x.ks.length∧i=.int .i64 k∧Lib.IsBuilder 200 5 (w.heap.size+1) (w.heap.size+1) (Lib.byteCells (writesP (x.ks.take k))) wr ∧
     Below (w.heap.size+1) (w.alloc (.cells #[.bool true,.string (bs x.b),.slice A x.ks.length c] 86)) wr) (fun _ i _=>x.ks.length - (intOf i).toNat)
   case atStart =>
    refine ⟨0,Nat.zero_le _,rfl,?_,(Below.refl _ _).alloc (by simp) _⟩
    have:=builder_new (w.alloc (.cells #[.bool true,.string (bs x.b),.slice A x.ks.length c] 86)) 200 5
    simpa [writesP,Lib.byteCells] using this
   case round =>
    obtain ⟨k,hk,rfl,hB,hb⟩:=hrel
    have hbs:=hb.size
    simp at hbs
    by_cases hlt:k < x.ks.length
    ·obtain ⟨y,hy⟩:=getElem_ex hlt
     have hv':=hv.keep (below_box hb)
     obtain ⟨g,o,A',c',hA,_,hvy,c0,c1,c2⟩:=hv'.at_ hy
     subst hA
     have hwl:=writesP_le x.ks (k+1)
     have hwt:=writesP_take hy
     have hwm:=writeP_mem hy
     have Hwt:=Lib.hid hwt
     have hwl2:(writesP (x.ks.take k)).length+(writeP y).length < 16777216:=by rw [hwt,List.length_append] at hwl;omega
     clear hwt hwl
     go_wp2_with fail
     refine (ih y A' c' _ (by have:=countP_mem hy;omega) (by have:=countP_mem hy;omega) (by omega) (hvy.alloc _)).mono ?_
     rintro e w1 ⟨rfl,hb1⟩
     have hB1:=builder_keep (builder_keep hB ((Below.refl _ _).alloc (Nat.le_refl _) _)) hb1
     have hb1s:=hb1.size
     simp at hb1s
     go_wp2_with fail
     refine (bWriteString (w.heap.size+1) (w.heap.size+1) _ (bs (writeP y)) _ hB1 (by simp [size_bs,Lib.byteCells];omega) (by omega)).mono ?_
     rintro e w2 ⟨rfl,hB2,hb2⟩
     go_wp2_with fail
     go_roundw
     case rel =>
      refine ⟨k+1,hlt,by go_num,?_,(below_next hb hbs hb1).trans hb2⟩
      have:=hB2
      rw [strCells_bs] at this
      refine .inr ?_
      rw [Hwt.out]
      simpa [Lib.byteCells] using this
     case measure=>simp [intOf];omega
    ·obtain rfl:k=x.ks.length:=by omega
     rw [List.take_length] at hB
     go_wp2_with fail
     refine (bLen (w.heap.size+1) (w.heap.size+1) _ _ hB).mono ?_
     rintro e w1 ⟨rfl,rfl⟩
     rw [show (Lib.byteCells (writesP x.ks)).length=(writesP x.ks).length by simp [Lib.byteCells]]
     go_wp2_with fail
     refine (head_any 192 _ (.inr rfl) (by omega) (by omega) _).mono ?_
     rintro e w1 ⟨rfl,hb1⟩
     go_wp2_with fail
     refine (bString (w.heap.size+1) (w.heap.size+1) _ _ (builder_keep hB hb1) (by have:=hb1.size;omega)).mono ?_
     rintro e w2 ⟨rfl,hb2⟩
     have hfold:(⟨(writesP x.ks).toArray⟩:ByteArray)=bs (writesP x.ks):=rfl
     rw [hfold]
     clear hfold
     go_wp2_with fail
     go_ret
     exact ⟨ret_str (by rw [Hwx.out]),below_box ((below_call hb hbs hb1).trans hb2)⟩
theorem Write_any (N:Nat):∀ (x:Item) (A:Option Addr) (c:Nat) (w:World),countP x≤N→countP x≤1000000→(writeP x).length < 16777216→ItemV Any w x A c →
  Calls Tryz.prog 99 #[.agg #[.bool x.l,.string (bs x.b),.slice A x.ks.length c]] w fun e w'=>e=.returned (.string (bs (writeP x)))∧Below w.heap.size w w':=by
 induction N with
 | zero=>intro x A c w h;have:=countP_pos x;omega
 | succ N ih =>
  intro x A c w hN hM hW hv
  cases hl:x.l with
  | false =>
   have hwx:writeP x=if x.b.length=1∧(x.b.headD 0).toNat < 128 then x.b else headP 128 x.b.length ++ x.b:=by obtain ⟨l,b,ks⟩:=x;simp only [Item.l] at hl;subst hl;rfl
   by_cases h1:x.b.length=1
   ·obtain ⟨d,hd⟩:∃ d,x.b = [d]:=by
     match hx:x.b,h1 with
     | [d],_=>exact ⟨d,rfl⟩
    rw [hd] at hwx ⊢
    clear h1 hl
    by_cases h2:(d.toNat:Int) < 128
    ·rw [if_pos ⟨rfl,by simp;omega⟩] at hwx
     rw [hwx]
     clear hwx hd hv
     go_enter Tryz.func99,Tryz.ntmps99
     go_wp2_with fail
     go_ret
     exact ⟨rfl,(Below.refl _ _).alloc (Nat.le_refl _) _⟩
    ·rw [if_neg (by rintro ⟨_,h⟩;simp at h;omega)] at hwx
     rw [hwx]
     have Hd:=Lib.hid hd
     have hnf:(9223372036854775807 < (headP 128 1).length+1)=False:=by have hhl:=headP_len_le4 128 1 (by omega);simp;omega
     clear hwx hd hv
     go_enter Tryz.func99,Tryz.ntmps99
     go_wp2_with fail
     go_region_held3 (fun w'=>w'.cell? ⟨w.heap.size,1,none⟩=some (.string (bs [d]))) (first | (rw [(bcell hb1).1 _ _ (by simp)];simp;done) | go_keep)
      ((go_at_call 148;refine (refHead_any 128 _ (.inl rfl) (by omega) (by omega) _).mono ?_;rintro e w1 ⟨rfl,hb1⟩))
     go_wp2_with fail
     go_ret
     exact ⟨rfl,below_box' hb1⟩
   ·have hbl:x.b.length < 16777216:=by
     rw [hwx,if_neg (by omega),List.length_append] at hW;omega
    rw [if_neg (by omega)] at hwx
    rw [hwx]
    have hhl:=headP_len_le4 128 x.b.length (by omega)
    have hne:((x.b.length:Int) == 1)=false:=by rw [beq_eq_false_iff_ne];omega
    clear hwx hv h1 hl
    generalize x.b=b at *
    have hnf:(9223372036854775807 < (headP 128 b.length).length+b.length)=False:=by simp;omega
    go_enter Tryz.func99,Tryz.ntmps99
    go_wp2_with fail
    go_region_held3 (fun w'=>w'.cell? ⟨w.heap.size,1,none⟩=some (.string (bs b))) (first | (rw [(bcell hb1).1 _ _ (by simp)];simp;done) | go_keep)
     ((go_at_call 148;refine (refHead_any 128 _ (.inl rfl) (by omega) (by omega) _).mono ?_;rintro e w1 ⟨rfl,hb1⟩))
    go_wp2_with fail
    go_ret
    exact ⟨rfl,below_box' hb1⟩
  | true =>
   have hwx:writeP x=headP 192 (writesP x.ks).length ++ writesP x.ks:=by obtain ⟨l,b,ks⟩:=x;simp only [Item.l] at hl;subst hl;rfl
   have hWk:(writesP x.ks).length < 16777216:=by rw [hwx,List.length_append] at hW;omega
   have hhl:=headP_len_le4 192 (writesP x.ks).length (by omega)
   have hlen:=countsP_ge x.ks
   have hcnt:countP x=1+countsP x.ks:=by cases x;rfl
   have hkl:x.ks.length≤1000000:=by omega
   have Hwx:=Lib.hid hwx
   have Hl:=Lib.hid hl
   clear hwx hcnt hl
   go_enter Tryz.func99,Tryz.ntmps99
   go_wp2_with fail
   go_loopw [3,5,11] (fun s _ i wr=>∃ k:Nat,k≤x.ks.length∧i=.int .i64 k∧s=.string (bs (writesP (x.ks.take k))) ∧
     Below (w.heap.size+1) (w.alloc (.cells #[.bool true,.string (bs x.b),.slice A x.ks.length c] 86)) wr) (fun _ _ i _=>x.ks.length - (intOf i).toNat)
   case atStart=>exact ⟨0,Nat.zero_le _,rfl,rfl,Below.refl _ _⟩
   case round =>
    obtain ⟨k,hk,rfl,rfl,hb⟩:=hrel
    have hbs:=hb.size
    simp at hbs
    by_cases hlt:k < x.ks.length
    ·obtain ⟨y,hy⟩:=getElem_ex hlt
     have hv':=hv.keep (below_box hb)
     obtain ⟨g,o,A',c',hA,_,hvy,c0,c1,c2⟩:=hv'.at_ hy
     subst hA
     have hwl:=writesP_le x.ks (k+1)
     have hwt:=writesP_take hy
     have hwm:=writeP_mem hy
     have Hwt:=Lib.hid hwt
     have hwl2:(writesP (x.ks.take k)).length+(writeP y).length < 16777216:=by rw [hwt,List.length_append] at hwl;omega
     clear hwt hwl
     go_wp2_with fail
     refine (ih y A' c' _ (by have:=countP_mem hy;omega) (by have:=countP_mem hy;omega) (by omega) (hvy.alloc _)).mono ?_
     rintro e w1 ⟨rfl,hb1⟩
     go_wp2_with fail
     go_roundw
     case rel=>exact ⟨k+1,hlt,by go_num,by rw [Hwt.out],below_next hb hbs hb1⟩
     case measure=>simp [intOf];omega
    ·obtain rfl:k=x.ks.length:=by omega
     rw [List.take_length]
     go_wp2_with fail
     refine (refHead_any 192 _ (.inr rfl) (by omega) (by omega) _).mono ?_
     rintro e w1 ⟨rfl,hb1⟩
     go_wp2_with fail
     go_ret
     exact ⟨ret_str (by rw [Hwx.out]),below_box (below_call hb hbs hb1)⟩
/-- what encoding an item answers -/
def encR (x:Item):Bytes×Nat :=
 if wellP x=false then ([],1) else if 8 < depthP x then ([],5) else if 4000 < (writeP x).length then ([],2) else (writeP x,0)
theorem Encode_any (x:Item) (A:Option Addr) (c:Nat) (w:World) (hW:(writeP x).length < 16777216) (hv:ItemV Any w x A c) :
  Calls Tryz.prog 42 #[.agg #[.bool x.l,.string (bs x.b),.slice A x.ks.length c]] w fun e w'=>e=.returned (.tuple #[.string (bs (encR x).1),.int .i64 (encR x).2])∧Below w.heap.size w w':=by
 have hE:Hid (encR x=if wellP x=false then ([],1) else if 8 < depthP x then ([],5) else if 4000 < (writeP x).length then ([],2) else (writeP x,0)):=rfl
 go_enter Tryz.func42,Tryz.ntmps42
 go_wp2_with fail
 refine (well_any x A c _ (hv.alloc _)).mono ?_
 rintro e w1 ⟨rfl,hb1⟩
 obtain ⟨q1,q2⟩:=bcell hb1
 have hb:=below_box (hb1.mono (by simp))
 have hvw:=hv.keep hb
 have d0:w1.cell? ⟨w.heap.size,0,none⟩=some (.bool x.l):=by rw [q1 _ _ (by simp)];simp
 have d1:w1.cell? ⟨w.heap.size,1,none⟩=some (.string (bs x.b)):=by rw [q1 _ _ (by simp)];simp
 have d2:w1.cell? ⟨w.heap.size,2,none⟩=some (.slice A x.ks.length c):=by rw [q1 _ _ (by simp)];simp
 clear q1 q2
 cases hwe:wellP x with
 | false =>
  have Hwe:=Lib.hid hwe
  clear hwe
  go_wp2_with fail
  go_ret2
  exact ⟨by rw [hE.out,if_pos Hwe.out];rfl,hb⟩
 | true =>
  have hwp:pureP x=true∧countP x≤4000:=by unfold wellP at hwe;simpa using hwe
  obtain ⟨hp,hc⟩:=hwp
  have Hwe:=Lib.hid hwe
  clear hwe
  go_wp2_with fail
  refine (deep_any 4000 x A c _ hc (by omega) hp hvw).mono ?_
  rintro e w2 ⟨rfl,hb2⟩
  have hvw2:=hvw.keep hb2
  have hlt:w.heap.size < w1.heap.size:=lt_of_cell d0
  have d0':w2.cell? ⟨w.heap.size,0,none⟩=some (.bool x.l):=by rw [(bcell hb2).1 _ _ hlt];exact d0
  have d1':w2.cell? ⟨w.heap.size,1,none⟩=some (.string (bs x.b)):=by rw [(bcell hb2).1 _ _ hlt];exact d1
  have d2':w2.cell? ⟨w.heap.size,2,none⟩=some (.slice A x.ks.length c):=by rw [(bcell hb2).1 _ _ hlt];exact d2
  by_cases hd:(8:Int) < depthP x
  ·go_wp2_with fail
   go_ret2
   exact ⟨by rw [hE.out,if_neg (by rw [Hwe.out];simp),if_pos (by omega)];rfl,hb.trans (hb2.mono hb.size)⟩
  ·go_wp2_with fail
   refine (write_any 4000 x A c _ hc (by omega) hW hvw2).mono ?_
   rintro e w3 ⟨rfl,hb3⟩
   by_cases hl:(4000:Int) < (writeP x).length
   ·go_wp2_with fail
    go_ret2
    exact ⟨by rw [hE.out,if_neg (by rw [Hwe.out];simp),if_neg (by omega),if_pos (by omega)];rfl,(hb.trans (hb2.mono hb.size)).trans (hb3.mono (by have:=hb.size;have:=hb2.size;omega))⟩
   ·go_wp2_with fail
    go_ret2
    exact ⟨by rw [hE.out,if_neg (by rw [Hwe.out];simp),if_neg (by omega),if_neg (by omega)];rfl,(hb.trans (hb2.mono hb.size)).trans (hb3.mono (by have:=hb.size;have:=hb2.size;omega))⟩
theorem refEncode_any (x:Item) (A:Option Addr) (c:Nat) (w:World) (hW:(writeP x).length < 16777216) (hv:ItemV Any w x A c) (hM:countP x≤1000000) :
  Calls Tryz.prog 53 #[.agg #[.bool x.l,.string (bs x.b),.slice A x.ks.length c]] w fun e w'=>e=.returned (.tuple #[.string (bs (encR x).1),.int .i64 (encR x).2])∧Below w.heap.size w w':=by
 have hE:Hid (encR x=if wellP x=false then ([],1) else if 8 < depthP x then ([],5) else if 4000 < (writeP x).length then ([],2) else (writeP x,0)):=rfl
 have hC0:=Cells.new w #[.bool x.l,.string (bs x.b),.slice A x.ks.length c] 86
 go_enter Tryz.func53,Tryz.ntmps53
 go_wp2_with fail
 refine (Many_any x A c _ (hv.alloc _)).mono ?_
 rintro e w1 ⟨n,rfl,hn,hnc,hb1⟩
 have hb:=below_box (hb1.mono (by simp))
 have hvw:=hv.keep hb
 have hC:=hC0.keep hb1
 clear hC0
 have d0:=hC 0 _ rfl
 have d1:=hC 1 _ rfl
 have d2:=hC 2 _ rfl
 by_cases hn2:(4000:Int) < n
 ·have hwe:Hid (wellP x=false):=by show _=_;unfold wellP;rw [decide_eq_false (by omega),Bool.and_false]
  go_wp2_with fail
  go_ret2
  exact ⟨by rw [hE.out,if_pos hwe.out];rfl,hb⟩
 ·have hcn:countP x≤4000:=by omega
  go_wp2_with fail
  refine (pure_any 4000 x A c _ hcn hM hvw).mono ?_
  rintro e w2 ⟨rfl,hb2⟩
  have hvw2:=hvw.keep hb2
  have hC2:=hC.keep hb2
  have hbb:=below_call hb hb.size hb2
  clear hC d0 d1 d2
  have d0:=hC2 0 _ rfl
  have d1:=hC2 1 _ rfl
  have d2:=hC2 2 _ rfl
  cases hpx:pureP x with
  | false =>
   have hwe:Hid (wellP x=false):=by show _=_;unfold wellP;rw [hpx];rfl
   clear hpx
   go_wp2_with fail
   go_ret2
   exact ⟨by rw [hE.out,if_pos hwe.out];rfl,hbb⟩
  | true =>
   have hwe:Hid (wellP x=true):=by show _=_;unfold wellP;rw [hpx,decide_eq_true hcn];rfl
   clear hpx
   go_wp2_with fail
   refine (Depth_any 4000 x A c _ hcn hM hvw2).mono ?_
   rintro e w3 ⟨rfl,hb3⟩
   have hvw3:=hvw2.keep hb3
   have hC3:=hC2.keep hb3
   have hbc:=below_call hbb hbb.size hb3
   clear hC2 d0 d1 d2
   have d0:=hC3 0 _ rfl
   have d1:=hC3 1 _ rfl
   have d2:=hC3 2 _ rfl
   by_cases hd:(8:Int) < depthP x
   ·go_wp2_with fail
    go_ret2
    exact ⟨by rw [hE.out,if_neg (by rw [hwe.out];simp),if_pos (by omega)];rfl,hbc⟩
   ·go_wp2_with fail
    refine (Write_any 4000 x A c _ hcn hM hW hvw3).mono ?_
    rintro e w4 ⟨rfl,hb4⟩
    have hbd:=below_call hbc hbc.size hb4
    by_cases hl:(4000:Int) < (writeP x).length
    ·go_wp2_with fail
     go_ret2
     exact ⟨by rw [hE.out,if_neg (by rw [hwe.out];simp),if_neg (by omega),if_pos (by omega)];rfl,hbd⟩
    ·go_wp2_with fail
     go_ret2
     exact ⟨by rw [hE.out,if_neg (by rw [hwe.out];simp),if_neg (by omega),if_neg (by omega)];rfl,hbd⟩
end Go.Proofs.YtdfmheademcbkaaGreat
