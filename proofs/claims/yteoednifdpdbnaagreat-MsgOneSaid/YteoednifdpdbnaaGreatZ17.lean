/- The walks of rlp.write and of the reference's Write. -/
import Derived.Test.YteoednifdpdbnaaGreatZ16
import Derived.Test.YteoednifdpdbnaaGreatZ15
import Derived.Deep.RegionHeld3
import Derived.BigQuiet
namespace Go.Proofs.YteoednifdpdbnaaGreat
set_option linter.unusedVariables false
set_option linter.unusedSimpArgs false
open Go.RowKit
set_option maxHeartbeats 1000000
theorem qml (l:List UInt8):Lib.strCells (bs l)=Lib.byteCells l:=rfl
theorem qe1 {T e:TypeId} {B b:Nat} {p:Value} {l:List Value} {w w':World} (h:Lib.BuilderAt T e B b p l w) (hb:Below w.heap.size w w'):Lib.BuilderAt T e B b p l w':=by
 have hlt:=h.lt
 obtain ⟨h1,v,h2,h3,h4⟩:=h
 exact ⟨h1,v,(hb.block b hlt).trans h2,h3.kept (qh9 hb) (by cases hv:v.ownBlock <;> simp),h4⟩
theorem qef {T e:TypeId} {B b:Nat} {l:List Value} {w w':World} (h:Lib.IsBuilder T e B b l w) (hb:Below w.heap.size w w'):Lib.IsBuilder T e B b l w' :=
 h.imp (fun h=>qe1 h hb) (fun h=>qe1 h hb)
theorem qmg (w:World) (T e:TypeId):Lib.IsBuilder T e w.heap.size w.heap.size [] (w.alloc (.cells #[.pointer none,.slice none 0 0] T)) :=
 .inl ⟨Nat.le_refl _,.slice none 0 0,heap_alloc_new w _,World.ownsRow_nil _ _ _ _,by simp [Value.ownBlock]⟩
theorem qrd (N:Nat):∀ (x:Item) (A:Option Addr) (c:Nat) (w:World),countP x≤N→countP x≤1000000→(writeP x).length < 16777216→ItemV Any w x A c →
  Calls Tryz.prog 112 #[.agg #[.bool x.l,.string (bs x.b),.slice A x.ks.length c]] w fun e w'=>e=.returned (.string (bs (writeP x)))∧Below w.heap.size w w':=by
 induction N with
 | zero=>intro x A c w h;have:=qgc x;omega
 | succ N ih =>
  intro x A c w hN hM hW hv
  cases hl:x.l with
  | false =>
   have hwx:writeP x=if x.b.length=1∧(x.b.headD 0).toNat < 128 then x.b else headP 128 x.b.length ++ x.b:=by obtain ⟨l,b,ks⟩:=x;simp only [Item.l] at hl;subst hl;rfl
   by_cases h1:x.b.length=1
   ·obtain ⟨d,hd⟩:∃ d,x.b = [d]:=by
     match hx:x.b,h1 with
     | [d],_=>exact ⟨d,rfl⟩
    rw [hd] at hwx ⊢
    clear h1 hl
    by_cases h2:(d.toNat:Int) < 128
    ·rw [if_pos ⟨rfl,by simp;omega⟩] at hwx
     rw [hwx]
     clear hwx hd hv
     go_enter Tryz.func112,Tryz.ntmps112
     go_wp2_with fail
     go_ret
     exact ⟨rfl,(Below.refl _ _).alloc qn _⟩
    ·rw [if_neg (by rintro ⟨_,h⟩;simp at h;omega)] at hwx
     rw [hwx]
     have Hd:=qh hd
     have hnf:(9223372036854775807 < (headP 128 1).length+1)=False:=by have hhl:=qdt 128 1 (by omega);simp;omega
     clear hwx hd hv
     go_enter Tryz.func112,Tryz.ntmps112
     go_wp2_with fail
     go_region_held3 (fun w'=>w'.cell? ⟨w.heap.size,1,none⟩=some (.string (bs [d]))) (first | (rw [(bcell hb1).1 _ _ (by simp)];simp;done) | go_keep)
      ((go_at_call 169;refine (qjh 128 _ (.inl rfl) (by omega) (by omega) _).mono ?_;rintro e w1 ⟨rfl,hb1⟩))
     go_wp2_with fail
     go_ret
     exact ⟨rfl,qjd hb1⟩
   ·have hbl:x.b.length < 16777216:=by
     rw [hwx,if_neg (by omega),List.length_append] at hW;omega
    rw [if_neg (by omega)] at hwx
    rw [hwx]
    have hhl:=qdt 128 x.b.length (by omega)
    have hne:((x.b.length:Int) == 1)=false:=by rw [beq_eq_false_iff_ne];omega
    clear hwx hv h1 hl
    generalize x.b=b at *
    have hnf:(9223372036854775807 < (headP 128 b.length).length+b.length)=False:=by simp;omega
    go_enter Tryz.func112,Tryz.ntmps112
    go_wp2_with fail
    go_region_held3 (fun w'=>w'.cell? ⟨w.heap.size,1,none⟩=some (.string (bs b))) (first | (rw [(bcell hb1).1 _ _ (by simp)];simp;done) | go_keep)
     ((go_at_call 169;refine (qjh 128 _ (.inl rfl) (by omega) (by omega) _).mono ?_;rintro e w1 ⟨rfl,hb1⟩))
    go_wp2_with fail
    go_ret
    exact ⟨rfl,qjd hb1⟩
  | true =>
   have hwx:writeP x=headP 192 (writesP x.ks).length ++ writesP x.ks:=by obtain ⟨l,b,ks⟩:=x;simp only [Item.l] at hl;subst hl;rfl
   have hWk:(writesP x.ks).length < 16777216:=by rw [hwx,List.length_append] at hW;omega
   have hhl:=qdt 192 (writesP x.ks).length (by omega)
   have hlen:=qcj x.ks
   have hcnt:countP x=1+countsP x.ks:=by cases x;rfl
   have hkl:x.ks.length≤1000000:=by omega
   have Hwx:=qh hwx
   have Hl:=qh hl
   clear hwx hcnt hl
   go_enter Tryz.func112,Tryz.ntmps112
   go_wp2_with fail
   go_loopw [5,11] (fun _ i wr=>∃ k:Nat,k≤x.ks.length∧i=.int .i64 k∧Lib.IsBuilder 237 5 (w.heap.size+1) (w.heap.size+1) (Lib.byteCells (writesP (x.ks.take k))) wr ∧
     Below (w.heap.size+1) (w.alloc (.cells #[.bool true,.string (bs x.b),.slice A x.ks.length c] 53)) wr) (fun _ i _=>x.ks.length - (intOf i).toNat)
   case atStart =>
    refine ⟨0,Nat.zero_le _,rfl,?_,(Below.refl _ _).alloc (by simp) _⟩
    have:=qmg (w.alloc (.cells #[.bool true,.string (bs x.b),.slice A x.ks.length c] 53)) 237 5
    simpa [writesP,Lib.byteCells] using this
   case round =>
    obtain ⟨k,hk,rfl,hB,hb⟩:=hrel
    have hbs:=hb.size
    simp at hbs
    by_cases hlt:k < x.ks.length
    ·obtain ⟨y,hy⟩:=qan hlt
     have hv':=hv.keep (qbg hb)
     obtain ⟨g,o,A',c',hA,_,hvy,c0,c1,c2⟩:=hv'.at_ hy
     subst hA
     have hwl:=qit x.ks (k+1)
     have hwt:=qgu hy
     have hwm:=qpo hy
     have Hwt:=qh hwt
     have hwl2:(writesP (x.ks.take k)).length+(writeP y).length < 16777216:=by rw [hwt,List.length_append] at hwl;omega
     clear hwt hwl
     go_wp2_with fail
     refine (ih y A' c' _ (by have:=qdf hy;omega) (by have:=qdf hy;omega) (by omega) (hvy.alloc _)).mono ?_
     rintro e w1 ⟨rfl,hb1⟩
     have hB1:=qef (qef hB ((Below.refl _ _).alloc qn _)) hb1
     have hb1s:=hb1.size
     simp at hb1s
     go_wp2_with fail
     refine (qlp (w.heap.size+1) (w.heap.size+1) _ (bs (writeP y)) _ hB1 (by simp [size_bs,Lib.byteCells];omega) (by omega)).mono ?_
     rintro e w2 ⟨rfl,hB2,hb2⟩
     go_wp2_with fail
     go_roundw
     case rel =>
      refine ⟨k+1,hlt,by go_num,?_,(qgh hb hbs hb1).trans hb2⟩
      have:=hB2
      rw [qml] at this
      refine .inr ?_
      rw [Hwt.out]
      simpa [Lib.byteCells] using this
     case measure=>simp [intOf];omega
    ·obtain rfl:k=x.ks.length:=by omega
     rw [List.take_length] at hB
     go_wp2_with fail
     refine (bLen (w.heap.size+1) (w.heap.size+1) _ _ hB).mono ?_
     rintro e w1 ⟨rfl,rfl⟩
     rw [show (Lib.byteCells (writesP x.ks)).length=(writesP x.ks).length by simp [Lib.byteCells]]
     go_wp2_with fail
     refine (qjh 192 _ (.inr rfl) (by omega) (by omega) _).mono ?_
     rintro e w1 ⟨rfl,hb1⟩
     go_wp2_with fail
     refine (bString (w.heap.size+1) (w.heap.size+1) _ _ (qef hB hb1) (by have:=hb1.size;omega)).mono ?_
     rintro e w2 ⟨rfl,hb2⟩
     have hfold:(⟨(writesP x.ks).toArray⟩:ByteArray)=bs (writesP x.ks):=rfl
     rw [hfold]
     clear hfold
     go_wp2_with fail
     go_ret
     exact ⟨qj7 (by rw [Hwx.out]),qbg ((qac hb hbs hb1).trans hb2)⟩
/-- what encoding an item answers -/
def encR (x:Item):Bytes×Nat :=
 if wellP x=false then ([],1) else if 8 < depthP x then ([],5) else if 4000 < (writeP x).length then ([],2) else (writeP x,0)
theorem qi7 (x:Item) (A:Option Addr) (c:Nat) (w:World) (hW:(writeP x).length < 16777216) (hv:ItemV Any w x A c) :
  Calls Tryz.prog 56 #[.agg #[.bool x.l,.string (bs x.b),.slice A x.ks.length c]] w fun e w'=>e=.returned (.tuple #[.string (bs (encR x).1),.int .i64 (encR x).2])∧Below w.heap.size w w':=by
 have hE:Hid (encR x=if wellP x=false then ([],1) else if 8 < depthP x then ([],5) else if 4000 < (writeP x).length then ([],2) else (writeP x,0)):=rfl
 go_enter Tryz.func56,Tryz.ntmps56
 go_wp2_with fail
 refine (well_any x A c _ (hv.alloc _)).mono ?_
 rintro e w1 ⟨rfl,hb1⟩
 obtain ⟨q1,q2⟩:=bcell hb1
 have hb:=qbg (hb1.mono (by simp))
 have hvw:=hv.keep hb
 have d0:w1.cell? ⟨w.heap.size,0,none⟩=some (.bool x.l):=by rw [q1 _ _ (by simp)];simp
 have d1:w1.cell? ⟨w.heap.size,1,none⟩=some (.string (bs x.b)):=by rw [q1 _ _ (by simp)];simp
 have d2:w1.cell? ⟨w.heap.size,2,none⟩=some (.slice A x.ks.length c):=by rw [q1 _ _ (by simp)];simp
 clear q1 q2
 cases hwe:wellP x with
 | false =>
  have Hwe:=qh hwe
  clear hwe
  go_wp2_with fail
  go_ret2
  exact ⟨by rw [hE.out,if_pos Hwe.out];rfl,hb⟩
 | true =>
  have hwp:pureP x=true∧countP x≤4000:=by unfold wellP at hwe;simpa using hwe
  obtain ⟨hp,hc⟩:=hwp
  have Hwe:=qh hwe
  clear hwe
  go_wp2_with fail
  refine (qn0 4000 x A c _ hc (by omega) hp hvw).mono ?_
  rintro e w2 ⟨rfl,hb2⟩
  have hvw2:=hvw.keep hb2
  have hlt:w.heap.size < w1.heap.size:=qaz d0
  have d0':w2.cell? ⟨w.heap.size,0,none⟩=some (.bool x.l):=by rw [(bcell hb2).1 _ _ hlt];exact d0
  have d1':w2.cell? ⟨w.heap.size,1,none⟩=some (.string (bs x.b)):=by rw [(bcell hb2).1 _ _ hlt];exact d1
  have d2':w2.cell? ⟨w.heap.size,2,none⟩=some (.slice A x.ks.length c):=by rw [(bcell hb2).1 _ _ hlt];exact d2
  by_cases hd:(8:Int) < depthP x
  ·go_wp2_with fail
   go_ret2
   exact ⟨by rw [hE.out,if_neg (by rw [Hwe.out];simp),if_pos (by omega)];rfl,hb.trans (hb2.mono hb.size)⟩
  ·go_wp2_with fail
   refine (qrd 4000 x A c _ hc (by omega) hW hvw2).mono ?_
   rintro e w3 ⟨rfl,hb3⟩
   by_cases hl:(4000:Int) < (writeP x).length
   ·go_wp2_with fail
    go_ret2
    exact ⟨by rw [hE.out,if_neg (by rw [Hwe.out];simp),if_neg (by omega),if_pos (by omega)];rfl,(hb.trans (hb2.mono hb.size)).trans (hb3.mono (by have:=hb.size;have:=hb2.size;omega))⟩
   ·go_wp2_with fail
    go_ret2
    exact ⟨by rw [hE.out,if_neg (by rw [Hwe.out];simp),if_neg (by omega),if_neg (by omega)];rfl,(hb.trans (hb2.mono hb.size)).trans (hb3.mono (by have:=hb.size;have:=hb2.size;omega))⟩
/- Reading rlp: heads, in plain Lean and as rlp.cut reads them. -/
/-- what rlp.cut reads; none: it panics -/
def cutP:Bytes→Option (Bool×Nat×Nat)
 | []=>none
 | c :: t =>
  if c.toNat < 128 then some (false,0,1) else
  let is:=decide (192≤c.toNat)
  let n:=c.toNat - (if is then 192 else 128)
  if n≤55 then some (is,1,1+n) else
  let size:=n - 55
  if 2 < size∨t.length < size∨t.headD 0=0 then none else
  if num (t.take size)≤55 then none else some (is,1+size,1+size+num (t.take size))
/-- what rlp panics with -/
def badV:Value:=.iface 173 (.agg #[])
theorem num_take {l:Bytes} {i:Nat} {d:UInt8} (h:l[i]? = some d):num (l.take (i+1))=num (l.take i) * 256+d.toNat:=by
 obtain ⟨hi,hd⟩:=List.getElem?_eq_some_iff.1 h
 rw [List.take_succ_eq_append_getElem hi,hd,qg6]
theorem ret3 {p:Bool} {a b a' b':Int} (h:a=a') (h2:b=b'):Ending.returned (.tuple #[.bool p,.int .i64 a,.int .i64 b])=.returned (.tuple #[.bool p,.int .i64 a',.int .i64 b']):=by rw [h,h2]
theorem cut_any (s:Bytes) (w:World) (hs:s.length≤1000000) :
  Calls Tryz.prog 172 #[.string (bs s)] w fun e w' =>
   (match cutP s with
    | some (is,f,t)=>e=.returned (.tuple #[.bool is,.int .i64 f,.int .i64 t])
    | none=>e=.panicked [{ v:=badV,recovered:=false }])∧Below w.heap.size w w':=by
 cases s with
 | nil =>
  simp only [cutP]
  go_enter Tryz.func172,Tryz.ntmps172
  go_wp2_with fail
  exact ⟨rfl,rfl,Below.refl _ _⟩
 | cons c t =>
  by_cases h1:(c.toNat:Int) < 128
  ·simp only [cutP]
   rw [if_pos (by omega)]
   have hg:decide (192≤(c.toNat:Int))=false:=by rw [decide_eq_false_iff_not];omega
   go_enter Tryz.func172,Tryz.ntmps172
   go_wp2_with fail
   go_ret3
   exact ⟨rfl,Below.refl _ _⟩
  ·have hlt:=c.toNat_lt
   obtain ⟨is,f,hf1,hf2,hfe,hg⟩:∃ (is:Bool) (f:Nat),((is=false∧f=128)∨(is=true∧f=192))∧c.toNat≤f+63∧Hid (cutP (c :: t) =
     if c.toNat - f≤55 then some (is,1,1+(c.toNat - f)) else if 2 < c.toNat - f - 55∨t.length < c.toNat - f - 55∨t.headD 0=0 then none else
     if num (t.take (c.toNat - f - 55))≤55 then none else some (is,1+(c.toNat - f - 55),1+(c.toNat - f - 55)+num (t.take (c.toNat - f - 55))))∧(f≤c.toNat∧decide (192≤(c.toNat:Int))=is):=by
    by_cases h2:192≤c.toNat
    ·refine ⟨true,192,.inr ⟨rfl,rfl⟩,by omega,?_,h2,by rw [decide_eq_true_iff];omega⟩
     show _=_
     simp only [cutP]
     rw [if_neg (by omega),decide_eq_true h2]
     rfl
    ·refine ⟨false,128,.inl ⟨rfl,rfl⟩,by omega,?_,by omega,by rw [decide_eq_false_iff_not];omega⟩
     show _=_
     simp only [cutP]
     rw [if_neg (by omega),decide_eq_false h2]
     rfl
   obtain ⟨hg1,hg2⟩:=hg
   have i1:(128:Int)≤c.toNat:=by omega
   have i2:(c.toNat:Int)≤255:=by omega
   have i3:(c.toNat:Int)≤(f:Int)+63:=by omega
   have i4:(f:Int)≤c.toNat:=by omega
   have HH:=qh (And.intro hf2 (And.intro hg1 hlt))
   clear hlt hf2 hg1
   rcases hf1 with ⟨rfl,rfl⟩ | ⟨rfl,rfl⟩
   ·have j1:(c.toNat:Int)≤128+63:=i3
    have j2:(128:Int)≤c.toNat:=i4
    have hh:=qh HH.out
    clear i3 i4 HH
    by_cases hn:(c.toNat:Int) - 128≤55
    ·have hv:cutP (c :: t)=some (false,1,1+(c.toNat - 128)):=by have:=hh.out;rw [hfe.out,if_pos (by omega)]
     rw [hv]
     clear hv hfe
     go_enter Tryz.func172,Tryz.ntmps172
     go_wp2_with fail
     go_ret3
     exact ⟨ret3 rfl (by have:=hh.out;omega),Below.refl _ _⟩
    ·by_cases hb1:(2:Int) < (c.toNat:Int) - 128 - 55
     ·have hv:cutP (c :: t)=none:=by have:=hh.out;rw [hfe.out,if_neg (by omega),if_pos (.inl (by omega))]
      rw [hv]
      clear hv hfe
      go_enter Tryz.func172,Tryz.ntmps172
      go_wp2_with fail
      exact ⟨rfl,rfl,Below.refl _ _⟩
     ·by_cases hb2:(t.length:Int)+1 < 1+((c.toNat:Int) - 128 - 55)
      ·have hv:cutP (c :: t)=none:=by have:=hh.out;rw [hfe.out,if_neg (by omega),if_pos (.inr (.inl (by omega)))]
       rw [hv]
       clear hv hfe
       go_enter Tryz.func172,Tryz.ntmps172
       go_wp2_with fail
       exact ⟨rfl,rfl,Below.refl _ _⟩
      ·obtain ⟨d,t,rfl⟩:∃ d t',t=d :: t':=by
        cases t with
        | nil=>simp at hb2;omega
        | cons d t=>exact ⟨d,t,rfl⟩
       replace hb2:1+((c.toNat:Int) - 128 - 55)≤(t.length:Int)+1+1:=by simp only [List.length_cons] at hb2;omega
       cases hd:((d.toNat:Int) == 0) with
       | true =>
        obtain rfl:d=0:=UInt8.toNat_inj.1 (by rw [beq_iff_eq] at hd;simp only [UInt8.toNat_zero];omega)
        have hv:cutP (c :: 0 :: t)=none:=by
         have:=hh.out
         rw [hfe.out,if_neg (by omega),if_pos (.inr (.inr rfl))]
        clear hd
        rw [hv]
        have hs2:(t.length:Int)≤1000000:=by simp at hs;omega
        rcases (by omega:(c.toNat:Int)=184∨(c.toNat:Int)=185) with hN | hN
        ·obtain rfl:c=184:=UInt8.toNat_inj.1 (by simp;omega)
         clear hv hfe hs i1 i2 hg2 j1 j2 hh h1 hn hb1 hN hb2
         go_enter Tryz.func172,Tryz.ntmps172
         go_wp2_with fail
         exact ⟨rfl,rfl,Below.refl _ _⟩
        ·obtain rfl:c=185:=UInt8.toNat_inj.1 (by simp;omega)
         have hl1:(1:Int)≤t.length:=by simp at hb2;omega
         clear hv hfe hs i1 i2 hg2 j1 j2 hh h1 hn hb1 hN hb2
         go_enter Tryz.func172,Tryz.ntmps172
         go_wp2_with fail
         exact ⟨rfl,rfl,Below.refl _ _⟩
       | false =>
        have hd0:¬ d=0:=by intro h;subst h;simp at hd
        rcases (by omega:(c.toNat:Int)=184∨(c.toNat:Int)=185) with hN | hN
        ·obtain rfl:c=184:=UInt8.toNat_inj.1 (by simp;omega)
         have hfe2:=hfe.out
         rw [show (184:UInt8).toNat - 128 - 55=1 from rfl,if_neg (by decide),if_neg (by simp;exact hd0)] at hfe2
         have hnum:num ((d :: t).take 1)=d.toNat:=by simp [num]
         rw [hnum] at hfe2
         clear hnum
         have hor:=qci 0 d.toNat (by omega) d.toNat_lt
         rw [show ((0:Nat):Int) * 256=0 by omega,Int.zero_add] at hor
         have hs2:(t.length:Int)≤1000000:=by simp at hs;omega
         have hdi:(d.toNat:Int)≤255:=by have:=d.toNat_lt;omega
         clear hfe hd0 i1 i2 hg2 j1 j2 hh h1 hn hb1 hN hb2 hs
         by_cases h55:(d.toNat:Int)≤55
         ·rw [if_pos (by omega)] at hfe2
          rw [hfe2]
          clear hfe2
          go_enter Tryz.func172,Tryz.ntmps172
          go_wp2_with fail
          refine wp_loop_rounds 2 ?_
          rw [rounds_succ]
          go_wp2_with fail
          rw [rounds_succ]
          go_wp2_with fail
          exact ⟨rfl,rfl,Below.refl _ _⟩
         ·rw [if_neg (by omega)] at hfe2
          rw [hfe2]
          clear hfe2
          go_enter Tryz.func172,Tryz.ntmps172
          go_wp2_with fail
          refine wp_loop_rounds 2 ?_
          rw [rounds_succ]
          go_wp2_with fail
          rw [rounds_succ]
          go_wp2_with fail
          go_ret3
          exact ⟨ret3 (by omega) (by omega),Below.refl _ _⟩
        ·obtain rfl:c=185:=UInt8.toNat_inj.1 (by simp;omega)
         obtain ⟨d2,t,rfl⟩:∃ d2 t',t=d2 :: t':=by
          cases t with
          | nil=>simp at hb2
          | cons d2 t=>exact ⟨d2,t,rfl⟩
         have hfe2:=hfe.out
         rw [show (185:UInt8).toNat - 128 - 55=2 from rfl,if_neg (by decide),if_neg (by simp;exact hd0)] at hfe2
         have hnum:num ((d :: d2 :: t).take 2)=d.toNat * 256+d2.toNat:=by simp [num]
         rw [hnum] at hfe2
         clear hnum
         have hor:=qci 0 d.toNat (by omega) d.toNat_lt
         rw [show ((0:Nat):Int) * 256=0 by omega,Int.zero_add] at hor
         have hor2:=qci d.toNat d2.toNat (by have:=d.toNat_lt;omega) d2.toNat_lt
         have hd2i:(d2.toNat:Int)≤255:=by have:=d2.toNat_lt;omega
         have hs2:(t.length:Int)≤1000000:=by simp at hs;omega
         have hdi:(d.toNat:Int)≤255:=by have:=d.toNat_lt;omega
         clear hfe hd0 i1 i2 hg2 j1 j2 hh h1 hn hb1 hN hb2 hs
         by_cases h55:(d.toNat:Int) * 256+d2.toNat≤55
         ·rw [if_pos (by omega)] at hfe2
          rw [hfe2]
          clear hfe2
          go_enter Tryz.func172,Tryz.ntmps172
          go_wp2_with fail
          refine wp_loop_rounds 3 ?_
          rw [rounds_succ]
          go_wp2_with fail
          rw [rounds_succ]
          go_wp2_with fail
          rw [rounds_succ]
          go_wp2_with fail
          exact ⟨rfl,rfl,Below.refl _ _⟩
         ·rw [if_neg (by omega)] at hfe2
          rw [hfe2]
          clear hfe2
          go_enter Tryz.func172,Tryz.ntmps172
          go_wp2_with fail
          refine wp_loop_rounds 3 ?_
          rw [rounds_succ]
          go_wp2_with fail
          rw [rounds_succ]
          go_wp2_with fail
          rw [rounds_succ]
          go_wp2_with fail
          go_ret3
          exact ⟨ret3 (by omega) (by omega),Below.refl _ _⟩
   ·have j1:(c.toNat:Int)≤192+63:=i3
    have j2:(192:Int)≤c.toNat:=i4
    have hh:=qh HH.out
    clear i3 i4 HH
    by_cases hn:(c.toNat:Int) - 192≤55
    ·have hv:cutP (c :: t)=some (true,1,1+(c.toNat - 192)):=by have:=hh.out;rw [hfe.out,if_pos (by omega)]
     rw [hv]
     clear hv hfe
     go_enter Tryz.func172,Tryz.ntmps172
     go_wp2_with fail
     go_ret3
     exact ⟨ret3 rfl (by have:=hh.out;omega),Below.refl _ _⟩
    ·by_cases hb1:(2:Int) < (c.toNat:Int) - 192 - 55
     ·have hv:cutP (c :: t)=none:=by have:=hh.out;rw [hfe.out,if_neg (by omega),if_pos (.inl (by omega))]
      rw [hv]
      clear hv hfe
      go_enter Tryz.func172,Tryz.ntmps172
      go_wp2_with fail
      exact ⟨rfl,rfl,Below.refl _ _⟩
     ·by_cases hb2:(t.length:Int)+1 < 1+((c.toNat:Int) - 192 - 55)
      ·have hv:cutP (c :: t)=none:=by have:=hh.out;rw [hfe.out,if_neg (by omega),if_pos (.inr (.inl (by omega)))]
       rw [hv]
       clear hv hfe
       go_enter Tryz.func172,Tryz.ntmps172
       go_wp2_with fail
       exact ⟨rfl,rfl,Below.refl _ _⟩
      ·obtain ⟨d,t,rfl⟩:∃ d t',t=d :: t':=by
        cases t with
        | nil=>simp at hb2;omega
        | cons d t=>exact ⟨d,t,rfl⟩
       replace hb2:1+((c.toNat:Int) - 192 - 55)≤(t.length:Int)+1+1:=by simp only [List.length_cons] at hb2;omega
       cases hd:((d.toNat:Int) == 0) with
       | true =>
        obtain rfl:d=0:=UInt8.toNat_inj.1 (by rw [beq_iff_eq] at hd;simp only [UInt8.toNat_zero];omega)
        have hv:cutP (c :: 0 :: t)=none:=by
         have:=hh.out
         rw [hfe.out,if_neg (by omega),if_pos (.inr (.inr rfl))]
        clear hd
        rw [hv]
        have hs2:(t.length:Int)≤1000000:=by simp at hs;omega
        rcases (by omega:(c.toNat:Int)=248∨(c.toNat:Int)=249) with hN | hN
        ·obtain rfl:c=248:=UInt8.toNat_inj.1 (by simp;omega)
         clear hv hfe hs i1 i2 hg2 j1 j2 hh h1 hn hb1 hN hb2
         go_enter Tryz.func172,Tryz.ntmps172
         go_wp2_with fail
         exact ⟨rfl,rfl,Below.refl _ _⟩
        ·obtain rfl:c=249:=UInt8.toNat_inj.1 (by simp;omega)
         have hl1:(1:Int)≤t.length:=by simp at hb2;omega
         clear hv hfe hs i1 i2 hg2 j1 j2 hh h1 hn hb1 hN hb2
         go_enter Tryz.func172,Tryz.ntmps172
         go_wp2_with fail
         exact ⟨rfl,rfl,Below.refl _ _⟩
       | false =>
        have hd0:¬ d=0:=by intro h;subst h;simp at hd
        rcases (by omega:(c.toNat:Int)=248∨(c.toNat:Int)=249) with hN | hN
        ·obtain rfl:c=248:=UInt8.toNat_inj.1 (by simp;omega)
         have hfe2:=hfe.out
         rw [show (248:UInt8).toNat - 192 - 55=1 from rfl,if_neg (by decide),if_neg (by simp;exact hd0)] at hfe2
         have hnum:num ((d :: t).take 1)=d.toNat:=by simp [num]
         rw [hnum] at hfe2
         clear hnum
         have hor:=qci 0 d.toNat (by omega) d.toNat_lt
         rw [show ((0:Nat):Int) * 256=0 by omega,Int.zero_add] at hor
         have hs2:(t.length:Int)≤1000000:=by simp at hs;omega
         have hdi:(d.toNat:Int)≤255:=by have:=d.toNat_lt;omega
         clear hfe hd0 i1 i2 hg2 j1 j2 hh h1 hn hb1 hN hb2 hs
         by_cases h55:(d.toNat:Int)≤55
         ·rw [if_pos (by omega)] at hfe2
          rw [hfe2]
          clear hfe2
          go_enter Tryz.func172,Tryz.ntmps172
          go_wp2_with fail
          refine wp_loop_rounds 2 ?_
          rw [rounds_succ]
          go_wp2_with fail
          rw [rounds_succ]
          go_wp2_with fail
          exact ⟨rfl,rfl,Below.refl _ _⟩
         ·rw [if_neg (by omega)] at hfe2
          rw [hfe2]
          clear hfe2
          go_enter Tryz.func172,Tryz.ntmps172
          go_wp2_with fail
          refine wp_loop_rounds 2 ?_
          rw [rounds_succ]
          go_wp2_with fail
          rw [rounds_succ]
          go_wp2_with fail
          go_ret3
          exact ⟨ret3 (by omega) (by omega),Below.refl _ _⟩
        ·obtain rfl:c=249:=UInt8.toNat_inj.1 (by simp;omega)
         obtain ⟨d2,t,rfl⟩:∃ d2 t',t=d2 :: t':=by
          cases t with
          | nil=>simp at hb2
          | cons d2 t=>exact ⟨d2,t,rfl⟩
         have hfe2:=hfe.out
         rw [show (249:UInt8).toNat - 192 - 55=2 from rfl,if_neg (by decide),if_neg (by simp;exact hd0)] at hfe2
         have hnum:num ((d :: d2 :: t).take 2)=d.toNat * 256+d2.toNat:=by simp [num]
         rw [hnum] at hfe2
         clear hnum
         have hor:=qci 0 d.toNat (by omega) d.toNat_lt
         rw [show ((0:Nat):Int) * 256=0 by omega,Int.zero_add] at hor
         have hor2:=qci d.toNat d2.toNat (by have:=d.toNat_lt;omega) d2.toNat_lt
         have hd2i:(d2.toNat:Int)≤255:=by have:=d2.toNat_lt;omega
         have hs2:(t.length:Int)≤1000000:=by simp at hs;omega
         have hdi:(d.toNat:Int)≤255:=by have:=d.toNat_lt;omega
         clear hfe hd0 i1 i2 hg2 j1 j2 hh h1 hn hb1 hN hb2 hs
         by_cases h55:(d.toNat:Int) * 256+d2.toNat≤55
         ·rw [if_pos (by omega)] at hfe2
          rw [hfe2]
          clear hfe2
          go_enter Tryz.func172,Tryz.ntmps172
          go_wp2_with fail
          refine wp_loop_rounds 3 ?_
          rw [rounds_succ]
          go_wp2_with fail
          rw [rounds_succ]
          go_wp2_with fail
          rw [rounds_succ]
          go_wp2_with fail
          exact ⟨rfl,rfl,Below.refl _ _⟩
         ·rw [if_neg (by omega)] at hfe2
          rw [hfe2]
          clear hfe2
          go_enter Tryz.func172,Tryz.ntmps172
          go_wp2_with fail
          refine wp_loop_rounds 3 ?_
          rw [rounds_succ]
          go_wp2_with fail
          rw [rounds_succ]
          go_wp2_with fail
          rw [rounds_succ]
          go_wp2_with fail
          go_ret3
          exact ⟨ret3 (by omega) (by omega),Below.refl _ _⟩
/- Heads that are written are read; items that stand first: plain Lean. -/
theorem cutP_low {c:UInt8} (r:Bytes) (h:c.toNat < 128):cutP (c :: r)=some (false,0,1):=by simp only [cutP];rw [if_pos h]
theorem ql8 {F n:Nat} (hF:F=128∨F=192) (hn:n < 65536) (r:Bytes) :
  cutP (headP F n ++ r)=some (decide (F=192),(headP F n).length,(headP F n).length+n):=by
 obtain ⟨c,t,e,g1,g2,g3,g4⟩:=qch F n hF hn
 have hl:=qbl 2 n (by omega)
 rw [e]
 have hc:¬ c.toNat < 128:=by omega
 have hlt:=c.toNat_lt
 have his:decide (192≤c.toNat)=decide (F=192):=by
  rcases hF with rfl | rfl
  ·have:=g2 rfl;rw [decide_eq_false (by omega)];rfl
  ·rw [decide_eq_true (by omega)];rfl
 have hfr:(if decide (F=192)=true then 192 else 128)=F:=by rcases hF with rfl | rfl <;> rfl
 simp only [List.cons_append,cutP]
 rw [if_neg hc,his,hfr]
 by_cases h55:n≤55
 ·obtain ⟨rfl,hcn⟩:=g3 h55
  rw [if_pos (by omega),show c.toNat - F=n by omega];rfl
 ·obtain ⟨rfl,hcn⟩:=g4 (by omega)
  have hp:=qc4 (n:=n) (by omega)
  rw [if_neg (by omega),show c.toNat - F - 55=(digs n).length by omega,List.take_left' rfl,qfz,if_neg ?_,if_neg (by omega)]
  ·simp;omega
  ·rintro (h | h | h)
   ·omega
   ·simp at h;omega
   ·cases hd:digs n with
    | nil=>rw [hd] at hp;simp at hp
    | cons a l=>rw [hd] at h;simp at h;exact qlh n a l hd h
theorem qfq {s:Bytes} {is:Bool} {f t:Nat} (h:cutP s=some (is,f,t)) :
  (is=false∧f=0∧t=1∧∃ c r,s=c :: r∧c.toNat < 128) ∨
  (1≤f∧f≤t∧t - f < 65536∧s=headP (if is then 192 else 128) (t - f) ++ s.drop f∧(headP (if is then 192 else 128) (t - f)).length=f):=by
 cases s with
 | nil=>cases h
 | cons c r =>
  simp only [cutP] at h
  by_cases h1:c.toNat < 128
  ·rw [if_pos h1] at h
   simp at h
   obtain ⟨rfl,rfl,rfl⟩:=h
   exact .inl ⟨rfl,rfl,rfl,c,r,rfl,h1⟩
  ·rw [if_neg h1] at h
   have hlt:=c.toNat_lt
   obtain ⟨F,hFe,hFc,hF2⟩:∃ F,(if decide (192≤c.toNat)=true then 192 else 128)=F∧F≤c.toNat∧(F=128∨F=192):=by
    by_cases h2:192≤c.toNat
    ·exact ⟨192,by rw [decide_eq_true h2];rfl,h2,.inr rfl⟩
    ·exact ⟨128,by rw [decide_eq_false h2];rfl,by omega,.inl rfl⟩
   have hF63:c.toNat≤F+63:=by
    by_cases h2:192≤c.toNat
    ·rw [decide_eq_true h2] at hFe;simp at hFe;omega
    ·rcases hF2 with rfl | rfl <;> omega
   rw [hFe] at h
   by_cases h55:c.toNat - F≤55
   ·rw [if_pos h55] at h
    simp at h
    obtain ⟨rfl,rfl,rfl⟩:=h
    rw [hFe,Nat.add_sub_cancel_left]
    have hh:headP F (c.toNat - F) = [c]:=by
     unfold headP;rw [if_pos h55,show F+(c.toNat - F)=c.toNat by omega];simp
    exact .inr ⟨by omega,by omega,by omega,by rw [hh];rfl,by rw [hh];rfl⟩
   ·rw [if_neg h55] at h
    by_cases hbad:2 < c.toNat - F - 55∨r.length < c.toNat - F - 55∨r.headD 0=0
    ·rw [if_pos hbad] at h;cases h
    ·rw [if_neg hbad] at h
     have hb1:c.toNat - F - 55≤2:=by omega
     have hb2:c.toNat - F - 55≤r.length:=by omega
     have hb3:r.headD 0≠0:=fun e=>hbad (.inr (.inr e))
     generalize hz:c.toNat - F - 55=z at *
     by_cases hm:num (r.take z)≤55
     ·rw [if_pos hm] at h;cases h
     ·rw [if_neg hm] at h
      simp at h
      obtain ⟨rfl,rfl,rfl⟩:=h
      have hnl:=qps (r.take z)
      rw [List.length_take,Nat.min_eq_left hb2] at hnl
      have hz2:(256:Nat) ^ z≤256 ^ 2:=Nat.pow_le_pow_right (by omega) hb1
      have hdg:digs (num (r.take z))=r.take z:=qm7 _ (by
       intro a l e
       cases r with
       | nil=>simp at e
       | cons b r =>
        cases z with
        | zero=>simp at e
        | succ z=>simp at e;simp at hb3;rw [← e.1];exact hb3)
      have hdl:(digs (num (r.take z))).length=z:=by rw [hdg,List.length_take,Nat.min_eq_left hb2]
      rw [hFe,Nat.add_sub_cancel_left]
      have hh:headP F (num (r.take z))=c :: r.take z:=by
       unfold headP;rw [if_neg hm,hdg,List.length_take,Nat.min_eq_left hb2,show F+55+z=c.toNat by omega];simp
      refine .inr ⟨by omega,by omega,by omega,?_,?_⟩
      ·rw [hh,Nat.add_comm 1 z];simp
      ·rw [hh];simp;omega
/-- the head of an item that is written -/
theorem qew {x:Item} (hx:pureP x=true) (hl:(writeP x).length < 65536) (r:Bytes) :
  (x.l=true∧∃ H,cutP (writeP x ++ r)=some (true,H,H+(writesP x.ks).length)∧H+(writesP x.ks).length=(writeP x).length∧(writeP x ++ r).drop H=writesP x.ks ++ r) ∨
  (x.l=false∧∃ c,x.b = [c]∧c.toNat < 128∧cutP (writeP x ++ r)=some (false,0,1)∧writeP x = [c]) ∨
  (x.l=false∧¬ (x.b.length=1∧(x.b.headD 0).toNat < 128)∧∃ H,1≤H∧cutP (writeP x ++ r)=some (false,H,H+x.b.length)∧H+x.b.length=(writeP x).length∧(writeP x ++ r).drop H=x.b ++ r):=by
 obtain ⟨l,b,ks⟩:=x
 cases l with
 | true =>
  simp only [writeP,Item.l,Item.ks] at hl ⊢
  rw [List.length_append] at hl
  refine .inl ⟨trivial,(headP 192 (writesP ks).length).length,?_,by rw [List.length_append],?_⟩
  ·rw [List.append_assoc,ql8 (.inr rfl) (by omega)];rfl
  ·rw [List.append_assoc,List.drop_left' rfl]
 | false =>
  simp only [Item.l,Item.b]
  by_cases h1:b.length=1∧(b.headD 0).toNat < 128
  ·obtain ⟨c,rfl⟩:∃ c,b = [c]:=by
    match b,h1.1 with
    | [c],_=>exact ⟨c,rfl⟩
   have h2:=h1.2
   simp at h2
   refine .inr (.inl ⟨trivial,c,rfl,h2,?_,?_⟩)
   ·simp only [writeP];rw [if_pos h1];exact cutP_low _ h2
   ·simp only [writeP];rw [if_pos h1]
  ·have hw:writeP (.mk false b ks)=headP 128 b.length ++ b:=by simp only [writeP];rw [if_neg h1]
   rw [hw] at hl ⊢
   rw [List.length_append] at hl
   refine .inr (.inr ⟨trivial,h1,(headP 128 b.length).length,qfx _ _,?_,by rw [List.length_append],?_⟩)
   ·rw [List.append_assoc,ql8 (.inl rfl) (by omega)];rfl
   ·rw [List.append_assoc,List.drop_left' rfl]
/-- some items, written, that others begin with -/
theorem qft:∀ (a c:List Item) (b:Bytes),puresP a=true→puresP c=true→(writesP c).length < 65536→writesP a ++ b=writesP c→∃ d,c=a ++ d∧b=writesP d∧puresP d=true
 | [],c,b,_,hc,_,h=>⟨c,rfl,by simpa [writesP] using h,hc⟩
 | k :: a,[],b,_,_,_,h=>by
  exfalso
  have h1:=qcy k
  have h2:=congrArg List.length h
  simp only [writesP,List.length_append,List.length_nil] at h2;omega
 | k :: a,k' :: c,b,ha,hc,hl,h=>by
  simp only [puresP,Bool.and_eq_true] at ha hc
  simp only [writesP,List.length_append] at hl
  have hk:(writeP k).length < 65536:=by
   have h2:=congrArg List.length h
   simp only [writesP,List.length_append] at h2;omega
  simp only [writesP,List.append_assoc] at h
  obtain ⟨rfl,h3⟩:=qbx k k' _ _ ha.1 hc.1 hk (by omega) h
  obtain ⟨d,rfl,hb,hd⟩:=qft a c b ha.2 hc.2 (by omega) h3
  exact ⟨d,rfl,hb,hd⟩
/-- no item stands first -/
def NoItem (s:Bytes):Prop:=∀ x r,pureP x=true→s≠writeP x ++ r
theorem qo3 {s:Bytes} (hs:s.length < 65536) (h:cutP s=none):NoItem s:=by
 rintro x r hx rfl
 have hl:(writeP x).length < 65536:=by rw [List.length_append] at hs;omega
 rcases qew hx hl r with ⟨_,H,e,_⟩ | ⟨_,c,_,_,e,_⟩ | ⟨_,_,H,_,e,_⟩ <;> rw [h] at e <;> cases e
theorem qmi {s:Bytes} {is:Bool} {f t:Nat} (hs:s.length < 65536) (h:cutP s=some (is,f,t)) (ht:s.length < t):NoItem s:=by
 rintro x r hx rfl
 have hl:(writeP x).length < 65536:=by rw [List.length_append] at hs;omega
 rw [List.length_append] at ht
 rcases qew hx hl r with ⟨_,H,e,e2,_⟩ | ⟨_,c,_,_,e,e2⟩ | ⟨_,_,H,_,e,e2,_⟩
 ·rw [h] at e;simp at e;omega
 ·rw [h] at e;simp at e;rw [e2] at ht;simp at ht;omega
 ·rw [h] at e;simp at e;omega
/-- bytes that could stand for themselves -/
theorem qmf {s:Bytes} {t:Nat} (hs:s.length < 65536) (h:cutP s=some (false,1,t)) (ht:t≤s.length) (h1:((s.take t).drop 1).length=1) (h2:(((s.take t).drop 1).headD 0).toNat < 128):NoItem s:=by
 rintro x r hx rfl
 have hl:(writeP x).length < 65536:=by rw [List.length_append] at hs;omega
 rcases qew hx hl r with ⟨_,H,e,e2,_⟩ | ⟨_,c,_,_,e,e2⟩ | ⟨_,hn,H,_,e,e2,e3⟩
 ·rw [h] at e;simp at e
 ·rw [h] at e;simp at e
 ·rw [h] at e;simp at e
  obtain ⟨rfl,rfl⟩:=e
  have hb:((writeP x ++ r).take (1+x.b.length)).drop 1=x.b:=by
   rw [List.drop_take,e3,Nat.add_sub_cancel_left,List.take_left' rfl]
  rw [hb] at h1 h2
  exact hn ⟨h1,h2⟩
/-- bytes that stand first -/
theorem qpz {s:Bytes} {f t:Nat} (h:cutP s=some (false,f,t)) (ht:t≤s.length) (hn:¬ (f=1∧((s.take t).drop f).length=1∧(((s.take t).drop f).headD 0).toNat < 128)) :
  s=writeP (.mk false ((s.take t).drop f) []) ++ s.drop t:=by
 rcases qfq h with ⟨_,rfl,rfl,c,r,rfl,hc⟩ | ⟨h1,h2,h3,h4,h5⟩
 ·simp [writeP,hc]
 ·simp only [Bool.false_eq_true,if_false] at h4 h5
  have hlen:((s.take t).drop f).length=t - f:=by rw [List.length_drop,List.length_take];omega
  have hw:writeP (.mk false ((s.take t).drop f) [])=headP 128 (t - f) ++ (s.take t).drop f:=by
   simp only [writeP]
   rw [if_neg,hlen]
   rintro ⟨g1,g2⟩
   refine hn ⟨?_,g1,g2⟩
   rw [hlen] at g1
   rw [← h5,g1];rfl
  rw [hw,List.append_assoc]
  conv=>lhs;rw [h4]
  congr 1
  rw [List.drop_take]
  conv=>lhs;rw [← List.take_append_drop (t - f) (s.drop f)]
  congr 1
  rw [List.drop_drop];congr 1;omega
/-- a list that stands first -/
theorem qtm {s:Bytes} {f t:Nat} {ks:List Item} (h:cutP s=some (true,f,t)) (ht:t≤s.length) (hk:(s.take t).drop f=writesP ks):s=writeP (.mk true [] ks) ++ s.drop t:=by
 rcases qfq h with ⟨h0,_⟩ | ⟨h1,h2,h3,h4,h5⟩
 ·cases h0
 ·simp only [if_true] at h4 h5
  have hlen:(writesP ks).length=t - f:=by rw [← hk,List.length_drop,List.length_take];omega
  simp only [writeP]
  rw [hlen,List.append_assoc]
  conv=>lhs;rw [h4]
  congr 1
  rw [← hk,List.drop_take]
  conv=>lhs;rw [← List.take_append_drop (t - f) (s.drop f)]
  congr 1
  rw [List.drop_drop];congr 1;omega
/-- where an item in a list is none, the list is none -/
theorem qo0 {s body:Bytes} {f t:Nat} {ks:List Item} (hs:s.length < 65536) (h:cutP s=some (true,f,t)) (ht:t≤s.length) (hp:puresP ks=true) (hk:(s.take t).drop f=writesP ks ++ body) (hb:body ≠ []) (hn:NoItem body):NoItem s:=by
 rintro x r hx rfl
 have hl:(writeP x).length < 65536:=by rw [List.length_append] at hs;omega
 rcases qew hx hl r with ⟨hxl,H,e,e2,e3⟩ | ⟨_,c,_,_,e,e2⟩ | ⟨_,_,H,_,e,e2,e3⟩
 ·rw [h] at e;simp at e
  obtain ⟨rfl,rfl⟩:=e
  have hbb:((writeP x ++ r).take (f+(writesP x.ks).length)).drop f=writesP x.ks:=by
   rw [List.drop_take,e3,Nat.add_sub_cancel_left,List.take_left' rfl]
  rw [hbb] at hk
  have hpx:puresP x.ks=true:=by rw [qoa] at hx;simp at hx;exact hx.2
  obtain ⟨d,hd,hbd,hpd⟩:=qft ks x.ks body hp hpx (by omega) hk.symm
  cases d with
  | nil=>exact hb (by rw [hbd];rfl)
  | cons k d =>
   simp only [puresP,Bool.and_eq_true] at hpd
   exact hn k (writesP d) hpd.1 (by rw [hbd];rfl)
 ·rw [h] at e;simp at e
 ·rw [h] at e;simp at e
/- The walk of rlp.read. -/
/-- blocks from B on -/
def Fresh (B:Nat):Nat→Prop:=fun b=>B≤b
def ReadPost (s:Bytes) (w:World) (e:Ending) (w':World):Prop :=
 Below w.heap.size w w' ∧
 ((∃ x rest A c,pureP x=true∧s=writeP x ++ rest∧e=.returned (.tuple #[.agg #[.bool x.l,.string (bs x.b),.slice A x.ks.length c],.string (bs rest)])∧ItemV (Fresh w.heap.size) w' x A c) ∨
  (e=.panicked [{ v:=badV,recovered:=false }]∧NoItem s))
theorem qij {s body rest:Bytes} {w W:World} (h:s=writeP (.mk false body []) ++ rest) (hb:Below w.heap.size w W) :
  ReadPost s w (.returned (.tuple #[.agg #[.bool false,.string (bs body),.slice none 0 0],.string (bs rest)])) W :=
 ⟨hb,.inl ⟨.mk false body [],rest,none,0,by simp [pureP,puresP],h,rfl,ItemV.leaf _ _⟩⟩
theorem qs1 {s rest:Bytes} {w wr:World} {ks:List Item} {xs:List Value} {A:Option Addr} {c B:Nat} {u0 u1 u2:Value} (h:s=writeP (.mk true [] ks) ++ rest) (hp:puresP ks=true) (hb:Below w.heap.size w wr) (hB:w.heap.size < B)
  (hown:wr.ownsRow B 53 3 (.slice A ks.length c) ks.length xs) (hr:RepN (Fresh B) wr 3 (itemsD ks) xs) :
  ReadPost s w (.returned (.tuple #[.agg #[.bool true,.string (bs []),.slice A ks.length c],.string (bs rest)])) (((wr.setCell ⟨w.heap.size,0,none⟩ u0).setCell ⟨w.heap.size,1,none⟩ u1).setCell ⟨w.heap.size,2,none⟩ u2):=by
 refine ⟨((hb.setCell (p:=⟨w.heap.size,0,none⟩) qn _).setCell (p:=⟨w.heap.size,1,none⟩) qn _).setCell (p:=⟨w.heap.size,2,none⟩) qn _,.inl ⟨.mk true [] ks,rest,A,c,?_,h,rfl,?_⟩⟩
 ·simp [pureP,hp]
 ·have h1:Rep (Fresh B) wr (.sl 3 (itemsD ks)) [.slice A ks.length c]:=qck hown hr (qdj ks) (fun g hg _=>hg)
  refine qel (h1.mono fun b hlt hs=>⟨?_,?_⟩)
  ·have:B≤b:=hs
   show w.heap.size≤b
   omega
  ·have:B≤b:=hs
   rw [Below.heap_setCell _ _ _ _ (by show b≠w.heap.size;omega),Below.heap_setCell _ _ _ _ (by show b≠w.heap.size;omega),Below.heap_setCell _ _ _ _ (by show b≠w.heap.size;omega)]
theorem read_any (N:Nat):∀ (s:Bytes) (w:World),s.length < N→s.length≤4100 →
  Calls Tryz.prog 117 #[.string (bs s)] w (ReadPost s w):=by
 induction N with
 | zero=>intro s w hN;omega
 | succ N ih =>
  intro s w hN hM
  go_enter Tryz.func117,Tryz.ntmps117
  go_wp2_with fail
  refine (cut_any s _ (by omega)).mono ?_
  rintro e w1 ⟨hc,hb1⟩
  cases hcut:cutP s with
  | none =>
   rw [hcut] at hc
   obtain rfl:=hc
   have Hc:=qh hcut
   clear hcut
   go_wp2_with fail
   exact ⟨rfl,qbg (hb1.mono (by simp)),.inr ⟨rfl,qo3 (by omega) Hc.out⟩⟩
  | some p =>
   obtain ⟨is,f,t⟩:=p
   rw [hcut] at hc
   simp only at hc
   obtain rfl:=hc
   have Hc:=qh hcut
   clear hcut
   by_cases ht:(s.length:Int) < t
   ·go_wp2_with fail
    exact ⟨rfl,qbg (hb1.mono (by simp)),.inr ⟨rfl,qmi (by omega) Hc.out (by omega)⟩⟩
   ·have hft:(f:Int)≤t:=by
     rcases qfq Hc.out with ⟨_,rfl,rfl,_⟩ | ⟨_,h2,_⟩ <;> omega
    have hf0:(0:Int)≤f:=by omega
    have hd1:decide (s.length < t)=false:=by rw [decide_eq_false_iff_not];omega
    go_wp2_with fail
    go_quiet (fail)
    have hb2:=qb1 hb1 nq
    generalize w1.drewN nq=w2 at *
    rw [show (s.drop t).take (s.length - t)=s.drop t from List.take_of_length_le (by simp)]
    have hbd:(s.drop f).take (t - f)=(s.take t).drop f:=by rw [List.drop_take]
    rw [hbd]
    have hbl:((s.take t).drop f).length=t - f:=by rw [List.length_drop,List.length_take];omega
    generalize hbody:(s.take t).drop f=body at *
    generalize hrest:s.drop t=rest at *
    have Hbody:=qh hbody
    have Hrest:=qh hrest
    have Hbl:=qh hbl
    clear hbody hrest hbl hbd hd1 hb1
    obtain ⟨q1,q2⟩:=bcell hb2
    have r0:w2.cell? ⟨w.heap.size,0,none⟩=some (.bool false):=by rw [q1 _ _ (by simp)];simp
    have r1:w2.cell? ⟨w.heap.size,1,none⟩=some (.string ⟨#[]⟩):=by rw [q1 _ _ (by simp)];simp
    have r2:w2.cell? ⟨w.heap.size,2,none⟩=some (.slice none 0 0):=by rw [q1 _ _ (by simp)];simp
    have rf:∀ o,w2.frozen? ⟨w.heap.size,o,none⟩=false:=fun o=>by rw [q2 _ _ (by simp)];simp
    clear q1 q2
    cases is with
    | false =>
     obtain ⟨fi,hfi⟩:∃ fi:Int,fi=f:=⟨_,rfl⟩
     rw [← hfi] at hft hf0 ⊢
     by_cases hsin:f=1∧body.length=1∧(body.headD 0).toNat < 128
     ·have hno:NoItem s:=by
       obtain ⟨rfl,h1,h2⟩:=hsin
       have hbb:=Hbody.out
       exact qmf (by omega) Hc.out (by omega) (by rw [hbb];exact h1) (by rw [hbb];exact h2)
      obtain ⟨hf1,h1,h2⟩:=hsin
      obtain ⟨d,rfl⟩:∃ d,body = [d]:=by
       match body,h1 with
       | [d],_=>exact ⟨d,rfl⟩
      obtain rfl:fi=1:=by omega
      have hd2:(d.toNat:Int) < 128:=by simp at h2;omega
      clear hf1 h1 h2 hft hf0 hfi
      go_wp2_with fail
      exact ⟨rfl,qbg (hb2.mono (by simp)),.inr ⟨rfl,hno⟩⟩
     ·have hst:Hid (s=writeP (.mk false body []) ++ rest):=by
       have h:=qpz (s:=s) (f:=f) (t:=t) Hc.out (by omega) (by rw [Hbody.out];exact hsin)
       rw [Hbody.out,Hrest.out] at h
       exact h
      have hway:(fi == 1)=false∨fi=1∧(((body.length:Int) == 1)=false∨(∃ d,body = [d]∧¬ (d.toNat:Int) < 128)):=by
       by_cases hf1:f=1
       ·refine .inr ⟨by omega,?_⟩
        match hb:body with
        | []=>exact .inl rfl
        | [d]=>exact .inr ⟨d,rfl,by have:=fun h=>hsin ⟨hf1,rfl,h⟩;simp at this;omega⟩
        | d :: d2 :: r=>exact .inl (by rw [beq_eq_false_iff_ne,List.length_cons,List.length_cons];omega)
       ·exact .inl (by rw [beq_eq_false_iff_ne];omega)
      have Hfi:=qh hfi
      clear hfi
      clear hsin hft hf0
      rcases hway with hfb | ⟨rfl,hnl | ⟨d,rfl,hd2⟩⟩
      ·go_wp2_with fail
       refine bodyPost_ret (v:=.tuple #[.agg #[.bool false,.string (bs body),.slice none 0 0],.string (bs rest)]) (by simp [results,Tryz.results117,go_sem,r0,r1,r2]) rfl ?_
       exact qij hst.out ((((qbg (hb2.mono (by simp))).setCell (p:=⟨w.heap.size,0,none⟩) qn _).setCell (p:=⟨w.heap.size,1,none⟩) qn _).setCell (p:=⟨w.heap.size,2,none⟩) qn _)
      ·go_wp2_with fail
       refine bodyPost_ret (v:=.tuple #[.agg #[.bool false,.string (bs body),.slice none 0 0],.string (bs rest)]) (by simp [results,Tryz.results117,go_sem,r0,r1,r2]) rfl ?_
       exact qij hst.out ((((qbg (hb2.mono (by simp))).setCell (p:=⟨w.heap.size,0,none⟩) qn _).setCell (p:=⟨w.heap.size,1,none⟩) qn _).setCell (p:=⟨w.heap.size,2,none⟩) qn _)
      ·go_wp2_with fail
       refine bodyPost_ret (v:=.tuple #[.agg #[.bool false,.string (bs [d]),.slice none 0 0],.string (bs rest)]) (by simp [results,Tryz.results117,go_sem,r0,r1,r2]) rfl ?_
       exact qij hst.out ((((qbg (hb2.mono (by simp))).setCell (p:=⟨w.heap.size,0,none⟩) qn _).setCell (p:=⟨w.heap.size,1,none⟩) qn _).setCell (p:=⟨w.heap.size,2,none⟩) qn _)
    | true =>
     clear hft hf0
     go_wp2_with fail
     go_loopw [7,10,52,55,56] (fun b _ _ _ _ wr=>∃ (body2:Bytes) (ks:List Item) (xs:List Value) (v:Value),b=.string (bs body2)∧wr.heap[w2.heap.size]? = some (.cells #[.bool true,.string ⟨#[]⟩,v] 53 (0,0)) ∧
       wr.ownsRow (w2.heap.size+1) 53 3 v ks.length xs∧RepN (RowS (w2.heap.size+1) v) wr 3 (itemsD ks) xs∧Hid (puresP ks=true∧body=writesP ks ++ body2)∧Below w2.heap.size w2 wr)
      (fun b _ _ _ _ _=>match b with | .string x=>x.size | _=>0)
     case atStart=>exact ⟨body,[],[],.slice none 0 0,rfl,heap_alloc_new w2 _,World.ownsRow_nil _ _ _ _,.nil,⟨rfl,rfl⟩,(Below.refl _ _).alloc qn _⟩
     case round =>
      obtain ⟨body2,ks,xs,v,rfl,hbx,hown,hr,HP,hb⟩:=hrel
      obtain ⟨A,c,rfl⟩:=qa4 hown
      have hbs:=hb.size
      have hlt:w.heap.size < w2.heap.size:=qaz r0
      obtain ⟨q1,q2⟩:=bcell hb
      have s0:wr.cell? ⟨w.heap.size,0,none⟩=some (.bool false):=by rw [q1 _ _ hlt];exact r0
      have s1:wr.cell? ⟨w.heap.size,1,none⟩=some (.string ⟨#[]⟩):=by rw [q1 _ _ hlt];exact r1
      have s2:wr.cell? ⟨w.heap.size,2,none⟩=some (.slice none 0 0):=by rw [q1 _ _ hlt];exact r2
      have sf:∀ o,wr.frozen? ⟨w.heap.size,o,none⟩=false:=fun o=>by rw [q2 _ _ hlt];exact rf o
      have x0:wr.cell? ⟨w2.heap.size,0,none⟩=some (.bool true):=by rw [cell_of_row _ _ 0 _ _ _ hbx];rfl
      have x1:wr.cell? ⟨w2.heap.size,1,none⟩=some (.string ⟨#[]⟩):=by rw [cell_of_row _ _ 1 _ _ _ hbx];rfl
      have x2:wr.cell? ⟨w2.heap.size,2,none⟩=some (.slice A ks.length c):=by rw [cell_of_row _ _ 2 _ _ _ hbx];rfl
      have xf:∀ o,wr.frozen? ⟨w2.heap.size,o,none⟩=false:=fun o=>by simp [World.frozen?,hbx]
      clear q1 q2 r0 r1 r2 rf
      have Hbx:=qh hbx
      clear hbx
      by_cases hne:body2 = []
      ·subst hne
       have hst:Hid (s=writeP (.mk true [] ks) ++ rest):=by
        have h:=qtm (s:=s) (f:=f) (t:=t) (ks:=ks) Hc.out (by omega) (by rw [Hbody.out,HP.out.2,List.append_nil])
        rw [Hrest.out] at h
        exact h
       go_wp2_with fail
       refine bodyPost_ret (v:=.tuple #[.agg #[.bool true,.string (bs []),.slice A ks.length c],.string (bs rest)]) (by simp [results,Tryz.results117,go_sem,s0,s1,s2];rfl) rfl ?_
       exact qs1 hst.out HP.out.1 ((qbg (hb2.mono (by simp))).trans (hb.mono (by omega))) (by omega) hown (hr.mono fun b _ hs=>⟨hs.1,rfl⟩)
      ·have hne2:(body2 == [])=false:=by rw [beq_eq_false_iff_ne];exact hne
       have hf1:1≤f∧f≤t:=by
        rcases qfq Hc.out with ⟨h0,_⟩ | ⟨h1,h2,_⟩
        ·cases h0
        ·exact ⟨h1,h2⟩
       have hbody2:body2.length+1≤s.length:=by
        have h1:=congrArg List.length HP.out.2
        have h2:=Hbl.out
        rw [List.length_append] at h1
        omega
       clear hne hf1
       go_wp2_with fail
       refine (ih body2 _ (by omega) (by omega)).mono ?_
       rintro e w3 ⟨hb3,⟨x,rest2,A',c',hpx,hsx,rfl,hvx⟩ | ⟨rfl,hno⟩⟩
       ·have Hsx:=qh hsx
        clear hsx
        have hb3s:=hb3.size
        simp at hb3s
        obtain ⟨q1,q2⟩:=bcell hb3
        have y0:w3.cell? ⟨wr.heap.size,0,none⟩=some (.bool false):=by rw [q1 _ _ (by simp)];simp
        have y1:w3.cell? ⟨wr.heap.size,1,none⟩=some (.string ⟨#[]⟩):=by rw [q1 _ _ (by simp)];simp
        have y2:w3.cell? ⟨wr.heap.size,2,none⟩=some (.slice none 0 0):=by rw [q1 _ _ (by simp)];simp
        have yf:∀ o,w3.frozen? ⟨wr.heap.size,o,none⟩=false:=fun o=>by rw [q2 _ _ (by simp)];simp
        have hxl:w2.heap.size < wr.heap.size:=qaz x0
        have z0:w3.cell? ⟨w2.heap.size,0,none⟩=some (.bool true):=by rw [q1 _ _ (by simp;omega),World.cell?_alloc_lt _ _ _ hxl];exact x0
        have z1:w3.cell? ⟨w2.heap.size,1,none⟩=some (.string ⟨#[]⟩):=by rw [q1 _ _ (by simp;omega),World.cell?_alloc_lt _ _ _ hxl];exact x1
        have z2:w3.cell? ⟨w2.heap.size,2,none⟩=some (.slice A ks.length c):=by rw [q1 _ _ (by simp;omega),World.cell?_alloc_lt _ _ _ hxl];exact x2
        have zf:∀ o,w3.frozen? ⟨w2.heap.size,o,none⟩=false:=fun o=>by rw [q2 _ _ (by simp;omega)];exact ((bcell ((Below.refl _ _).alloc qn _)).2 _ _ hxl).trans (xf o)
        have X2:=qh x2
        have Xf:=qh xf
        clear q1 q2 x0 x1 x2 xf
        have hB3:Below wr.heap.size wr w3:=((Below.refl _ _).alloc qn _).trans (hb3.mono (by simp))
        have hkl:ks.length≤4100:=by
         have h1:=congrArg List.length HP.out.2
         have h2:=qmr ks
         have h3:=Hbl.out
         rw [List.length_append] at h1
         omega
        have hVb:=(((hB3.setCell (p:=⟨wr.heap.size,0,none⟩) qn (.bool x.l)).setCell (p:=⟨wr.heap.size,1,none⟩) qn (.string (bs x.b))).setCell (p:=⟨wr.heap.size,2,none⟩) qn (.slice A' x.ks.length c')).alloc (by simp [World.setCell];omega) (.cells #[.bool x.l,.string (bs x.b),.slice A' x.ks.length c'] 53)
        have hownV:=qa5 hown hVb
        have hVs:=hVb.size
        have g2:=qh (((bcell hVb).1 w2.heap.size 2 hxl).trans X2.out)
        have gf:=qh (((bcell hVb).2 w2.heap.size 2 hxl).trans (Xf.out 2))
        have HVb:=qh hVb
        clear hVb
        go_wp2_with (at_builtin;refine qa0 qi6 rfl rfl (w2.heap.size+1) hownV rfl (m:=1) (itemC x A' c') rfl rfl (qco _ _ (by simp [World.setCell]) #[.bool x.l,.string (bs x.b),.slice A' x.ks.length c'] _) (qt2 _ _ _) (by simp only [maxLen];omega) (by omega) (by omega) ?_;intro v1 w4 hown1 hg1 hat1;obtain ⟨A1,c1,rfl⟩:=qa4 hown1;have hb4:=qa7 (Below.refl _ _) hownV hg1 (by omega) qn;have e2:=((bcell hb4).1 w2.heap.size 2 (by omega)).trans g2.out;have ef:=((bcell hb4).2 w2.heap.size 2 (by omega)).trans gf.out;have Hb4:=qh hb4;clear hb4)
        go_roundw
        case rel =>
         have hVb:=HVb.out
         have hb4:=Hb4.out
         have hrV:RepN (RowS (w2.heap.size+1) (.slice A ks.length c)) _ 3 (itemsD ks) xs:=hr.keep hVb
         have hxV:=ItemV.mono (S':=RowS (w2.heap.size+1) (.slice A ks.length c)) hvx (w':=(((w3.setCell ⟨wr.heap.size,0,none⟩ (.bool x.l)).setCell ⟨wr.heap.size,1,none⟩ (.string (bs x.b))).setCell ⟨wr.heap.size,2,none⟩ (.slice A' x.ks.length c')).alloc (.cells #[.bool x.l,.string (bs x.b),.slice A' x.ks.length c'] 53)) (fun b hlt2 hs=>by
          have hs':wr.heap.size+1≤b:=by have:_≤b:=hs;simpa using this
          refine ⟨⟨by omega,fun he=>by have:=(hown.lt b he).2;omega⟩,?_⟩
          rw [Below.heap_alloc _ _ _ (by simp [World.setCell];omega),Below.heap_setCell _ _ _ _ (by show b≠wr.heap.size;omega),Below.heap_setCell _ _ _ _ (by show b≠wr.heap.size;omega),Below.heap_setCell _ _ _ _ (by show b≠wr.heap.size;omega)])
         have hr4:=qeq (sz:=3) (RepN.append (.cons (sz:=3) hxV rfl .nil) hrV) hg1 hat1
         refine ⟨rest2,ks ++ [x],xs ++ itemC x A' c',.slice A1 (ks.length+1) c1,rfl,?_,?_,?_,?_,?_⟩
         ·exact qaa (((hb4.block _ (by omega)).trans (hVb.block _ (by omega))).trans Hbx.out) _
         ·have:=ownsRow_setCell_below hown1 (a:=⟨w2.heap.size,2,none⟩) (by show w2.heap.size < _;omega) (.slice A1 (ks.length+1) c1)
          simpa using this
         ·rw [qcw]
          refine RepN.mono (by simpa [itemsD] using hr4) fun b _ hs=>⟨hs,Below.heap_setCell _ _ _ _ (by show b≠w2.heap.size;have:=hs.1;omega)⟩
         ·exact ⟨by rw [qf8,HP.out.1];simp [puresP,hpx],by rw [HP.out.2,qc8,Hsx.out];simp [writesP]⟩
         ·exact ((hb.trans (hVb.mono hbs)).trans (hb4.mono (by omega))).setCell (p:=⟨w2.heap.size,2,none⟩) qn _
        case measure =>
         have h1:=congrArg List.length Hsx.out
         have h2:=qcy x
         rw [List.length_append] at h1
         simp only [size_bs]
         omega
       ·go_wp2_with fail
        refine ⟨rfl,(qbg (hb2.mono (by simp))).trans ((qgh hb hbs hb3).mono (by omega)),.inr ⟨rfl,?_⟩⟩
        exact qo0 (by omega) Hc.out (by omega) HP.out.1 (by rw [Hbody.out];exact HP.out.2) (by rw [beq_eq_false_iff_ne] at hne2;exact hne2) hno
end Go.Proofs.YteoednifdpdbnaaGreat
