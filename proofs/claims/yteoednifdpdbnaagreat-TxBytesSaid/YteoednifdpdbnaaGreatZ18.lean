/- The walk of ecclesiaref08.Read. -/
import Derived.Test.YteoednifdpdbnaaGreatZ15
import Derived.Test.YteoednifdpdbnaaGreatZ17
namespace Go.Proofs.YteoednifdpdbnaaGreat
set_option linter.unusedVariables false
set_option linter.unusedSimpArgs false
open Go.RowKit
set_option maxHeartbeats 1000000
/-- what Read says of a text -/
def RdPost (s:Bytes) (w:World) (e:Ending) (w':World):Prop :=
 Below w.heap.size w w'∧∃ (ok:Bool) (x:Item) (A:Option Addr) (c n:Nat),
  e=.returned (.tuple #[.agg #[.bool x.l,.string (bs x.b),.slice A x.ks.length c],.int .i64 n,.bool ok])∧ItemV (Fresh w.heap.size) w' x A c ∧
  (ok=true→1≤n∧n≤s.length∧pureP x=true∧(writeP x).length≤4 * n) ∧
  (∀ y r,pureP y=true→s=writeP y ++ r→ok=true∧x=y∧n=(writeP y).length)
/-- the head of an item that is written, by size -/
theorem qf5 {s:Bytes} {y:Item} {r:Bytes} (hs:s.length < 65536) (hy:pureP y=true) (e:s=writeP y ++ r) :
  ∃ H L:Nat,sizeP s=((H:Int),(L:Int))∧H+L=(writeP y).length∧H+L≤s.length∧(y.l=true→L=(writesP y.ks).length∧s.drop H=writesP y.ks ++ r∧192≤(s.headD 0).toNat) ∧
   (y.l=false→L=y.b.length∧s.drop H=y.b ++ r∧(s.headD 0).toNat < 192):=by
 subst e
 have hl:(writeP y).length < 65536:=by rw [List.length_append] at hs;omega
 rw [List.length_append]
 rcases qdr hy hl r with ⟨h0,H,e,e2,e3⟩ | ⟨h0,c,h1,h2,e,e2⟩ | ⟨h0,h1,H,h2,e,e2,e3⟩
 ·obtain ⟨z,_,c,t,hc,hd⟩:=qiw e
  refine ⟨H,(writesP y.ks).length,by rw [z,Prod.mk.injEq];exact ⟨rfl,by omega⟩,e2,by omega,fun _=>⟨rfl,e3,?_⟩,(fun h=>by rw [h0] at h;cases h)⟩
  rw [hc];exact of_decide_eq_true hd.symm
 ·obtain ⟨z,_,c',t,hc,hd⟩:=qiw e
  refine ⟨0,1,by rw [z];rfl,by rw [e2];rfl,by rw [e2];simp,(fun h=>by rw [h0] at h;cases h),fun _=>⟨by rw [h1];rfl,by rw [e2,h1];rfl,?_⟩⟩
  rw [hc];have:=of_decide_eq_false hd.symm;simp only [List.headD_cons];omega
 ·obtain ⟨z,_,c',t,hc,hd⟩:=qiw e
  refine ⟨H,y.b.length,by rw [z,Prod.mk.injEq];exact ⟨rfl,by omega⟩,e2,by omega,(fun h=>by rw [h0] at h;cases h),fun _=>⟨rfl,e3,?_⟩⟩
  rw [hc];have:=of_decide_eq_false hd.symm;simp only [List.headD_cons];omega
theorem qiz {s:Bytes} {z:Int×Int} (hs:s.length < 65536) (h:sizeP s=z) (hz:z.1 < 0∨(s.length:Int) < z.1+z.2):NoItem s:=by
 intro x r hx e
 obtain ⟨H,L,e1,e2,e3,_⟩:=qf5 hs hx e
 rw [h] at e1
 subst e1
 simp only [] at hz
 omega
theorem qj4 {s:Bytes} {w W:World} (hb:Below w.heap.size w W) (h:NoItem s) :
  RdPost s w (.returned (.tuple #[.agg #[.bool false,.string (bs []),.slice none 0 0],.int .i64 0,.bool false])) W :=
 ⟨hb,false,zeroI,none,0,0,rfl,ItemV.leaf _ _,(fun h=>nomatch h),fun y r hy e=>absurd e (h y r hy)⟩
theorem rd_ret {x:Item} {A:Option Addr} {c:Nat} {m:Int} {n:Nat} (h:m=n):Ending.returned (.tuple #[.agg #[.bool x.l,.string (bs x.b),.slice A x.ks.length c],.int .i64 m,.bool true]) =
  Ending.returned (.tuple #[.agg #[.bool x.l,.string (bs x.b),.slice A x.ks.length c],.int .i64 n,.bool true]):=by rw [h]
theorem rd_leaf {s:Bytes} {w W:World} {bi fi:Int} (hs:s.length < 65536) (hz:sizeP s=(bi,fi)) (h0:0≤bi) (h1:0≤fi) (h2:1≤bi+fi) (h3:bi+fi≤s.length) (h4:bi=0→fi=1∧(s.headD 0).toNat < 128)
  (h5:(s.headD 0).toNat < 192) (hb:Below w.heap.size w W) :
  RdPost s w (.returned (.tuple #[.agg #[.bool false,.string (bs ((s.drop bi.toNat).take ((bi+fi).toNat - bi.toNat))),.slice none 0 0],.int .i64 (bi+fi),.bool true])) W:=by
 have hlen:((s.drop bi.toNat).take ((bi+fi).toNat - bi.toNat)).length=fi.toNat:=by rw [List.length_take,List.length_drop];omega
 refine ⟨hb,true,.mk false ((s.drop bi.toNat).take ((bi+fi).toNat - bi.toNat)) [],none,0,(bi+fi).toNat,rd_ret (x:=.mk false _ []) (by omega),ItemV.leaf _ _,fun _=>⟨by omega,by omega,by simp [pureP,puresP],?_⟩,fun y r hy e=>?_⟩
 ·simp only [writeP]
  split
  ·omega
  ·rename_i hn
   rw [List.length_append]
   have:=qb4 128 ((s.drop bi.toNat).take ((bi+fi).toNat - bi.toNat)).length (by omega)
   by_cases hb0:bi=0
   ·exfalso
    obtain ⟨hf1,hc⟩:=h4 hb0
    subst hb0 hf1
    apply hn
    cases s with
    | nil=>simp at h3
    | cons c s=>exact ⟨rfl,hc⟩
   ·omega
 ·obtain ⟨H,L,e1,e2,e3,e4,e5⟩:=qf5 hs hy e
  rw [hz] at e1
  obtain ⟨rfl,rfl⟩:=Prod.mk.inj e1
  have hl:y.l=false:=by
   cases hyl:y.l with
   | false=>rfl
   | true=>have:=(e4 hyl).2.2;omega
  obtain ⟨e6,e7,_⟩:=e5 hl
  have hk:=qjx hy hl
  refine ⟨rfl,?_,by omega⟩
  rw [show ((H:Int)).toNat=H by omega,e7,List.take_left' (by omega),← hk,← hl]
  exact y.eta
/-- how far the reading of a list has come -/
def RdLoop (s:Bytes) (bi ei:Int) (a:Int) (ks:List Item):Prop :=
 puresP ks=true∧(writesP ks).length≤4 * (a - bi).toNat ∧
 ∀ y r,pureP y=true→s=writeP y ++ r→y.l=true∧∃ todo,y.ks=ks ++ todo∧(s.drop a.toNat).take (ei.toNat - a.toNat)=writesP todo
theorem qmd {s:Bytes} {bi fi:Int} (hs:s.length < 65536) (hz:sizeP s=(bi,fi)) (h0:0≤bi) (h1:0≤fi) (h5:192≤(s.headD 0).toNat):RdLoop s bi (bi+fi) bi []:=by
 refine ⟨rfl,by simp [writesP],fun y r hy e=>?_⟩
 obtain ⟨H,L,e1,e2,e3,e4,e5⟩:=qf5 hs hy e
 rw [hz] at e1
 obtain ⟨rfl,rfl⟩:=Prod.mk.inj e1
 have hl:y.l=true:=by
  cases hyl:y.l with
  | true=>rfl
  | false=>have:=(e5 hyl).2.2;omega
 obtain ⟨e6,e7,_⟩:=e4 hl
 refine ⟨hl,y.ks,rfl,?_⟩
 rw [show ((H:Int)).toNat=H by omega,e7,List.take_left' (by omega)]
theorem qne {s:Bytes} {bi ei a:Int} {ks:List Item} {x:Item} {n:Nat} {ok:Bool} (hs:s.length < 65536) (h:RdLoop s bi ei a ks) (ha:bi≤a) (h0:0≤bi) (hae:a < ei) (hei:ei≤s.length)
  (h1:ok=true→1≤n∧n≤((s.drop a.toNat).take (ei.toNat - a.toNat)).length∧pureP x=true∧(writeP x).length≤4 * n)
  (h2:∀ y r,pureP y=true→(s.drop a.toNat).take (ei.toNat - a.toNat)=writeP y ++ r→ok=true∧x=y∧n=(writeP y).length) :
  (ok=true→RdLoop s bi ei (a+n) (ks ++ [x]))∧(ok=false→NoItem s):=by
 obtain ⟨g1,g2,g3⟩:=h
 have hlen:((s.drop a.toNat).take (ei.toNat - a.toNat)).length=ei.toNat - a.toNat:=by rw [List.length_take,List.length_drop];omega
 have key:∀ y r,pureP y=true→s=writeP y ++ r→y.l=true∧∃ k todo,y.ks=ks ++ k :: todo∧(s.drop a.toNat).take (ei.toNat - a.toNat)=writeP k ++ writesP todo∧pureP k=true:=by
  intro y r hy e
  obtain ⟨hl,todo,e1,e2⟩:=g3 y r hy e
  cases todo with
  | nil=>rw [e2] at hlen;simp [writesP] at hlen;omega
  | cons k todo =>
   refine ⟨hl,k,todo,e1,e2,qme (x:=y) (i:=ks.length) hy (by rw [e1];simp)⟩
 refine ⟨fun ho=>?_,fun ho y r hy e=>?_⟩
 ·obtain ⟨f1,f2,f3,f4⟩:=h1 ho
  refine ⟨by rw [qcf,g1];simp [puresP,f3],?_,fun y r hy e=>?_⟩
  ·rw [qcs,List.length_append]
   simp only [writesP,List.append_nil]
   omega
  ·obtain ⟨hl,k,todo,e1,e2,hk⟩:=key y r hy e
   obtain ⟨_,rfl,hn⟩:=h2 k _ hk e2
   refine ⟨hl,todo,by rw [e1];simp,?_⟩
   have e3:=congrArg (List.drop n) e2
   rw [List.drop_left' hn.symm,List.drop_take,List.drop_drop] at e3
   rw [← e3,show (a+(n:Int)).toNat=a.toNat+n by omega,show ei.toNat - a.toNat - n=ei.toNat - (a.toNat+n) by omega]
 ·obtain ⟨hl,k,todo,e1,e2,hk⟩:=key y r hy e
  have:=(h2 k _ hk e2).1
  rw [ho] at this;cases this
theorem rd_list {s:Bytes} {w W:World} {bi fi:Int} {ks:List Item} {A:Option Addr} {c:Nat} (hs:s.length < 65536) (hz:sizeP s=(bi,fi)) (h0:1≤bi) (h1:0≤fi) (h3:bi+fi≤s.length)
  (h:RdLoop s bi (bi+fi) (bi+fi) ks) (hb:Below w.heap.size w W) (hw:(writesP ks).length < 65536) (hv:ItemV (Fresh w.heap.size) W (.mk true [] ks) A c) :
  RdPost s w (.returned (.tuple #[.agg #[.bool true,.string (bs []),.slice A ks.length c],.int .i64 (bi+fi),.bool true])) W:=by
 obtain ⟨g1,g2,g3⟩:=h
 refine ⟨hb,true,.mk true [] ks,A,c,(bi+fi).toNat,rd_ret (x:=.mk true [] ks) (by omega),hv,fun _=>⟨by omega,by omega,by simp [pureP,g1],?_⟩,fun y r hy e=>?_⟩
 ·simp only [writeP,List.length_append]
  have:=qb4 192 (writesP ks).length hw
  omega
 ·obtain ⟨hl,todo,e1,e2⟩:=g3 y r hy e
  obtain ⟨H,L,e3,e4,_⟩:=qf5 hs hy e
  rw [hz] at e3
  obtain ⟨rfl,rfl⟩:=Prod.mk.inj e3
  cases todo with
  | cons k todo =>
   have:=congrArg List.length e2
   have h2:=qcq k
   simp only [writesP,List.length_append,List.length_take] at this
   omega
  | nil =>
   rw [List.append_nil] at e1
   refine ⟨rfl,?_,by omega⟩
   rw [← e1,← qqw hy hl,← hl]
   exact y.eta
theorem Read_any (N:Nat):∀ (s:Bytes) (w:World),s.length < N→s.length≤4100 →
  Calls Tryz.prog 118 #[.string (bs s)] w (RdPost s w):=by
 induction N with
 | zero=>intro s w hN;omega
 | succ N ih =>
  intro s w hN hM
  cases s with
  | nil =>
   go_enter Tryz.func118,Tryz.ntmps118
   go_wp2_with fail
   refine bodyPost_ret (v:=.tuple #[.agg #[.bool false,.string (bs []),.slice none 0 0],.int .i64 0,.bool false]) (by simp [results,Tryz.results118,go_sem];rfl) rfl ?_
   exact qj4 ((Below.refl _ _).alloc qn _) (qi8 (by simp) rfl)
  | cons c0 t0 =>
   go_enter Tryz.func118,Tryz.ntmps118
   go_wp2_with fail
   refine (size_any c0 t0 _ (by simp at hM;omega)).mono ?_
   rintro e w1 ⟨rfl,hb1⟩
   have hw:=qa1 (hb1.mono (by simp))
   have hb1s:=hb1.size
   simp at hb1s
   obtain ⟨q1,q2⟩:=bcell hb1
   have r0:w1.cell? ⟨w.heap.size,0,none⟩=some (.bool false):=by rw [q1 _ _ (by simp)];simp
   have r1:w1.cell? ⟨w.heap.size,1,none⟩=some (.string ⟨#[]⟩):=by rw [q1 _ _ (by simp)];simp
   have r2:w1.cell? ⟨w.heap.size,2,none⟩=some (.slice none 0 0):=by rw [q1 _ _ (by simp)];simp
   have rf:∀ o,w1.frozen? ⟨w.heap.size,o,none⟩=false:=fun o=>by rw [q2 _ _ (by simp)];simp
   clear q1 q2 hb1
   have HN:=qh (And.intro hN hM)
   have hM':(t0.length:Int)≤4099:=by simp only [List.length_cons] at hM;omega
   have hs:(c0 :: t0).length < 65536:=by omega
   clear hN hM
   have hz:=sizeP_le c0 t0
   generalize hz2:sizeP (c0 :: t0)=z at *
   obtain ⟨bi,fi⟩:=z
   simp only [] at hz ⊢
   rcases hz with hz | ⟨hz0,hz1,hz3,hz4,hz5,hz6⟩
   ·have hno:=qiz hs hz2 (.inl (by rw [hz];decide))
    obtain ⟨rfl,rfl⟩:=Prod.mk.inj hz
    clear hz hz2 hs
    go_wp2_with fail
    refine bodyPost_ret (v:=.tuple #[.agg #[.bool false,.string (bs []),.slice none 0 0],.int .i64 0,.bool false]) (by simp [results,Tryz.results118,go_sem,r0,r1,r2];rfl) rfl ?_
    exact qj4 ((((hw.setCell (p:=⟨w.heap.size,0,none⟩) qn _).setCell (p:=⟨w.heap.size,1,none⟩) qn _).setCell (p:=⟨w.heap.size,2,none⟩) qn _)) hno
   ·have hz7:bi≤bi+fi:=by omega
    have hd0:decide (bi < 0)=false:=by rw [decide_eq_false_iff_not];omega
    by_cases hlt:(t0.length:Int)+1 < bi+fi
    ·have hno:=qiz hs hz2 (.inr (by simp only [List.length_cons];omega))
     clear hz2 hz6 hs
     go_wp2_with fail
     refine bodyPost_ret (v:=.tuple #[.agg #[.bool false,.string (bs []),.slice none 0 0],.int .i64 0,.bool false]) (by simp [results,Tryz.results118,go_sem,r0,r1,r2];rfl) rfl ?_
     exact qj4 ((((hw.setCell (p:=⟨w.heap.size,0,none⟩) qn _).setCell (p:=⟨w.heap.size,1,none⟩) qn _).setCell (p:=⟨w.heap.size,2,none⟩) qn _)) hno
    ·have Hz:=qh (And.intro hz2 hz6)
     clear hz2 hz6 hs
     have hd1:decide ((t0.length:Int)+1 < bi+fi)=false:=by rw [decide_eq_false_iff_not];exact hlt
     by_cases hle:(c0.toNat:Int) < 192
     ·go_wp2_with fail
      have hz:=Hz.out
      have hN:=HN.out
      have hbd:=fun (W:World) (hW:Below w.heap.size w W)=>rd_leaf (s:=c0 :: t0) (w:=w) (W:=W) (by omega) hz.1 hz0 hz1 hz3 (by simp only [List.length_cons];omega) hz.2 (by simp only [List.headD_cons];omega) hW
      generalize (List.take ((bi+fi).toNat - bi.toNat) (List.drop bi.toNat (c0 :: t0)))=body at *
      refine bodyPost_ret (v:=.tuple #[.agg #[.bool false,.string (bs body),.slice none 0 0],.int .i64 (bi+fi),.bool true]) (by simp [results,Tryz.results118,go_sem,r0,r1,r2]) rfl ?_
      exact hbd _ (((hw.setCell (p:=⟨w.heap.size,0,none⟩) qn _).setCell (p:=⟨w.heap.size,1,none⟩) qn _).setCell (p:=⟨w.heap.size,2,none⟩) qn _)
     ·go_wp2_with fail
      have hl1:1≤bi:=by
       rcases Int.lt_or_le 0 bi with h | h
       ·omega
       ·have:=(Hz.out.2 (by omega)).2;omega
      have hstart:=qmd (s:=c0 :: t0) (by have:=HN.out.2;omega) Hz.out.1 hz0 hz1 (by simp only [List.headD_cons];omega)
      have Hst:=qh hstart
      clear hstart hle hd1 hd0 hz3 hz4
      go_loopw [8] (fun a wr=>∃ (ai:Int) (ks:List Item) (xs:List Value) (v:Value),a=.int .i64 ai∧bi≤ai∧ai≤bi+fi∧Hid (RdLoop (c0 :: t0) bi (bi+fi) ai ks)∧wr.heap[w1.heap.size]? = some (.cells #[.bool true,.string ⟨#[]⟩,v] 53 (0,0)) ∧
        wr.ownsRow (w1.heap.size+1) 53 3 v ks.length xs∧RepN (RowS (w1.heap.size+1) v) wr 3 (itemsD ks) xs∧Below w1.heap.size w1 wr)
       (fun a _=>(bi+fi - intOf a).toNat)
      case atStart=>exact ⟨bi,[],[],.slice none 0 0,rfl,Int.le_refl _,hz7,Hst,heap_alloc_new w1 _,World.ownsRow_nil _ _ _ _,.nil,(Below.refl _ _).alloc qn _⟩
      case round =>
       obtain ⟨ai,ks,xs,v,rfl,ha1,ha2,HL,hbx,hown,hr,hb⟩:=hrel
       obtain ⟨A,c,rfl⟩:=qau hown
       have hbs:=hb.size
       have hlt1:w.heap.size < w1.heap.size:=qap r0
       obtain ⟨q1,q2⟩:=bcell hb
       have s0:wr.cell? ⟨w.heap.size,0,none⟩=some (.bool false):=by rw [q1 _ _ hlt1];exact r0
       have s1:wr.cell? ⟨w.heap.size,1,none⟩=some (.string ⟨#[]⟩):=by rw [q1 _ _ hlt1];exact r1
       have s2:wr.cell? ⟨w.heap.size,2,none⟩=some (.slice none 0 0):=by rw [q1 _ _ hlt1];exact r2
       have sf:∀ o,wr.frozen? ⟨w.heap.size,o,none⟩=false:=fun o=>by rw [q2 _ _ hlt1];exact rf o
       have x0:wr.cell? ⟨w1.heap.size,0,none⟩=some (.bool true):=by rw [cell_of_row _ _ 0 _ _ _ hbx];rfl
       have x1:wr.cell? ⟨w1.heap.size,1,none⟩=some (.string ⟨#[]⟩):=by rw [cell_of_row _ _ 1 _ _ _ hbx];rfl
       have x2:wr.cell? ⟨w1.heap.size,2,none⟩=some (.slice A ks.length c):=by rw [cell_of_row _ _ 2 _ _ _ hbx];rfl
       have xf:∀ o,wr.frozen? ⟨w1.heap.size,o,none⟩=false:=fun o=>by simp [World.frozen?,hbx]
       clear q1 q2 r0 r1 r2 rf
       have Hbx:=qh hbx
       clear hbx
       by_cases hne:ai=bi+fi
       ·have hni:¬ ai < bi+fi:=by omega
        go_wp2_with fail
        have hHL:=HL.out
        rw [hne] at hHL
        refine bodyPost_ret (v:=.tuple #[.agg #[.bool true,.string (bs []),.slice A ks.length c],.int .i64 (bi+fi),.bool true]) (by simp [results,Tryz.results118,go_sem,s0,s1,s2];rfl) rfl ?_
        refine rd_list (s:=c0 :: t0) (by have:=HN.out.2;omega) Hz.out.1 hl1 hz1 (by simp only [List.length_cons];omega) hHL (((((hw.trans (hb.mono (by omega))).setCell (p:=⟨w.heap.size,0,none⟩) qn _).setCell (p:=⟨w.heap.size,1,none⟩) qn _).setCell (p:=⟨w.heap.size,2,none⟩) qn _)) (by have:=hHL.2.1;omega) ?_
        have h1:Rep (Fresh (w1.heap.size+1)) wr (.sl 3 (itemsD ks)) [.slice A ks.length c]:=qb2 hown (hr.mono fun b _ hs=>⟨hs.1,rfl⟩) (qcp ks) (fun g hg _=>hg)
        refine qd8 (h1.mono fun b hlt hs=>⟨?_,?_⟩)
        ·have:w1.heap.size+1≤b:=hs
         show w.heap.size≤b
         omega
        ·have:w1.heap.size+1≤b:=hs
         rw [Below.heap_setCell _ _ _ _ (by show b≠w.heap.size;omega),Below.heap_setCell _ _ _ _ (by show b≠w.heap.size;omega),Below.heap_setCell _ _ _ _ (by show b≠w.heap.size;omega)]
       ·have hni:ai < bi+fi:=by omega
        have ha0:0≤ai:=by omega
        clear hne
        go_wp2_with fail
        have hs65:(c0 :: t0).length < 65536:=by have:=HN.out.2;omega
        have hei:bi+fi≤(c0 :: t0).length:=by simp only [List.length_cons];omega
        have hpl:(List.take ((bi+fi).toNat - ai.toNat) (List.drop ai.toNat (c0 :: t0))).length=(bi+fi).toNat - ai.toNat:=by rw [List.length_take,List.length_drop];omega
        refine (ih _ wr (by have:=HN.out.1;omega) (by have:=HN.out.2;omega)).mono ?_
        rintro e w3 ⟨hb3,ok,x,A',c',n,rfl,hvx,hp1,hp2⟩
        have hstep:=qne (ok:=ok) hs65 HL.out ha1 hz0 hni hei hp1 hp2
        clear hs65 hei
        have hb3s:=hb3.size
        obtain ⟨q1,q2⟩:=bcell hb3
        have hxl:w1.heap.size < wr.heap.size:=qap x0
        have hrl:w.heap.size < wr.heap.size:=qap s0
        cases ok with
        | false =>
         have hno:=hstep.2 rfl
         have y0:=(q1 _ _ hrl).trans s0
         have y1:=(q1 _ _ hrl).trans s1
         have y2:=(q1 _ _ hrl).trans s2
         have yf:∀ o,w3.frozen? ⟨w.heap.size,o,none⟩=false:=fun o=>(q2 _ _ hrl).trans (sf o)
         have z0:=ca y0 (.cells #[.bool x.l,.string (bs x.b),.slice A' x.ks.length c'] 53)
         have z1:=ca y1 (.cells #[.bool x.l,.string (bs x.b),.slice A' x.ks.length c'] 53)
         have z2:=ca y2 (.cells #[.bool x.l,.string (bs x.b),.slice A' x.ks.length c'] 53)
         have zf0:=fa (qap y0) (yf 0) (.cells #[.bool x.l,.string (bs x.b),.slice A' x.ks.length c'] 53)
         have zf1:=fa (qap y0) (yf 1) (.cells #[.bool x.l,.string (bs x.b),.slice A' x.ks.length c'] 53)
         have zf2:=fa (qap y0) (yf 2) (.cells #[.bool x.l,.string (bs x.b),.slice A' x.ks.length c'] 53)
         have hw3:Below w.heap.size w w3:=(hw.trans (hb.mono (by omega))).trans (hb3.mono (by omega))
         clear q1 q2 s0 s1 s2 sf x0 x1 x2 xf hpl hstep hp1 hp2
         go_wp2_with fail
         refine bodyPost_ret (v:=.tuple #[.agg #[.bool false,.string (bs []),.slice none 0 0],.int .i64 0,.bool false]) (by simp [results,Tryz.results118,go_sem,y0,y1,y2,z0,z1,z2];rfl) rfl ?_
         exact qj4 ((((hw3.alloc (by omega) _).setCell (p:=⟨w.heap.size,0,none⟩) qn _).setCell (p:=⟨w.heap.size,1,none⟩) qn _).setCell (p:=⟨w.heap.size,2,none⟩) qn _) hno
        | true =>
         have HS:=qh (hstep.1 rfl)
         have hp1':=hp1 rfl
         have Hp1:=qh hp1'
         obtain ⟨ni,hni2⟩:∃ ni:Int,ni=n:=⟨_,rfl⟩
         rw [← hni2]
         have hn1:1≤ni:=by omega
         have hn2:ai+ni≤bi+fi:=by omega
         have HNI:=qh hni2
         have z0:w3.cell? ⟨w1.heap.size,0,none⟩=some (.bool true):=(q1 _ _ hxl).trans x0
         have z1:w3.cell? ⟨w1.heap.size,1,none⟩=some (.string ⟨#[]⟩):=(q1 _ _ hxl).trans x1
         have z2:w3.cell? ⟨w1.heap.size,2,none⟩=some (.slice A ks.length c):=(q1 _ _ hxl).trans x2
         have zf:∀ o,w3.frozen? ⟨w1.heap.size,o,none⟩=false:=fun o=>(q2 _ _ hxl).trans (xf o)
         have k0:=ca z0 (.cells #[.bool x.l,.string (bs x.b),.slice A' x.ks.length c'] 53)
         have k1:=ca z1 (.cells #[.bool x.l,.string (bs x.b),.slice A' x.ks.length c'] 53)
         have k2:=ca z2 (.cells #[.bool x.l,.string (bs x.b),.slice A' x.ks.length c'] 53)
         have kf2:=fa (qap z0) (zf 2) (.cells #[.bool x.l,.string (bs x.b),.slice A' x.ks.length c'] 53)
         have hkl:ks.length≤1000000:=by
          have h1:=HL.out.2.1
          have h2:=qh4 ks
          omega
         have hVb:Below wr.heap.size wr ((w3.alloc (.cells #[.bool x.l,.string (bs x.b),.slice A' x.ks.length c'] 53)).alloc (.cells #[.bool x.l,.string (bs x.b),.slice A' x.ks.length c'] 53)):=(hb3.alloc hb3s _).alloc (by simp;omega) _
         have hownV:=qax hown hVb
         have hVs:=hVb.size
         have g2:=qh (((bcell hVb).1 w1.heap.size 2 hxl).trans x2)
         have gf:=qh (((bcell hVb).2 w1.heap.size 2 hxl).trans (xf 2))
         have HVb:=qh hVb
         clear hVb q1 q2 s0 s1 s2 sf x0 x1 x2 xf hpl hstep hp1 hp2 hp1' hni2
         go_wp2_with (at_builtin;refine qaw qft rfl rfl (w1.heap.size+1) hownV rfl (m:=1) (itemC x A' c') rfl rfl (qbw _ _ (by simp) #[.bool x.l,.string (bs x.b),.slice A' x.ks.length c'] _) (qil _ _ _) (by simp only [maxLen];omega) (by omega) (by omega) ?_;intro v1 w4 hown1 hg1 hat1;obtain ⟨A1,c1,rfl⟩:=qau hown1;have hb4:=qay (Below.refl _ _) hownV hg1 (by omega) qn;have e2:=((bcell hb4).1 w1.heap.size 2 (by omega)).trans g2.out;have ef:=((bcell hb4).2 w1.heap.size 2 (by omega)).trans gf.out;have Hb4:=qh hb4;clear hb4)
         go_roundw
         case rel =>
          have hVb:=HVb.out
          have hb4:=Hb4.out
          have hrV:RepN (RowS (w1.heap.size+1) (.slice A ks.length c)) _ 3 (itemsD ks) xs:=hr.keep hVb
          have hxV:=ItemV.mono (S':=RowS (w1.heap.size+1) (.slice A ks.length c)) hvx (w':=(w3.alloc (.cells #[.bool x.l,.string (bs x.b),.slice A' x.ks.length c'] 53)).alloc (.cells #[.bool x.l,.string (bs x.b),.slice A' x.ks.length c'] 53)) (fun b hlt2 hs=>by
           have hs':wr.heap.size≤b:=hs
           refine ⟨⟨by omega,fun he=>by have:=(hown.lt b he).2;omega⟩,?_⟩
           rw [Below.heap_alloc _ _ _ (by simp;omega),Below.heap_alloc _ _ _ hlt2])
          have hr4:=qci (sz:=3) (RepN.append (.cons (sz:=3) hxV rfl .nil) hrV) hg1 hat1
          refine ⟨ai+ni,ks ++ [x],xs ++ itemC x A' c',.slice A1 (ks.length+1) c1,rfl,by omega,by omega,?_,?_,?_,?_,?_⟩
          ·show RdLoop _ _ _ _ _
           rw [HNI.out];exact HS.out
          ·exact qaa (((hb4.block _ (by omega)).trans (hVb.block _ (by omega))).trans Hbx.out) _
          ·have:=ownsRow_setCell_below hown1 (a:=⟨w1.heap.size,2,none⟩) (by show w1.heap.size < _;omega) (.slice A1 (ks.length+1) c1)
           simpa using this
          ·rw [qbo]
           refine RepN.mono (by simpa [itemsD] using hr4) fun b _ hs=>⟨hs,Below.heap_setCell _ _ _ _ (by show b≠w1.heap.size;have:=hs.1;omega)⟩
          ·exact ((hb.trans (hVb.mono hbs)).trans (hb4.mono (by omega))).setCell (p:=⟨w1.heap.size,2,none⟩) qn _
         case measure =>
          simp only [intOf]
          omega
/- ecclesiaref08.Decode. -/
theorem qj3 (s:Bytes) (w:World):Calls Tryz.prog 67 #[.string (bs s)] w (DecPost s w):=by
 by_cases h4:(4000:Int) < s.length
 ·go_enter Tryz.func67,Tryz.ntmps67
  go_wp2_with fail
  refine bodyPost_ret (v:=.tuple #[.agg #[.bool false,.string (bs []),.slice none 0 0],.int .i64 2]) (by simp [results,Tryz.results67,go_sem];rfl) rfl ?_
  exact qbp 2 ((Below.refl _ _).alloc qn _) (.inl ⟨by omega,rfl,rfl⟩)
 ·have H4:=qh h4
  have h4':(s.length:Int)≤4000:=by omega
  go_enter Tryz.func67,Tryz.ntmps67
  go_wp2_with fail
  refine (Read_any 4101 s _ (by omega) (by omega)).mono ?_
  rintro e w1 ⟨hb1,ok,x,A,c,n,rfl,hvx,hp1,hp2⟩
  have hb1s:=hb1.size
  simp at hb1s
  have hw:Below w.heap.size w w1:=qa1 (hb1.mono (by simp))
  obtain ⟨q1,q2⟩:=bcell hb1
  have r0:w1.cell? ⟨w.heap.size,0,none⟩=some (.bool false):=by rw [q1 _ _ (by simp)];simp
  have r1:w1.cell? ⟨w.heap.size,1,none⟩=some (.string ⟨#[]⟩):=by rw [q1 _ _ (by simp)];simp
  have r2:w1.cell? ⟨w.heap.size,2,none⟩=some (.slice none 0 0):=by rw [q1 _ _ (by simp)];simp
  have rf:∀ o,w1.frozen? ⟨w.heap.size,o,none⟩=false:=fun o=>by rw [q2 _ _ (by simp)];simp
  have k0:=ca r0 (.cells #[.bool x.l,.string (bs x.b),.slice A x.ks.length c] 53)
  have k1:=ca r1 (.cells #[.bool x.l,.string (bs x.b),.slice A x.ks.length c] 53)
  have k2:=ca r2 (.cells #[.bool x.l,.string (bs x.b),.slice A x.ks.length c] 53)
  have e0:=fa (qap r0) (rf 0) (.cells #[.bool x.l,.string (bs x.b),.slice A x.ks.length c] 53)
  have e1:=fa (qap r0) (rf 1) (.cells #[.bool x.l,.string (bs x.b),.slice A x.ks.length c] 53)
  have e2:=fa (qap r0) (rf 2) (.cells #[.bool x.l,.string (bs x.b),.slice A x.ks.length c] 53)
  clear q1 q2 hb1
  cases ok with
  | false =>
   have hno:∀ y,pureP y=true→s≠writeP y:=fun y hy e=>by
    have:=(hp2 y [] hy (by rw [List.append_nil];exact e)).1
    cases this
   clear hp1 hp2
   go_wp2_with fail
   refine bodyPost_ret (v:=.tuple #[.agg #[.bool false,.string (bs []),.slice none 0 0],.int .i64 4]) (by simp [results,Tryz.results67,go_sem,k0,k1,k2];rfl) rfl ?_
   exact qbp 4 ((((hw.alloc (by omega) _).setCell (p:=⟨w.heap.size,0,none⟩) qn _).setCell (p:=⟨w.heap.size,1,none⟩) qn _).setCell (p:=⟨w.heap.size,2,none⟩) qn _) (.inr (.inr (.inr ⟨by omega,rfl,rfl,hno⟩)))
  | true =>
   obtain ⟨g1,g2,g3,g4⟩:=hp1 rfl
   have Hp2:=qh hp2
   have hC:countP x≤1000000:=by have:=qes x g3;omega
   have hW:(writeP x).length < 16777216:=by omega
   have Hg:=qh (And.intro g1 (And.intro g2 (And.intro g4 (And.intro hC hW))))
   clear hp1 hp2 g1 g2 g4 hC hW
   by_cases hn:n=s.length
   ·obtain ⟨ni,hni⟩:∃ ni:Int,ni=n:=⟨_,rfl⟩
    rw [← hni]
    have hne:ni=(s.length:Int):=by omega
    have HN:=qh hn
    clear hn hni
    go_wp2_with fail
    refine (qk5 (countP x) x A c _ qn Hg.out.2.2.2.1 Hg.out.2.2.2.2 ((hvx.alloc _).mono fun b _ _=>⟨trivial,rfl⟩)).mono ?_
    rintro e w2 ⟨rfl,hb2⟩
    have hb2s:=hb2.size
    simp at hb2s
    obtain ⟨q1,q2⟩:=bcell hb2
    have r0:=(q1 w.heap.size 0 (by simp;omega)).trans k0
    have r1:=(q1 w.heap.size 1 (by simp;omega)).trans k1
    have r2:=(q1 w.heap.size 2 (by simp;omega)).trans k2
    have f0:=(q2 w.heap.size 0 (by simp;omega)).trans e0
    have f1:=(q2 w.heap.size 1 (by simp;omega)).trans e1
    have f2:=(q2 w.heap.size 2 (by simp;omega)).trans e2
    have y0:w2.cell? ⟨w1.heap.size,0,none⟩=some (.bool x.l):=by rw [q1 _ _ (by simp)];simp
    have y1:w2.cell? ⟨w1.heap.size,1,none⟩=some (.string (bs x.b)):=by rw [q1 _ _ (by simp)];simp
    have y2:w2.cell? ⟨w1.heap.size,2,none⟩=some (.slice A x.ks.length c):=by rw [q1 _ _ (by simp)];simp
    have hv2:=(hvx.alloc (.cells #[.bool x.l,.string (bs x.b),.slice A x.ks.length c] 53)).keep (hb2.mono (by simp))
    have hw2:Below w.heap.size w w2:=(hw.alloc (by omega) _).trans (hb2.mono (by simp;omega))
    clear q1 q2 k0 k1 k2 e0 e1 e2 rf hb2
    by_cases hws:writeP x=s
    ·have hwb:(writeP x == s)=true:=by rw [beq_iff_eq];exact hws
     have HW:=qh hws
     clear hws
     go_wp2_with fail
     refine (qlg (countP x) x A c _ qn Hg.out.2.2.2.1 (hv2.mono fun b _ _=>⟨trivial,rfl⟩)).mono ?_
     rintro e w3 ⟨rfl,hb3⟩
     have hb3s:=hb3.size
     obtain ⟨q1,q2⟩:=bcell hb3
     have s0:=(q1 w.heap.size 0 (by omega)).trans r0
     have s1:=(q1 w.heap.size 1 (by omega)).trans r1
     have s2:=(q1 w.heap.size 2 (by omega)).trans r2
     have t0:=(q2 w.heap.size 0 (by omega)).trans f0
     have t1:=(q2 w.heap.size 1 (by omega)).trans f1
     have t2:=(q2 w.heap.size 2 (by omega)).trans f2
     have z0:=(q1 w1.heap.size 0 (by omega)).trans y0
     have z1:=(q1 w1.heap.size 1 (by omega)).trans y1
     have z2:=(q1 w1.heap.size 2 (by omega)).trans y2
     have hv3:=hv2.keep hb3
     have hw3:Below w.heap.size w w3:=hw2.trans (hb3.mono (by omega))
     clear q1 q2 r0 r1 r2 f0 f1 f2 y0 y1 y2 hb3
     by_cases hd:(8:Int) < depthP x
     ·go_wp2_with fail
      refine bodyPost_ret (v:=.tuple #[.agg #[.bool false,.string (bs []),.slice none 0 0],.int .i64 5]) (by simp [results,Tryz.results67,go_sem,s0,s1,s2];rfl) rfl ?_
      exact qbp 5 ((((hw3).setCell (p:=⟨w.heap.size,0,none⟩) qn _).setCell (p:=⟨w.heap.size,1,none⟩) qn _).setCell (p:=⟨w.heap.size,2,none⟩) qn _) (.inr (.inr (.inl ⟨by omega,rfl,rfl,x,g3,HW.out.symm,by omega⟩)))
     ·go_wp2_with fail
      refine bodyPost_ret (v:=.tuple #[.agg #[.bool x.l,.string (bs x.b),.slice A x.ks.length c],.int .i64 0]) (by simp [results,Tryz.results67,go_sem,s0,s1,s2]) rfl ?_
      refine ⟨(((hw3).setCell (p:=⟨w.heap.size,0,none⟩) qn _).setCell (p:=⟨w.heap.size,1,none⟩) qn _).setCell (p:=⟨w.heap.size,2,none⟩) qn _,x,A,c,0,rfl,?_,.inr (.inl ⟨by omega,rfl,g3,HW.out.symm,by omega⟩)⟩
      refine hv3.mono fun b hlt hs=>?_
      have hs':w.heap.size+1≤b:=by have:_≤b:=hs;simpa using this
      refine ⟨by show w.heap.size≤b;omega,?_⟩
      rw [Below.heap_setCell _ _ _ _ (by show b≠w.heap.size;omega),Below.heap_setCell _ _ _ _ (by show b≠w.heap.size;omega),Below.heap_setCell _ _ _ _ (by show b≠w.heap.size;omega)]
    ·have hwb:(writeP x == s)=false:=by rw [beq_eq_false_iff_ne];exact hws
     have HW:=qh hws
     clear hws
     go_wp2_with fail
     refine bodyPost_ret (v:=.tuple #[.agg #[.bool false,.string (bs []),.slice none 0 0],.int .i64 4]) (by simp [results,Tryz.results67,go_sem,r0,r1,r2];rfl) rfl ?_
     refine qbp 4 ((((hw2).setCell (p:=⟨w.heap.size,0,none⟩) qn _).setCell (p:=⟨w.heap.size,1,none⟩) qn _).setCell (p:=⟨w.heap.size,2,none⟩) qn _) (.inr (.inr (.inr ⟨by omega,rfl,rfl,fun y hy e=>HW.out ?_⟩)))
     rw [(Hp2.out y [] hy (by rw [List.append_nil];exact e)).2.1]
     exact e.symm
   ·obtain ⟨ni,hni⟩:∃ ni:Int,ni=n:=⟨_,rfl⟩
    rw [← hni]
    have hne:¬ ni=(s.length:Int):=by omega
    have HN:=qh hn
    clear hn hni
    go_wp2_with fail
    refine bodyPost_ret (v:=.tuple #[.agg #[.bool false,.string (bs []),.slice none 0 0],.int .i64 4]) (by simp [results,Tryz.results67,go_sem,k0,k1,k2];rfl) rfl ?_
    refine qbp 4 ((((hw.alloc (by omega) _).setCell (p:=⟨w.heap.size,0,none⟩) qn _).setCell (p:=⟨w.heap.size,1,none⟩) qn _).setCell (p:=⟨w.heap.size,2,none⟩) qn _) (.inr (.inr (.inr ⟨by omega,rfl,rfl,fun y hy e=>HN.out ?_⟩)))
    rw [(Hp2.out y [] hy (by rw [List.append_nil];exact e)).2.2,e]
/- Numbers: rlp.Value, rlp.Number, rlp.List, the reference's. -/
/-- what Value says -/
def valP (x:Item):Nat×Nat:=if x.l=true∨0 < x.ks.length∨8 < x.b.length∨digs (num x.b)≠x.b then (0,4) else (num x.b,0)
theorem qdb {x:Item} (h:x.l=true∨0 < x.ks.length∨8 < x.b.length∨digs (num x.b)≠x.b):valP x=(0,4):=if_pos h
theorem qia {x:Item} (h1:x.l=false) (h2:x.ks.length=0) (h3:x.b.length≤8) (h4:digs (num x.b)=x.b):valP x=(num x.b,0):=by
 unfold valP;rw [if_neg];rintro (h | h | h | h)
 ·rw [h1] at h;cases h
 ·omega
 ·omega
 ·exact h h4
theorem qmq {l:Bytes} {k:Nat} (h:l.length≤8) (hk:k < l.length):num (l.take k) < 72057594037927936:=by
 have h1:=qjz (l.take k)
 have h2:(256:Nat) ^ (l.take k).length≤256 ^ 7:=Nat.pow_le_pow_right (by omega) (by rw [List.length_take];omega)
 omega
theorem qqy {l:Bytes} (h:l.length≤8):num l < 18446744073709551616:=by
 have h1:=qjz l
 have h2:(256:Nat) ^ l.length≤256 ^ 8:=Nat.pow_le_pow_right (by omega) h
 omega
theorem step_or {l:Bytes} {k:Nat} (hk:k < l.length) (h8:l.length≤8) :
  Value.int .u64 (bits BinOp.or IntKind.u64 (IntKind.u64.wrap ((num (l.take k):Int) * 256)) (IntKind.u64.wrap ((l[k]).toNat:Int)))=.int .u64 (num (l.take (k+1)):Int):=by
 have hm:=qmq h8 hk
 have hd:=(l[k]).toNat_lt
 rw [IntWalk.u64_in _ (by omega),IntWalk.u64_in _ (by omega),qnt _ _ hm (by omega),qot (d:=l[k]) (by simp)]
 exact congrArg (Value.int .u64) (by omega)
theorem step_add {l:Bytes} {k:Nat} (hk:k < l.length) (h8:l.length≤8) :
  Value.int .u64 (IntKind.u64.wrap (IntKind.u64.wrap (256 * (num (l.take k):Int))+IntKind.u64.wrap ((l[k]).toNat:Int)))=.int .u64 (num (l.take (k+1)):Int):=by
 have hm:=qmq h8 hk
 have hd:=(l[k]).toNat_lt
 rw [IntWalk.u64_in (256 * _) (by omega),IntWalk.u64_in ((l[k]).toNat:Int) (by omega),IntWalk.u64_in _ (by omega),qot (d:=l[k]) (by simp)]
 exact congrArg (Value.int .u64) (by omega)
theorem digs_bad {c:UInt8} {r:Bytes} (h:c=0):digs (num (c :: r))≠c :: r:=fun e=>ql8 _ _ _ e h
theorem qt1 {c:UInt8} {r:Bytes} (h:c≠0):digs (num (c :: r))=c :: r:=qn8 _ (fun a l e=>by cases e;exact h)
theorem qcd (n:Int) (h0:0≤n) (hn:n < 18446744073709551616) (w:World) :
  Calls Tryz.prog 200 #[.int .u64 n] w fun e w'=>e=.returned (.agg #[.bool false,.string (bs (digs n.toNat)),.slice none 0 0])∧Below w.heap.size w w':=by
 go_enter Tryz.func200,Tryz.ntmps200
 go_wp2_with fail
 refine (ql1 n h0 hn _).mono ?_
 rintro e w1 ⟨rfl,hb1⟩
 have hw:=qa1 (hb1.mono (by simp))
 obtain ⟨q1,q2⟩:=bcell hb1
 have r0:w1.cell? ⟨w.heap.size,0,none⟩=some (.bool false):=by rw [q1 _ _ (by simp)];simp
 have r1:w1.cell? ⟨w.heap.size,1,none⟩=some (.string ⟨#[]⟩):=by rw [q1 _ _ (by simp)];simp
 have r2:w1.cell? ⟨w.heap.size,2,none⟩=some (.slice none 0 0):=by rw [q1 _ _ (by simp)];simp
 have rf:∀ o,w1.frozen? ⟨w.heap.size,o,none⟩=false:=fun o=>by rw [q2 _ _ (by simp)];simp
 clear q1 q2
 go_wp2_with fail
 refine bodyPost_ret (v:=.agg #[.bool false,.string (bs (digs n.toNat)),.slice none 0 0]) (by simp [results,Tryz.results200,go_sem,r0,r1,r2]) rfl ?_
 exact ⟨rfl,((hw.setCell (p:=⟨w.heap.size,0,none⟩) qn _).setCell (p:=⟨w.heap.size,1,none⟩) qn _).setCell (p:=⟨w.heap.size,2,none⟩) qn _⟩
theorem qkg (n:Int) (h0:0≤n) (hn:n < 18446744073709551616) (w:World) :
  Calls Tryz.prog 166 #[.int .u64 n] w fun e w'=>e=.returned (.agg #[.bool false,.string (bs (digs n.toNat)),.slice none 0 0])∧Below w.heap.size w w':=by
 go_enter Tryz.func166,Tryz.ntmps166
 go_wp2_with fail
 refine (qgf n h0 hn _).mono ?_
 rintro e w1 ⟨rfl,hb1⟩
 have hw:=qa1 (hb1.mono (by simp))
 obtain ⟨q1,q2⟩:=bcell hb1
 have r0:w1.cell? ⟨w.heap.size,0,none⟩=some (.bool false):=by rw [q1 _ _ (by simp)];simp
 have r1:w1.cell? ⟨w.heap.size,1,none⟩=some (.string ⟨#[]⟩):=by rw [q1 _ _ (by simp)];simp
 have r2:w1.cell? ⟨w.heap.size,2,none⟩=some (.slice none 0 0):=by rw [q1 _ _ (by simp)];simp
 have rf:∀ o,w1.frozen? ⟨w.heap.size,o,none⟩=false:=fun o=>by rw [q2 _ _ (by simp)];simp
 clear q1 q2
 go_wp2_with fail
 refine bodyPost_ret (v:=.agg #[.bool false,.string (bs (digs n.toNat)),.slice none 0 0]) (by simp [results,Tryz.results166,go_sem,r0,r1,r2]) rfl ?_
 exact ⟨rfl,((hw.setCell (p:=⟨w.heap.size,0,none⟩) qn _).setCell (p:=⟨w.heap.size,1,none⟩) qn _).setCell (p:=⟨w.heap.size,2,none⟩) qn _⟩
theorem qom (A:Option Addr) (m c:Nat) (w:World) :
  Calls Tryz.prog 57 #[.slice A m c] w fun e w'=>e=.returned (.agg #[.bool true,.string (bs []),.slice A m c])∧Below w.heap.size w w':=by
 go_enter Tryz.func57,Tryz.ntmps57
 go_wp2_with fail
 refine bodyPost_ret (v:=.agg #[.bool true,.string (bs []),.slice A m c]) (by simp [results,Tryz.results57,go_sem];rfl) rfl ?_
 exact ⟨rfl,by repeat' first | exact Below.refl _ _ | refine Below.setCell (p:=⟨w.heap.size,_,none⟩) ?_ qn _ | refine Below.alloc ?_ qn _⟩
theorem qrt (x:Item) (A:Option Addr) (c:Nat) (w:World) :
  Calls Tryz.prog 203 #[.agg #[.bool x.l,.string (bs x.b),.slice A x.ks.length c]] w fun e w' =>
   e=.returned (.tuple #[.int .u64 (valP x).1,.int .i64 (valP x).2])∧Below w.heap.size w w':=by
 cases hl:x.l with
 | true =>
  rw [qdb (.inl hl)]
  clear hl
  go_enter Tryz.func203,Tryz.ntmps203
  go_wp2_with fail
  go_ret2
  exact ⟨rfl,(Below.refl _ _).alloc qn _⟩
 | false =>
  by_cases hk:(0:Int) < x.ks.length
  ·rw [qdb (.inr (.inl (by omega)))]
   have hk2:decide (0 < x.ks.length)=true:=by rw [decide_eq_true_iff];omega
   clear hl
   go_enter Tryz.func203,Tryz.ntmps203
   go_wp2_with fail
   go_ret2
   exact ⟨rfl,(Below.refl _ _).alloc qn _⟩
  ·by_cases h8:(8:Int) < x.b.length
   ·rw [qdb (.inr (.inr (.inl (by omega))))]
    have hk2:decide (0 < x.ks.length)=false:=by rw [decide_eq_false_iff_not];omega
    have hk3:decide (8 < (x.b.length:Int))=true:=by rw [decide_eq_true_iff];omega
    clear hl hk
    go_enter Tryz.func203,Tryz.ntmps203
    go_wp2_with fail
    go_ret2
    exact ⟨rfl,(Below.refl _ _).alloc qn _⟩
   ·have Hh:=qh (And.intro hl (And.intro hk h8))
    have hk2:decide (0 < x.ks.length)=false:=by rw [decide_eq_false_iff_not];omega
    have hk3:decide (8 < (x.b.length:Int))=false:=by rw [decide_eq_false_iff_not];omega
    have h8':(x.b.length:Int)≤8:=by omega
    clear hl hk h8
    generalize hB:x.b=b at *
    have HB:=qh hB
    clear hB
    cases b with
    | nil =>
     have hz:valP x=(0,0):=by rw [qia Hh.out.1 (by have:=Hh.out.2.1;omega) (by rw [HB.out];simp) (by rw [HB.out];exact qb9),HB.out];rfl
     rw [hz]
     clear hz
     go_enter Tryz.func203,Tryz.ntmps203
     go_wp2_with fail
     refine wp_loop_rounds 1 ?_
     rw [rounds_succ]
     go_wp2_with fail
     go_ret2
     exact ⟨rfl,(Below.refl _ _).alloc qn _⟩
    | cons c0 r =>
     have hr8:(c0 :: r).length≤8:=by omega
     have hr8':(r.length:Int)+1≤8:=by simp only [List.length_cons] at hr8;omega
     have Hr8:=qh hr8
     clear hr8 h8'
     cases hc:((c0.toNat:Int) == 0) with
     | true =>
      have hz:valP x=(0,4):=qdb (.inr (.inr (.inr (by rw [HB.out];exact digs_bad (UInt8.toNat_inj.1 (by rw [beq_iff_eq] at hc;simp only [UInt8.toNat_zero];omega))))))
      rw [hz]
      clear hz
      go_enter Tryz.func203,Tryz.ntmps203
      go_wp2_with fail
      go_ret2
      exact ⟨rfl,(Below.refl _ _).alloc qn _⟩
     | false =>
      have hz:valP x=(num (c0 :: r),0):=by
       rw [qia Hh.out.1 (by have:=Hh.out.2.1;omega) (by rw [HB.out];exact Hr8.out) (by rw [HB.out];exact qt1 (fun h=>by subst h;simp at hc)),HB.out]
      rw [hz]
      clear hz
      go_enter Tryz.func203,Tryz.ntmps203
      go_wp2_with fail
      go_loopw [5,33] (fun a i wr=>∃ k:Nat,k≤(c0 :: r).length∧i=.int .i64 k∧a=.int .u64 (num ((c0 :: r).take k))∧wr=w.alloc (.cells #[.bool false,.string (bs (c0 :: r)),.slice A x.ks.length c] 53)) (fun _ i _=>(c0 :: r).length - (intOf i).toNat)
      case atStart=>exact ⟨0,Nat.zero_le _,rfl,rfl,rfl⟩
      case round =>
       obtain ⟨k,hkl,rfl,rfl,rfl⟩:=hrel
       by_cases hlt:k < (c0 :: r).length
       ·have hlt':(k:Int) < (r.length:Int)+1:=by simp only [List.length_cons] at hlt;omega
        have Hlt:=qh hlt
        clear hlt
        go_wp2_with fail
        refine ⟨⟨k+1,Hlt.out,by go_num,step_or Hlt.out Hr8.out,trivial⟩,?_⟩
        have:=Hlt.out
        simp only [intOf]
        omega
       ·obtain rfl:k=(c0 :: r).length:=by omega
        rw [List.take_length]
        have hlt':¬ ((c0 :: r).length:Int) < (r.length:Int)+1:=by simp only [List.length_cons];omega
        clear hlt
        go_wp2_with fail
        go_ret2
        exact ⟨rfl,(Below.refl _ _).alloc qn _⟩
theorem qgy (x:Item) (A:Option Addr) (c:Nat) (w:World) :
  Calls Tryz.prog 153 #[.agg #[.bool x.l,.string (bs x.b),.slice A x.ks.length c]] w fun e w' =>
   e=.returned (.tuple #[.int .u64 (valP x).1,.int .i64 (valP x).2])∧Below w.heap.size w w':=by
 cases hl:x.l with
 | true =>
  rw [qdb (.inl hl)]
  clear hl
  go_enter Tryz.func153,Tryz.ntmps153
  go_wp2_with fail
  go_ret2
  exact ⟨rfl,(Below.refl _ _).alloc qn _⟩
 | false =>
  by_cases hk:(0:Int) < x.ks.length
  ·rw [qdb (.inr (.inl (by omega)))]
   have hk2:decide (0 < x.ks.length)=true:=by rw [decide_eq_true_iff];omega
   clear hl
   go_enter Tryz.func153,Tryz.ntmps153
   go_wp2_with fail
   go_ret2
   exact ⟨rfl,(Below.refl _ _).alloc qn _⟩
  ·by_cases h8:(8:Int) < x.b.length
   ·rw [qdb (.inr (.inr (.inl (by omega))))]
    have hk2:decide (0 < x.ks.length)=false:=by rw [decide_eq_false_iff_not];omega
    have hk3:decide (8 < (x.b.length:Int))=true:=by rw [decide_eq_true_iff];omega
    clear hl hk
    go_enter Tryz.func153,Tryz.ntmps153
    go_wp2_with fail
    go_ret2
    exact ⟨rfl,(Below.refl _ _).alloc qn _⟩
   ·have Hh:=qh (And.intro hl (And.intro hk h8))
    have hk2:decide (0 < x.ks.length)=false:=by rw [decide_eq_false_iff_not];omega
    have hk3:decide (8 < (x.b.length:Int))=false:=by rw [decide_eq_false_iff_not];omega
    have h8':(x.b.length:Int)≤8:=by omega
    have Hr8:Hid (x.b.length≤8):=by show _≤_;omega
    clear hl hk h8
    go_enter Tryz.func153,Tryz.ntmps153
    go_wp2_with fail
    go_loopw [4,5] (fun a i wr=>∃ k:Nat,k≤x.b.length∧i=.int .i64 k∧a=.int .u64 (num (x.b.take k))∧wr=w.alloc (.cells #[.bool false,.string (bs x.b),.slice A x.ks.length c] 53)) (fun _ i _=>x.b.length - (intOf i).toNat)
    case atStart=>exact ⟨0,Nat.zero_le _,rfl,rfl,rfl⟩
    case round =>
     obtain ⟨k,hkl,rfl,rfl,rfl⟩:=hrel
     by_cases hlt:k < x.b.length
     ·have hlt':(k:Int) < x.b.length:=by omega
      have Hlt:=qh hlt
      clear hlt
      go_wp2_with fail
      refine ⟨⟨k+1,Hlt.out,by go_num,step_add Hlt.out Hr8.out,trivial⟩,?_⟩
      have:=Hlt.out
      simp only [intOf]
      omega
     ·obtain rfl:k=x.b.length:=by omega
      rw [List.take_length]
      have hlt':¬ (x.b.length:Int) < x.b.length:=by omega
      clear hlt
      go_wp2_with fail
      have hdg:∀ w,Calls Tryz.prog 174 #[.int .u64 (num x.b:Int)] w fun e w'=>e=.returned (.string (bs (digs (num x.b))))∧Below w.heap.size w w' :=
       fun w=>qgf (num x.b:Int) (by omega) (by have:=qqy Hr8.out;omega) w
      by_cases hd:digs (num x.b)=x.b
      ·have HV:=qh (qia Hh.out.1 (by have:=Hh.out.2.1;omega) Hr8.out hd)
       have hdb:(digs (num x.b) == x.b)=true:=by rw [beq_iff_eq];exact hd
       clear hd
       go_region_held3 (fun w'=>w'.cell? ⟨w.heap.size,1,none⟩=some (.string (bs x.b))) (first | (rw [(bcell hb1).1 _ _ (by simp)];simp;done) | go_keep)
        ((go_at_call 174;refine (hdg _).mono ?_;rintro e w1 ⟨rfl,hb1⟩))
       go_wp2_with fail
       go_ret2
       exact ⟨by rw [HV.out];rfl,qc5 hb1⟩
      ·have HV:=qh (qdb (.inr (.inr (.inr hd))))
       have hdb:(digs (num x.b) == x.b)=false:=by rw [beq_eq_false_iff_ne];exact hd
       clear hd
       go_region_held3 (fun w'=>w'.cell? ⟨w.heap.size,1,none⟩=some (.string (bs x.b))) (first | (rw [(bcell hb1).1 _ _ (by simp)];simp;done) | go_keep)
        ((go_at_call 174;refine (hdg _).mono ?_;rintro e w1 ⟨rfl,hb1⟩))
       go_wp2_with fail
       go_ret2
       exact ⟨by rw [HV.out];rfl,qc5 hb1⟩
end Go.Proofs.YteoednifdpdbnaaGreat
