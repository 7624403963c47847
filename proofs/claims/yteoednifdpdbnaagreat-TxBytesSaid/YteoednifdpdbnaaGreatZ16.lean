/- The walk of rlp.read. -/
import Derived.Test.YteoednifdpdbnaaGreatZ15
namespace Go.Proofs.YteoednifdpdbnaaGreat
set_option linter.unusedVariables false
set_option linter.unusedSimpArgs false
open Go.RowKit
set_option maxHeartbeats 1000000
/-- blocks from B on -/
def Fresh (B:Nat):Nat→Prop:=fun b=>B≤b
def ReadPost (s:Bytes) (w:World) (e:Ending) (w':World):Prop :=
 Below w.heap.size w w' ∧
 ((∃ x rest A c,pureP x=true∧s=writeP x ++ rest∧e=.returned (.tuple #[.agg #[.bool x.l,.string (bs x.b),.slice A x.ks.length c],.string (bs rest)])∧ItemV (Fresh w.heap.size) w' x A c) ∨
  (e=.panicked [{ v:=badV,recovered:=false }]∧NoItem s))
theorem qhm {s body rest:Bytes} {w W:World} (h:s=writeP (.mk false body []) ++ rest) (hb:Below w.heap.size w W) :
  ReadPost s w (.returned (.tuple #[.agg #[.bool false,.string (bs body),.slice none 0 0],.string (bs rest)])) W :=
 ⟨hb,.inl ⟨.mk false body [],rest,none,0,by simp [pureP,puresP],h,rfl,ItemV.leaf _ _⟩⟩
theorem qvn {s rest:Bytes} {w wr:World} {ks:List Item} {xs:List Value} {A:Option Addr} {c B:Nat} {u0 u1 u2:Value} (h:s=writeP (.mk true [] ks) ++ rest) (hp:puresP ks=true) (hb:Below w.heap.size w wr) (hB:w.heap.size < B)
  (hown:wr.ownsRow B 53 3 (.slice A ks.length c) ks.length xs) (hr:RepN (Fresh B) wr 3 (itemsD ks) xs) :
  ReadPost s w (.returned (.tuple #[.agg #[.bool true,.string (bs []),.slice A ks.length c],.string (bs rest)])) (((wr.setCell ⟨w.heap.size,0,none⟩ u0).setCell ⟨w.heap.size,1,none⟩ u1).setCell ⟨w.heap.size,2,none⟩ u2):=by
 refine ⟨((hb.setCell (p:=⟨w.heap.size,0,none⟩) qn _).setCell (p:=⟨w.heap.size,1,none⟩) qn _).setCell (p:=⟨w.heap.size,2,none⟩) qn _,.inl ⟨.mk true [] ks,rest,A,c,?_,h,rfl,?_⟩⟩
 ·simp [pureP,hp]
 ·have h1:Rep (Fresh B) wr (.sl 3 (itemsD ks)) [.slice A ks.length c]:=qb2 hown hr (qcp ks) (fun g hg _=>hg)
  refine qd8 (h1.mono fun b hlt hs=>⟨?_,?_⟩)
  ·have:B≤b:=hs
   show w.heap.size≤b
   omega
  ·have:B≤b:=hs
   rw [Below.heap_setCell _ _ _ _ (by show b≠w.heap.size;omega),Below.heap_setCell _ _ _ _ (by show b≠w.heap.size;omega),Below.heap_setCell _ _ _ _ (by show b≠w.heap.size;omega)]
theorem read_any (N:Nat):∀ (s:Bytes) (w:World),s.length < N→s.length≤4100 →
  Calls Tryz.prog 117 #[.string (bs s)] w (ReadPost s w):=by
 induction N with
 | zero=>intro s w hN;omega
 | succ N ih =>
  intro s w hN hM
  go_enter Tryz.func117,Tryz.ntmps117
  go_wp2_with fail
  refine (cut_any s _ (by omega)).mono ?_
  rintro e w1 ⟨hc,hb1⟩
  cases hcut:cutP s with
  | none =>
   rw [hcut] at hc
   obtain rfl:=hc
   have Hc:=qh hcut
   clear hcut
   go_wp2_with fail
   exact ⟨rfl,qa1 (hb1.mono (by simp)),.inr ⟨rfl,qi8 (by omega) Hc.out⟩⟩
  | some p =>
   obtain ⟨is,f,t⟩:=p
   rw [hcut] at hc
   simp only at hc
   obtain rfl:=hc
   have Hc:=qh hcut
   clear hcut
   by_cases ht:(s.length:Int) < t
   ·go_wp2_with fail
    exact ⟨rfl,qa1 (hb1.mono (by simp)),.inr ⟨rfl,qm5 (by omega) Hc.out (by omega)⟩⟩
   ·have hft:(f:Int)≤t:=by
     rcases qf3 Hc.out with ⟨_,rfl,rfl,_⟩ | ⟨_,h2,_⟩ <;> omega
    have hf0:(0:Int)≤f:=by omega
    have hd1:decide (s.length < t)=false:=by rw [decide_eq_false_iff_not];omega
    go_wp2_with fail
    go_quiet (fail)
    have hb2:=qbr hb1 nq
    generalize w1.drewN nq=w2 at *
    rw [show (s.drop t).take (s.length - t)=s.drop t from List.take_of_length_le (by simp)]
    have hbd:(s.drop f).take (t - f)=(s.take t).drop f:=by rw [List.drop_take]
    rw [hbd]
    have hbl:((s.take t).drop f).length=t - f:=by rw [List.length_drop,List.length_take];omega
    generalize hbody:(s.take t).drop f=body at *
    generalize hrest:s.drop t=rest at *
    have Hbody:=qh hbody
    have Hrest:=qh hrest
    have Hbl:=qh hbl
    clear hbody hrest hbl hbd hd1 hb1
    obtain ⟨q1,q2⟩:=bcell hb2
    have r0:w2.cell? ⟨w.heap.size,0,none⟩=some (.bool false):=by rw [q1 _ _ (by simp)];simp
    have r1:w2.cell? ⟨w.heap.size,1,none⟩=some (.string ⟨#[]⟩):=by rw [q1 _ _ (by simp)];simp
    have r2:w2.cell? ⟨w.heap.size,2,none⟩=some (.slice none 0 0):=by rw [q1 _ _ (by simp)];simp
    have rf:∀ o,w2.frozen? ⟨w.heap.size,o,none⟩=false:=fun o=>by rw [q2 _ _ (by simp)];simp
    clear q1 q2
    cases is with
    | false =>
     obtain ⟨fi,hfi⟩:∃ fi:Int,fi=f:=⟨_,rfl⟩
     rw [← hfi] at hft hf0 ⊢
     by_cases hsin:f=1∧body.length=1∧(body.headD 0).toNat < 128
     ·have hno:NoItem s:=by
       obtain ⟨rfl,h1,h2⟩:=hsin
       have hbb:=Hbody.out
       exact qnh (by omega) Hc.out (by omega) (by rw [hbb];exact h1) (by rw [hbb];exact h2)
      obtain ⟨hf1,h1,h2⟩:=hsin
      obtain ⟨d,rfl⟩:∃ d,body = [d]:=by
       match body,h1 with
       | [d],_=>exact ⟨d,rfl⟩
      obtain rfl:fi=1:=by omega
      have hd2:(d.toNat:Int) < 128:=by simp at h2;omega
      clear hf1 h1 h2 hft hf0 hfi
      go_wp2_with fail
      exact ⟨rfl,qa1 (hb2.mono (by simp)),.inr ⟨rfl,hno⟩⟩
     ·have hst:Hid (s=writeP (.mk false body []) ++ rest):=by
       have h:=qq4 (s:=s) (f:=f) (t:=t) Hc.out (by omega) (by rw [Hbody.out];exact hsin)
       rw [Hbody.out,Hrest.out] at h
       exact h
      have hway:(fi == 1)=false∨fi=1∧(((body.length:Int) == 1)=false∨(∃ d,body = [d]∧¬ (d.toNat:Int) < 128)):=by
       by_cases hf1:f=1
       ·refine .inr ⟨by omega,?_⟩
        match hb:body with
        | []=>exact .inl rfl
        | [d]=>exact .inr ⟨d,rfl,by have:=fun h=>hsin ⟨hf1,rfl,h⟩;simp at this;omega⟩
        | d :: d2 :: r=>exact .inl (by rw [beq_eq_false_iff_ne,List.length_cons,List.length_cons];omega)
       ·exact .inl (by rw [beq_eq_false_iff_ne];omega)
      have Hfi:=qh hfi
      clear hfi
      clear hsin hft hf0
      rcases hway with hfb | ⟨rfl,hnl | ⟨d,rfl,hd2⟩⟩
      ·go_wp2_with fail
       refine bodyPost_ret (v:=.tuple #[.agg #[.bool false,.string (bs body),.slice none 0 0],.string (bs rest)]) (by simp [results,Tryz.results117,go_sem,r0,r1,r2]) rfl ?_
       exact qhm hst.out ((((qa1 (hb2.mono (by simp))).setCell (p:=⟨w.heap.size,0,none⟩) qn _).setCell (p:=⟨w.heap.size,1,none⟩) qn _).setCell (p:=⟨w.heap.size,2,none⟩) qn _)
      ·go_wp2_with fail
       refine bodyPost_ret (v:=.tuple #[.agg #[.bool false,.string (bs body),.slice none 0 0],.string (bs rest)]) (by simp [results,Tryz.results117,go_sem,r0,r1,r2]) rfl ?_
       exact qhm hst.out ((((qa1 (hb2.mono (by simp))).setCell (p:=⟨w.heap.size,0,none⟩) qn _).setCell (p:=⟨w.heap.size,1,none⟩) qn _).setCell (p:=⟨w.heap.size,2,none⟩) qn _)
      ·go_wp2_with fail
       refine bodyPost_ret (v:=.tuple #[.agg #[.bool false,.string (bs [d]),.slice none 0 0],.string (bs rest)]) (by simp [results,Tryz.results117,go_sem,r0,r1,r2]) rfl ?_
       exact qhm hst.out ((((qa1 (hb2.mono (by simp))).setCell (p:=⟨w.heap.size,0,none⟩) qn _).setCell (p:=⟨w.heap.size,1,none⟩) qn _).setCell (p:=⟨w.heap.size,2,none⟩) qn _)
    | true =>
     clear hft hf0
     go_wp2_with fail
     go_loopw [7,10,52,55,56] (fun b _ _ _ _ wr=>∃ (body2:Bytes) (ks:List Item) (xs:List Value) (v:Value),b=.string (bs body2)∧wr.heap[w2.heap.size]? = some (.cells #[.bool true,.string ⟨#[]⟩,v] 53 (0,0)) ∧
       wr.ownsRow (w2.heap.size+1) 53 3 v ks.length xs∧RepN (RowS (w2.heap.size+1) v) wr 3 (itemsD ks) xs∧Hid (puresP ks=true∧body=writesP ks ++ body2)∧Below w2.heap.size w2 wr)
      (fun b _ _ _ _ _=>match b with | .string x=>x.size | _=>0)
     case atStart=>exact ⟨body,[],[],.slice none 0 0,rfl,heap_alloc_new w2 _,World.ownsRow_nil _ _ _ _,.nil,⟨rfl,rfl⟩,(Below.refl _ _).alloc qn _⟩
     case round =>
      obtain ⟨body2,ks,xs,v,rfl,hbx,hown,hr,HP,hb⟩:=hrel
      obtain ⟨A,c,rfl⟩:=qau hown
      have hbs:=hb.size
      have hlt:w.heap.size < w2.heap.size:=qap r0
      obtain ⟨q1,q2⟩:=bcell hb
      have s0:wr.cell? ⟨w.heap.size,0,none⟩=some (.bool false):=by rw [q1 _ _ hlt];exact r0
      have s1:wr.cell? ⟨w.heap.size,1,none⟩=some (.string ⟨#[]⟩):=by rw [q1 _ _ hlt];exact r1
      have s2:wr.cell? ⟨w.heap.size,2,none⟩=some (.slice none 0 0):=by rw [q1 _ _ hlt];exact r2
      have sf:∀ o,wr.frozen? ⟨w.heap.size,o,none⟩=false:=fun o=>by rw [q2 _ _ hlt];exact rf o
      have x0:wr.cell? ⟨w2.heap.size,0,none⟩=some (.bool true):=by rw [cell_of_row _ _ 0 _ _ _ hbx];rfl
      have x1:wr.cell? ⟨w2.heap.size,1,none⟩=some (.string ⟨#[]⟩):=by rw [cell_of_row _ _ 1 _ _ _ hbx];rfl
      have x2:wr.cell? ⟨w2.heap.size,2,none⟩=some (.slice A ks.length c):=by rw [cell_of_row _ _ 2 _ _ _ hbx];rfl
      have xf:∀ o,wr.frozen? ⟨w2.heap.size,o,none⟩=false:=fun o=>by simp [World.frozen?,hbx]
      clear q1 q2 r0 r1 r2 rf
      have Hbx:=qh hbx
      clear hbx
      by_cases hne:body2 = []
      ·subst hne
       have hst:Hid (s=writeP (.mk true [] ks) ++ rest):=by
        have h:=qu7 (s:=s) (f:=f) (t:=t) (ks:=ks) Hc.out (by omega) (by rw [Hbody.out,HP.out.2,List.append_nil])
        rw [Hrest.out] at h
        exact h
       go_wp2_with fail
       refine bodyPost_ret (v:=.tuple #[.agg #[.bool true,.string (bs []),.slice A ks.length c],.string (bs rest)]) (by simp [results,Tryz.results117,go_sem,s0,s1,s2];rfl) rfl ?_
       exact qvn hst.out HP.out.1 ((qa1 (hb2.mono (by simp))).trans (hb.mono (by omega))) (by omega) hown (hr.mono fun b _ hs=>⟨hs.1,rfl⟩)
      ·have hne2:(body2 == [])=false:=by rw [beq_eq_false_iff_ne];exact hne
       have hf1:1≤f∧f≤t:=by
        rcases qf3 Hc.out with ⟨h0,_⟩ | ⟨h1,h2,_⟩
        ·cases h0
        ·exact ⟨h1,h2⟩
       have hbody2:body2.length+1≤s.length:=by
        have h1:=congrArg List.length HP.out.2
        have h2:=Hbl.out
        rw [List.length_append] at h1
        omega
       clear hne hf1
       go_wp2_with fail
       refine (ih body2 _ (by omega) (by omega)).mono ?_
       rintro e w3 ⟨hb3,⟨x,rest2,A',c',hpx,hsx,rfl,hvx⟩ | ⟨rfl,hno⟩⟩
       ·have Hsx:=qh hsx
        clear hsx
        have hb3s:=hb3.size
        simp at hb3s
        obtain ⟨q1,q2⟩:=bcell hb3
        have y0:w3.cell? ⟨wr.heap.size,0,none⟩=some (.bool false):=by rw [q1 _ _ (by simp)];simp
        have y1:w3.cell? ⟨wr.heap.size,1,none⟩=some (.string ⟨#[]⟩):=by rw [q1 _ _ (by simp)];simp
        have y2:w3.cell? ⟨wr.heap.size,2,none⟩=some (.slice none 0 0):=by rw [q1 _ _ (by simp)];simp
        have yf:∀ o,w3.frozen? ⟨wr.heap.size,o,none⟩=false:=fun o=>by rw [q2 _ _ (by simp)];simp
        have hxl:w2.heap.size < wr.heap.size:=qap x0
        have z0:w3.cell? ⟨w2.heap.size,0,none⟩=some (.bool true):=by rw [q1 _ _ (by simp;omega),World.cell?_alloc_lt _ _ _ hxl];exact x0
        have z1:w3.cell? ⟨w2.heap.size,1,none⟩=some (.string ⟨#[]⟩):=by rw [q1 _ _ (by simp;omega),World.cell?_alloc_lt _ _ _ hxl];exact x1
        have z2:w3.cell? ⟨w2.heap.size,2,none⟩=some (.slice A ks.length c):=by rw [q1 _ _ (by simp;omega),World.cell?_alloc_lt _ _ _ hxl];exact x2
        have zf:∀ o,w3.frozen? ⟨w2.heap.size,o,none⟩=false:=fun o=>by rw [q2 _ _ (by simp;omega)];exact ((bcell ((Below.refl _ _).alloc qn _)).2 _ _ hxl).trans (xf o)
        have X2:=qh x2
        have Xf:=qh xf
        clear q1 q2 x0 x1 x2 xf
        have hB3:Below wr.heap.size wr w3:=((Below.refl _ _).alloc qn _).trans (hb3.mono (by simp))
        have hkl:ks.length≤4100:=by
         have h1:=congrArg List.length HP.out.2
         have h2:=qh4 ks
         have h3:=Hbl.out
         rw [List.length_append] at h1
         omega
        have hVb:=(((hB3.setCell (p:=⟨wr.heap.size,0,none⟩) qn (.bool x.l)).setCell (p:=⟨wr.heap.size,1,none⟩) qn (.string (bs x.b))).setCell (p:=⟨wr.heap.size,2,none⟩) qn (.slice A' x.ks.length c')).alloc (by simp [World.setCell];omega) (.cells #[.bool x.l,.string (bs x.b),.slice A' x.ks.length c'] 53)
        have hownV:=qax hown hVb
        have hVs:=hVb.size
        have g2:=qh (((bcell hVb).1 w2.heap.size 2 hxl).trans X2.out)
        have gf:=qh (((bcell hVb).2 w2.heap.size 2 hxl).trans (Xf.out 2))
        have HVb:=qh hVb
        clear hVb
        go_wp2_with (at_builtin;refine qaw qft rfl rfl (w2.heap.size+1) hownV rfl (m:=1) (itemC x A' c') rfl rfl (qbw _ _ (by simp [World.setCell]) #[.bool x.l,.string (bs x.b),.slice A' x.ks.length c'] _) (qil _ _ _) (by simp only [maxLen];omega) (by omega) (by omega) ?_;intro v1 w4 hown1 hg1 hat1;obtain ⟨A1,c1,rfl⟩:=qau hown1;have hb4:=qay (Below.refl _ _) hownV hg1 (by omega) qn;have e2:=((bcell hb4).1 w2.heap.size 2 (by omega)).trans g2.out;have ef:=((bcell hb4).2 w2.heap.size 2 (by omega)).trans gf.out;have Hb4:=qh hb4;clear hb4)
        go_roundw
        case rel =>
         have hVb:=HVb.out
         have hb4:=Hb4.out
         have hrV:RepN (RowS (w2.heap.size+1) (.slice A ks.length c)) _ 3 (itemsD ks) xs:=hr.keep hVb
         have hxV:=ItemV.mono (S':=RowS (w2.heap.size+1) (.slice A ks.length c)) hvx (w':=(((w3.setCell ⟨wr.heap.size,0,none⟩ (.bool x.l)).setCell ⟨wr.heap.size,1,none⟩ (.string (bs x.b))).setCell ⟨wr.heap.size,2,none⟩ (.slice A' x.ks.length c')).alloc (.cells #[.bool x.l,.string (bs x.b),.slice A' x.ks.length c'] 53)) (fun b hlt2 hs=>by
          have hs':wr.heap.size+1≤b:=by have:_≤b:=hs;simpa using this
          refine ⟨⟨by omega,fun he=>by have:=(hown.lt b he).2;omega⟩,?_⟩
          rw [Below.heap_alloc _ _ _ (by simp [World.setCell];omega),Below.heap_setCell _ _ _ _ (by show b≠wr.heap.size;omega),Below.heap_setCell _ _ _ _ (by show b≠wr.heap.size;omega),Below.heap_setCell _ _ _ _ (by show b≠wr.heap.size;omega)])
         have hr4:=qci (sz:=3) (RepN.append (.cons (sz:=3) hxV rfl .nil) hrV) hg1 hat1
         refine ⟨rest2,ks ++ [x],xs ++ itemC x A' c',.slice A1 (ks.length+1) c1,rfl,?_,?_,?_,?_,?_⟩
         ·exact qaa (((hb4.block _ (by omega)).trans (hVb.block _ (by omega))).trans Hbx.out) _
         ·have:=ownsRow_setCell_below hown1 (a:=⟨w2.heap.size,2,none⟩) (by show w2.heap.size < _;omega) (.slice A1 (ks.length+1) c1)
          simpa using this
         ·rw [qbo]
          refine RepN.mono (by simpa [itemsD] using hr4) fun b _ hs=>⟨hs,Below.heap_setCell _ _ _ _ (by show b≠w2.heap.size;have:=hs.1;omega)⟩
         ·exact ⟨by rw [qcf,HP.out.1];simp [puresP,hpx],by rw [HP.out.2,qcs,Hsx.out];simp [writesP]⟩
         ·exact ((hb.trans (hVb.mono hbs)).trans (hb4.mono (by omega))).setCell (p:=⟨w2.heap.size,2,none⟩) qn _
        case measure =>
         have h1:=congrArg List.length Hsx.out
         have h2:=qcq x
         rw [List.length_append] at h1
         simp only [size_bs]
         omega
       ·go_wp2_with fail
        refine ⟨rfl,(qa1 (hb2.mono (by simp))).trans ((qco hb hbs hb3).mono (by omega)),.inr ⟨rfl,?_⟩⟩
        exact qp5 (by omega) Hc.out (by omega) HP.out.1 (by rw [Hbody.out];exact HP.out.2) (by rw [beq_eq_false_iff_ne] at hne2;exact hne2) hno
end Go.Proofs.YteoednifdpdbnaaGreat
