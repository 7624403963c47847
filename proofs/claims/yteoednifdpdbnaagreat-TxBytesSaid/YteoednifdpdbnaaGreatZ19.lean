/- The walk of ecclesiaref03.round. -/
import Derived.Test.YteoednifdpdbnaaGreatZ10
import Derived.Deep.RegionWith
namespace Go.Proofs.YteoednifdpdbnaaGreat
set_option linter.unusedVariables false
set_option linter.unusedSimpArgs false
open Go.RowKit
set_option maxHeartbeats 4000000
set_option maxRecDepth 100000
/-- the blocks of the reference's round: the state, the result, two rows -/
structure RefSt (B:Nat) (w wr:World) (a c:List W64):Prop where
 bel:Below B w wr
 ra:WRow wr B a 154
 rres:WRow wr (B+1) (List.replicate 25 0) 154
 rc:WRow wr (B+1+1) c 277
theorem RefSt.drew {B:Nat} {w wr:World} {a c:List W64} (h:RefSt B w wr a c):RefSt B w wr.drew a c:=⟨h.bel.drew,h.ra,h.rres,h.rc⟩
theorem RefSt.setC {B:Nat} {w wr:World} {a c:List W64} (h:RefSt B w wr a c) (i:Nat) (v:W64):RefSt B w (wr.setCell ⟨B+1+1,i,none⟩ (.int .u64 (wv v))) a (c.set i v) :=
 ⟨h.bel.setCell (p:=⟨_,_,_⟩) (by show B≤B+1+1;omega) _,h.ra.other (by omega) _,h.rres.other (by omega) _,h.rc.set i v⟩
theorem RefSt.setO {B b:Nat} {w wr:World} {a c:List W64} (h:RefSt B w wr a c) (hb:B+1+1 < b) (i:Nat) (v:Value):RefSt B w (wr.setCell ⟨b,i,none⟩ v) a c :=
 ⟨h.bel.setCell (p:=⟨_,_,_⟩) (by show B≤b;omega) _,h.ra.other (by omega) _,h.rres.other (by omega) _,h.rc.other (by omega) _⟩
theorem RefSt.alloc {B:Nat} {w wr:World} {a c:List W64} (h:RefSt B w wr a c) (o:Obj):RefSt B w (wr.alloc o) a c :=
 ⟨h.bel.alloc (by have:=h.ra.lt;omega) _,h.ra.alloc _,h.rres.alloc _,h.rc.alloc _⟩
theorem RefSt.rowO {B b:Nat} {w wr:World} {a c:List W64} (h:RefSt B w wr a c) (hb:B+1+1 < b) (cs:Array Value):RefSt B w (wr.setRow b cs) a c :=
 ⟨qak h.bel (by omega) _,h.ra.rowOther (by omega) _,h.rres.rowOther (by omega) _,h.rc.rowOther (by omega) _⟩
theorem RefSt.keep {B:Nat} {w wr w':World} {a c:List W64} (h:RefSt B w wr a c) (hb:Below wr.heap.size wr w'):RefSt B w w' a c :=
 ⟨h.bel.trans (hb.mono (by have:=h.ra.lt;omega)),h.ra.keep hb h.ra.lt,h.rres.keep hb h.rres.lt,h.rc.keep hb h.rc.lt⟩
theorem qrj:Tryz.prog.built 154 []=some (wsC (List.replicate 25 0)):=by kernel_rfl
theorem qgm {ops:Array Oper} {rest:List Oper} {o:Oper} {a:Act} {w:World} {Q:Exit→Act→World→Prop} (hg:o.guard=none) (ho:o.op=.build 154 #[])
  (h:wpList Tryz.prog ops Q rest (a.put o.dst (.agg (wsC (List.replicate 25 0)))) w):wpList Tryz.prog ops Q (o :: rest) a w:=by
 refine wpList_build hg _ _ ho (by simp [qrj]) ?_
 simp only [List.map_toArray,List.map_nil,qrj,Option.getD_some]
 exact h
def cTab (a:List W64) (x:Nat):List W64:=tab 5 (fun x=>rCk a x 5) (fun _=>0) x
def cMid (a:List W64) (x y:Nat):List W64:=(cTab a x).set x (rCk a x y)
theorem qtg (a:List W64) (x:Nat) (hx:x < 5):cMid a x 0=cTab a x:=by
 have h:=qke (cTab a x) x 0
 have e:(cTab a x).getD x 0=0:=by unfold cTab;rw [List.getD_eq_getElem?_getD,qd7 hx];simp
 rw [e] at h
 exact h
theorem cMid_all (a:List W64) (x:Nat):cMid a x 5=cTab a (x+1):=qc8
theorem cMid_len (a:List W64) (x y:Nat):(cMid a x y).length=5:=by simp [cMid,cTab,qby]
theorem cMid_get (a:List W64) (x y:Nat) (hx:x < 5):(cMid a x y).getD x 0=rCk a x y:=by
 unfold cMid cTab;rw [List.getD_eq_getElem?_getD,List.getElem?_set];simp [qby,hx]
theorem cMid_set (a:List W64) (x y:Nat):(cMid a x y).set x (rCk a x y ^^^ a.getD (atP x y) 0)=cMid a x (y+1):=by
 unfold cMid;rw [List.set_set];rfl
theorem cTab_all (a:List W64):cTab a 5=(List.range 5).map (kC a):=by
 unfold cTab
 rw [qgc]
 exact List.map_congr_left fun x hx=>rCk_eq a x (List.mem_range.1 hx)
theorem qja (x y:Nat):atP x y < 25:=by unfold atP;omega
theorem qpk (a:W64):(18446744073709551615:Int) - wv a=wv (~~~ a):=by
 have:=w_lt a
 unfold wv
 rw [BitVec.toNat_not]
 omega
theorem qmi (a:List W64) (n:Nat) (hn:n < 24) (ha:a.length=25) (w:World) :
  Calls Tryz.prog 167 #[.agg (wsC a),.int .i64 n] w fun e w'=>e=.returned (.agg (wsC (roundK a (lastL.getD n 0))))∧Below w.heap.size w w':=by
 have HA:=qh ha
 have hz:(wsC (List.replicate 25 0))=#[.int .u64 0,.int .u64 0,.int .u64 0,.int .u64 0,.int .u64 0,.int .u64 0,.int .u64 0,.int .u64 0,.int .u64 0,.int .u64 0,.int .u64 0,.int .u64 0,.int .u64 0,.int .u64 0,.int .u64 0,.int .u64 0,.int .u64 0,.int .u64 0,.int .u64 0,.int .u64 0,.int .u64 0,.int .u64 0,.int .u64 0,.int .u64 0,.int .u64 0]:=by
  rw [qct];simp only [List.replicate]
 have hz5:(wsC (List.replicate 5 0))=#[.int .u64 0,.int .u64 0,.int .u64 0,.int .u64 0,.int .u64 0]:=by rw [qct];simp only [List.replicate]
 have HZ:=qh hz
 have HZ5:=qh hz5
 clear ha hz hz5
 go_enter Tryz.func167,Tryz.ntmps167
 go_wp2_with fail
 rw [← HZ.out]
 have hst:RefSt w.heap.size w (((w.alloc (.cells (wsC a) 154)).alloc (.cells (wsC (List.replicate 25 0)) 154)).alloc (.cells #[.int .u64 0,.int .u64 0,.int .u64 0,.int .u64 0,.int .u64 0] 277)) a (List.replicate 5 0):=by
  refine ⟨(((Below.refl _ _).alloc qn _).alloc (by simp) _).alloc (by simp;omega) _,((WRow.new _ _ _).alloc _).alloc _,?_,?_⟩
  ·have:=WRow.new (w.alloc (.cells (wsC a) 154)) (List.replicate 25 0) 154
   rw [World.size_alloc] at this
   exact this.alloc _
  ·have:=WRow.new ((w.alloc (.cells (wsC a) 154)).alloc (.cells (wsC (List.replicate 25 0)) 154)) (List.replicate 5 0) 277
   rw [World.size_alloc,World.size_alloc,HZ5.out] at this
   exact this
 go_loopw [6,7] (fun x _ wr=>∃ k:Nat,k≤5∧x=.int .i64 k∧RefSt w.heap.size w wr a (cTab a k)) (fun x _ _=>5 - (intOf x).toNat)
 case atStart=>exact ⟨0,by omega,rfl,hst⟩
 case round =>
  clear hst
  obtain ⟨x,hx,rfl,hs⟩:=hrel
  by_cases hlt:x < 5
  ·as_aux_lemma =>
   have hlt':(x:Int) < 5:=by omega
   go_wp2_with fail
   obtain ⟨wo,rfl⟩:∃ wo:World,wo=wr:=⟨_,rfl⟩
   go_loopw [7] (fun y wr=>∃ k:Nat,k≤5∧y=.int .i64 k∧RefSt w.heap.size w wr a (cMid a x k)) (fun y _=>5 - (intOf y).toNat)
   case atStart=>exact ⟨0,by omega,rfl,by rw [qtg _ _ hlt];exact hs⟩
   case round =>
    clear hs
    obtain ⟨y,hy,rfl,hs⟩:=hrel
    by_cases hlt2:y < 5
    ·as_aux_lemma =>
     have hlt2':(y:Int) < 5:=by omega
     go_wp2_with fail
     refine qcl 11 (by kernel_rfl) (by kernel_rfl) ?_
     intro w2 hw2
     replace hs:RefSt w.heap.size w w2 a (cMid a x y):=by rw [hw2];exact hs.drew
     clear hw2
     have hat:=fun w=>qjw x y (by omega) (by omega) w
     have htl:=qja x y
     have c0:=hs.rc.at_ (i:=x) (by rw [cMid_len];omega)
     rw [cMid_get _ _ _ hlt] at c0
     have f0:=hs.rc.free x
     have hst:=cMid_set a x y
     obtain ⟨t,ht⟩:∃ t,atP x y=t:=⟨_,rfl⟩
     rw [ht] at hat htl hst
     have c1:=hs.ra.at_ (i:=t) (by rw [HA.out];omega)
     obtain ⟨v,hv⟩:∃ v,a.getD t 0=v:=⟨_,rfl⟩
     obtain ⟨u,hu⟩:∃ u,rCk a x y=u:=⟨_,rfl⟩
     rw [hv] at c1 hst
     rw [hu] at c0 hst
     have b2:(t:Int) < 25:=by omega
     have HS:=qh hs
     have HI:=qh hst
     have HAT:=qh hat
     clear hs hst hat ht hv hu
     intro R hR
     simp only [List.take_succ_cons,List.take_zero]
     repeat (first | go_big_quiet_skip | (go_big_quiet_want;go_big_quiet_op;first | go_big_quiet_on | ((with_reducible refine ⟨_,HAT.out _,?_⟩);go_big_quiet_on)))
     refine wpQuiet_nil (hR _ ?_)
     clear hR R
     simp only [List.drop_succ_cons,List.drop_zero]
     go_wp2_with fail
     go_roundw
     case rel =>
      refine ⟨y+1,by omega,by go_num,?_⟩
      have:=HS.out.setC x (u ^^^ v)
      rw [HI.out] at this
      exact this
     case measure=>simp [intOf];omega
    ·as_aux_lemma =>
     obtain rfl:y=5:=by omega
     rw [cMid_all] at hs
     go_wp2_with fail
     go_roundw
     case rel=>exact ⟨x+1,by omega,by go_num,hs⟩
     case measure=>simp [intOf];omega
  ·as_aux_lemma =>
   obtain rfl:x=5:=by omega
   rw [cTab_all] at hs
   rw [show ((5:Nat):Int)=5 from rfl]
   obtain ⟨c,hc⟩:∃ c,(List.range 5).map (kC a)=c:=⟨_,rfl⟩
   rw [hc] at hs
   have hcl:c.length=5:=by rw [← hc];simp
   have HC:=qh hc
   have HCL:=qh hcl
   clear hc hcl hlt
   obtain ⟨wo,rfl⟩:∃ wo:World,wo=wr:=⟨_,rfl⟩
   have hBl:=hs.rc.lt
   have rb0:=WRow.new wo (List.replicate 25 0) 154
   have hsb:=(hs.alloc (.cells (wsC (List.replicate 25 0)) 154)).rowO (b:=wo.heap.size) hBl (wsC (List.replicate 25 0))
   have rb:=rb0.row (List.replicate 25 0)
   have i0:=qdk (List.replicate 25 0) rfl
   have o0:=qcz (List.replicate 25 0)
   have s0:(#[.int .u64 0,.int .u64 0,.int .u64 0,.int .u64 0,.int .u64 0,.int .u64 0,.int .u64 0,.int .u64 0,.int .u64 0,.int .u64 0,.int .u64 0,.int .u64 0,.int .u64 0,.int .u64 0,.int .u64 0,.int .u64 0,.int .u64 0,.int .u64 0,.int .u64 0,.int .u64 0,.int .u64 0,.int .u64 0,.int .u64 0,.int .u64 0,.int .u64 0]:Array Value).size=(wsC (List.replicate 25 0)).size:=by rw [HZ.out]
   have hsb':=(hs.alloc (.cells #[.int .u64 0,.int .u64 0,.int .u64 0,.int .u64 0,.int .u64 0,.int .u64 0,.int .u64 0,.int .u64 0,.int .u64 0,.int .u64 0,.int .u64 0,.int .u64 0,.int .u64 0,.int .u64 0,.int .u64 0,.int .u64 0,.int .u64 0,.int .u64 0,.int .u64 0,.int .u64 0,.int .u64 0,.int .u64 0,.int .u64 0,.int .u64 0,.int .u64 0] 154)).rowO (b:=wo.heap.size) hBl (wsC (List.replicate 25 0))
   clear hsb rb
   have hsb:=hsb'
   clear hsb'
   rw [HZ.out] at rb0
   have rb:=WRow.row (w:=wo.alloc (.cells #[.int .u64 0,.int .u64 0,.int .u64 0,.int .u64 0,.int .u64 0,.int .u64 0,.int .u64 0,.int .u64 0,.int .u64 0,.int .u64 0,.int .u64 0,.int .u64 0,.int .u64 0,.int .u64 0,.int .u64 0,.int .u64 0,.int .u64 0,.int .u64 0,.int .u64 0,.int .u64 0,.int .u64 0,.int .u64 0,.int .u64 0,.int .u64 0,.int .u64 0] 154)) (l:=List.replicate 25 0) rb0 (List.replicate 25 0)
   unfold WRow at rb0
   rw [HZ.out] at rb0
   go_wp2_with (first | (refine qgm rfl rfl ?_) | (refine wpList_store_row rfl _ _ _ rfl wo.heap.size (wsC (List.replicate 25 0)) rfl rfl _ _ rb0 i0 s0 o0 ?_))
   go_outline
   clear rb0 i0 o0
   obtain ⟨O,hO⟩:∃ O,wo.heap.size=O:=⟨_,rfl⟩
   rw [hO] at hBl rb hsb ⊢
   have HO:=qh hO
   clear hO
   go_loopw [9,10,11] (fun x _ _ wr=>∃ k:Nat,k≤5∧x=.int .i64 k∧RefSt w.heap.size w wr a c∧WRow wr O (rB a c (5 * k)) 154) (fun x _ _ _=>5 - (intOf x).toNat)
   case atStart=>exact ⟨0,by omega,rfl,hsb,rb⟩
   case round =>
    clear hs hsb rb
    obtain ⟨x,hx,rfl,hs,rb⟩:=hrel
    by_cases hlt:x < 5
    ·as_aux_lemma =>
     have hlt':(x:Int) < 5:=by omega
     go_wp2_with fail
     refine qcl 12 (by kernel_rfl) (by kernel_rfl) ?_
     intro w2 hw2
     replace hs:RefSt w.heap.size w w2 a c:=by rw [hw2];exact hs.drew
     replace rb:WRow w2 O (rB a c (5 * x)) 154:=by rw [hw2];exact rb.drew
     clear hw2
     have c0:=hs.rc.at_ (i:=(x+4) % 5) (by rw [HCL.out];omega)
     have c1:=hs.rc.at_ (i:=(x+1) % 5) (by rw [HCL.out];omega)
     obtain ⟨p1,q1,r1⟩:=sum_i x 4 4 rfl (by omega)
     obtain ⟨p2,q2,r2⟩:=sum_i x 1 1 rfl (by omega)
     have m1:=mod_i (x+4) 5 ((x:Int)+4) 5 (by omega) rfl
     have m2:=mod_i (x+1) 5 ((x:Int)+1) 5 (by omega) rfl
     have b1:(((x+4) % 5:Nat):Int) < 5:=by omega
     have b2:(((x+1) % 5:Nat):Int) < 5:=by omega
     have hd:rD c x=c.getD ((x+4) % 5) 0 ^^^ rotl (c.getD ((x+1) % 5) 0) 1:=rfl
     obtain ⟨i1,hi1⟩:∃ i1,(x+4) % 5=i1:=⟨_,rfl⟩
     obtain ⟨i2,hi2⟩:∃ i2,(x+1) % 5=i2:=⟨_,rfl⟩
     rw [hi1] at c0 m1 b1 hd
     rw [hi2] at c1 m2 b2 hd
     obtain ⟨u1,hu1⟩:∃ u,c.getD i1 0=u:=⟨_,rfl⟩
     obtain ⟨u2,hu2⟩:∃ u,c.getD i2 0=u:=⟨_,rfl⟩
     rw [hu1] at c0 hd
     rw [hu2] at c1 hd
     have HD:=qh hd
     have HS:=qh (And.intro hs rb)
     clear hs rb hd hi1 hi2 hu1 hu2
     intro R hR
     simp only [List.take_succ_cons,List.take_zero]
     repeat (first | go_big_quiet_skip | (go_big_quiet_want;go_big_quiet_op;first | go_big_quiet_on | ((with_reducible refine ⟨_,left_one _ _,?_⟩);go_big_quiet_on)))
     refine wpQuiet_nil (hR _ ?_)
     clear hR R
     simp only [List.drop_succ_cons,List.drop_zero]
     obtain ⟨wo2,rfl⟩:∃ wo:World,wo=w2:=⟨_,rfl⟩
     go_wp2_with fail
     obtain ⟨d,hde⟩:∃ d,u1 ^^^ rotl u2 1=d:=⟨_,rfl⟩
     rw [hde]
     have HDE:=qh hde
     clear hde
     clear p1 q1 r1 p2 q2 r2 m1 m2 b1 b2 c0 c1
     go_loopw [11] (fun y wr=>∃ k:Nat,k≤5∧y=.int .i64 k∧RefSt w.heap.size w wr a c∧WRow wr O (rB a c (5 * x+k)) 154) (fun y _=>5 - (intOf y).toNat)
     case atStart=>exact ⟨0,by omega,rfl,HS.out.1,HS.out.2⟩
     case round =>
      obtain ⟨y,hy,rfl,hs,rb⟩:=hrel
      by_cases hlt2:y < 5
      ·as_aux_lemma =>
       have hlt2':(y:Int) < 5:=by omega
       go_wp2_with fail
       refine qcl 19 (by kernel_rfl) (by kernel_rfl) ?_
       intro w2 hw2
       replace hs:RefSt w.heap.size w w2 a c:=by rw [hw2];exact hs.drew
       replace rb:WRow w2 O (rB a c (5 * x+y)) 154:=by rw [hw2];exact rb.drew
       clear hw2
       have ht1:=qja x y
       have ht2:=qja y (2 * x+3 * y)
       have htn:=byL_lt (x+5 * y) (by omega)
       have hst:rB a c (5 * x+y+1)=(rB a c (5 * x+y)).set (atP y (2 * x+3 * y)) (rotl (a.getD (atP x y) 0 ^^^ rD c x) (byL.getD (x+5 * y) 0)):=by
        rw [rB,show (5 * x+y) % 5=y by omega,show (5 * x+y) / 5=x by omega,show atP x y=x+5 * y by unfold atP;omega]
       rw [HD.out,HDE.out] at hst
       have hA1:=fun w=>qjw y (2 * x+3 * y) (by omega) (by omega) w
       have hA2:=fun w=>qjw x y (by omega) (by omega) w
       have hA3:=fun w=>turn_any x y hlt hlt2 w
       obtain ⟨t1,ht1e⟩:∃ t,atP x y=t:=⟨_,rfl⟩
       obtain ⟨t2,ht2e⟩:∃ t,atP y (2 * x+3 * y)=t:=⟨_,rfl⟩
       obtain ⟨b,hbe⟩:∃ b,byL.getD (x+5 * y) 0=b:=⟨_,rfl⟩
       have hbt:turnP x y=b:=hbe
       rw [ht1e] at ht1 hst hA2
       rw [ht2e] at ht2 hst hA1
       rw [hbe] at hst htn
       rw [hbt] at hA3
       have hA4:=fun v w=>qnw v b htn w
       obtain ⟨z,hz⟩:∃ z:Nat,2 * x+3 * y=z:=⟨_,rfl⟩
       have c1:=hs.ra.at_ (i:=t1) (by rw [HA.out];omega)
       have c2:=rb.at_ (i:=t2) (by rw [rB_len];omega)
       have f2:=rb.free t2
       obtain ⟨v,hv⟩:∃ v,a.getD t1 0=v:=⟨_,rfl⟩
       rw [hv] at c1 hst
       have b1:(t1:Int) < 25:=by omega
       have b2:(t2:Int) < 25:=by omega
       have p1:IntKind.i64.wrap (2 * (x:Int))=2 * (x:Int):=IntWalk.i64_in _ (by omega)
       have p2:IntKind.i64.wrap (3 * (y:Int))=3 * (y:Int):=IntWalk.i64_in _ (by omega)
       have p3:IntKind.i64.wrap (2 * (x:Int)+3 * (y:Int))=(z:Int):=by rw [IntWalk.i64_in _ (by omega)];omega
       rw [hz] at hA1
       have HI:=qh hst
       have H1:=qh hA1
       have H2:=qh hA2
       have H3:=qh hA3
       have H4:=qh hA4
       have HS:=qh (And.intro hs rb)
       clear hs rb hst hA1 hA2 hA3 hA4 ht1e ht2e hbe hbt hz hv
       intro R hR
       simp only [List.take_succ_cons,List.take_zero]
       repeat (first | go_big_quiet_skip | (go_big_quiet_want;go_big_quiet_op;first | go_big_quiet_on | ((with_reducible refine ⟨_,H1.out _,?_⟩);go_big_quiet_on) | ((with_reducible refine ⟨_,H2.out _,?_⟩);go_big_quiet_on) | ((with_reducible refine ⟨_,H3.out _,?_⟩);go_big_quiet_on) | ((with_reducible refine ⟨_,H4.out _ _,?_⟩);go_big_quiet_on)))
       refine wpQuiet_nil (hR _ ?_)
       clear hR R
       simp only [List.drop_succ_cons,List.drop_zero]
       go_wp2_with fail
       go_roundw
       case rel =>
        refine ⟨y+1,by omega,by go_num,HS.out.1.setO hBl _ _,?_⟩
        have:=HS.out.2.set t2 (rotl (v ^^^ d) b)
        rw [← HI.out] at this
        exact this
       case measure=>simp [intOf];omega
      ·as_aux_lemma =>
       obtain rfl:y=5:=by omega
       go_wp2_with fail
       go_roundw
       case rel=>exact ⟨x+1,by omega,by go_num,hs,by rw [Nat.mul_add];exact rb⟩
       case measure=>simp [intOf];omega
    ·as_aux_lemma =>
     obtain rfl:x=5:=by omega
     rw [show ((5:Nat):Int)=5 from rfl]
     rw [show 5 * 5=25 from rfl,rB_eq a c HA.out] at rb
     obtain ⟨b,hb⟩:∃ b,kB a ((List.range 5).map (kD c)) 25=b:=⟨_,rfl⟩
     have hbl:b.length=25:=by rw [← hb];exact qrb _ _ _
     rw [hb] at rb
     have HB:=qh hb
     have HBL:=qh hbl
     clear hb hbl hlt
     obtain ⟨wo3,rfl⟩:∃ wo:World,wo=wr:=⟨_,rfl⟩
     have hOl:=rb.lt
     have ro0:=WRow.new wo3 (List.replicate 25 0) 154
     have i0:=qdk (List.replicate 25 0) rfl
     have o0:=qcz (List.replicate 25 0)
     have s0:(#[.int .u64 0,.int .u64 0,.int .u64 0,.int .u64 0,.int .u64 0,.int .u64 0,.int .u64 0,.int .u64 0,.int .u64 0,.int .u64 0,.int .u64 0,.int .u64 0,.int .u64 0,.int .u64 0,.int .u64 0,.int .u64 0,.int .u64 0,.int .u64 0,.int .u64 0,.int .u64 0,.int .u64 0,.int .u64 0,.int .u64 0,.int .u64 0,.int .u64 0]:Array Value).size=(wsC (List.replicate 25 0)).size:=by rw [HZ.out]
     have hso:=(hs.alloc (.cells #[.int .u64 0,.int .u64 0,.int .u64 0,.int .u64 0,.int .u64 0,.int .u64 0,.int .u64 0,.int .u64 0,.int .u64 0,.int .u64 0,.int .u64 0,.int .u64 0,.int .u64 0,.int .u64 0,.int .u64 0,.int .u64 0,.int .u64 0,.int .u64 0,.int .u64 0,.int .u64 0,.int .u64 0,.int .u64 0,.int .u64 0,.int .u64 0,.int .u64 0] 154)).rowO (b:=wo3.heap.size) (by omega) (wsC (List.replicate 25 0))
     have rbo:=(rb.alloc (.cells #[.int .u64 0,.int .u64 0,.int .u64 0,.int .u64 0,.int .u64 0,.int .u64 0,.int .u64 0,.int .u64 0,.int .u64 0,.int .u64 0,.int .u64 0,.int .u64 0,.int .u64 0,.int .u64 0,.int .u64 0,.int .u64 0,.int .u64 0,.int .u64 0,.int .u64 0,.int .u64 0,.int .u64 0,.int .u64 0,.int .u64 0,.int .u64 0,.int .u64 0] 154)).rowOther (b:=wo3.heap.size) (by omega) (wsC (List.replicate 25 0))
     rw [HZ.out] at ro0
     have ro:=WRow.row (w:=wo3.alloc (.cells #[.int .u64 0,.int .u64 0,.int .u64 0,.int .u64 0,.int .u64 0,.int .u64 0,.int .u64 0,.int .u64 0,.int .u64 0,.int .u64 0,.int .u64 0,.int .u64 0,.int .u64 0,.int .u64 0,.int .u64 0,.int .u64 0,.int .u64 0,.int .u64 0,.int .u64 0,.int .u64 0,.int .u64 0,.int .u64 0,.int .u64 0,.int .u64 0,.int .u64 0] 154)) (l:=List.replicate 25 0) ro0 (List.replicate 25 0)
     unfold WRow at ro0
     rw [HZ.out] at ro0
     go_wp2_with (first | (refine qgm rfl rfl ?_) | (refine wpList_store_row rfl _ _ _ rfl wo3.heap.size (wsC (List.replicate 25 0)) rfl rfl _ _ ro0 i0 s0 o0 ?_))
     clear ro0 i0 o0 s0
     obtain ⟨U,hU⟩:∃ U,wo3.heap.size=U:=⟨_,rfl⟩
     rw [hU] at hOl rbo ro hso ⊢
     have HU:=qh hU
     clear hU hs rb
     go_loopw [13,14,15] (fun x _ _ wr=>∃ k:Nat,k≤5∧x=.int .i64 k∧RefSt w.heap.size w wr a c∧WRow wr O b 154 ∧ WRow wr U (rE b (5 * k)) 154) (fun x _ _ _=>5 - (intOf x).toNat)
     case atStart=>exact ⟨0,by omega,rfl,hso,rbo,ro⟩
     case round =>
      clear hso rbo ro
      obtain ⟨x,hx,rfl,hs,rb,ro⟩:=hrel
      by_cases hlt:x < 5
      ·as_aux_lemma =>
       have hlt':(x:Int) < 5:=by omega
       go_wp2_with fail
       obtain ⟨wo4,rfl⟩:∃ wo:World,wo=wr:=⟨_,rfl⟩
       go_loopw [14,15] (fun y _ wr=>∃ k:Nat,k≤5∧y=.int .i64 k∧RefSt w.heap.size w wr a c∧WRow wr O b 154 ∧ WRow wr U (rE b (5 * x+k)) 154) (fun y _ _=>5 - (intOf y).toNat)
       case atStart=>exact ⟨0,by omega,rfl,hs,rb,ro⟩
       case round =>
        clear hs rb ro
        obtain ⟨y,hy,rfl,hs,rb,ro⟩:=hrel
        by_cases hlt2:y < 5
        ·as_aux_lemma =>
         have hlt2':(y:Int) < 5:=by omega
         have ht0:=qja x y
         have ht1:=qja (x+1) y
         have ht2:=qja (x+2) y
         have hst:rE b (5 * x+y+1)=(rE b (5 * x+y)).set (atP x y) (b.getD (atP x y) 0 ^^^ (~~~ b.getD (atP (x+1) y) 0 &&& b.getD (atP (x+2) y) 0)):=by
          rw [rE,show (5 * x+y) % 5=y by omega,show (5 * x+y) / 5=x by omega]
         have hA0:=fun w=>qjw x y (by omega) (by omega) w
         have hA1:=fun w=>qjw (x+1) y (by omega) (by omega) w
         have hA2:=fun w=>qjw (x+2) y (by omega) (by omega) w
         obtain ⟨t0,e0⟩:∃ t,atP x y=t:=⟨_,rfl⟩
         obtain ⟨t1,e1⟩:∃ t,atP (x+1) y=t:=⟨_,rfl⟩
         obtain ⟨t2,e2⟩:∃ t,atP (x+2) y=t:=⟨_,rfl⟩
         rw [e0] at ht0 hst hA0
         rw [e1] at ht1 hst hA1
         rw [e2] at ht2 hst hA2
         rw [show ((x+1:Nat):Int)=(x:Int)+1 by simp] at hA1
         rw [show ((x+2:Nat):Int)=(x:Int)+2 by simp] at hA2
         obtain ⟨v0,hv0⟩:∃ v,b.getD t0 0=v:=⟨_,rfl⟩
         obtain ⟨v1,hv1⟩:∃ v,b.getD t1 0=v:=⟨_,rfl⟩
         obtain ⟨v2,hv2⟩:∃ v,b.getD t2 0=v:=⟨_,rfl⟩
         have c1:=rb.at_ (i:=t1) (by rw [HBL.out];omega)
         rw [hv1] at c1 hst
         rw [hv0,hv2] at hst
         have hns:=qpk v1
         have hns1:=wv_lo v1
         have hns2:=wv_hi v1
         have b1:(t1:Int) < 25:=by omega
         have HI:=qh hst
         have H0:=qh hA0
         have H1:=qh hA1
         have H2:=qh hA2
         have HV:=qh (And.intro hv0 hv2)
         clear hst hA0 hA1 hA2 e0 e1 e2 hv0 hv1 hv2
         go_wp2_with (go_at_call 212;refine (H1.out _).mono ?_;rintro e w5 ⟨rfl,rfl⟩)
         clear hns hns1 hns2 c1 b1
         refine qcl 18 (by kernel_rfl) (by kernel_rfl) ?_
         intro w2 hw2
         replace hs:RefSt w.heap.size w w2 a c:=by rw [hw2];exact hs.drew
         replace rb:WRow w2 O b 154:=by rw [hw2];exact rb.drew
         replace ro:WRow w2 U (rE b (5 * x+y)) 154:=by rw [hw2];exact ro.drew
         clear hw2
         have c0:=rb.at_ (i:=t0) (by rw [HBL.out];omega)
         have c2:=rb.at_ (i:=t2) (by rw [HBL.out];omega)
         rw [HV.out.1] at c0
         rw [HV.out.2] at c2
         have c5:=ro.at_ (i:=t0) (by rw [rE_len];omega)
         have f5:=ro.free t0
         have b0:(t0:Int) < 25:=by omega
         have b2:(t2:Int) < 25:=by omega
         obtain ⟨p1,q1,r1⟩:=sum_i x 2 2 rfl (by omega)
         have HS:=qh (And.intro hs (And.intro rb ro))
         clear hs rb ro
         intro R hR
         simp only [List.take_succ_cons,List.take_zero]
         repeat (first | go_big_quiet_skip | (go_big_quiet_want;go_big_quiet_op;first | go_big_quiet_on | ((with_reducible refine ⟨_,H0.out _,?_⟩);go_big_quiet_on) | ((with_reducible refine ⟨_,H2.out _,?_⟩);go_big_quiet_on)))
         refine wpQuiet_nil (hR _ ?_)
         clear hR R
         simp only [List.drop_succ_cons,List.drop_zero]
         go_wp2_with fail
         go_roundw
         case rel =>
          refine ⟨y+1,by omega,by go_num,HS.out.1.setO (by omega) _ _,HS.out.2.1.other (by omega) _,?_⟩
          have:=HS.out.2.2.set t0 (v0 ^^^ (~~~ v1 &&& v2))
          rw [← HI.out] at this
          exact this
         case measure=>simp [intOf];omega
        ·as_aux_lemma =>
         obtain rfl:y=5:=by omega
         go_wp2_with fail
         go_roundw
         case rel=>exact ⟨x+1,by omega,by go_num,hs,rb,by rw [Nat.mul_add];exact ro⟩
         case measure=>simp [intOf];omega
      ·as_aux_lemma =>
       obtain rfl:x=5:=by omega
       rw [show ((5:Nat):Int)=5 from rfl]
       rw [show 5 * 5=25 from rfl,rE_eq b HBL.out] at ro
       obtain ⟨e,he⟩:∃ e,(List.range 25).map (kE b)=e:=⟨_,rfl⟩
       have hel:e.length=25:=by rw [← he];simp
       rw [he] at ro
       obtain ⟨v,hv⟩:∃ v,e.getD 0 0=v:=⟨_,rfl⟩
       obtain ⟨r,hr⟩:∃ r,lastL.getD n 0=r:=⟨_,rfl⟩
       have hR:=qh (show roundK a (lastL.getD n 0)=e.set 0 (v ^^^ r) by
        unfold roundK roundE roundB roundD roundC
        rw [HC.out,HB.out,he,hv,hr])
       have hLast:=fun w=>last_any n hn w
       rw [hr] at hLast
       have h5l:(e.set 0 (v ^^^ r)).length=25:=by simpa using hel
       have i5:=qdk _ h5l
       have s5:(wsC (List.replicate 25 0)).size=(wsC (e.set 0 (v ^^^ r))).size:=by rw [qbj,qbj,h5l];rfl
       have o5:=qcz (e.set 0 (v ^^^ r))
       have c0:=ro.drew.at_ (i:=0) (by omega)
       rw [hv] at c0
       have HRO:=qh ro
       have hcell:∀ w':World,WRow w' U e 154 → w'.cell? ⟨U,0,none⟩=some (.int .u64 (wv v)):=fun w' h=>by rw [h.at_ (by omega),hv]
       have HCELL:=qh hcell
       clear hcell
       have HS:=qh hs
       have HL:=qh hLast
       clear he hel hv hr hlt hLast h5l ro rb hs
       go_wp2_with fail
       go_region_with (go_at_call 215;refine (HL.out _).mono ?_;rintro e w5 ⟨rfl,hb5⟩;have c5:=HCELL.out _ (HRO.out.drew.keep hb5 HRO.out.lt);have f5:=(HRO.out.drew.keep hb5 HRO.out.lt).free 0;have HB5:=qh hb5;clear hb5)
       all_goals
        have ro5:=(HRO.out.drew.keep HB5.out HRO.out.lt).set 0 (v ^^^ r)
        have hs5:=((HS.out.drew.keep HB5.out).setO (b:=U) (by omega) 0 (.int .u64 (wv (v ^^^ r))))
        have rr5:=hs5.rres
        have H5:=qh hs5
        clear hs5 c0 c5 f5
        generalize e.set 0 (v ^^^ r)=e5 at *
        go_wp2_with (first | (refine wpList_load_row rfl _ _ rfl U rfl _ (wsC e5) _ _ ro5 Tryz.underlying154 rfl i5 ?_) | (refine wpList_store_row rfl _ _ _ rfl (w.heap.size+1) (wsC e5) rfl rfl _ _ rr5 i5 s5 o5 ?_))
        refine bodyPost_ret (v:=.agg (wsC e5)) (results_cell_row rfl _ _ (w.heap.size+1) _ _ _ _ rfl (rr5.row e5) Tryz.underlying154 rfl i5) rfl ?_
        exact ⟨by rw [hR.out],qak H5.out.bel (by omega) _⟩
end Go.Proofs.YteoednifdpdbnaaGreat
