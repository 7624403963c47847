/- The walks of package keccak: rotations, tables, a round. -/
import Derived.Test.YteoednifdpdbnaaGreatZ10
import Derived.Test.YteoednifdpdbnaaGreatProg
import Derived.Outline
namespace Go.Proofs.YteoednifdpdbnaaGreat
set_option linter.unusedVariables false
set_option linter.unusedSimpArgs false
open Go.RowKit
set_option maxHeartbeats 4000000
set_option maxRecDepth 100000
theorem qty (x:W64) (k:Nat) (hk:k < 64) (w:World):Calls Tryz.prog 202 #[.int .u64 (wv x),.int .i64 k] w fun e w'=>e=.returned (.int .u64 (wv (rotl x k)))∧w'=w:=by
 have ha:=and63 k hk
 go_enter Tryz.func202,Tryz.ntmps202
 go_wp2_with fail
 go_ret
 exact ⟨rfl,rfl⟩
theorem rot_one (x:W64) (w:World):Calls Tryz.prog 202 #[.int .u64 (wv x),.int .i64 1] w fun e w'=>e=.returned (.int .u64 (wv (rotl x 1)))∧w'=w:=qty x 1 (by omega) w
theorem qkn (l:List W64) (h:l.length=25):(Tryz.prog.info? 154).map (·.size)=some (wsC l).size:=by
 rw [qbw,h];kernel_rfl
theorem qif (l:List W64):(wsC l).all (·.oneCell')=true:=by
 rw [Array.all_eq_true_iff_forall_mem]
 intro v hv;exact wsC_all l v (by simpa using hv)
/-- the blocks of a round: the state, the tables, the result, the two rows -/
structure RndSt (B:Nat) (w wr:World) (a c d:List W64):Prop where
 bel:Below B w wr
 ra:WRow wr B a 154
 rby:IRow wr (B+1) byL 207
 rto:IRow wr (B+1+1) toL 207
 rres:WRow wr (B+1+1+1) (List.replicate 25 0) 154
 rc:WRow wr (B+1+1+1+1) c 277
 rd:WRow wr (B+1+1+1+1+1) d 277
theorem RndSt.drew {B:Nat} {w wr:World} {a c d:List W64} (h:RndSt B w wr a c d):RndSt B w wr.drew a c d:=⟨h.bel.drew,h.ra,h.rby,h.rto,h.rres,h.rc,h.rd⟩
theorem RndSt.setC {B:Nat} {w wr:World} {a c d:List W64} (h:RndSt B w wr a c d) (i:Nat) (v:W64):RndSt B w (wr.setCell ⟨B+1+1+1+1,i,none⟩ (.int .u64 (wv v))) a (c.set i v) d :=
 ⟨h.bel.setCell (p:=⟨_,_,_⟩) (by show B≤B+1+1+1+1;omega) _,h.ra.other (by omega) _,h.rby.other (by omega) _,h.rto.other (by omega) _,h.rres.other (by omega) _,h.rc.set i v,h.rd.other (by omega) _⟩
theorem RndSt.setD {B:Nat} {w wr:World} {a c d:List W64} (h:RndSt B w wr a c d) (i:Nat) (v:W64):RndSt B w (wr.setCell ⟨B+1+1+1+1+1,i,none⟩ (.int .u64 (wv v))) a c (d.set i v) :=
 ⟨h.bel.setCell (p:=⟨_,_,_⟩) (by show B≤B+1+1+1+1+1;omega) _,h.ra.other (by omega) _,h.rby.other (by omega) _,h.rto.other (by omega) _,h.rres.other (by omega) _,h.rc.other (by omega) _,h.rd.set i v⟩
theorem RndSt.setA {B:Nat} {w wr:World} {a c d:List W64} (h:RndSt B w wr a c d) (i:Nat) (v:W64):RndSt B w (wr.setCell ⟨B,i,none⟩ (.int .u64 (wv v))) (a.set i v) c d :=
 ⟨h.bel.setCell (p:=⟨_,_,_⟩) qn _,h.ra.set i v,h.rby.other (by omega) _,h.rto.other (by omega) _,h.rres.other (by omega) _,h.rc.other (by omega) _,h.rd.other (by omega) _⟩
theorem RndSt.setB {B b:Nat} {w wr:World} {a c d:List W64} (h:RndSt B w wr a c d) (hb:B+1+1+1+1+1 < b) (i:Nat) (v:W64):RndSt B w (wr.setCell ⟨b,i,none⟩ (.int .u64 (wv v))) a c d :=
 ⟨h.bel.setCell (p:=⟨_,_,_⟩) (by show B≤b;omega) _,h.ra.other (by omega) _,h.rby.other (by omega) _,h.rto.other (by omega) _,h.rres.other (by omega) _,h.rc.other (by omega) _,h.rd.other (by omega) _⟩
theorem RndSt.alloc {B:Nat} {w wr:World} {a c d:List W64} (h:RndSt B w wr a c d) (o:Obj):RndSt B w (wr.alloc o) a c d :=
 ⟨h.bel.alloc (by have:=h.ra.lt;omega) _,h.ra.alloc _,h.rby.alloc _,h.rto.alloc _,h.rres.alloc _,h.rc.alloc _,h.rd.alloc _⟩
theorem qmb (w:World) (a:List W64):RndSt w.heap.size w ((((((w.alloc (.cells (wsC a) 154)).alloc (.cells (isC byL) 207)).alloc (.cells (isC toL) 207)).alloc (.cells (wsC (List.replicate 25 0)) 154)).alloc (.cells (wsC (List.replicate 5 0)) 277)).alloc (.cells (wsC (List.replicate 5 0)) 277)) a (List.replicate 5 0) (List.replicate 5 0):=by
 refine ⟨((((((Below.refl _ _).alloc qn _).alloc (by simp) _).alloc (by simp;omega) _).alloc (by simp;omega) _).alloc (by simp;omega) _).alloc (by simp;omega) _,?_,?_,?_,?_,?_,?_⟩
 ·exact (((((WRow.new _ _ _).alloc _).alloc _).alloc _).alloc _).alloc _
 ·have:=IRow.new (w.alloc (.cells (wsC a) 154)) byL 207
  simp only [World.size_alloc] at this
  exact (((this.alloc _).alloc _).alloc _).alloc _
 ·have:=IRow.new ((w.alloc (.cells (wsC a) 154)).alloc (.cells (isC byL) 207)) toL 207
  simp only [World.size_alloc] at this
  exact ((this.alloc _).alloc _).alloc _
 ·have:=WRow.new (((w.alloc (.cells (wsC a) 154)).alloc (.cells (isC byL) 207)).alloc (.cells (isC toL) 207)) (List.replicate 25 0) 154
  simp only [World.size_alloc] at this
  exact (this.alloc _).alloc _
 ·have:=WRow.new ((((w.alloc (.cells (wsC a) 154)).alloc (.cells (isC byL) 207)).alloc (.cells (isC toL) 207)).alloc (.cells (wsC (List.replicate 25 0)) 154)) (List.replicate 5 0) 277
  simp only [World.size_alloc] at this
  exact this.alloc _
 ·have:=WRow.new (((((w.alloc (.cells (wsC a) 154)).alloc (.cells (isC byL) 207)).alloc (.cells (isC toL) 207)).alloc (.cells (wsC (List.replicate 25 0)) 154)).alloc (.cells (wsC (List.replicate 5 0)) 277)) (List.replicate 5 0) 277
  simp only [World.size_alloc] at this
  exact this
theorem qtn (a:List W64) (r:W64) (ha:a.length=25) (w:World) :
  Calls Tryz.prog 150 #[.agg (wsC a),.agg (isC byL),.agg (isC toL),.int .u64 (wv r)] w fun e w'=>e=.returned (.agg (wsC (roundK a r)))∧Below w.heap.size w w':=by
 have hst:=qmb w a
 rw [qes,qes] at hst
 simp only [List.replicate] at hst
 have HA:=qh ha
 clear ha
 go_enter Tryz.func150,Tryz.ntmps150
 go_wp2_with fail
 go_loopw [11,18] (fun _ i wr=>∃ k:Nat,k≤5∧i=.int .i64 k∧RndSt w.heap.size w wr a (tab 5 (kC a) (fun _=>0) k) (List.replicate 5 0)) (fun _ i _=>5 - (intOf i).toNat)
 case atStart=>exact ⟨0,by omega,rfl,hst⟩
 case round =>
  obtain ⟨k,hk,rfl,hs⟩:=hrel
  clear hst
  by_cases hlt:k < 5
  ·have hlt':(k:Int) < 5:=by omega
   go_wp2_with fail
   refine qeb 25 (by kernel_rfl) (by kernel_rfl) ?_
   intro w2 hw2
   replace hs:RndSt w.heap.size w w2 a (tab 5 (kC a) (fun _=>0) k) (List.replicate 5 0):=by rw [hw2];exact hs.drew
   clear hw2
   have c0:=hs.ra.at_ (i:=k) (by have:=HA.out;omega)
   have c1:=hs.ra.at_ (i:=k+5) (by have:=HA.out;omega)
   have c2:=hs.ra.at_ (i:=k+10) (by have:=HA.out;omega)
   have c3:=hs.ra.at_ (i:=k+15) (by have:=HA.out;omega)
   have c4:=hs.ra.at_ (i:=k+20) (by have:=HA.out;omega)
   have c5:=hs.rc.at_ (i:=k) (by rw [qb0];omega)
   have f5:=hs.rc.free k
   have b0:(k:Int) < 25:=by omega
   have b1:(k:Int)+5 < 25:=by omega
   have b2:(k:Int)+10 < 25:=by omega
   have b3:(k:Int)+15 < 25:=by omega
   have b4:(k:Int)+20 < 25:=by omega
   obtain ⟨p1,q1,r1⟩:=sum_i k 5 5 rfl (by omega)
   obtain ⟨p2,q2,r2⟩:=sum_i k 10 10 rfl (by omega)
   obtain ⟨p3,q3,r3⟩:=sum_i k 15 15 rfl (by omega)
   obtain ⟨p4,q4,r4⟩:=sum_i k 20 20 rfl (by omega)
   have HS:=qh hs
   clear hs
   intro R hR
   simp only [List.take_succ_cons,List.take_zero]
   repeat (first | go_big_quiet_skip | (go_big_quiet_want;go_big_quiet_op;go_big_quiet_on))
   refine wpQuiet_nil (hR _ ?_)
   clear hR R
   simp only [List.drop_succ_cons,List.drop_zero]
   go_wp2_with fail
   go_roundw
   case rel =>
    refine ⟨k+1,by omega,by go_num,?_⟩
    have:=HS.out.setC k (kC a k)
    rw [qdz] at this
    exact this
   case measure=>simp [intOf];omega
  ·obtain rfl:k=5:=by omega
   rw [qh6] at hs
   obtain ⟨c,hc⟩:∃ c,(List.range 5).map (kC a)=c:=⟨_,rfl⟩
   rw [hc] at hs
   have HC:=qh hc
   have hcl:c.length=5:=by rw [← hc];simp
   have HCL:=qh hcl
   clear hc hcl hlt
   rw [show ((5:Nat):Int)=5 from rfl]
   obtain ⟨wo,rfl⟩:∃ wo:World,wo=wr:=⟨_,rfl⟩
   go_wp2_with fail
   go_loopw [12,47] (fun _ i wr=>∃ k:Nat,k≤5∧i=.int .i64 k∧RndSt w.heap.size w wr a c (tab 5 (kD c) (fun _=>0) k)) (fun _ i _=>5 - (intOf i).toNat)
   case atStart=>exact ⟨0,by omega,rfl,hs⟩
   case round =>
    obtain ⟨k,hk,rfl,hs⟩:=hrel
    by_cases hlt:k < 5
    ·have hlt':(k:Int) < 5:=by omega
     go_wp2_with fail
     refine qeb 14 (by kernel_rfl) (by kernel_rfl) ?_
     intro w2 hw2
     replace hs:RndSt w.heap.size w w2 a c (tab 5 (kD c) (fun _=>0) k):=by rw [hw2];exact hs.drew
     clear hw2
     have c0:=hs.rc.at_ (i:=(k+4) % 5) (by have:=HCL.out;omega)
     have c1:=hs.rc.at_ (i:=(k+1) % 5) (by have:=HCL.out;omega)
     have c5:=hs.rd.at_ (i:=k) (by rw [qb0];omega)
     have f5:=hs.rd.free k
     obtain ⟨p1,q1,r1⟩:=sum_i k 4 4 rfl (by omega)
     obtain ⟨p2,q2,r2⟩:=sum_i k 1 1 rfl (by omega)
     have m1:=mod_i (k+4) 5 ((k:Int)+4) 5 (by omega) rfl
     have m2:=mod_i (k+1) 5 ((k:Int)+1) 5 (by omega) rfl
     have b1:(((k+4) % 5:Nat):Int) < 5:=by omega
     have b2:(((k+1) % 5:Nat):Int) < 5:=by omega
     obtain ⟨i1,hi1⟩:∃ i1,(k+4) % 5=i1:=⟨_,rfl⟩
     obtain ⟨i2,hi2⟩:∃ i2,(k+1) % 5=i2:=⟨_,rfl⟩
     rw [hi1] at c0 m1 b1
     rw [hi2] at c1 m2 b2
     have HI:=qh (show kD c k=c.getD i1 0 ^^^ rotl (c.getD i2 0) 1 by unfold kD;rw [hi1,hi2])
     clear hi1 hi2
     have HS:=qh hs
     clear hs
     intro R hR
     simp only [List.take_succ_cons,List.take_zero]
     repeat (first | go_big_quiet_skip | (go_big_quiet_want;go_big_quiet_op;first | go_big_quiet_on | (refine ⟨_,rot_one _ _,?_⟩;go_big_quiet_on)))
     refine wpQuiet_nil (hR _ ?_)
     clear hR R
     simp only [List.drop_succ_cons,List.drop_zero]
     go_wp2_with fail
     go_roundw
     case rel =>
      refine ⟨k+1,by omega,by go_num,?_⟩
      have:=HS.out.setD k (kD c k)
      rw [qdz,HI.out] at this
      exact this
     case measure=>simp [intOf];omega
    ·obtain rfl:k=5:=by omega
     rw [qh6] at hs
     obtain ⟨d,hd⟩:∃ d,(List.range 5).map (kD c)=d:=⟨_,rfl⟩
     rw [hd] at hs
     have HD:=qh hd
     have hdl:d.length=5:=by rw [← hd];simp
     have HDL:=qh hdl
     clear hd hdl hlt
     rw [show ((5:Nat):Int)=5 from rfl]
     obtain ⟨wo2,rfl⟩:∃ wo:World,wo=wr:=⟨_,rfl⟩
     have ra:=hs.ra
     have hs1:=hs.alloc (.cells (wsC (List.replicate 25 0)) 154)
     have rb:=WRow.new wo2 (List.replicate 25 0) 154
     have rab:=hs1.ra
     rw [qes] at hs1 rb rab
     simp only [List.replicate] at hs1 rb rab
     obtain ⟨B,hB⟩:∃ B,wo2.heap.size=B:=⟨_,rfl⟩
     have hBl:w.heap.size+1+1+1+1+1 < B:=by have:=hs.rd.lt;omega
     rw [hB] at rb
     have HB:=qh hB
     clear hB
     go_wp2_with (refine wpList_load_row rfl _ _ rfl w.heap.size rfl _ (wsC a) _ _ rab Tryz.underlying154 rfl (by rw [qbw,HA.out];kernel_rfl) ?_)
     go_loopw [14,15,66] (fun _ _ i wr=>∃ k:Nat,k≤25∧i=.int .i64 k∧RndSt w.heap.size w wr a c d∧WRow wr wo2.heap.size (kB a d k) 154) (fun _ _ i _=>25 - (intOf i).toNat)
     case atStart=>exact ⟨0,by omega,rfl,hs1,by rw [HB.out];exact rb⟩
     case round =>
      obtain ⟨k,hk,rfl,hs,hr⟩:=hrel
      by_cases hlt:k < 25
      ·have hlt':(k:Int) < 25:=by omega
       have ix:=qc5 (P:=Tryz.prog) Tryz.underlying154 Tryz.underlying22 (by kernel_rfl) (wsC a) k hlt _ (wsC_at (by have:=HA.out;omega))
       go_wp2_with fail
       refine qeb 14 (by kernel_rfl) (by kernel_rfl) ?_
       intro w2 hw2
       replace hs:RndSt w.heap.size w w2 a c d:=by rw [hw2];exact hs.drew
       replace hr:WRow w2 wo2.heap.size (kB a d k) 154:=by rw [hw2];exact hr.drew
       clear hw2
       obtain ⟨t,ht⟩:∃ t,toL.getD k 0=t:=⟨_,rfl⟩
       obtain ⟨b,hb⟩:∃ b,byL.getD k 0=b:=⟨_,rfl⟩
       obtain ⟨j,hj⟩:∃ j,k % 5=j:=⟨_,rfl⟩
       have htl:=toL_lt k hlt
       have hbl:=byL_lt k hlt
       have hjl:k % 5 < 5:=by omega
       rw [ht] at htl
       rw [hb] at hbl
       rw [hj] at hjl
       have c0:=hs.rto.at_ (i:=k) hlt
       rw [ht] at c0
       have c1:=hs.rd.at_ (i:=j) (by have:=HDL.out;omega)
       have c2:=hs.rby.at_ (i:=k) hlt
       rw [hb] at c2
       have c5:=hr.at_ (i:=t) (by rw [kB_len];omega)
       have f5:=hr.free t
       have m1:=mod_i k 5 (k:Int) 5 rfl rfl
       rw [hj] at m1
       have b1:(j:Int) < 5:=by omega
       have b2:(t:Int) < 25:=by omega
       have HR:=qh hr
       have HS:=qh hs
       have HI:=qh (show kB a d (k+1)=(kB a d k).set t (rotl (a.getD k 0 ^^^ d.getD j 0) b) by rw [kB,ht,hb,hj])
       clear hs hr ht hb hj ix
       intro R hR
       simp only [List.take_succ_cons,List.take_zero]
       repeat (first | go_big_quiet_skip | (go_big_quiet_want;go_big_quiet_op;first | go_big_quiet_on | (refine ⟨_,qty _ b hbl _,?_⟩;go_big_quiet_on)))
       refine wpQuiet_nil (hR _ ?_)
       clear hR R
       simp only [List.drop_succ_cons,List.drop_zero]
       go_wp2_with fail
       go_roundw
       case rel =>
        refine ⟨k+1,by omega,by go_num,HS.out.setB (by have:=HB.out;omega) _ _,?_⟩
        rw [HI.out]
        exact HR.out.set t _
       case measure=>simp [intOf];omega
      ·obtain rfl:k=25:=by omega
       rw [show ((25:Nat):Int)=25 from rfl]
       obtain ⟨b,hb⟩:∃ b,kB a d 25=b:=⟨_,rfl⟩
       have hbl:b.length=25:=by rw [← hb];exact kB_len _ _ _
       rw [hb] at hr
       have HBB:=qh hb
       have HBL:=qh hbl
       clear hb hbl hlt
       obtain ⟨wo3,rfl⟩:∃ wo:World,wo=wr:=⟨_,rfl⟩
       go_wp2_with fail
       have hz:tab 25 (kE b) (fun j=>a.getD j 0) 0=a:=by
        rw [qj5];have:=qiy a 0;rwa [HA.out] at this
       go_loopw [16,17,85] (fun _ _ i wr=>∃ k:Nat,k≤25∧i=.int .i64 k∧RndSt w.heap.size w wr (tab 25 (kE b) (fun j=>a.getD j 0) k) c d∧WRow wr wo2.heap.size b 154) (fun _ _ i _=>25 - (intOf i).toNat)
       case atStart=>exact ⟨0,by omega,rfl,by rw [hz];exact hs,hr⟩
       case round =>
        obtain ⟨k,hk,rfl,hs,hr⟩:=hrel
        clear hz
        by_cases hlt:k < 25
        ·have hlt':(k:Int) < 25:=by omega
         obtain ⟨ro,hro⟩:∃ ro:Nat,k / 5 * 5=ro:=⟨_,rfl⟩
         have hroI:(k:Int) / 5 * 5=(ro:Int):=by omega
         go_wp2_with fail
         refine qeb 22 (by kernel_rfl) (by kernel_rfl) ?_
         intro w2 hw2
         replace hs:RndSt w.heap.size w w2 (tab 25 (kE b) (fun j=>a.getD j 0) k) c d:=by rw [hw2];exact hs.drew
         replace hr:WRow w2 wo2.heap.size b 154:=by rw [hw2];exact hr.drew
         clear hw2 hroI
         obtain ⟨j1,hj1⟩:∃ j,(k+1) % 5=j:=⟨_,rfl⟩
         obtain ⟨j2,hj2⟩:∃ j,(k+2) % 5=j:=⟨_,rfl⟩
         have hbk:k < 25:=hlt
         have l1:ro+j1 < 25:=by omega
         have l2:ro+j2 < 25:=by omega
         have c0:=hr.at_ (i:=k) (by rw [HBL.out];omega)
         have c1:=hr.at_ (i:=ro+j1) (by rw [HBL.out];omega)
         have c2:=hr.at_ (i:=ro+j2) (by rw [HBL.out];omega)
         have c5:=hs.ra.at_ (i:=k) (by rw [qb0];omega)
         have f5:=hs.ra.free k
         obtain ⟨p1,q1,r1⟩:=sum_i k 1 1 rfl (by omega)
         obtain ⟨p2,q2,r2⟩:=sum_i k 2 2 rfl (by omega)
         have m1:=mod_i (k+1) 5 ((k:Int)+1) 5 (by omega) rfl
         have m2:=mod_i (k+2) 5 ((k:Int)+2) 5 (by omega) rfl
         rw [hj1] at m1
         rw [hj2] at m2
         obtain ⟨p3,q3,r3⟩:=sum_i ro j1 (j1:Int) rfl (by omega)
         obtain ⟨p4,q4,r4⟩:=sum_i ro j2 (j2:Int) rfl (by omega)
         have b1:(ro:Int)+j1 < 25:=by omega
         have b2:(ro:Int)+j2 < 25:=by omega
         have HI:=qh (show kE b k=b.getD k 0 ^^^ (~~~ b.getD (ro+j1) 0 &&& b.getD (ro+j2) 0) by unfold kE;rw [hro,hj1,hj2])
         have HR:=qh hr
         have HS:=qh hs
         clear hs hr hro hj1 hj2
         intro R hR
         simp only [List.take_succ_cons,List.take_zero]
         repeat (first | go_big_quiet_skip | (go_big_quiet_want;go_big_quiet_op;go_big_quiet_on))
         refine wpQuiet_nil (hR _ ?_)
         clear hR R
         simp only [List.drop_succ_cons,List.drop_zero]
         go_wp2_with fail
         go_roundw
         case rel =>
          refine ⟨k+1,by omega,by go_num,?_,HR.out.other (by have:=HB.out;omega) _⟩
          have:=HS.out.setA k (kE b k)
          rw [qdz,HI.out] at this
          exact this
         case measure=>simp [intOf];omega
        ·obtain rfl:k=25:=by omega
         rw [show ((25:Nat):Int)=25 from rfl]
         rw [qh6] at hs
         obtain ⟨e,he⟩:∃ e,(List.range 25).map (kE b)=e:=⟨_,rfl⟩
         have hel:e.length=25:=by rw [← he];simp
         rw [he] at hs
         obtain ⟨v,hv⟩:∃ v,e.getD 0 0=v:=⟨_,rfl⟩
         have c0:=hs.ra.at_ (i:=0) (by omega)
         rw [hv] at c0
         have f0:=hs.ra.free 0
         have hs5:=hs.setA 0 (v ^^^ r)
         have h5l:(e.set 0 (v ^^^ r)).length=25:=by simpa using hel
         have hR:=qh (show roundK a r=e.set 0 (v ^^^ r) by
          unfold roundK roundE roundB roundD roundC
          rw [HC.out,HD.out,HBB.out,he,hv])
         have ra5:=hs5.ra
         have rr5:=hs5.rres
         have i5:=qkn _ h5l
         have s5:(wsC (List.replicate 25 0)).size=(wsC (e.set 0 (v ^^^ r))).size:=by rw [qbw,qbw,h5l];rfl
         have o5:=qif (e.set 0 (v ^^^ r))
         have H5:=qh hs5
         clear hs hs5 he hel hv hlt h5l
         generalize e.set 0 (v ^^^ r)=e5 at *
         go_wp2_with (first | (refine wpList_load_row rfl _ _ rfl w.heap.size rfl _ (wsC e5) _ _ ra5 Tryz.underlying154 rfl i5 ?_) | (refine wpList_store_row rfl _ _ _ rfl (w.heap.size+1+1+1) (wsC e5) rfl rfl _ _ rr5 i5 s5 o5 ?_))
         refine bodyPost_ret (v:=.agg (wsC e5)) (results_cell_row rfl _ _ (w.heap.size+1+1+1) _ _ _ _ rfl (rr5.row e5) Tryz.underlying154 rfl i5) rfl ?_
         exact ⟨by rw [hR.out],qal H5.out.bel (by omega) _⟩
end Go.Proofs.YteoednifdpdbnaaGreat
