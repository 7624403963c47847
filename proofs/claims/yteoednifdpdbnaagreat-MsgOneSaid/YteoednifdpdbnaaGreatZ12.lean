/- The walks of package keccak: its tables, its constants, Mix. -/
import Derived.Test.YteoednifdpdbnaaGreatZ11
import Derived.RegionTactic
import Derived.ChangeAlike
import Derived.Deep.RegionLaw
namespace Go.Proofs.YteoednifdpdbnaaGreat
set_option linter.unusedVariables false
set_option linter.unusedSimpArgs false
open Go.RowKit
set_option maxHeartbeats 2000000
set_option maxRecDepth 100000
theorem qjs (l:List Nat) (h:l.length=25):(Tryz.prog.info? 207).map (·.size)=some (isC l).size:=by
 rw [qdm,h];kernel_rfl
theorem qea (l:List Nat):(isC l).all (·.oneCell')=true:=by
 rw [Array.all_eq_true_iff_forall_mem]
 intro v hv;exact isC_all l v (by simpa using hv)
theorem qrb (w:World):Calls Tryz.prog 148 #[] w fun e w'=>e=.returned (.tuple #[.agg (isC byL),.agg (isC toL)])∧Below w.heap.size w w':=by
 go_enter Tryz.func148,Tryz.ntmps148
 go_wp2_with fail
 have hz:isC (List.replicate 25 0)=#[.int .i64 0,.int .i64 0,.int .i64 0,.int .i64 0,.int .i64 0,.int .i64 0,.int .i64 0,.int .i64 0,.int .i64 0,.int .i64 0,.int .i64 0,.int .i64 0,.int .i64 0,.int .i64 0,.int .i64 0,.int .i64 0,.int .i64 0,.int .i64 0,.int .i64 0,.int .i64 0,.int .i64 0,.int .i64 0,.int .i64 0,.int .i64 0,.int .i64 0]:=rfl
 rw [← hz]
 clear hz
 go_loopw [4,5,6,10] (fun x y _ i wr=>∃ t:Nat,t≤24∧i=.int .i64 t∧x=.int .i64 (xyK t).1∧y=.int .i64 (xyK t).2∧Below w.heap.size w wr∧IRow wr w.heap.size (List.replicate 25 0) 207 ∧ IRow wr (w.heap.size+1) (List.replicate 25 0) 207 ∧
   IRow wr (w.heap.size+1+1) (byK t) 207 ∧ IRow wr (w.heap.size+1+1+1) (List.replicate 25 0) 207) (fun _ _ _ i _=>24 - (intOf i).toNat)
 case atStart =>
  refine ⟨0,by omega,rfl,rfl,rfl,((((Below.refl _ _).alloc qn _).alloc (by simp) _).alloc (by simp;omega) _).alloc (by simp;omega) _,?_,?_,?_,?_⟩
  ·exact (((IRow.new _ _ _).alloc _).alloc _).alloc _
  ·have:=IRow.new (w.alloc (.cells (isC (List.replicate 25 0)) 207)) (List.replicate 25 0) 207
   simp only [World.size_alloc] at this
   exact (this.alloc _).alloc _
  ·have:=IRow.new ((w.alloc (.cells (isC (List.replicate 25 0)) 207)).alloc (.cells (isC (List.replicate 25 0)) 207)) (List.replicate 25 0) 207
   simp only [World.size_alloc] at this
   exact this.alloc _
  ·have:=IRow.new (((w.alloc (.cells (isC (List.replicate 25 0)) 207)).alloc (.cells (isC (List.replicate 25 0)) 207)).alloc (.cells (isC (List.replicate 25 0)) 207)) (List.replicate 25 0) 207
   simp only [World.size_alloc] at this
   exact this
 case round =>
  obtain ⟨t,ht,rfl,rfl,rfl,hb,r0,r1,r2,r3⟩:=hrel
  by_cases hlt:t < 24
  ·have hlt':(t:Int) < 24:=by omega
   obtain ⟨hx,hy⟩:=xyK_lt t
   obtain ⟨x,hxe⟩:∃ x,(xyK t).1=x:=⟨_,rfl⟩
   obtain ⟨y,hye⟩:∃ y,(xyK t).2=y:=⟨_,rfl⟩
   rw [hxe] at hx ⊢
   rw [hye] at hy ⊢
   have HXY:=qh (And.intro hxe hye)
   clear hxe hye
   have hm:((t:Int)+1) * ((t:Int)+2)=(((t+1) * (t+2):Nat):Int):=by simp
   have hml:(t+1) * (t+2)≤25 * 26:=Nat.mul_le_mul (by omega) (by omega)
   obtain ⟨m,hmm⟩:∃ m,(t+1) * (t+2)=m:=⟨_,rfl⟩
   rw [hmm] at hm hml
   have HM:=qh hmm
   have c2:=r2.at_ (i:=x+5 * y) (by rw [byK_len];omega)
   have f2:=r2.free (x+5 * y)
   clear hmm
   go_wp2_with fail
   go_roundw
   case rel =>
    refine ⟨t+1,by omega,by go_num,?_,?_,hb.setCell (p:=⟨_,_,_⟩) (by show w.heap.size≤w.heap.size+1+1;omega) _,r0.other (by omega) _,r1.other (by omega) _,?_,r3.other (by omega) _⟩
    ·rw [xyK,HXY.out.2]
    ·rw [xyK,HXY.out.2,HXY.out.1];simp
    ·have:=r2.set (x+5 * y) (m / 2 % 64)
     rw [byK,HXY.out.2,HXY.out.1,HM.out]
     simpa using this
   case measure=>simp [intOf];omega
  ·obtain rfl:t=24:=by omega
   rw [byK_all] at r2
   rw [show ((24:Nat):Int)=24 from rfl]
   obtain ⟨wo,rfl⟩:∃ wo:World,wo=wr:=⟨_,rfl⟩
   obtain ⟨x,hxe⟩:∃ x,(xyK 24).1=x:=⟨_,rfl⟩
   obtain ⟨y,hye⟩:∃ y,(xyK 24).2=y:=⟨_,rfl⟩
   rw [hxe,hye]
   clear hxe hye
   go_wp2_with fail
   go_loopw [7,8,9,33] (fun _ _ _ i wr=>∃ t:Nat,t≤25∧i=.int .i64 t∧Below w.heap.size w wr∧IRow wr w.heap.size (List.replicate 25 0) 207 ∧ IRow wr (w.heap.size+1) (List.replicate 25 0) 207 ∧
    IRow wr (w.heap.size+1+1) byL 207 ∧ IRow wr (w.heap.size+1+1+1) (tab 25 toK (fun _=>0) t) 207) (fun _ _ _ i _=>25 - (intOf i).toNat)
   case atStart=>exact ⟨0,by omega,rfl,hb,r0,r1,r2,r3⟩
   case round =>
    clear hb r0 r1 r2 r3
    obtain ⟨t,ht,rfl,hb,r0,r1,r2,r3⟩:=hrel
    by_cases hlt:t < 25
    ·have hlt':(t:Int) < 25:=by omega
     have c2:=r3.at_ (i:=t) (by rw [qb0];omega)
     have f2:=r3.free t
     go_wp2_with fail
     go_roundw
     case rel =>
      refine ⟨t+1,by omega,by go_num,hb.setCell (p:=⟨_,_,_⟩) (by show w.heap.size≤w.heap.size+1+1+1;omega) _,r0.other (by omega) _,r1.other (by omega) _,r2.other (by omega) _,?_⟩
      have:=r3.set t (toK t)
      rw [qdz] at this
      simpa [toK] using this
     case measure=>simp [intOf];omega
    ·obtain rfl:t=25:=by omega
     rw [qh6,toK_all] at r3
     go_wp2_with fail
     have i1:=qjs byL rfl
     have i2:=qjs toL rfl
     have z0:∀ l:List Nat,l.length=25→(isC (List.replicate 25 0)).size=(isC l).size:=fun l h=>by rw [qdm,qdm,h];rfl
     have r0:=r0.drew
     have r1:=r1.drew
     have r2:=r2.drew
     have r3:=r3.drew
     have hb:=hb.drew
     refine wp_region_any (by kernel_rfl) ?_
     change wpAny _ _ _ _ _ _ _ (World.drew _)
     generalize wr.drew=W0 at *
     refine wpAny_ready (rs:=[0,1]) (by kernel_rfl) (by simp) ?_
     refine AllReady.cons rfl (fun K hK=>?_) ?_
     ·rw [if_pos (by simp [Region.wanted])]
      refine wp_load_row _ _ rfl (w.heap.size+1+1) rfl _ _ _ _ (r2) Tryz.underlying207 rfl i1 ?_
      refine hK _ _ ?_
      clear hK K
      refine wpAny_ready (rs:=[1,2]) (by kernel_rfl) (by simp) ?_
      refine AllReady.cons rfl (fun K hK=>?_) ?_
      ·rw [if_pos (by simp [Region.wanted])]
       refine wp_load_row _ _ rfl (w.heap.size+1+1+1) rfl _ _ _ _ (r3) Tryz.underlying207 rfl i2 ?_
       refine hK _ _ ?_
       clear hK K
       refine wpAny_ready (rs:=[2]) (by kernel_rfl) (by simp) ?_
       refine AllReady.cons rfl (fun K hK=>?_) ?_
       ·rw [if_pos (by simp [Region.wanted])]
        refine wp_store_row _ _ _ rfl (w.heap.size) (isC byL) rfl rfl _ _ (r0) i1 (z0 _ rfl) (qea byL) ?_
        refine hK _ _ ?_
        clear hK K
        refine wpAny_ready (rs:=[3]) (by kernel_rfl) (by simp) ?_
        refine AllReady.cons rfl (fun K hK=>?_) ?_
        ·rw [if_pos (by simp [Region.wanted])]
         refine wp_store_row _ _ _ rfl (w.heap.size+1) (isC toL) rfl rfl _ _ ((r1).rowOther (by omega) _) i2 (z0 _ rfl) (qea toL) ?_
         refine hK _ _ ?_
         clear hK K
         refine wpAny_done (by kernel_rfl) ?_ _
         go_wp2_with fail
         refine bodyPost_ret (v:=.tuple #[.agg (isC byL),.agg (isC toL)]) (qdv rfl _ _ w.heap.size (w.heap.size+1) _ _ _ _ _ _ _ rfl rfl ((r0.row byL).rowOther (by omega) _) (by first | exact (r1.rowOther (by omega) _).row toL | exact r1.row toL) Tryz.underlying207 rfl i1 i2) rfl ⟨rfl,qal (qal hb qn _) (by omega) _⟩
        exact AllReady.nil
       exact AllReady.nil
      refine AllReady.cons rfl (fun K hK=>?_) ?_
      ·rw [if_pos (by simp [Region.wanted])]
       refine wp_store_row _ _ _ rfl (w.heap.size) (isC byL) rfl rfl _ _ (r0) i1 (z0 _ rfl) (qea byL) ?_
       refine hK _ _ ?_
       clear hK K
       refine wpAny_ready (rs:=[1]) (by kernel_rfl) (by simp) ?_
       refine AllReady.cons rfl (fun K hK=>?_) ?_
       ·rw [if_pos (by simp [Region.wanted])]
        refine wp_load_row _ _ rfl (w.heap.size+1+1+1) rfl _ _ _ _ ((r3).rowOther (by omega) _) Tryz.underlying207 rfl i2 ?_
        refine hK _ _ ?_
        clear hK K
        refine wpAny_ready (rs:=[3]) (by kernel_rfl) (by simp) ?_
        refine AllReady.cons rfl (fun K hK=>?_) ?_
        ·rw [if_pos (by simp [Region.wanted])]
         refine wp_store_row _ _ _ rfl (w.heap.size+1) (isC toL) rfl rfl _ _ ((r1).rowOther (by omega) _) i2 (z0 _ rfl) (qea toL) ?_
         refine hK _ _ ?_
         clear hK K
         refine wpAny_done (by kernel_rfl) ?_ _
         go_wp2_with fail
         refine bodyPost_ret (v:=.tuple #[.agg (isC byL),.agg (isC toL)]) (qdv rfl _ _ w.heap.size (w.heap.size+1) _ _ _ _ _ _ _ rfl rfl ((r0.row byL).rowOther (by omega) _) (by first | exact (r1.rowOther (by omega) _).row toL | exact r1.row toL) Tryz.underlying207 rfl i1 i2) rfl ⟨rfl,qal (qal hb qn _) (by omega) _⟩
        exact AllReady.nil
       exact AllReady.nil
      exact AllReady.nil
     refine AllReady.cons rfl (fun K hK=>?_) ?_
     ·rw [if_pos (by simp [Region.wanted])]
      refine wp_load_row _ _ rfl (w.heap.size+1+1+1) rfl _ _ _ _ (r3) Tryz.underlying207 rfl i2 ?_
      refine hK _ _ ?_
      clear hK K
      refine wpAny_ready (rs:=[0]) (by kernel_rfl) (by simp) ?_
      refine AllReady.cons rfl (fun K hK=>?_) ?_
      ·rw [if_pos (by simp [Region.wanted])]
       refine wp_load_row _ _ rfl (w.heap.size+1+1) rfl _ _ _ _ (r2) Tryz.underlying207 rfl i1 ?_
       refine hK _ _ ?_
       clear hK K
       refine wpAny_ready (rs:=[2]) (by kernel_rfl) (by simp) ?_
       refine AllReady.cons rfl (fun K hK=>?_) ?_
       ·rw [if_pos (by simp [Region.wanted])]
        refine wp_store_row _ _ _ rfl (w.heap.size) (isC byL) rfl rfl _ _ (r0) i1 (z0 _ rfl) (qea byL) ?_
        refine hK _ _ ?_
        clear hK K
        refine wpAny_ready (rs:=[3]) (by kernel_rfl) (by simp) ?_
        refine AllReady.cons rfl (fun K hK=>?_) ?_
        ·rw [if_pos (by simp [Region.wanted])]
         refine wp_store_row _ _ _ rfl (w.heap.size+1) (isC toL) rfl rfl _ _ ((r1).rowOther (by omega) _) i2 (z0 _ rfl) (qea toL) ?_
         refine hK _ _ ?_
         clear hK K
         refine wpAny_done (by kernel_rfl) ?_ _
         go_wp2_with fail
         refine bodyPost_ret (v:=.tuple #[.agg (isC byL),.agg (isC toL)]) (qdv rfl _ _ w.heap.size (w.heap.size+1) _ _ _ _ _ _ _ rfl rfl ((r0.row byL).rowOther (by omega) _) (by first | exact (r1.rowOther (by omega) _).row toL | exact r1.row toL) Tryz.underlying207 rfl i1 i2) rfl ⟨rfl,qal (qal hb qn _) (by omega) _⟩
        exact AllReady.nil
       exact AllReady.nil
      exact AllReady.nil
     exact AllReady.nil
/- The walks of package keccak: its constants, Mix. -/
theorem qjw (w:World):Calls Tryz.prog 149 #[] w fun e w'=>e=.returned (.agg (wsC lastL))∧Below w.heap.size w w':=by
 have h24:(Tryz.prog.info? 210).map (·.size)=some (wsC lastL).size:=by rw [qbw];kernel_rfl
 have hr:=WRow.new w (List.replicate 24 0) 210
 have hb:Below w.heap.size w (w.alloc (.cells (wsC (List.replicate 24 0)) 210)):=(Below.refl _ _).alloc qn _
 have o24:=qif lastL
 have s24:(wsC (List.replicate 24 0)).size=(wsC lastL).size:=by rw [qbw,qbw];rfl
 have hr':=hr.row lastL
 have hb':=qal hb (Nat.le_refl w.heap.size) (wsC lastL)
 rw [qes] at hr hr' hb' s24
 simp only [List.replicate] at hr hr' hb' s24
 clear hb
 go_enter Tryz.func149,Tryz.ntmps149
 go_wp2_with (refine wpList_store_row rfl _ _ _ rfl w.heap.size (wsC lastL) rfl rfl _ _ hr h24 s24 o24 ?_)
 refine bodyPost_ret (v:=.agg (wsC lastL)) (results_cell_row rfl _ _ w.heap.size _ _ _ _ rfl hr' Tryz.underlying210 rfl h24) rfl ?_
 exact ⟨rfl,hb'⟩
/-- the blocks of Mix -/
structure MixSt (B G:Nat) (w wr:World) (a:List W64):Prop where
 bel:Below B w wr
 lo:B+1 < G
 ra:WRow wr B a 154
 rres:WRow wr (B+1) (List.replicate 25 0) 154
 rby:IRow wr G byL 207
 rto:IRow wr (G+1) toL 207
theorem MixSt.keep {B G:Nat} {w wr w':World} {a:List W64} (h:MixSt B G w wr a) (hb:Below wr.heap.size wr w'):MixSt B G w w' a :=
 ⟨h.bel.trans (hb.mono (by have:=h.ra.lt;omega)),h.lo,h.ra.keep hb h.ra.lt,h.rres.keep hb h.rres.lt,h.rby.keep hb h.rby.lt,h.rto.keep hb h.rto.lt⟩
theorem MixSt.row {B G:Nat} {w wr:World} {a:List W64} (h:MixSt B G w wr a) (l:List W64):MixSt B G w (wr.setRow B (wsC l)) l :=
 ⟨qal h.bel qn _,h.lo,h.ra.row l,h.rres.rowOther (by omega) _,h.rby.rowOther (by have:=h.lo;omega) _,h.rto.rowOther (by have:=h.lo;omega) _⟩
theorem mix_any (a:List W64) (ha:a.length=25) (w:World) :
  Calls Tryz.prog 96 #[.agg (wsC a)] w fun e w'=>e=.returned (.agg (wsC (mixK a 24)))∧Below w.heap.size w w':=by
 have HA:=qh ha
 have hr:=WRow.new (w.alloc (.cells (wsC a) 154)) (List.replicate 25 0) 154
 have ra:=(WRow.new w a 154).alloc (.cells (wsC (List.replicate 25 0)) 154)
 have hb:Below w.heap.size w ((w.alloc (.cells (wsC a) 154)).alloc (.cells (wsC (List.replicate 25 0)) 154)):=((Below.refl _ _).alloc qn _).alloc (by simp) _
 have hz:(wsC (List.replicate 25 0))=#[.int .u64 0,.int .u64 0,.int .u64 0,.int .u64 0,.int .u64 0,.int .u64 0,.int .u64 0,.int .u64 0,.int .u64 0,.int .u64 0,.int .u64 0,.int .u64 0,.int .u64 0,.int .u64 0,.int .u64 0,.int .u64 0,.int .u64 0,.int .u64 0,.int .u64 0,.int .u64 0,.int .u64 0,.int .u64 0,.int .u64 0,.int .u64 0,.int .u64 0]:=by
  rw [qes];simp only [List.replicate]
 have hzi:(isC (List.replicate 25 0))=#[.int .i64 0,.int .i64 0,.int .i64 0,.int .i64 0,.int .i64 0,.int .i64 0,.int .i64 0,.int .i64 0,.int .i64 0,.int .i64 0,.int .i64 0,.int .i64 0,.int .i64 0,.int .i64 0,.int .i64 0,.int .i64 0,.int .i64 0,.int .i64 0,.int .i64 0,.int .i64 0,.int .i64 0,.int .i64 0,.int .i64 0,.int .i64 0,.int .i64 0]:=rfl
 have HZ:=qh hz
 have HZI:=qh hzi
 rw [hz] at hr ra hb
 rw [World.size_alloc] at hr
 clear hz hzi ha
 have i1:=qjs byL rfl
 have i2:=qjs toL rfl
 have o1:=qea byL
 have o2:=qea toL
 go_enter Tryz.func96,Tryz.ntmps96
 go_wp2_with fail
 refine (qrb _).mono ?_
 rintro e w1 ⟨rfl,hb1⟩
 have ra1:=ra.keep hb1 ra.lt
 have hr1:=hr.keep hb1 hr.lt
 have hbw1:=hb.trans (hb1.mono (by simp;omega))
 have hw1:w.heap.size+1 < w1.heap.size:=by have:=hr1.lt;omega
 clear ra hr hb hb1
 have q0:=IRow.new w1 (List.replicate 25 0) 207
 have q1:=IRow.new (w1.alloc (.cells (isC (List.replicate 25 0)) 207)) (List.replicate 25 0) 207
 have q0':=q0.alloc (.cells (isC (List.replicate 25 0)) 207)
 have q1':=q1.rowOther (b:=w1.heap.size) (by simp) (isC byL)
 have hst:MixSt w.heap.size w1.heap.size w (((((w1.alloc (.cells (isC (List.replicate 25 0)) 207)).alloc (.cells (isC (List.replicate 25 0)) 207)).setRow w1.heap.size (isC byL)).setRow (w1.heap.size+1) (isC toL))) a:=by
  refine ⟨qal (qal ((hbw1.alloc (by omega) _).alloc (by simp;omega) _) (by omega) _) (by omega) _,hw1,?_,?_,?_,?_⟩
  ·exact (((ra1.alloc _).alloc _).rowOther (by omega) _).rowOther (by omega) _
  ·exact (((hr1.alloc _).alloc _).rowOther (by omega) _).rowOther (by omega) _
  ·exact (q0'.row byL).rowOther (by omega) _
  ·rw [World.size_alloc] at q1'
   exact q1'.row toL
 have z1:(isC (List.replicate 25 0)).size=(isC byL).size:=by rw [qdm,qdm];rfl
 have z2:(isC (List.replicate 25 0)).size=(isC toL).size:=by rw [qdm,qdm];rfl
 rw [World.size_alloc] at q1'
 clear q1 q0
 rw [HZI.out] at q0' q1' hst z1 z2
 go_wp2_with (first | (refine wpList_store_row rfl _ _ _ rfl w1.heap.size (isC byL) rfl rfl _ _ q0' i1 z1 o1 ?_) | (refine wpList_store_row rfl _ _ _ rfl (w1.heap.size+1) (isC toL) rfl rfl _ _ q1' i2 z2 o2 ?_))
 refine (qjw _).mono ?_
 rintro e w2 ⟨rfl,hb2⟩
 have hst:=hst.keep hb2
 obtain ⟨G,hG⟩:∃ G,w1.heap.size=G:=⟨_,rfl⟩
 rw [hG] at hst ⊢
 clear q0' q1' hb2 hw1 hbw1 ra1 hr1 hG
 go_wp2_with fail
 go_loopw [6,12] (fun _ i wr=>∃ k:Nat,k≤24∧i=.int .i64 k∧MixSt w.heap.size G w wr (mixK a k)) (fun _ i _=>24 - (intOf i).toNat)
 case atStart=>exact ⟨0,by omega,rfl,hst⟩
 case round =>
  clear hst
  obtain ⟨k,hk,rfl,hs⟩:=hrel
  have ml:=qgz a HA.out k
  have j0:=qkn _ ml
  by_cases hlt:k < 24
  ·have hlt':(k:Int) < 24:=by omega
   have ix:=qc5 (P:=Tryz.prog) Tryz.underlying210 Tryz.underlying22 (by kernel_rfl) (wsC lastL) k hlt _ (wsC_at hlt)
   have ra:=hs.ra
   have rby:=hs.rby
   have rto:=hs.rto
   go_wp2_with (first | (refine wpList_load_row rfl _ _ rfl w.heap.size rfl _ _ _ _ ra Tryz.underlying154 rfl j0 ?_) | (refine wpList_load_row rfl _ _ rfl G rfl _ _ _ _ rby Tryz.underlying207 rfl i1 ?_) | (refine wpList_load_row rfl _ _ rfl (G+1) rfl _ _ _ _ rto Tryz.underlying207 rfl i2 ?_))
   refine (qtn (mixK a k) (lastL.getD k 0) ml _).mono ?_
   rintro e w3 ⟨rfl,hb3⟩
   have hs3:=hs.keep hb3
   have ra3:=hs3.ra
   have j1:=qkn _ (qgl (mixK a k) (lastL.getD k 0))
   have s1:(wsC (mixK a k)).size=(wsC (roundK (mixK a k) (lastL.getD k 0))).size:=by rw [qbw,qbw,ml,qgl]
   have o3:=qif (roundK (mixK a k) (lastL.getD k 0))
   go_wp2_with (refine wpList_store_row rfl _ _ _ rfl w.heap.size _ rfl rfl _ _ ra3 j1 s1 o3 ?_)
   go_roundw
   case rel=>exact ⟨k+1,by omega,by go_num,hs3.row _⟩
   case measure=>simp [intOf];omega
  ·obtain rfl:k=24:=by omega
   have ra:=hs.ra
   have rr:=hs.rres
   have s1:(wsC (List.replicate 25 0)).size=(wsC (mixK a 24)).size:=by rw [qbw,qbw,ml];rfl
   have o3:=qif (mixK a 24)
   have rr':=rr.row (mixK a 24)
   go_wp2_with (first | (refine wpList_load_row rfl _ _ rfl w.heap.size rfl _ _ _ _ ra Tryz.underlying154 rfl j0 ?_) | (refine wpList_store_row rfl _ _ _ rfl (w.heap.size+1) _ rfl rfl _ _ rr j0 s1 o3 ?_))
   refine bodyPost_ret (v:=.agg (wsC (mixK a 24))) (results_cell_row rfl _ _ (w.heap.size+1) _ _ _ _ rfl rr' Tryz.underlying154 rfl j0) rfl ?_
   exact ⟨rfl,qal hs.bel (by omega) _⟩
end Go.Proofs.YteoednifdpdbnaaGreat
