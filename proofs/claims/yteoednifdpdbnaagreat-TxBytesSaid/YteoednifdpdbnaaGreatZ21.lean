/- The walks of ecclesiaref03.Mix and ecclesiaref03.Sum: the same sum. -/
import Derived.Test.YteoednifdpdbnaaGreatZ19
import Derived.Test.YteoednifdpdbnaaGreatZ20
namespace Go.Proofs.YteoednifdpdbnaaGreat
set_option linter.unusedVariables false
set_option linter.unusedSimpArgs false
open Go.RowKit
set_option maxHeartbeats 2000000
set_option maxRecDepth 100000
structure RefMix (B:Nat) (w wr:World) (a:List W64):Prop where
 bel:Below B w wr
 ra:WRow wr B a 154
 rres:WRow wr (B+1) (List.replicate 25 0) 154
theorem RefMix.keep {B:Nat} {w wr w':World} {a:List W64} (h:RefMix B w wr a) (hb:Below wr.heap.size wr w'):RefMix B w w' a :=
 ⟨h.bel.trans (hb.mono (by have:=h.ra.lt;omega)),h.ra.keep hb h.ra.lt,h.rres.keep hb h.rres.lt⟩
theorem RefMix.row {B:Nat} {w wr:World} {a:List W64} (h:RefMix B w wr a) (l:List W64):RefMix B w (wr.setRow B (wsC l)) l :=
 ⟨qak h.bel qn _,h.ra.row l,h.rres.rowOther (by omega) _⟩
theorem qp9 (a:List W64) (ha:a.length=25) (w:World) :
  Calls Tryz.prog 108 #[.agg (wsC a)] w fun e w'=>e=.returned (.agg (wsC (mixK a 24)))∧Below w.heap.size w w':=by
 have HA:=qh ha
 have hr:=WRow.new (w.alloc (.cells (wsC a) 154)) (List.replicate 25 0) 154
 have ra:=(WRow.new w a 154).alloc (.cells (wsC (List.replicate 25 0)) 154)
 have hb:Below w.heap.size w ((w.alloc (.cells (wsC a) 154)).alloc (.cells (wsC (List.replicate 25 0)) 154)):=((Below.refl _ _).alloc qn _).alloc (by simp) _
 have hz:(wsC (List.replicate 25 0))=#[.int .u64 0,.int .u64 0,.int .u64 0,.int .u64 0,.int .u64 0,.int .u64 0,.int .u64 0,.int .u64 0,.int .u64 0,.int .u64 0,.int .u64 0,.int .u64 0,.int .u64 0,.int .u64 0,.int .u64 0,.int .u64 0,.int .u64 0,.int .u64 0,.int .u64 0,.int .u64 0,.int .u64 0,.int .u64 0,.int .u64 0,.int .u64 0,.int .u64 0]:=by
  rw [qct];simp only [List.replicate]
 rw [World.size_alloc] at hr
 have hst:RefMix w.heap.size w ((w.alloc (.cells (wsC a) 154)).alloc (.cells (wsC (List.replicate 25 0)) 154)) a:=⟨hb,ra,hr⟩
 rw [hz] at hst
 clear hr ra hb hz ha
 go_enter Tryz.func108,Tryz.ntmps108
 go_wp2_with fail
 go_loopw [3] (fun i wr=>∃ k:Nat,k≤24∧i=.int .i64 k∧RefMix w.heap.size w wr (mixK a k)) (fun i _=>24 - (intOf i).toNat)
 case atStart=>exact ⟨0,by omega,rfl,hst⟩
 case round =>
  clear hst
  obtain ⟨k,hk,rfl,hs⟩:=hrel
  have ml:=qdv a HA.out k
  have j0:=qdk _ ml
  by_cases hlt:k < 24
  ·have hlt':(k:Int) < 24:=by omega
   have ra:=hs.ra
   go_wp2_with (refine wpList_load_row rfl _ _ rfl w.heap.size rfl _ _ _ _ ra Tryz.underlying154 rfl j0 ?_)
   refine (qmi (mixK a k) k hlt ml _).mono ?_
   rintro e w3 ⟨rfl,hb3⟩
   have hs3:=hs.keep hb3
   have ra3:=hs3.ra
   have j1:=qdk _ (qdq (mixK a k) (lastL.getD k 0))
   have s1:(wsC (mixK a k)).size=(wsC (roundK (mixK a k) (lastL.getD k 0))).size:=by rw [qbj,qbj,ml,qdq]
   have o3:=qcz (roundK (mixK a k) (lastL.getD k 0))
   go_wp2_with (refine wpList_store_row rfl _ _ _ rfl w.heap.size _ rfl rfl _ _ ra3 j1 s1 o3 ?_)
   go_roundw
   case rel=>exact ⟨k+1,by omega,by go_num,hs3.row _⟩
   case measure=>simp [intOf];omega
  ·obtain rfl:k=24:=by omega
   have ra:=hs.ra
   have rr:=hs.rres
   have s1:(wsC (List.replicate 25 0)).size=(wsC (mixK a 24)).size:=by rw [qbj,qbj,ml];rfl
   have o3:=qcz (mixK a 24)
   have rr':=rr.row (mixK a 24)
   go_wp2_with (first | (refine wpList_load_row rfl _ _ rfl w.heap.size rfl _ _ _ _ ra Tryz.underlying154 rfl j0 ?_) | (refine wpList_store_row rfl _ _ _ rfl (w.heap.size+1) _ rfl rfl _ _ rr j0 s1 o3 ?_))
   refine bodyPost_ret (v:=.agg (wsC (mixK a 24))) (results_cell_row rfl _ _ (w.heap.size+1) _ _ _ _ rfl rr' Tryz.underlying154 rfl j0) rfl ?_
   exact ⟨rfl,qak hs.bel (by omega) _⟩
end Go.Proofs.YteoednifdpdbnaaGreat
