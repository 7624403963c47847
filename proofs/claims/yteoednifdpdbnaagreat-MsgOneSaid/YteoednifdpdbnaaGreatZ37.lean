/- The walk of sha.Mac's closure. -/
import Derived.Test.YteoednifdpdbnaaGreatZ36
import Derived.Lib.BufferWrite
namespace Go.Proofs.YteoednifdpdbnaaGreat
set_option linter.unusedVariables false
set_option linter.unusedSimpArgs false
open Go.RowKit
set_option maxHeartbeats 4000000
set_option maxRecDepth 100000
open Go.RowKit Go.Shelf
theorem qm6 (a b:UInt8):bits .xor .u8 (a.toNat:Int) (b.toNat:Int)=((a ^^^ b).toNat:Int):=by
 have ha:=a.toNat_lt
 have hb:=b.toNat_lt
 have hx:a.toNat ^^^ b.toNat < 2 ^ 8:=Nat.xor_lt_two_pow (by omega) (by omega)
 have h1:(BitVec.ofInt 8 (a.toNat:Int)).toNat=a.toNat:=by
  rw [BitVec.ofInt_natCast,BitVec.toNat_ofNat];exact Nat.mod_eq_of_lt (by omega)
 have h2:(BitVec.ofInt 8 (b.toNat:Int)).toNat=b.toNat:=by
  rw [BitVec.ofInt_natCast,BitVec.toNat_ofNat];exact Nat.mod_eq_of_lt (by omega)
 show IntKind.u8.wrap ((BitVec.ofInt 8 (a.toNat:Int) ^^^ BitVec.ofInt 8 (b.toNat:Int)).toNat:Int)=_
 rw [BitVec.toNat_xor,h1,h2,IntWalk.u8_in _ (by omega),UInt8.toNat_xor]
def rowX (key:Bytes) (v:UInt8) (i:Nat):Bytes:=tab 64 (fun j=>key.getD j 0 ^^^ v) (fun j=>key.getD j 0) i
theorem qs3 (key:Bytes) (v:UInt8) (h:key.length≤64):rowX key v 0=key ++ List.replicate (64 - key.length) 0:=by
 apply List.ext_getElem?
 intro j
 unfold rowX
 by_cases hj:j < 64
 ·rw [qfi hj,if_neg (by omega)]
  by_cases h2:j < key.length
  ·rw [List.getElem?_append_left h2,List.getD_eq_getElem?_getD,List.getElem?_eq_getElem h2];rfl
  ·rw [List.getElem?_append_right (by omega),List.getD_eq_getElem?_getD,List.getElem?_eq_none (by omega)]
   rw [List.getElem?_replicate,if_pos (by omega)];rfl
 ·rw [List.getElem?_eq_none (by rw [qb0];omega),List.getElem?_eq_none (by simp;omega)]
theorem rowX_all (key:Bytes) (v:UInt8):rowX key v 64=keyS key v:=qh6 _ _ _
theorem rowX_len (key:Bytes) (v:UInt8) (i:Nat):(rowX key v i).length=64:=qb0 _ _ _ _
theorem rowX_at (key:Bytes) (v:UInt8) {i:Nat} (h:i < 64):(rowX key v i).getD i 0=key.getD i 0:=by
 unfold rowX;rw [List.getD_eq_getElem?_getD,qfi h];simp
theorem rowX_set (key:Bytes) (v:UInt8) (i:Nat):(rowX key v i).set i (key.getD i 0 ^^^ v)=rowX key v (i+1):=qdz
theorem copied (key:Bytes) (h:key.length≤64):((bytesC (List.replicate 64 0)).toList.take 0 ++ Lib.byteCells (bs key).data.toList ++ (bytesC (List.replicate 64 0)).toList.drop (0+(bs key).size)).toArray=bytesC (key ++ List.replicate (64 - key.length) 0):=by
 rw [size_bs,data_bs]
 have e:(bytesC (List.replicate 64 0)).toList=List.replicate 64 (cellB 0):=by simp only [bytesC,List.map_replicate]
 rw [e,List.take_zero,List.nil_append,Nat.zero_add,List.drop_replicate]
 unfold bytesC
 rw [List.map_append,List.map_replicate]
 rfl
theorem qnm (key:Bytes) (hk:key.length≤64) (v:UInt8) (g2:Nat) (w:World) (hc:w.cell? ⟨g2,0,none⟩=some (.string (bs key))):Calls Tryz.prog 249 #[.int .u8 (v.toNat:Int),.pointer (some ⟨g2,0,none⟩)] w fun e w'=>e=.returned (.string (bs (keyS key v)))∧Below w.heap.size w w':=by
 obtain ⟨W1,hmk,hM,hc1⟩:∃ W1,(Instr.makeSlice 97 (.int .i64 64) (.int .i64 64)).run Tryz.prog w=.ok (.slice (some ⟨w.heap.size,0,none⟩) 64 64) W1∧Mem w W1 [(w.heap.size,bytesC (List.replicate 64 0),5)]∧W1.cell? ⟨g2,0,none⟩=some (.string (bs key)) :=
  ⟨_,qg2 64 (by omega) w,(Mem.nil w).alloc _ _,by rw [← hc];exact World.cell?_of_block (heap_alloc_old _ _ (qaz hc))⟩
 obtain ⟨B,hB⟩:∃ B,w.heap.size=B:=⟨_,rfl⟩
 rw [hB] at hM hmk
 have hcp:∀ ty,(Builtin.copy_ #[97,9] ty #[.slice (some ⟨B,0,none⟩) 64 64,.string (bs key)]).run Tryz.prog W1=.ok (goInt (bs key).size) (W1.setRow B (bytesC (rowX key v 0))):=fun ty=>by
  have:=Lib.run_copy_row_string (P:=Tryz.prog) W1 97 9 ty 5 B 0 64 64 (bs key) (bytesC (List.replicate 64 0)) 5 Tryz.underlying97 (by kernel_rfl) (hM.at_ at0) (by rw [size_bs];exact hk) (by rw [size_bs];show _≤((List.replicate 64 (0:UInt8)).map cellB).toArray.size;rw [List.size_toArray,List.length_map,List.length_replicate];omega)
  rw [copied key hk,← qs3 key v hk] at this
  exact this
 have hM2:=hM.set at0 (bytesC (rowX key v 0)) up0
 obtain ⟨W2,hW2⟩:∃ W2,W1.setRow B (bytesC (rowX key v 0))=W2:=⟨_,rfl⟩
 rw [hW2] at hM2
 simp only [hW2] at hcp
 have HM:=qh hM2
 clear hM hM2 hW2 hB
 go_enter Tryz.func249,Tryz.ntmps249
 go_wp2_with fail
 clear hmk hcp hc1
 go_loopw [5,12] (fun _ x wr=>∃ i:Nat,i≤64∧x=.int .i64 i∧Mem w wr [(B,bytesC (rowX key v i),5)]) (fun _ x _=>64 - (intOf x).toNat)
 case atStart=>exact ⟨0,by omega,rfl,HM.out⟩
 case round =>
  clear HM
  obtain ⟨i,hi,rfl,hM⟩:=hrel
  by_cases hlt:i < 64
  ·
   have hlt':(i:Int) < 64:=by omega
   have c0:=cellY hM at0 (i:=i) (by rw [rowX_len];omega)
   rw [rowX_at key v hlt] at c0
   have f0:=freeY hM at0 i
   have hrs:=rowX_set key v i
   obtain ⟨u,hu⟩:∃ u,key.getD i 0=u:=⟨_,rfl⟩
   rw [hu] at c0 hrs
   have hx:=qm6 u v
   have HR:=qh hrs
   have HM:=qh hM
   clear hu hrs hM
   go_wp2_with fail
   go_roundw
   case rel =>
    refine ⟨i+1,by omega,by go_num,?_⟩
    have:=HM.out.setY at0 i (u ^^^ v) rfl
    rw [HR.out] at this
    exact this
   case measure=>simp [intOf];omega
  ·
   obtain rfl:i=64:=by omega
   rw [rowX_all] at hM
   have htl:=qfs key v
   obtain ⟨T,hT⟩:∃ T,keyS key v=T:=⟨_,rfl⟩
   rw [hT] at hM htl
   have HT:=qh hT
   have hrow:BRow wr B T 5:=hM.at_ at0
   have hcv:=qa3 (P:=Tryz.prog) (c:=64) (src:=97) (dst:=9) Tryz.underlying97 Tryz.underlying5 Tryz.underlying9 hrow.lies
   rw [htl] at hcv
   have hb:=qh hM.below
   have e64:((64:Nat):Int)=64:=rfl
   rw [e64]
   clear hM hrow htl hT e64
   go_wp2_with fail
   go_ret
   exact ⟨by rw [HT.out];rfl,hb.out⟩
end Go.Proofs.YteoednifdpdbnaaGreat
