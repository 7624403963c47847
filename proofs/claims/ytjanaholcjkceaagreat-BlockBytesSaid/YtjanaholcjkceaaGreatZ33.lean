/- The walks of u256: Bytes, From. -/
import Derived.Test.YtjanaholcjkceaaGreatZ32
import Derived.Test.YtjanaholcjkceaaGreatZ06
namespace Go.Proofs.YtjanaholcjkceaaGreat
set_option linter.unusedVariables false
set_option linter.unusedSimpArgs false
open Go.RowKit
set_option maxHeartbeats 4000000
set_option maxRecDepth 100000
/-- byte i of 32 -/
def byteU (v i:Nat):UInt8:=UInt8.ofNat (v / 256 ^ (31 - i) % 256)
theorem bytesOf_range (v:Nat):∀ n,bytesOf n v=(List.range n).map fun i=>UInt8.ofNat (v / 256 ^ (n - 1 - i) % 256)
 | 0=>rfl
 | n+1=>by
  rw [bytesOf,bytesOf_range v n,List.range_succ_eq_map,List.map_cons,List.map_map]
  congr 1
  refine List.map_congr_left fun i hi=>?_
  have:=List.mem_range.1 hi
  show UInt8.ofNat (v / 256 ^ (n - 1 - i) % 256)=UInt8.ofNat (v / 256 ^ (n+1 - 1 - (i+1)) % 256)
  rw [show n+1 - 1 - (i+1)=n - 1 - i by omega]
theorem uB_tab (x:U4):tab 32 (byteU x.val) (fun _=>0) 32=uB x:=by
 unfold uB
 rw [bytesOf_range,tab]
 refine List.map_congr_left fun i hi=>?_
 rw [if_pos (List.mem_range.1 hi)];rfl
def rowB (l:List UInt8):Array Value:=(l.map cellB).toArray
theorem rowB_set (l:List UInt8) (i:Nat) (c:UInt8):(rowB l).setIfInBounds i (cellB c)=rowB (l.set i c):=by
 unfold rowB;simp [List.map_set]
theorem byte_here {x:U4} (h:x.Wf) (i k:Nat) (hk:k+i=31):Value.int .u8 (((x.word (k / 8):Nat):Int) / 2 ^ (8 * (k % 8)) % 256)=cellB (byteU x.val i):=by
 have h1:=U4.byte h k (by omega)
 have e:((x.word (k / 8):Nat):Int) / 2 ^ (8 * (k % 8)) % 256=((x.word (k / 8) / 256 ^ (k % 8) % 256:Nat):Int):=by
  rw [show (256:Nat) ^ (k % 8)=2 ^ (8 * (k % 8)) by rw [Nat.pow_mul]]
  simp
 rw [e,h1,cellB_lt (Nat.mod_lt _ (by decide))]
 unfold byteU
 rw [show 31 - i=k by omega]
theorem ubytes_any (x:U4) (hx:x.Wf) (w:World):Calls Tryz.prog 71 #[.agg (u4C x)] w fun e w'=>e=.returned (.string (bs (uB x)))∧Below w.heap.size w w':=by
 have e32:(#[.int .u8 0,.int .u8 0,.int .u8 0,.int .u8 0,.int .u8 0,.int .u8 0,.int .u8 0,.int .u8 0,.int .u8 0,.int .u8 0,.int .u8 0,.int .u8 0,.int .u8 0,.int .u8 0,.int .u8 0,.int .u8 0,.int .u8 0,.int .u8 0,.int .u8 0,.int .u8 0,.int .u8 0,.int .u8 0,.int .u8 0,.int .u8 0,.int .u8 0,.int .u8 0,.int .u8 0,.int .u8 0,.int .u8 0,.int .u8 0,.int .u8 0,.int .u8 0]:Array Value)=rowB (tab 32 (byteU x.val) (fun _=>0) 0):=rfl
 have hX:=heap_alloc_new w (.cells (u4C x) 51)
 have hz:(w.alloc (.cells (u4C x) 51)).heap.size=w.heap.size+1:=by simp
 have hY:=heap_alloc_new (w.alloc (.cells (u4C x) 51)) (.cells (rowB (tab 32 (byteU x.val) (fun _=>0) 0)) 146)
 have hX:=(heap_alloc_old _ (.cells (rowB (tab 32 (byteU x.val) (fun _=>0) 0)) 146) (qg hX)).trans hX
 rw [hz] at hY
 have hB:=((Below.refl w.heap.size w).alloc qn (.cells (u4C x) 51)).alloc (by simp) (.cells (rowB (tab 32 (byteU x.val) (fun _=>0) 0)) 146)
 have HX:=qh hX
 have HY:=qh hY
 have HB:=qh hB
 have HW:=qh hx
 have HE:=qh e32
 clear hX hY hB hz hx e32
 go_enter Tryz.func71,Tryz.ntmps71
 go_wp2_with fail
 rw [HE.out]
 clear HE
 generalize (w.alloc (.cells (u4C x) 51)).alloc (.cells (rowB (tab 32 (byteU x.val) (fun _=>0) 0)) 146)=W0 at HX HY HB ⊢
 have hal:Tryz.prog.arrayLen 51 = 4:=by kernel_rfl
 have hal2:Tryz.prog.arrayLen 146 = 32:=by kernel_rfl
 have hcl:Tryz.prog.cellsOf 22 = 1:=by kernel_rfl
 have hcl2:Tryz.prog.cellsOf 5 = 1:=by kernel_rfl
 go_loopw [6] (fun i wr=>∃ j:Nat,j≤32∧i=.int .i64 (j:Int)∧wr.heap[w.heap.size]? = some (.cells (u4C x) 51 (0,0))∧wr.heap[w.heap.size+1]? = some (.cells (rowB (tab 32 (byteU x.val) (fun _=>0) j)) 146 (0,0))∧Below w.heap.size w wr) (fun i _=>32 - (intOf i).toNat)
 case atStart=>exact ⟨0,by omega,rfl,HX.out,HY.out,HB.out⟩
 case round =>
  obtain ⟨j,hj,rfl,hX,hO,hb⟩:=hrel
  clear HX HY HB
  by_cases hlt:j < 32
  ·have hltI:(j:Int) < 32:=by omega
   obtain ⟨k,hk⟩:∃ k,k+j=31:=⟨31 - j,by omega⟩
   have hkI:(31:Int) - j=k:=by omega
   have cx:wr.cell? ⟨w.heap.size,k / 8,none⟩=some (.int .u64 (x.word (k / 8):Int)):=rc hX _ (u4C_get x _ (by omega))
   have fo:=rf hO j
   have hst:=heap_setCell_here hO (i:=j) (cellB (byteU x.val j))
   rw [rowB_set,tab_set,← byte_here HW.out j k hk] at hst
   obtain ⟨p,hp⟩:∃ p,x.word (k / 8)=p:=⟨_,rfl⟩
   rw [hp] at cx hst
   have co:wr.cell? ⟨w.heap.size+1,j,none⟩=some (cellB ((tab 32 (byteU x.val) (fun _=>0) j).getD j 0)):=rc hO j (by simp [rowB,tab,hlt])
   have HST:=qh hst
   have HX:=qh hX
   have HB:=qh hb
   clear hst hX hO hb hp
   go_wp2_with fail
   go_roundw
   case rel=>exact ⟨j+1,by omega,by go_num,(heap_set_ne (by omega) _).trans HX.out,HST.out,HB.out.setCell (p:=⟨w.heap.size+1,j,none⟩) (by simp) _⟩
   case measure=>simp [intOf];omega
  ·obtain rfl:j=32:=by omega
   rw [uB_tab] at hO
   have hl:(uB x).length=32:=uB_len x
   have hcv:(convert 96 9 (.slice (some ⟨w.heap.size+1,0,none⟩) 32 32)).run Tryz.prog wr=.ok (.string (bs (uB x))) wr:=by
    have:=run_bytes_str (P:=Tryz.prog) (w:=wr) (src:=96) (dst:=9) (e:=5) (A:=some ⟨w.heap.size+1,0,none⟩) (c:=32) (l:=uB x) Tryz.underlying96 Tryz.underlying5 Tryz.underlying9 (lies_one hO (fun j u hj=>by simpa [rowB] using hj))
    rwa [hl] at this
   have HB:=qh hb
   clear hX hO hb hl
   go_wp2_with fail
   go_ret
   exact ⟨rfl,HB.out⟩
/-- bytes that are read so far, the last one first -/
theorem natOf_append (a b:List UInt8):natOf (a ++ b)=natOf a * 256 ^ b.length+natOf b:=by
 induction a with
 | nil=>simp [natOf]
 | cons c a ih=>rw [List.cons_append,natOf,natOf,ih,List.length_append,Nat.pow_add,Nat.add_mul,Nat.mul_assoc,Nat.add_assoc]
theorem p64:(18446744073709551616:Nat)=256 ^ 8:=by decide
theorem of_word (v:Nat) (hv:v < two256) (m:Nat) (hm:m < 4):(U4.of v).word m=v / 256 ^ (8 * m) % 256 ^ 8:=by
 rw [U4.word_val (U4.of_wf v) m hm,U4.val_of hv,p64,← Nat.pow_mul]
/-- a byte more -/
theorem from_step {q c k:Nat} (hc:c < 256) (hk:k < 32) (h1:256 ^ (k+1) * q+c * 256 ^ k < two256) :
  (U4.of (256 ^ (k+1) * q)).word (k / 8) ||| c * 256 ^ (k % 8)=(U4.of (256 ^ (k+1) * q+c * 256 ^ k)).word (k / 8)∧c * 256 ^ (k % 8) < 18446744073709551616 ∧
  ∀ m,m < 4→m≠k / 8→(U4.of (256 ^ (k+1) * q)).word m=(U4.of (256 ^ (k+1) * q+c * 256 ^ k)).word m:=by
 have h0:256 ^ (k+1) * q < two256:=by omega
 obtain ⟨m,i,hm,hi,e⟩:∃ m i,k / 8=m∧k % 8=i∧k=8 * m+i:=⟨_,_,rfl,rfl,by omega⟩
 have hi8:i < 8:=by omega
 have hm4:m < 4:=by omega
 rw [hm,hi,of_word _ h0 m hm4,of_word _ h1 m hm4]
 have hp:∀ n,0 < (256:Nat) ^ n:=fun n=>Nat.pow_pos (by decide)
 have e1:256 ^ (k+1) * q=256 ^ (8 * m) * (256 ^ (i+1) * q):=by rw [e,Nat.add_assoc,Nat.pow_add,Nat.mul_assoc]
 have e2:c * 256 ^ k=256 ^ (8 * m) * (c * 256 ^ i):=by rw [e,Nat.pow_add,Nat.mul_left_comm]
 obtain ⟨d,hd⟩:∃ d,8=(i+1)+d:=⟨8 - (i+1),by omega⟩
 have hcI:c * 256 ^ i < 256 ^ (i+1):=by rw [Nat.pow_succ,Nat.mul_comm (256 ^ i)];exact Nat.mul_lt_mul_of_pos_right hc (hp i)
 have hle:(256:Nat) ^ (i+1)≤256 ^ 8:=Nat.pow_le_pow_right (by decide) (by omega)
 refine ⟨?_,by rw [p64];omega,fun m' hm' hne=>?_⟩
 ·rw [e1,e2,← Nat.mul_add,Nat.mul_div_cancel_left _ (hp _),Nat.mul_div_cancel_left _ (hp _)]
  have hmod:∀ r,r < 256 ^ (i+1)→(256 ^ (i+1) * q+r) % 256 ^ 8=256 ^ (i+1) * (q % 256 ^ d)+r:=fun r hr=>by
   rw [show (256:Nat) ^ 8=256 ^ (i+1) * 256 ^ d by rw [← Nat.pow_add,← hd],Nat.mod_mul,Nat.mul_add_mod,Nat.mod_eq_of_lt hr,Nat.mul_add_div (hp _),Nat.div_eq_of_lt hr,Nat.add_comm,Nat.add_zero q]
  rw [hmod _ hcI]
  have:=hmod 0 (hp _)
  rw [Nat.add_zero,Nat.add_zero] at this
  rw [this]
  have h2:=Nat.two_pow_add_eq_or_of_lt (i:=8 * (i+1)) (show c * 256 ^ i < 2 ^ (8 * (i+1)) by rw [Nat.pow_mul];exact hcI) (q % 256 ^ d)
  rw [Nat.pow_mul] at h2
  exact h2.symm
 ·rw [of_word _ h0 m' hm',of_word _ h1 m' hm']
  rcases Nat.lt_or_ge m' m with hl | hl
  ·obtain ⟨g,rfl⟩:∃ g,m=m'+(g+1):=⟨m - m' - 1,by omega⟩
   have e3:∀ z,256 ^ (8 * (m'+(g+1))) * z=256 ^ (8 * m') * (256 ^ 8 * (256 ^ (8 * g) * z)):=fun z=>by
    rw [show 8 * (m'+(g+1))=8 * m'+(8+8 * g) by omega,Nat.pow_add,Nat.pow_add,Nat.mul_assoc,Nat.mul_assoc]
   rw [e1,e2,← Nat.mul_add,e3,e3,Nat.mul_div_cancel_left _ (hp _),Nat.mul_div_cancel_left _ (hp _),Nat.mul_mod_right,Nat.mul_mod_right]
  ·have hl:m < m':=by omega
   obtain ⟨g,hg⟩:∃ g,8 * m'=(k+1)+g:=⟨8 * m' - (k+1),by omega⟩
   have hck:c * 256 ^ k < 256 ^ (k+1):=by rw [Nat.pow_succ,Nat.mul_comm (256 ^ k)];exact Nat.mul_lt_mul_of_pos_right hc (hp k)
   rw [hg,Nat.pow_add _ (k+1) g,← Nat.div_div_eq_div_mul,← Nat.div_div_eq_div_mul,Nat.mul_add_div (hp _),Nat.div_eq_of_lt hck,Nat.add_zero q,Nat.mul_div_cancel_left _ (hp _)]
theorem u4C_set {x y:U4} {j:Nat} (hj:j < 4) (h:∀ m,m < 4→m≠j→x.word m=y.word m):(u4C x).setIfInBounds j (.int .u64 (y.word j:Int))=u4C y:=by
 obtain ⟨a,b,c,d⟩:=x
 obtain ⟨a',b',c',d'⟩:=y
 have h0:=h 0 (by omega)
 have h1:=h 1 (by omega)
 have h2:=h 2 (by omega)
 have h3:=h 3 (by omega)
 simp only [U4.word] at h0 h1 h2 h3
 match j,hj with
 | 0,_=>rw [h1 (by omega),h2 (by omega),h3 (by omega)];rfl
 | 1,_=>rw [h0 (by omega),h2 (by omega),h3 (by omega)];rfl
 | 2,_=>rw [h0 (by omega),h1 (by omega),h3 (by omega)];rfl
 | 3,_=>rw [h0 (by omega),h1 (by omega),h2 (by omega)];rfl
/-- what is read behind j bytes -/
def fromV (s:Bytes) (j:Nat):Nat:=natOf (s.take j) * 256 ^ (s.length - j)
theorem fromV_lt (s:Bytes) (hs:s.length≤32) (j:Nat) (hj:j≤s.length):fromV s j < two256:=by
 unfold fromV
 have h1:=natOf_lt (s.take j)
 rw [List.length_take,Nat.min_eq_left hj] at h1
 have h2:natOf (s.take j) * 256 ^ (s.length - j) < 256 ^ j * 256 ^ (s.length - j):=Nat.mul_lt_mul_of_pos_right h1 (Nat.pow_pos (by decide))
 rw [← Nat.pow_add,Nat.add_sub_cancel' hj] at h2
 have h3:(256:Nat) ^ s.length≤256 ^ 32:=Nat.pow_le_pow_right (by decide) hs
 have h4:=p256
 omega
theorem fromV_succ {s:Bytes} {j k:Nat} {c:UInt8} (hc:s[j]? = some c) (hk:k+j+1=s.length):fromV s (j+1)=256 ^ (k+1) * natOf (s.take j)+c.toNat * 256 ^ k∧fromV s j=256 ^ (k+1) * natOf (s.take j):=by
 unfold fromV
 have h1:s.take (j+1)=s.take j ++ [c]:=by
  obtain ⟨hl,he⟩:=List.getElem?_eq_some_iff.1 hc
  rw [List.take_succ_eq_append_getElem hl,he]
 rw [h1,natOf_append]
 simp only [natOf,List.length_singleton,List.length_nil,Nat.pow_zero,Nat.mul_one,Nat.add_zero,Nat.pow_one]
 rw [show s.length - (j+1)=k by omega,show s.length - j=k+1 by omega,Nat.add_mul,Nat.pow_succ,Nat.mul_comm (256 ^ k * 256),Nat.mul_assoc,Nat.mul_comm 256]
 exact ⟨rfl,rfl⟩
theorem or_here {p q c k:Nat} (h:p ||| c * 256 ^ (k % 8)=q) (hp:p < 18446744073709551616) (hc:c * 256 ^ (k % 8) < 18446744073709551616):bits .or .u64 (p:Int) (IntKind.u64.wrap ((c:Int) * 2 ^ (8 * (k % 8))))=(q:Int):=by
 have e:(c:Int) * 2 ^ (8 * (k % 8))=((c * 256 ^ (k % 8):Nat):Int):=by
  rw [show (256:Nat) ^ (k % 8)=2 ^ (8 * (k % 8)) by rw [Nat.pow_mul]]
  simp
 rw [e,IntWalk.u64_in _ (by omega),bits_or_u64_nat _ _ hp hc,h]
theorem ufrom_any (s:Bytes) (hs:s.length≤32) (w:World):Calls Tryz.prog 83 #[.string (bs s)] w fun e w'=>e=.returned (.tuple #[.agg (u4C (uOf s)),.int .i64 0])∧Below w.heap.size w w':=by
 have hlI:(s.length:Int)≤32:=by omega
 have hZ:(#[.int .u64 0,.int .u64 0,.int .u64 0,.int .u64 0]:Array Value)=u4C (U4.of (fromV s 0)):=by
  unfold fromV;rw [List.take_zero,natOf,Nat.zero_mul];rfl
 have hX:=heap_alloc_new w (.cells #[.int .u64 0,.int .u64 0,.int .u64 0,.int .u64 0] 51)
 have hz:(w.alloc (.cells #[.int .u64 0,.int .u64 0,.int .u64 0,.int .u64 0] 51)).heap.size=w.heap.size+1:=by simp
 have hY:=heap_alloc_new (w.alloc (.cells #[.int .u64 0,.int .u64 0,.int .u64 0,.int .u64 0] 51)) (.cells #[.int .u64 0,.int .u64 0,.int .u64 0,.int .u64 0] 51)
 have hX:=(heap_alloc_old _ (.cells #[.int .u64 0,.int .u64 0,.int .u64 0,.int .u64 0] 51) (qg hX)).trans hX
 rw [hz] at hY
 have hB:=((Below.refl w.heap.size w).alloc qn (.cells #[.int .u64 0,.int .u64 0,.int .u64 0,.int .u64 0] 51)).alloc (by simp) (.cells #[.int .u64 0,.int .u64 0,.int .u64 0,.int .u64 0] 51)
 have HX:=qh hX
 have HY:=qh hY
 have HB:=qh hB
 have HZ:=qh hZ
 have HS:=qh hs
 clear hX hY hB hz hZ hs
 go_enter Tryz.func83,Tryz.ntmps83
 go_wp2_with fail
 generalize (w.alloc (.cells #[.int .u64 0,.int .u64 0,.int .u64 0,.int .u64 0] 51)).alloc (.cells #[.int .u64 0,.int .u64 0,.int .u64 0,.int .u64 0] 51)=W0 at HX HY HB ⊢
 have hal:Tryz.prog.arrayLen 51 = 4:=by kernel_rfl
 have hcl:Tryz.prog.cellsOf 22 = 1:=by kernel_rfl
 go_loopw [13] (fun i wr=>∃ j:Nat,j≤s.length∧i=.int .i64 (j:Int)∧wr.heap[w.heap.size]? = some (.cells #[.int .u64 0,.int .u64 0,.int .u64 0,.int .u64 0] 51 (0,0))∧wr.heap[w.heap.size+1]? = some (.cells (u4C (U4.of (fromV s j))) 51 (0,0))∧Below w.heap.size w wr) (fun i _=>s.length - (intOf i).toNat)
 case atStart=>exact ⟨0,by omega,rfl,HX.out,HZ.out ▸ HY.out,HB.out⟩
 case round =>
  obtain ⟨j,hj,rfl,hX,hO,hb⟩:=hrel
  clear HX HY HB HZ
  by_cases hlt:j < s.length
  ·have hltI:(j:Int) < s.length:=by omega
   obtain ⟨c,hc⟩:=getElem_ex hlt
   obtain ⟨k,hk⟩:∃ k,k+j+1=s.length:=⟨s.length - 1 - j,by omega⟩
   have hkI:(s.length:Int) - 1 - j=k:=by omega
   have hci:s[j]=c:=(List.getElem?_eq_some_iff.1 hc).2
   obtain ⟨f1,f2⟩:=fromV_succ hc hk
   have hlt1:=fromV_lt s HS.out (j+1) (by omega)
   have hcl8:=c.toNat_lt
   obtain ⟨s1,s2,s3⟩:=from_step (q:=natOf (s.take j)) (c:=c.toNat) (k:=k) (by omega) (by omega) (by rw [← f1];exact hlt1)
   rw [← f1,← f2] at s1 s3
   have hk8:k / 8 < 4:=by omega
   have cx:wr.cell? ⟨w.heap.size+1,k / 8,none⟩=some (.int .u64 ((U4.of (fromV s j)).word (k / 8):Int)):=rc hO _ (u4C_get _ _ hk8)
   have fo:=rf hO (k / 8)
   have hst:=heap_setCell_here hO (i:=k / 8) (.int .u64 ((U4.of (fromV s (j+1))).word (k / 8):Int))
   rw [u4C_set hk8 s3] at hst
   have hor:=or_here s1 (word_lt (U4.of_wf _) _) s2
   obtain ⟨p,hp⟩:∃ p,(U4.of (fromV s j)).word (k / 8)=p:=⟨_,rfl⟩
   obtain ⟨q,hq⟩:∃ q,(U4.of (fromV s (j+1))).word (k / 8)=q:=⟨_,rfl⟩
   rw [hp] at cx hor
   rw [hq] at hst hor
   have HST:=qh hst
   have HX:=qh hX
   have HB:=qh hb
   clear hst hX hO hb hp hq s1 s2 s3 f1 f2 hlt1 hc
   go_wp2_with fail
   go_region
   go_wp2_with fail
   go_roundw
   case rel=>exact ⟨j+1,by omega,by go_num,(heap_set_ne (by omega) _).trans HX.out,HST.out,(HB.out.setCell (p:=⟨w.heap.size+1,k / 8,none⟩) (by simp) _).drew⟩
   case measure=>simp [intOf];omega
  ·obtain rfl:j=s.length:=by omega
   have hfin:U4.of (fromV s s.length)=uOf s:=by unfold fromV uOf;rw [List.take_of_length_le qn,Nat.sub_self,Nat.pow_zero,Nat.mul_one]
   rw [hfin] at hO
   obtain ⟨z,hzz⟩:∃ z,uOf s=z:=⟨_,rfl⟩
   rw [hzz] at hO
   have HZZ:=qh hzz
   have o0:wr.cell? ⟨w.heap.size+1,0,none⟩=some (.int .u64 (z.a:Int)):=rc hO 0 rfl
   have o1:wr.cell? ⟨w.heap.size+1,1,none⟩=some (.int .u64 (z.b:Int)):=rc hO 1 rfl
   have o2:wr.cell? ⟨w.heap.size+1,2,none⟩=some (.int .u64 (z.c:Int)):=rc hO 2 rfl
   have o3:wr.cell? ⟨w.heap.size+1,3,none⟩=some (.int .u64 (z.d:Int)):=rc hO 3 rfl
   have r0:wr.cell? ⟨w.heap.size,0,none⟩=some (.int .u64 0):=rc hX 0 rfl
   have r1:wr.cell? ⟨w.heap.size,1,none⟩=some (.int .u64 0):=rc hX 1 rfl
   have r2:wr.cell? ⟨w.heap.size,2,none⟩=some (.int .u64 0):=rc hX 2 rfl
   have r3:wr.cell? ⟨w.heap.size,3,none⟩=some (.int .u64 0):=rc hX 3 rfl
   have f0:=rf hX 0
   have f1:=rf hX 1
   have f2:=rf hX 2
   have f3:=rf hX 3
   have HB:=qh hb
   have HR:=qh hX
   clear hX hO hb hfin hzz
   go_wp2_with fail
   have hfin:=heap_setCell_here (heap_setCell_here (heap_setCell_here (heap_setCell_here HR.out (i:=0) (.int .u64 (z.a:Int))) (i:=1) (.int .u64 (z.b:Int))) (i:=2) (.int .u64 (z.c:Int))) (i:=3) (.int .u64 (z.d:Int))
   refine bodyPost_ret (v:=.tuple #[.agg (u4C z),.int .i64 0]) (results_row_tmp rfl _ _ w.heap.size _ _ _ _ rfl hfin _ rfl Tryz.underlying51 rfl infoU) rfl ?_
   rw [HZZ.out]
   exact ⟨rfl,(((HB.out.setCell (p:=⟨w.heap.size,0,none⟩) (by simp) _).setCell (p:=⟨w.heap.size,1,none⟩) (by simp) _).setCell (p:=⟨w.heap.size,2,none⟩) (by simp) _).setCell (p:=⟨w.heap.size,3,none⟩) (by simp) _⟩
/- The walks of field.Prime at the order, and of sign.between, high, right. -/
/-- by how much the order is below 2^256; the order -/
def cU:U4:=⟨4624529908474429119,4994812053365940164,1,0⟩
def nU:U4:=⟨13822214165235122497,13451932020343611451,18446744073709551614,18446744073709551615⟩
theorem nU_sub:diffW zeroU cU=(nU,1):=by decide +kernel
theorem nU_val:nU.val=ordN:=by decide +kernel
theorem cU_wf:cU.Wf:=⟨by decide,by decide,by decide,by decide⟩
theorem nU_wf:nU.Wf:=⟨by decide,by decide,by decide,by decide⟩
theorem results_cell {fn:Func} {p:Tmp} {ty:TypeId} (h:fn.results=#[.cell p ty]) (tmps:Array Value) (P:Program) (w:World) :
  (results fn tmps).run P w=((asAddr (tmps.getD p undef)).run P w).andThen fun a w₁=>(loadVar ty a).run P w₁:=by
 simp only [results,h]
 simp [Sem.run_bind]
/-- a result of four cells -/
theorem results_row1 {P:Program} {fn:Func} {p:Tmp} {ty:TypeId} (h:fn.results=#[.cell p ty]) (tmps:Array Value) (w:World) (g:Nat) (t:TypeId) (cs:Array Value) (fr:Nat×Nat) (d:TypeDesc)
  (hp:tmps.getD p undef=.pointer (some ⟨g,0,none⟩)) (hg:w.heap[g]? = some (.cells cs t fr))
  (hu:P.underlying ty=some d) (hd:(match d with | .struct _ | .array _ _=>true | _=>false)=true) (hi:(P.info? ty).map (·.size)=some cs.size) :
  (results fn tmps).run P w=.ok (.agg cs) w:=by
 rw [results_cell h,hp]
 simp [asAddr,Sem.run_pure,run_loadVar_row w g t ty cs fr d hg hu hd hi]
theorem row4 {w:World} {g:Nat} {a b c d:Value} {e:TypeId} (h:w.heap[g]? = some (.cells #[a,b,c,d] e (0,0))):w.cell? ⟨g,0,none⟩=some a∧w.cell? ⟨g,1,none⟩=some b∧w.cell? ⟨g,2,none⟩=some c∧w.cell? ⟨g,3,none⟩=some d∧w.frozen? ⟨g,0,none⟩=false∧w.frozen? ⟨g,1,none⟩=false∧w.frozen? ⟨g,2,none⟩=false∧w.frozen? ⟨g,3,none⟩=false :=
 ⟨rc h 0 rfl,rc h 1 rfl,rc h 2 rfl,rc h 3 rfl,rf h 0,rf h 1,rf h 2,rf h 3⟩
/-- a row of four cells set anew -/
def set4 (w:World) (g:Nat) (a b c d:Value):World:=(((w.setCell ⟨g,0,none⟩ a).setCell ⟨g,1,none⟩ b).setCell ⟨g,2,none⟩ c).setCell ⟨g,3,none⟩ d
theorem set4_here {w:World} {g:Nat} {a b c d a' b' c' d':Value} {e:TypeId} (h:w.heap[g]? = some (.cells #[a',b',c',d'] e (0,0))):(set4 w g a b c d).heap[g]? = some (.cells #[a,b,c,d] e (0,0)) :=
 heap_setCell_here (heap_setCell_here (heap_setCell_here (heap_setCell_here h (i:=0) a) (i:=1) b) (i:=2) c) (i:=3) d
theorem set4_other {w:World} {g b0:Nat} {a b c d:Value} (h:b0≠g):(set4 w g a b c d).heap[b0]? = w.heap[b0]?:=by
 unfold set4
 rw [heap_set_ne h,heap_set_ne h,heap_set_ne h,heap_set_ne h]
theorem set4_below {B:Nat} {w0 w:World} {g:Nat} {a b c d:Value} (h:Below B w0 w) (hg:B≤g):Below B w0 (set4 w g a b c d) :=
 (((h.setCell (p:=⟨g,0,none⟩) hg _).setCell (p:=⟨g,1,none⟩) hg _).setCell (p:=⟨g,2,none⟩) hg _).setCell (p:=⟨g,3,none⟩) hg _
theorem below1_any (w:World):Calls Tryz.prog 138 #[.int .i64 1] w fun e w'=>e=.returned (.tuple #[.agg #[.int .u64 4624529908474429119,.int .u64 4994812053365940164,.int .u64 1,.int .u64 0],.bool true])∧Below w.heap.size w w':=by
 have HX:=qh (heap_alloc_new w (.cells #[.int .u64 4624529908474429119,.int .u64 4994812053365940164,.int .u64 1,.int .u64 0] 51))
 have HB:=qh ((Below.refl w.heap.size w).alloc qn (.cells #[.int .u64 4624529908474429119,.int .u64 4994812053365940164,.int .u64 1,.int .u64 0] 51))
 go_enter Tryz.func138,Tryz.ntmps138
 go_wp2_with fail
 exact bodyPost_ret (v:=.tuple #[.agg #[.int .u64 4624529908474429119,.int .u64 4994812053365940164,.int .u64 1,.int .u64 0],.bool true]) (results_row_tmp rfl _ _ w.heap.size _ _ _ _ rfl HX.out _ rfl Tryz.underlying51 rfl infoU) rfl ⟨rfl,HB.out⟩
theorem sub_lit (w:World):Calls Tryz.prog 141 #[.agg #[.int .u64 0,.int .u64 0,.int .u64 0,.int .u64 0],.agg #[.int .u64 4624529908474429119,.int .u64 4994812053365940164,.int .u64 1,.int .u64 0]] w fun e w'=>e=.returned (.tuple #[.agg #[.int .u64 13822214165235122497,.int .u64 13451932020343611451,.int .u64 18446744073709551614,.int .u64 18446744073709551615],.bool true])∧Below w.heap.size w w':=by
 have h:=sub_any zeroU cU zeroU_wf cU_wf w
 rw [nU_sub] at h
 exact h
theorem modulus1_any (w:World):Calls Tryz.prog 139 #[.int .i64 1] w fun e w'=>e=.returned (.agg #[.int .u64 13822214165235122497,.int .u64 13451932020343611451,.int .u64 18446744073709551614,.int .u64 18446744073709551615])∧Below w.heap.size w w':=by
 have hX:=heap_alloc_new w (.cells #[.int .u64 0,.int .u64 0,.int .u64 0,.int .u64 0] 51)
 have HB:=qh ((Below.refl w.heap.size w).alloc qn (.cells #[.int .u64 0,.int .u64 0,.int .u64 0,.int .u64 0] 51))
 have HX:=qh hX
 clear hX
 go_enter Tryz.func139,Tryz.ntmps139
 go_wp2_with fail
 refine (below1_any _).mono ?_
 rintro e w1 ⟨rfl,hb1⟩
 have HX1:=qh ((hb1.block _ (qg HX.out)).trans HX.out)
 have HB1:=qh (below_call HB.out HB.out.size hb1)
 clear hb1 HX HB
 go_wp2_with fail
 refine (sub_lit _).mono ?_
 rintro e w2 ⟨rfl,hb2⟩
 have hba:Below w1.heap.size w1 (w1.alloc (.cells #[.int .u64 4624529908474429119,.int .u64 4994812053365940164,.int .u64 1,.int .u64 0] 51)):=(Below.refl _ _).alloc qn _
 have hX2:=(hb2.block _ (Nat.lt_of_lt_of_le (qg HX1.out) hba.size)).trans ((hba.block _ (qg HX1.out)).trans HX1.out)
 have HB2:=qh (below_call (below_call HB1.out HB1.out.size hba) (Nat.le_trans HB1.out.size hba.size) hb2)
 have hX3:=(heap_alloc_old w2 (.cells #[.int .u64 13822214165235122497,.int .u64 13451932020343611451,.int .u64 18446744073709551614,.int .u64 18446744073709551615] 51) (qg hX2)).trans hX2
 have HB3:=qh (HB2.out.alloc HB2.out.size (.cells #[.int .u64 13822214165235122497,.int .u64 13451932020343611451,.int .u64 18446744073709551614,.int .u64 18446744073709551615] 51))
 obtain ⟨r0,r1,r2,r3,f0,f1,f2,f3⟩:=row4 hX2
 obtain ⟨p0,p1,p2,p3,g0,g1,g2,g3⟩:=row4 hX3
 have HX3:=qh hX3
 clear hb2 hba hX2 hX3 HX1 HB1 HB2
 go_wp2_with fail
 exact bodyPost_ret (v:=.agg #[.int .u64 13822214165235122497,.int .u64 13451932020343611451,.int .u64 18446744073709551614,.int .u64 18446744073709551615]) (results_row1 rfl _ _ w.heap.size _ _ _ _ rfl (by exact set4_here HX3.out) Tryz.underlying51 rfl infoU) rfl ⟨rfl,set4_below HB3.out qn⟩
theorem prime1_any (w:World):Calls Tryz.prog 125 #[.int .i64 1] w fun e w'=>e=.returned (.tuple #[.agg #[.int .u64 13822214165235122497,.int .u64 13451932020343611451,.int .u64 18446744073709551614,.int .u64 18446744073709551615],.int .i64 0])∧Below w.heap.size w w':=by
 have hX:=heap_alloc_new w (.cells #[.int .u64 0,.int .u64 0,.int .u64 0,.int .u64 0] 51)
 have HB:=qh ((Below.refl w.heap.size w).alloc qn (.cells #[.int .u64 0,.int .u64 0,.int .u64 0,.int .u64 0] 51))
 have HX:=qh hX
 clear hX
 go_enter Tryz.func125,Tryz.ntmps125
 go_wp2_with fail
 refine (below1_any _).mono ?_
 rintro e w1 ⟨rfl,hb1⟩
 have HX1:=qh ((hb1.block _ (qg HX.out)).trans HX.out)
 have HB1:=qh (below_call HB.out HB.out.size hb1)
 clear hb1 HX HB
 go_wp2_with fail
 refine (modulus1_any _).mono ?_
 rintro e w2 ⟨rfl,hb2⟩
 have hba:Below w1.heap.size w1 (w1.alloc (.cells #[.int .u64 4624529908474429119,.int .u64 4994812053365940164,.int .u64 1,.int .u64 0] 51)):=(Below.refl _ _).alloc qn _
 have hX2:=(hb2.block _ (Nat.lt_of_lt_of_le (qg HX1.out) hba.size)).trans ((hba.block _ (qg HX1.out)).trans HX1.out)
 have HB2:=qh (below_call (below_call HB1.out HB1.out.size hba) (Nat.le_trans HB1.out.size hba.size) hb2)
 obtain ⟨r0,r1,r2,r3,f0,f1,f2,f3⟩:=row4 hX2
 have HX2:=qh hX2
 clear hb2 hba hX2 HX1 HB1
 go_wp2_with fail
 exact bodyPost_ret (v:=.tuple #[.agg #[.int .u64 13822214165235122497,.int .u64 13451932020343611451,.int .u64 18446744073709551614,.int .u64 18446744073709551615],.int .i64 0]) (results_row_tmp rfl _ _ w.heap.size _ _ _ _ rfl (by exact set4_here HX2.out) _ rfl Tryz.underlying51 rfl infoU) rfl ⟨rfl,set4_below HB2.out qn⟩
theorem cmpN (x:U4) (h:x.Wf):(cmpW x nU < 0↔x.val < ordN)∧(0 < cmpW x nU↔ordN < x.val):=by
 rw [cmpW_val h nU_wf,nU_val]
 by_cases h1:x.val < ordN
 ·rw [if_pos h1];exact ⟨by simp [h1],by simp;omega⟩
 ·rw [if_neg h1]
  by_cases h2:ordN < x.val
  ·rw [if_pos h2];exact ⟨by simp;omega,by simp [h2]⟩
  ·rw [if_neg h2];exact ⟨by simp;omega,by simp;omega⟩
theorem cmp_lit (x:U4) (w:World):Calls Tryz.prog 126 #[.agg #[.int .u64 (x.a:Int),.int .u64 (x.b:Int),.int .u64 (x.c:Int),.int .u64 (x.d:Int)],.agg #[.int .u64 13822214165235122497,.int .u64 13451932020343611451,.int .u64 18446744073709551614,.int .u64 18446744073709551615]] w fun e w'=>e=.returned (.int .i64 (cmpW x nU))∧Below w.heap.size w w':=cmp_any x nU w
theorem run_eqItems_ints {P:Program} (d:Nat) {e:TypeId} {q:IntKind} (he:P.underlying e=some (.int q)) (w:World) (xs ys:Array Value) (f g:Nat→Int):∀ (is:List Nat),(∀ i∈is,xs[i * 1]? = some (.int q (f i))∧ys[i * 1]? = some (.int q (g i))) →
  (Op.eqItems (d+1) e 1 xs ys is).run P w=.ok (is.all fun i=>f i == g i) w
 | [],_=>by simp [Op.eqItems]
 | i :: is,h=>by
  obtain ⟨hv,hv2⟩:=h i (by simp)
  have hp:(part e xs (i * 1)).run P w=.ok (.int q (f i)) w:=by simp only [part,isAgg,Sem.run_bind,run_underlying he,Result.andThen_ok,hv];simp
  have hp2:(part e ys (i * 1)).run P w=.ok (.int q (g i)) w:=by simp only [part,isAgg,Sem.run_bind,run_underlying he,Result.andThen_ok,hv2];simp
  have ih:=run_eqItems_ints d he w xs ys f g is (fun j hj=>h j (by simp [hj]))
  simp only [Op.eqItems,Sem.run_bind,hp,hp2,Result.andThen_ok,run_equalIn_int w d e q q _ _ he]
  cases hfg:(f i == g i) with
  | true=>simpa [hfg] using ih
  | false=>simp [hfg]
theorem infoU64:∃ i,Tryz.prog.info? 22 = some i:=info_of_underlying Tryz.underlying22
def eqU (x y:U4):Bool:=decide (x=y)
theorem eqU_range (x y:U4):((List.range 4).all fun i=>(x.word i:Int) == (y.word i:Int))=eqU x y:=by
 unfold eqU
 rw [Bool.eq_iff_iff,decide_eq_true_iff,List.all_eq_true]
 constructor
 ·intro h
  have h0:=h 0 (by decide)
  have h1:=h 1 (by decide)
  have h2:=h 2 (by decide)
  have h3:=h 3 (by decide)
  simp only [beq_iff_eq,U4.word] at h0 h1 h2 h3
  obtain ⟨a,b,c,d⟩:=x
  obtain ⟨a',b',c',d'⟩:=y
  simp only [U4.mk.injEq]
  simp only [] at h0 h1 h2 h3
  exact ⟨Int.ofNat.inj h0,Int.ofNat.inj h1,Int.ofNat.inj h2,Int.ofNat.inj h3⟩
 ·rintro rfl i _
  exact beq_self_eq_true _
theorem run_eqU (d:Nat) (x y:U4) (w:World):(Op.equalIn (d+2) 51 (.agg #[.int .u64 (x.a:Int),.int .u64 (x.b:Int),.int .u64 (x.c:Int),.int .u64 (x.d:Int)]) (.agg #[.int .u64 (y.a:Int),.int .u64 (y.b:Int),.int .u64 (y.c:Int),.int .u64 (y.d:Int)])).run Tryz.prog w=.ok (eqU x y) w:=by
 obtain ⟨i,hi⟩:=infoU64
 refine (run_equalIn_array w (d+1) _ _ Tryz.underlying51 hi).trans ?_
 rw [show Tryz.prog.cellsOf 22 = 1 by kernel_rfl]
 refine (run_eqItems_ints d Tryz.underlying22 w _ _ (fun i=>(x.word i:Int)) (fun i=>(y.word i:Int)) (List.range 4) (fun j hj=>?_)).trans ?_
 rotate_left
 ·refine congrArg (fun b=>Result.ok b w) (eqU_range x y)
 ·have hj:j < 4:=by simpa using hj
  exact ⟨by rw [Nat.mul_one];exact u4C_get x j hj,by rw [Nat.mul_one];exact u4C_get y j hj⟩
theorem between_any (x:U4) (h:x.Wf) (w:World):Calls Tryz.prog 96 #[.agg #[.int .u64 (x.a:Int),.int .u64 (x.b:Int),.int .u64 (x.c:Int),.int .u64 (x.d:Int)]] w fun e w'=>e=.returned (.bool (insideN x))∧Below w.heap.size w w':=by
 have hX:=heap_alloc_new w (.cells #[.int .u64 (x.a:Int),.int .u64 (x.b:Int),.int .u64 (x.c:Int),.int .u64 (x.d:Int)] 51)
 have HB:=qh ((Below.refl w.heap.size w).alloc qn (.cells #[.int .u64 (x.a:Int),.int .u64 (x.b:Int),.int .u64 (x.c:Int),.int .u64 (x.d:Int)] 51))
 have HX:=qh hX
 have HW:=qh h
 clear hX h
 go_enter Tryz.func96,Tryz.ntmps96
 go_wp2_with fail
 refine (prime1_any _).mono ?_
 rintro e w1 ⟨rfl,hb1⟩
 have hX1:=(hb1.block _ (qg HX.out)).trans HX.out
 have hX2:=(heap_alloc_old w1 (.cells #[.int .u64 13822214165235122497,.int .u64 13451932020343611451,.int .u64 18446744073709551614,.int .u64 18446744073709551615] 51) (qg hX1)).trans hX1
 have HB1:=qh (below_call HB.out HB.out.size hb1)
 obtain ⟨r0,r1,r2,r3,f0,f1,f2,f3⟩:=row4 hX1
 obtain ⟨p0,p1,p2,p3,g0,g1,g2,g3⟩:=row4 hX2
 have HV:=qh (cmpN x HW.out)
 have HI:Hid (insideN x=(!(eqU x zeroU) && decide (cmpW x nU < 0))):=qh (by
  unfold insideN eqU
  rw [Bool.eq_iff_iff]
  simp only [Bool.and_eq_true,decide_eq_true_eq,Bool.not_eq_true',decide_eq_false_iff_not,HV.out.1]
  constructor
  ·rintro ⟨h1,h2⟩;exact ⟨fun e=>by rw [e] at h1;simp [U4.val,zeroU] at h1,h2⟩
  ·rintro ⟨h1,h2⟩
   exact ⟨Nat.pos_of_ne_zero fun e=>h1 (U4.ext HW.out zeroU_wf (by rw [e];rfl)),h2⟩)
 obtain ⟨b,hb⟩:∃ b,eqU x zeroU=b:=⟨_,rfl⟩
 have heq:∀ W:World,(Op.equalIn 10000 51 (.agg #[.int .u64 (x.a:Int),.int .u64 (x.b:Int),.int .u64 (x.c:Int),.int .u64 (x.d:Int)]) (.agg #[.int .u64 0,.int .u64 0,.int .u64 0,.int .u64 0])).run Tryz.prog W=.ok b W:=fun W=>by
  have:=run_eqU 9998 x zeroU W
  rw [hb] at this
  exact this
 obtain ⟨k,hk⟩:∃ k,cmpW x nU=k:=⟨_,rfl⟩
 have HBB:=qh hb
 have HKK:=qh hk
 clear hb1 HX HB hX1 hX2 hb
 cases b with
 | true =>
  clear hk
  go_wp2_with fail
  go_ret
  exact ⟨by rw [HI.out,HBB.out];rfl,HB1.out.alloc HB1.out.size _⟩
 | false =>
  clear hk
  go_wp2_with fail
  refine (cmp_lit x _).mono ?_
  rintro e w2 ⟨rfl,hb2⟩
  rw [HKK.out]
  have HB2:=qh (below_call (HB1.out.alloc HB1.out.size _) (Nat.le_trans HB1.out.size (by simp)) hb2)
  clear hb2
  go_wp2_with fail
  go_ret
  exact ⟨by rw [HI.out,HBB.out,HKK.out];rfl,HB2.out⟩
/- The walks of sign.high, right, Bytes, From. -/
theorem uadd_lit (x y z:U4) (k:Nat) (hx:x.Wf) (hy:y.Wf) (h:sumW x y=(z,k)) (w:World):Calls Tryz.prog 127 #[.agg #[.int .u64 (x.a:Int),.int .u64 (x.b:Int),.int .u64 (x.c:Int),.int .u64 (x.d:Int)],.agg #[.int .u64 (y.a:Int),.int .u64 (y.b:Int),.int .u64 (y.c:Int),.int .u64 (y.d:Int)]] w fun e w'=>e=.returned (.tuple #[.agg #[.int .u64 (z.a:Int),.int .u64 (z.b:Int),.int .u64 (z.c:Int),.int .u64 (z.d:Int)],.bool ((k:Int) == 1)])∧Below w.heap.size w w':=by
 have:=add_any x y hx hy w
 rw [h] at this
 exact this
theorem high_any (x:U4) (h:x.Wf) (w:World):Calls Tryz.prog 97 #[.agg #[.int .u64 (x.a:Int),.int .u64 (x.b:Int),.int .u64 (x.c:Int),.int .u64 (x.d:Int)]] w fun e w'=>e=.returned (.bool (highN x))∧Below w.heap.size w w':=by
 obtain ⟨h1,h2,h3⟩:=sumW_val h h
 obtain ⟨z,k,hzk⟩:∃ z k,sumW x x=(z,k):=⟨_,_,rfl⟩
 rw [hzk] at h1 h2 h3
 simp only [] at h1 h2 h3
 have hN:ordN < two256:=by decide
 have HA:=qh (fun W:World=>uadd_lit x x z k h h hzk W)
 have HI:Hid (highN x=(((k:Int) == 1) || decide (0 < cmpW z nU))):=qh (by
  unfold highN
  rw [Bool.eq_iff_iff]
  simp only [Bool.or_eq_true,decide_eq_true_eq,beq_iff_eq,(cmpN z h1).2]
  have:=U4.val_lt h1
  rcases (by omega:k=0∨k=1) with rfl | rfl
  ·constructor
   ·intro h;exact .inr (by omega)
   ·rintro (h | h)
    ·omega
    ·omega
  ·constructor
   ·intro _;exact .inl rfl
   ·intro _;omega)
 have hX:=heap_alloc_new w (.cells #[.int .u64 (x.a:Int),.int .u64 (x.b:Int),.int .u64 (x.c:Int),.int .u64 (x.d:Int)] 51)
 have HB:=qh ((Below.refl w.heap.size w).alloc qn (.cells #[.int .u64 (x.a:Int),.int .u64 (x.b:Int),.int .u64 (x.c:Int),.int .u64 (x.d:Int)] 51))
 have HX:=qh hX
 clear hX h h1 h2 h3 hzk hN
 go_enter Tryz.func97,Tryz.ntmps97
 go_wp2_with fail
 refine (HA.out _).mono ?_
 rintro e w1 ⟨rfl,hb1⟩
 have HB1:=qh (below_call HB.out HB.out.size hb1)
 have HX1:=qh (heap_alloc_new w1 (.cells #[.int .u64 (z.a:Int),.int .u64 (z.b:Int),.int .u64 (z.c:Int),.int .u64 (z.d:Int)] 51))
 have HB1a:=qh (HB1.out.alloc HB1.out.size (.cells #[.int .u64 (z.a:Int),.int .u64 (z.b:Int),.int .u64 (z.c:Int),.int .u64 (z.d:Int)] 51))
 clear hb1 HB HX
 go_wp2_with fail
 refine (prime1_any _).mono ?_
 rintro e w2 ⟨rfl,hb2⟩
 have hX2:=(hb2.block _ (qg HX1.out)).trans HX1.out
 have hX3:=(heap_alloc_old w2 (.cells #[.int .u64 13822214165235122497,.int .u64 13451932020343611451,.int .u64 18446744073709551614,.int .u64 18446744073709551615] 51) (qg hX2)).trans hX2
 have HB2:=qh (below_call HB1a.out HB1a.out.size hb2)
 obtain ⟨r0,r1,r2,r3,f0,f1,f2,f3⟩:=row4 hX2
 obtain ⟨p0,p1,p2,p3,g0,g1,g2,g3⟩:=row4 hX3
 clear hb2 hX2 hX3 HX1 HB1a HB1
 cases hk:((k:Int) == 1) with
 | true =>
  have HK:=qh hk
  clear hk
  go_wp2_with fail
  go_ret
  exact ⟨by rw [HI.out,HK.out];rfl,HB2.out.alloc HB2.out.size _⟩
 | false =>
  have HK:=qh hk
  clear hk
  go_wp2_with fail
  refine (cmp_lit z _).mono ?_
  rintro e w3 ⟨rfl,hb3⟩
  obtain ⟨q,hq⟩:∃ q,cmpW z nU=q:=⟨_,rfl⟩
  rw [hq]
  have HQ:=qh hq
  have HB3:=qh (below_call (HB2.out.alloc HB2.out.size _) (Nat.le_trans HB2.out.size (by simp)) hb3)
  clear hb3 hq
  go_wp2_with fail
  go_ret
  exact ⟨by rw [HI.out,HK.out,HQ.out];rfl,HB3.out⟩
theorem row9 {w:World} {g:Nat} {a b c d a' b' c' d' v:Value} {e:TypeId} (h:w.heap[g]? = some (.cells #[a,b,c,d,a',b',c',d',v] e (0,0))):w.cell? ⟨g,0,none⟩=some a∧w.cell? ⟨g,1,none⟩=some b∧w.cell? ⟨g,2,none⟩=some c∧w.cell? ⟨g,3,none⟩=some d∧w.cell? ⟨g,4,none⟩=some a'∧w.cell? ⟨g,5,none⟩=some b'∧w.cell? ⟨g,6,none⟩=some c'∧w.cell? ⟨g,7,none⟩=some d'∧w.cell? ⟨g,8,none⟩=some v :=
 ⟨rc h 0 rfl,rc h 1 rfl,rc h 2 rfl,rc h 3 rfl,rc h 4 rfl,rc h 5 rfl,rc h 6 rfl,rc h 7 rfl,rc h 8 rfl⟩
theorem okSg_eq (x:Sg):okSg x=(insideN x.r && insideN x.s && !highN x.s && (x.v == 0 || x.v == 1)):=rfl
theorem right_any (x:Sg) (h:x.Wf) (w:World):Calls Tryz.prog 70 #[.agg #[.int .u64 (x.r.a:Int),.int .u64 (x.r.b:Int),.int .u64 (x.r.c:Int),.int .u64 (x.r.d:Int),.int .u64 (x.s.a:Int),.int .u64 (x.s.b:Int),.int .u64 (x.s.c:Int),.int .u64 (x.s.d:Int),.int .i64 x.v]] w fun e w'=>e=.returned (.bool (okSg x))∧Below w.heap.size w w':=by
 have hX:=heap_alloc_new w (.cells #[.int .u64 (x.r.a:Int),.int .u64 (x.r.b:Int),.int .u64 (x.r.c:Int),.int .u64 (x.r.d:Int),.int .u64 (x.s.a:Int),.int .u64 (x.s.b:Int),.int .u64 (x.s.c:Int),.int .u64 (x.s.d:Int),.int .i64 x.v] 53)
 have HB0:=qh ((Below.refl w.heap.size w).alloc qn (.cells #[.int .u64 (x.r.a:Int),.int .u64 (x.r.b:Int),.int .u64 (x.r.c:Int),.int .u64 (x.r.d:Int),.int .u64 (x.s.a:Int),.int .u64 (x.s.b:Int),.int .u64 (x.s.c:Int),.int .u64 (x.s.d:Int),.int .i64 x.v] 53))
 have HX0:=qh hX
 have hbr:=fun W:World=>between_any x.r h.r W
 have hbs:=fun W:World=>between_any x.s h.s W
 have hhs:=fun W:World=>high_any x.s h.s W
 have hok:=okSg_eq x
 obtain ⟨c0,c1,c2,c3,c4,c5,c6,c7,c8⟩:=row9 hX
 clear hX h
 obtain ⟨b1,e1⟩:∃ b,insideN x.r=b:=⟨_,rfl⟩
 obtain ⟨b2,e2⟩:∃ b,insideN x.s=b:=⟨_,rfl⟩
 obtain ⟨b3,e3⟩:∃ b,highN x.s=b:=⟨_,rfl⟩
 obtain ⟨v,e4⟩:∃ v,x.v=v:=⟨_,rfl⟩
 rw [e1,e2,e3,e4] at hok
 rw [e1] at hbr
 rw [e2] at hbs
 rw [e3] at hhs
 rw [e4] at c8 HX0 HB0 ⊢
 have HOK:=qh hok
 have HBR:=qh hbr
 have HBS:=qh hbs
 have HHS:=qh hhs
 clear hok e1 e2 e3 e4 hbr hbs hhs
 go_enter Tryz.func70,Tryz.ntmps70
 go_wp2_with fail
 refine (HBR.out _).mono ?_
 rintro e w1 ⟨rfl,hb1⟩
 have hX1:=(hb1.block _ (qg HX0.out)).trans HX0.out
 have HB1:=qh (below_call HB0.out HB0.out.size hb1)
 obtain ⟨c0,c1,c2,c3,c4,c5,c6,c7,c8⟩:=row9 hX1
 have HX1:=qh hX1
 clear hb1 hX1 HX0 HB0
 cases b1 with
 | false =>
  go_wp2_with fail
  go_ret
  exact ⟨by rw [HOK.out];rfl,HB1.out⟩
 | true =>
  go_wp2_with fail
  refine (HBS.out _).mono ?_
  rintro e w2 ⟨rfl,hb2⟩
  have hX2:=(hb2.block _ (qg HX1.out)).trans HX1.out
  have HB2:=qh (below_call HB1.out HB1.out.size hb2)
  obtain ⟨c0,c1,c2,c3,c4,c5,c6,c7,c8⟩:=row9 hX2
  have HX2:=qh hX2
  clear hb2 hX2 HX1 HB1
  cases b2 with
  | false =>
   go_wp2_with fail
   go_ret
   exact ⟨by rw [HOK.out];rfl,HB2.out⟩
  | true =>
   go_wp2_with fail
   refine (HHS.out _).mono ?_
   rintro e w3 ⟨rfl,hb3⟩
   have hX3:=(hb3.block _ (qg HX2.out)).trans HX2.out
   have HB3:=qh (below_call HB2.out HB2.out.size hb3)
   obtain ⟨c0,c1,c2,c3,c4,c5,c6,c7,c8⟩:=row9 hX3
   have HX3:=qh hX3
   clear hb3 hX3 HX2 HB2
   cases b3 with
   | true =>
    go_wp2_with fail
    go_ret
    exact ⟨by rw [HOK.out];rfl,HB3.out⟩
   | false =>
    cases hv0:(v == 0) with
    | true =>
     have HV:=qh hv0
     go_wp2_with fail
     go_ret
     exact ⟨by rw [HOK.out];rw [HV.out];rfl,HB3.out⟩
    | false =>
     have HV:=qh hv0
     go_wp2_with fail
     go_ret
     exact ⟨by rw [HOK.out];rw [HV.out];rfl,HB3.out⟩
end Go.Proofs.YtjanaholcjkceaaGreat
