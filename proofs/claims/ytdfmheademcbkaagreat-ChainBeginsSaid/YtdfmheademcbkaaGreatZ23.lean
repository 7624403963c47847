/- The walks of rlp and of the reference: numbers and heads. -/
import Derived.Test.YtdfmheademcbkaaGreatProg
import Derived.Test.YtdfmheademcbkaaGreatZ01
import Derived.Test.YtdfmheademcbkaaGreatZ04
import Derived.Outline
namespace Go.Proofs.YtdfmheademcbkaaGreat
set_option linter.unusedVariables false
set_option linter.unusedSimpArgs false
open Go.RowKit
set_option maxHeartbeats 400000
theorem elByte:ElemOk Tryz.prog 92 5 (.int .u8 0) 1 1:=⟨Tryz.underlying92,by kernel_rfl,rfl,by omega⟩
theorem ret_str {a b:List UInt8} (h:a=b):Ending.returned (.string (bs a))=.returned (.string (bs b)):=by rw [h]
theorem plain_any (n:Int) (h0:0≤n) (hn:n < 18446744073709551616) (w:World) :
  Calls Tryz.prog 173 #[.int .u64 n] w fun e w'=>e=.returned (.string (bs (digs n.toNat)))∧Below w.heap.size w w':=by
 obtain ⟨n,rfl⟩:=Int.eq_ofNat_of_zero_le h0
 rw [Int.toNat_natCast]
 clear h0
 have hl8:=digs_len_lt 8 n (by omega)
 go_enter Tryz.func173,Tryz.ntmps173
 go_wp2_with fail
 go_loopw [0,3] (fun a v wr=>∃ (m:Nat) (l:Bytes),m≤n∧a=.int .u64 m∧wr.ownsRow w.heap.size 5 1 v l.length (l.map cellB)∧digs n=digs m ++ l∧Below w.heap.size w wr) (fun a _ _=>(intOf a).toNat)
 case atStart=>exact ⟨n,[],Nat.le_refl _,rfl,by simpa using World.ownsRow_nil w _ _ _,by simp,Below.refl _ _⟩
 case round =>
  obtain ⟨m,l,hm,rfl,hown,hd,hb⟩:=hrel
  have hll:l.length≤8:=by rw [hd] at hl8;simp at hl8;omega
  have Hd:=Lib.hid hd
  clear hd
  obtain ⟨A,c,rfl⟩:=own_form hown
  have hbs:=hb.size
  by_cases h0:0 < m
  ·go_wp2_with (at_builtin;refine wpl_append elByte rfl rfl w.heap.size (World.ownsRow_lit wr #[.int .u8 ((m:Int) % 256)] 1 hbs (by simp only [maxLen];omega) rfl) rfl (l.map cellB) rfl (by simp) (lies_own (hown.alloc _) (fun _ _ _=>trivial)) (one_cellB l) (by simp only [maxLen];omega) (by omega) (by simp;omega) ?_;intro v1 w1 hown1 hg1 hat1)
   go_roundw
   case rel =>
    refine ⟨m / 256,UInt8.ofNat (m % 256) :: l,by omega,rfl,?_,?_,?_⟩
    ·have:=hown1
     rw [Nat.add_comm] at this
     simpa [cellB_of] using this
    ·rw [Hd.out,digs_pos h0];simp
    ·exact (hb.alloc hbs _).grown hg1 (by simp;omega) (fun k hk=>by simp [Value.ownBlock] at hk;omega)
   case measure=>simp [intOf];omega
  ·obtain rfl:m=0:=by omega
   have hcv:=run_bytes_str (src:=92) (dst:=9) (c:=c) Tryz.underlying92 Tryz.underlying5 Tryz.underlying9 (lies_own hown (fun _ _ _=>trivial))
   go_wp2_with fail
   go_ret
   exact ⟨ret_str (by rw [Hd.out,digs_zero];rfl),hb⟩
theorem head_any (f n:Int) (hf:f=128∨f=192) (h0:0≤n) (hn:n < 16777216) (w:World) :
  Calls Tryz.prog 128 #[.int .u8 f,.int .i64 n] w fun e w'=>e=.returned (.string (bs (headP f.toNat n.toNat)))∧Below w.heap.size w w':=by
 have hf1:128≤f:=by omega
 have hf2:f≤192:=by omega
 obtain ⟨f,rfl⟩:=Int.eq_ofNat_of_zero_le (a:=f) (by omega)
 clear hf
 obtain ⟨n,rfl⟩:=Int.eq_ofNat_of_zero_le h0
 simp only [Int.toNat_natCast]
 clear h0
 by_cases hs:(n:Int)≤55
 ·obtain ⟨c,hc,hce⟩:=byte_of (f+n) (by omega)
  have hcv:=run_byte_str Tryz.underlying92 Tryz.underlying5 Tryz.underlying9 ((f:Int)+n) c (by omega)
  have Hc:=Lib.hid hce
  clear hc hce
  go_enter Tryz.func128,Tryz.ntmps128
  go_wp2_with fail
  go_ret
  refine ⟨ret_str ?_,(Below.refl _ _).alloc (Nat.le_refl _) _⟩
  unfold headP;rw [if_pos (by omega),Hc.out]
 ·have hl8:=digs_len_lt 3 n (by omega)
  obtain ⟨c,hc,hce⟩:=byte_of (f+55+(digs n).length) (by omega)
  have hcv:=run_byte_str Tryz.underlying92 Tryz.underlying5 Tryz.underlying9 ((f:Int)+55+(digs n).length) c (by omega)
  have Hc:=Lib.hid hce
  clear hc hce
  go_enter Tryz.func128,Tryz.ntmps128
  go_wp2_with fail
  refine (plain_any _ (by omega) (by omega) _).mono ?_
  rintro e w1 ⟨rfl,hb1⟩
  rw [Int.toNat_natCast]
  go_wp2_with fail
  go_ret
  refine ⟨ret_str ?_,hb1.alloc hb1.size _⟩
  unfold headP;rw [if_neg (by omega),Hc.out]
theorem Digits_any (n:Int) (h0:0≤n) (hn:n < 18446744073709551616) (w:World) :
  Calls Tryz.prog 147 #[.int .u64 n] w fun e w'=>e=.returned (.string (bs (digs n.toNat)))∧Below w.heap.size w w':=by
 obtain ⟨n,rfl⟩:=Int.eq_ofNat_of_zero_le h0
 rw [Int.toNat_natCast]
 clear h0
 have hl8:=digs_len_lt 8 n (by omega)
 go_enter Tryz.func147,Tryz.ntmps147
 go_wp2_with fail
 go_loopw [0,3] (fun a v wr=>∃ (m:Nat) (l:Bytes),m≤n∧a=.int .u64 m∧v=.string (bs l)∧digs n=digs m ++ l∧Below w.heap.size w wr) (fun a _ _=>(intOf a).toNat)
 case atStart=>exact ⟨n,[],Nat.le_refl _,rfl,rfl,by simp,Below.refl _ _⟩
 case round =>
  obtain ⟨m,l,hm,rfl,rfl,hd,hb⟩:=hrel
  have hll:l.length≤8:=by rw [hd] at hl8;simp at hl8;omega
  have Hd:=Lib.hid hd
  clear hd
  have hbs:=hb.size
  by_cases h0:0 < m
  ·obtain ⟨c,hc,hce⟩:=byte_of (m % 256) (by omega)
   have hcv:=run_byte_str Tryz.underlying92 Tryz.underlying5 Tryz.underlying9 ((m:Int) % 256) c (by omega)
   have Hc:=Lib.hid hce
   clear hc hce
   go_wp2_with fail
   go_roundw
   case rel=>exact ⟨m / 256,c :: l,by omega,rfl,rfl,by rw [Hd.out,digs_pos h0,Hc.out];simp,hb.alloc hbs _⟩
   case measure=>simp [intOf];omega
  ·obtain rfl:m=0:=by omega
   go_wp2_with fail
   go_ret
   exact ⟨ret_str (by rw [Hd.out,digs_zero];rfl),hb⟩
theorem refHead_any (f n:Int) (hf:f=128∨f=192) (h0:0≤n) (hn:n < 16777216) (w:World) :
  Calls Tryz.prog 148 #[.int .i64 f,.int .i64 n] w fun e w'=>e=.returned (.string (bs (headP f.toNat n.toNat)))∧Below w.heap.size w w':=by
 have hf1:128≤f:=by omega
 have hf2:f≤192:=by omega
 obtain ⟨f,rfl⟩:=Int.eq_ofNat_of_zero_le (a:=f) (by omega)
 clear hf
 obtain ⟨n,rfl⟩:=Int.eq_ofNat_of_zero_le h0
 simp only [Int.toNat_natCast]
 clear h0
 by_cases hs:(n:Int) < 56
 ·obtain ⟨c,hc,hce⟩:=byte_of (f+n) (by omega)
  have hcv:=run_byte_str Tryz.underlying92 Tryz.underlying5 Tryz.underlying9 ((f:Int)+n) c (by omega)
  have Hc:=Lib.hid hce
  clear hc hce
  go_enter Tryz.func148,Tryz.ntmps148
  go_wp2_with fail
  go_ret
  refine ⟨ret_str ?_,(Below.refl _ _).alloc (Nat.le_refl _) _⟩
  unfold headP;rw [if_pos (by omega),Hc.out]
 ·have hl8:=digs_len_lt 3 n (by omega)
  obtain ⟨c,hc,hce⟩:=byte_of (f+55+(digs n).length) (by omega)
  have hcv:=run_byte_str Tryz.underlying92 Tryz.underlying5 Tryz.underlying9 ((f:Int)+55+(digs n).length) c (by omega)
  have Hc:=Lib.hid hce
  clear hc hce
  go_enter Tryz.func148,Tryz.ntmps148
  go_wp2_with fail
  refine (Digits_any _ (by omega) (by omega) _).mono ?_
  rintro e w1 ⟨rfl,hb1⟩
  rw [Int.toNat_natCast]
  go_wp2_with fail
  go_ret
  refine ⟨ret_str ?_,hb1.alloc hb1.size _⟩
  unfold headP;rw [if_neg (by omega),Hc.out]
end Go.Proofs.YtdfmheademcbkaaGreat
