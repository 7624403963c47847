/- Words of 32 bits in a walk; the walks of sha: turn, first, constants. -/
import Derived.Test.YteoednifdpdbnaaGreatZ02
import Derived.Test.YteoednifdpdbnaaGreatZ27
import Derived.Test.YteoednifdpdbnaaGreatZ12
import Derived.Shelf.Spec.TrailingZeros
namespace Go.Proofs.YteoednifdpdbnaaGreat
set_option linter.unusedVariables false
set_option linter.unusedSimpArgs false
open Go.RowKit
set_option maxHeartbeats 4000000
set_option maxRecDepth 100000
open Go.RowKit Go.Shelf
theorem qgs (a:W32):a.toNat < 4294967296:=a.isLt
/-- a word as a value -/
def ww (a:W32):Int:=(a.toNat:Int)
theorem qgw (n:Nat):IntKind.u32.wrap (n:Int)=((n % 4294967296:Nat):Int):=by
 rw [wrap_u32'];omega
theorem qgx (a b:Nat) (ha:a < 4294967296) (hb:b < 4294967296):bits .xor .u32 (a:Int) (b:Int)=((a ^^^ b:Nat):Int):=by
 have hx:a ^^^ b < 2 ^ 32:=Nat.xor_lt_two_pow (by omega) (by omega)
 have h1:(BitVec.ofInt 32 (a:Int)).toNat=a:=by
  rw [BitVec.ofInt_natCast,BitVec.toNat_ofNat];exact Nat.mod_eq_of_lt (by omega)
 have h2:(BitVec.ofInt 32 (b:Int)).toNat=b:=by
  rw [BitVec.ofInt_natCast,BitVec.toNat_ofNat];exact Nat.mod_eq_of_lt (by omega)
 show IntKind.u32.wrap ((BitVec.ofInt 32 (a:Int) ^^^ BitVec.ofInt 32 (b:Int)).toNat:Int)=_
 rw [BitVec.toNat_xor,h1,h2,wrap_u32']
 omega
theorem qhg (a b:Nat) (ha:a < 4294967296) (hb:b < 4294967296):bits .or .u32 (a:Int) (b:Int)=((a ||| b:Nat):Int):=by
 have hx:a ||| b < 2 ^ 32:=Nat.or_lt_two_pow (by omega) (by omega)
 have h1:(BitVec.ofInt 32 (a:Int)).toNat=a:=by
  rw [BitVec.ofInt_natCast,BitVec.toNat_ofNat];exact Nat.mod_eq_of_lt (by omega)
 have h2:(BitVec.ofInt 32 (b:Int)).toNat=b:=by
  rw [BitVec.ofInt_natCast,BitVec.toNat_ofNat];exact Nat.mod_eq_of_lt (by omega)
 show IntKind.u32.wrap ((BitVec.ofInt 32 (a:Int) ||| BitVec.ofInt 32 (b:Int)).toNat:Int)=_
 rw [BitVec.toNat_or,h1,h2,wrap_u32']
 omega
@[go_sem] theorem bits_xor_ww (a b:W32):bits .xor .u32 (ww a) (ww b)=ww (a ^^^ b):=by
 unfold ww;rw [qgx _ _ (qgs a) (qgs b),BitVec.toNat_xor]
@[go_sem] theorem bits_and_ww (a b:W32):bits .and .u32 (ww a) (ww b)=ww (a &&& b):=by
 unfold ww;rw [bits_and_u32_nat _ _ (qgs a) (qgs b),BitVec.toNat_and]
@[go_sem] theorem bits_or_ww (a b:W32):bits .or .u32 (ww a) (ww b)=ww (a ||| b):=by
 unfold ww;rw [qhg _ _ (qgs a) (qgs b),BitVec.toNat_or]
theorem qqe (a b:W32):IntKind.u32.wrap (ww a+ww b)=ww (a+b):=by
 unfold ww
 rw [show ((a.toNat:Int)+(b.toNat:Int))=((a.toNat+b.toNat:Nat):Int) by simp,qgw,BitVec.toNat_add]
@[go_sem] theorem add_ww (a b:W32):IntKind.u32.wrap (ww a+ww b)=ww (a+b):=qqe a b
@[go_sem] theorem add_ww2 (a b:W32):(ww a+ww b) % 4294967296=ww (a+b):=by rw [← qqe,wrap_u32']
@[go_sem] theorem shl_ww (a:W32) (k:Nat):IntKind.u32.wrap (ww a * 2 ^ k)=ww (a <<< k):=by
 unfold ww
 rw [show ((a.toNat:Int) * 2 ^ k)=((a.toNat * 2 ^ k:Nat):Int) by simp,qgw,BitVec.toNat_shiftLeft,Nat.shiftLeft_eq]
@[go_sem] theorem shr_ww (a:W32) (k:Nat):ww a / 2 ^ k=ww (a >>> k):=by
 unfold ww
 rw [BitVec.toNat_ushiftRight,Nat.shiftRight_eq_div_pow];simp
@[go_sem] theorem bits_not_ww (a:W32):bits .xor .u32 IntKind.u32.max (ww a)=ww (~~~ a):=by
 rw [show IntKind.u32.max=ww (BitVec.allOnes 32) by decide,bits_xor_ww,BitVec.allOnes_xor]
@[go_sem] theorem bits_not_ww' (a:W32):bits .xor .u32 4294967295 (ww a)=ww (~~~ a):=by
 rw [show (4294967295:Int)=ww (BitVec.allOnes 32) by decide,bits_xor_ww,BitVec.allOnes_xor]
@[go_sem] theorem bits_not_ww2 (a:W32):bits .xor .u32 (if IntKind.u32.signed=true then -1 else IntKind.u32.max) (ww a)=ww (~~~ a):=bits_not_ww a
theorem ww_of (n:Nat) (h:n < 4294967296):ww (BitVec.ofNat 32 n)=n:=by unfold ww;rw [BitVec.toNat_ofNat,Nat.mod_eq_of_lt (by omega)]
theorem ww_zero:ww 0=0:=rfl
/-- cells of words -/
def wwC (l:List W32):Array Value:=(l.map fun v=>Value.int .u32 (ww v)).toArray
theorem qa8 (l:List W32):(wwC l).size=l.length:=by simp [wwC]
theorem qhs {l:List W32} {i:Nat} (h:i < l.length):(wwC l)[i]? = some (.int .u32 (ww (l.getD i 0))):=by simp [wwC,h]
theorem wwC_set (l:List W32) (i:Nat) (v:W32):(wwC l).setIfInBounds i (.int .u32 (ww v))=wwC (l.set i v):=by simp [wwC,List.map_set]
theorem qcu (l:List W32):(wwC l).all (·.oneCell')=true:=by
 rw [Array.all_eq_true_iff_forall_mem]
 intro v hv
 simp [wwC] at hv
 obtain ⟨u,_,rfl⟩:=hv
 rfl
theorem qnw (n:Nat):wwC (List.replicate n 0)=(List.replicate n (Value.int .u32 0)).toArray:=by
 unfold wwC;rw [List.map_replicate,ww_zero]
theorem H8.row_len (x:H8):x.row.length=8:=rfl
theorem qsf:(Tryz.prog.info? 334).map (·.size)=some 64:=by kernel_rfl
theorem size32_8:(Tryz.prog.info? 326).map (·.size)=some 8:=by kernel_rfl
theorem ty64:AggT Tryz.prog 334 64:=⟨⟨_,Tryz.underlying334,rfl⟩,qsf⟩
theorem ty8:AggT Tryz.prog 326 8:=⟨⟨_,Tryz.underlying326,rfl⟩,size32_8⟩
theorem qe0:Ent Tryz.prog 274:=⟨enters_of Tryz.func274 (by kernel_rfl) rfl⟩
theorem enSpread:Ent Tryz.prog 272:=⟨enters_of Tryz.func272 (by kernel_rfl) rfl⟩
theorem enFirst:Ent Tryz.prog 268:=⟨enters_of Tryz.func268 (by kernel_rfl) rfl⟩
theorem enConstS:Ent Tryz.prog 273:=⟨enters_of Tryz.func273 (by kernel_rfl) rfl⟩
theorem enBlockS:Ent Tryz.prog 269:=⟨enters_of Tryz.func269 (by kernel_rfl) rfl⟩
theorem enHighS:Ent Tryz.prog 267:=⟨enters_of Tryz.func267 (by kernel_rfl) rfl⟩
theorem enSumS:Ent Tryz.prog 248:=⟨enters_of Tryz.func248 (by kernel_rfl) rfl⟩
theorem enMac:Ent Tryz.prog 208:=⟨enters_of Tryz.func208 (by kernel_rfl) rfl⟩
theorem enMac1:Ent Tryz.prog 249:=⟨enters_of Tryz.func249 (by kernel_rfl) rfl⟩
theorem and31 (k:Nat) (h0:1≤k) (h:k < 32):bits .and .u64 (18446744073709551616 - (k:Int)) 31=((32 - k:Nat):Int):=by
 rw [show (18446744073709551616 - (k:Int))=((18446744073709551616 - k:Nat):Int) by omega,show (31:Int)=((31:Nat):Int) from rfl,bits_and_u64_nat _ _ (by omega) (by omega)]
 congr 1
 have h2:=Nat.and_two_pow_sub_one_eq_mod (18446744073709551616 - k) 5
 rw [show (31:Nat)=2 ^ 5 - 1 from rfl,h2]
 omega
theorem qtq (x:W32) (k:Nat) (h0:1≤k) (hk:k < 32) (w:World):Calls Tryz.prog 275 #[.int .u32 (ww x),.int .i64 (-(k:Int))] w fun e w'=>e=.returned (.int .u32 (ww (rotr x k)))∧w'=w:=by
 have ha:=and31 k h0 hk
 have hs:32 - (32 - k)=k:=by omega
 have hc:IntKind.u64.wrap (-(k:Int))=18446744073709551616 - (k:Int):=by rw [IntKind.wrap_u64];omega
 have hc2:-(k:Int) % 18446744073709551616=18446744073709551616 - (k:Int):=by omega
 unfold rotr
 obtain ⟨m,hm⟩:∃ m,32 - k=m:=⟨_,rfl⟩
 rw [hm] at ha hs ⊢
 have hm1:m < 32:=by omega
 have hm2:(32:Int) - (m:Int)=(k:Int):=by omega
 have hm3:IntKind.u64.wrap ((32:Int) - (m:Int))=(k:Int):=by rw [IntKind.wrap_u64];omega
 go_enter Tryz.func275,Tryz.ntmps275
 go_wp2_with fail
 go_ret
 exact ⟨rfl,rfl⟩
theorem qtt (x:W32) (k:Nat) (h0:1≤k) (hk:k < 32) (w:World):Calls Tryz.prog 274 #[.int .u32 (ww x),.int .i64 (k:Int)] w fun e w'=>e=.returned (.int .u32 (ww (rotr x k)))∧w'=w:=by
 have hr:=fun w=>qtq x k h0 hk w
 have hw:IntKind.i64.wrap (-(k:Int)) = -(k:Int):=IntWalk.i64_in _ (by omega)
 go_enter Tryz.func274,Tryz.ntmps274
 go_wp2_with (go_at_call 275;refine Calls.mono (hr _) ?_;rintro e w' ⟨rfl,rfl⟩)
 go_ret
 exact ⟨rfl,rfl⟩
theorem qrm (w:World):Calls Tryz.prog 268 #[] w fun e w'=>e=.returned (.agg (wwC firstS.row))∧Below w.heap.size w w':=by
 have hM:=Mem.nil w
 go_enter Tryz.func268,Tryz.ntmps268
 go_wp2_with fail
 have hM:=(Mem.nil w).alloc (wwC firstS.row) 326
 refine res_c hM rfl ty8 rfl at0 rfl rfl ?_
 exact ⟨rfl,hM.below⟩
theorem qk5 {o:Oper} (ho:o.op=.alloc 334) (ρ:Operand→Value) (w:World):(execOp ρ o).run Tryz.prog w=.ok (.value (.pointer (some ⟨w.heap.size,0,none⟩))) (w.alloc (.cells (wwC (List.replicate 64 0)) 334)):=by
 unfold execOp
 simp only [ho]
 rw [qnw]
 simp only [List.replicate]
 go_simp
theorem runW8 {o:Oper} (ho:o.op=.alloc 326) (ρ:Operand→Value) (w:World):(execOp ρ o).run Tryz.prog w=.ok (.value (.pointer (some ⟨w.heap.size,0,none⟩))) (w.alloc (.cells (wwC (List.replicate 8 0)) 326)):=by
 unfold execOp
 simp only [ho]
 rw [qnw]
 simp only [List.replicate]
 go_simp
theorem qot (w:World):Calls Tryz.prog 273 #[] w fun e w'=>e=.returned (.agg (wwC kS))∧Below w.heap.size w w':=by
 have hM:=Mem.nil w
 go_enter Tryz.func273,Tryz.ntmps273
 go_wp2_with (first
  | (refine qas hM rfl (qk5 rfl) ?_;clear hM;intro w' g0 hM)
  | (refine qae hM rfl rfl ty64 rfl (new:=wwC kS) rfl (by exact hau) rfl rfl (qcu kS) ?_;clear hM;intro w' hM))
 refine res_c hM rfl ty64 rfl (by exact hat) rfl rfl ?_
 exact ⟨rfl,hM.below⟩
end Go.Proofs.YteoednifdpdbnaaGreat
