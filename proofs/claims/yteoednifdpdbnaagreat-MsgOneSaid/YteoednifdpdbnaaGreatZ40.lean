/- The walks of field: below, modulus, Prime, reduce, Reduce. -/
import Derived.Test.YteoednifdpdbnaaGreatZ34
import Derived.Test.YteoednifdpdbnaaGreatZ20
import Derived.Deep.LoopGhost
namespace Go.Proofs.YteoednifdpdbnaaGreat
set_option linter.unusedVariables false
set_option linter.unusedSimpArgs false
open Go.RowKit
set_option maxHeartbeats 4000000
set_option maxRecDepth 100000
open Go.RowKit Go.Shelf
def cV (k:Nat):Nat:=(cN k).val
theorem cV_lt (k:Nat):cV k < two256:=U4.val_lt (cN_wf k)
theorem cV_cells (k:Nat):uC (cV k)=u4C (cN k):=(qsl (cN_wf k)).symm
theorem qm0 (k:Nat):modN k < two256:=(qc3 k).2
theorem boxN (n:Nat) (w:World):(Instr.box 24 (.agg (uC n))).run Tryz.prog w=.ok (.pointer (some ⟨w.heap.size,0,none⟩)) (w.alloc (.cells (uC n) 24)):=boxU _ w
theorem runN {o:Oper} (ho:o.op=.alloc 24) (ρ:Operand→Value) (w:World):(execOp ρ o).run Tryz.prog w=.ok (.value (.pointer (some ⟨w.heap.size,0,none⟩))) (w.alloc (.cells (uC 0) 24)):=runU ho ρ w
theorem oneN (n:Nat):(uC n).all (·.oneCell')=true:=oneU _
theorem eqNZ (n:Nat) (hn:n < two256) (w:World):(Op.equalIn 10000 24 (.agg (uC n)) (.agg #[.int .u64 0,.int .u64 0,.int .u64 0,.int .u64 0])).run Tryz.prog w=.ok (decide (n=0)) w:=by
 have h:=qe6 9998 (U4.of n) zeroU w
 have e:eqU (U4.of n) zeroU=decide (n=0):=by
  unfold eqU
  rw [Bool.eq_iff_iff,decide_eq_true_iff,decide_eq_true_iff,← U4.of_zero,U4.of_eq hn qbt]
 rw [e] at h
 exact h
theorem eqNN (a b:Nat) (ha:a < two256) (hb:b < two256) (w:World):(Op.equalIn 10000 24 (.agg (uC a)) (.agg (uC b))).run Tryz.prog w=.ok (decide (a=b)) w:=by
 have h:=qe6 9998 (U4.of a) (U4.of b) w
 have e:eqU (U4.of a) (U4.of b)=decide (a=b):=by
  unfold eqU
  rw [Bool.eq_iff_iff,decide_eq_true_iff,decide_eq_true_iff,U4.of_eq ha hb]
 rw [e] at h
 exact h
theorem qc9:Ent Tryz.prog 225:=⟨enters_of Tryz.func225 (by kernel_rfl) rfl⟩
theorem qkv:Ent Tryz.prog 228:=⟨enters_of Tryz.func228 (by kernel_rfl) rfl⟩
theorem qcl:Ent Tryz.prog 226:=⟨enters_of Tryz.func226 (by kernel_rfl) rfl⟩
theorem enAdd:Ent Tryz.prog 198:=⟨enters_of Tryz.func198 (by kernel_rfl) rfl⟩
theorem enSub:Ent Tryz.prog 227:=⟨enters_of Tryz.func227 (by kernel_rfl) rfl⟩
theorem enMul:Ent Tryz.prog 257:=⟨enters_of Tryz.func257 (by kernel_rfl) rfl⟩
theorem qe2 (k:Nat) (hk:k≤1) (w:World):Calls Tryz.prog 225 #[.int .i64 (k:Int)] w fun e w'=>e=.returned (.tuple #[.agg (uC (cV k)),.bool true])∧Below w.heap.size w w':=by
 rw [cV_cells]
 rcases qrr hk with rfl | rfl
 ·have hM:=Mem.nil w
  show Calls _ _ #[.int .i64 0] _ _
  go_enter Tryz.func225,Tryz.ntmps225
  go_wp2_with (first
   | (refine qas hM rfl (runN rfl) ?_;clear hM;intro w' g hM)
   | (refine qae hM rfl rfl tyU rfl rfl au0 rfl rfl (oneU (cN 0)) ?_;clear hM;intro w' hM))
  refine qb9 hM rfl tyU rfl rfl at0 rfl rfl ?_
  exact ⟨rfl,hM.below⟩
 ·have hM:=Mem.nil w
  show Calls _ _ #[.int .i64 1] _ _
  go_enter Tryz.func225,Tryz.ntmps225
  go_wp2_with (first
   | (refine qas hM rfl (runN rfl) ?_;clear hM;intro w' g hM)
   | (refine qae hM rfl rfl tyU rfl rfl au0 rfl rfl (oneU (cN 1)) ?_;clear hM;intro w' hM))
  refine qb9 hM rfl tyU rfl rfl at0 rfl rfl ?_
  exact ⟨rfl,hM.below⟩
theorem qne (k:Nat) (hk:k≤1) (w:World):Calls Tryz.prog 228 #[.int .i64 (k:Int)] w fun e w'=>e=.returned (.agg (uC (modN k)))∧Below w.heap.size w w':=by
 have hM:=Mem.nil w
 have hs:∀ w,Calls Tryz.prog 227 #[.agg (uC 0),.agg (uC (cV k))] w fun e w'=>e=.returned (.tuple #[.agg (uC (modN k)),.bool (decide (0 < cV k))])∧Below w.heap.size w w':=fun w=>by
  have h:=subN 0 (cV k) qbt (cV_lt k) w
  have e:(0+two256 - cV k) % two256=modN k:=by
   have h1:=qiu k
   have h2:=qc3 k
   unfold cV
   rw [Nat.mod_eq_of_lt (by omega)]
   omega
  rw [e] at h
  exact h
 go_enter Tryz.func228,Tryz.ntmps228
 go_wp2_with (first
  | (refine qas hM rfl (runN rfl) ?_;clear hM;intro w' g hM)
  | (refine qae hM rfl rfl tyU rfl rfl (by first | exact au0 | exact au1 | exact au2) rfl rfl (oneN _) ?_;clear hM;intro w' hM)
  | (refine qai hM rfl rfl tyU rfl (by first | exact at0 | exact at1 | exact at2 | exact at3) rfl ?_)
  | (refine qad hM rfl rfl qc9 (al:=[.int .i64 (k:Int)]) (qe2 k hk _) rfl ?_;clear hM;intro w' hM)
  | (refine qad hM rfl rfl enSub (al:=[.agg (uC 0),.agg (uC (cV k))]) (hs _) rfl ?_;clear hM;intro w' hM))
 refine res_c hM rfl tyU rfl at2 rfl rfl ?_
 exact ⟨rfl,hM.below⟩
theorem qj0 (k:Nat) (low high:Nat) (hl:low < two256) (hh:high < two256) (w:World):Calls Tryz.prog 226 #[.agg (uC low),.agg (uC high),.agg (uC (cV k))] w fun e w'=>e=.returned (.agg (uC ((low+two256 * high) % modN k)))∧Below w.heap.size w w':=by
 have hM:=Mem.nil w
 obtain ⟨V,hV⟩:∃ V,(low+two256 * high) % modN k=V:=⟨_,rfl⟩
 rw [hV]
 have HV:=qh hV
 clear hV
 go_enter Tryz.func226,Tryz.ntmps226
 go_wp2_with (first
  | (refine qay hM rfl rfl rfl (boxN _ _) ?_;clear hM;intro w' g hM)
  | (refine qas hM rfl (runN rfl) ?_;clear hM;intro w' g hM))
 rename_i g0 w1 g1 w2 g2 K0 hK0
 have HM:=qh hM
 clear hM
 refine lay_W ?_
 go_loopg [] (low+two256 * high) (fun n wr=>∃ lo hi,lo < two256∧hi < two256∧Hid (n=lo+two256 * hi)∧Hid ((lo+two256 * hi) % modN k=V)∧Mem w wr [(g,uC 0,24),(g2,uC (cV k),24),(g1,uC hi,24),(g0,uC lo,24)])
 case atStart=>exact ⟨low,high,hl,hh,qh rfl,HV,HM.out⟩
 case round =>
  obtain ⟨lo,hi,hlo,hhi,HN,HL,hM⟩:=hrel
  clear HM
  by_cases h0:hi=0
  ·subst h0
   have heq:∀ W:World,(Op.equalIn 10000 24 (.agg (uC 0)) (.agg #[.int .u64 0,.int .u64 0,.int .u64 0,.int .u64 0])).run Tryz.prog W=.ok true W:=fun W=>eqNZ 0 qbt W
   have hadd:=uaddN lo (cV k) hlo (cV_lt k)
   obtain ⟨s,hs⟩:∃ s,(lo+cV k) % two256=s:=⟨_,rfl⟩
   obtain ⟨b,hb⟩:∃ b,decide (two256≤lo+cV k)=b:=⟨_,rfl⟩
   rw [hs] at hadd
   simp only [hb] at hadd
   have HS:=qh hs
   have HB:=qh hb
   clear hs hb
   cases b
   all_goals
    go_wp2_with (first
     | (refine qas hM rfl (runN rfl) ?_;clear hM;intro w' ga hM)
     | (refine qai hM rfl rfl tyU rfl (by first | exact at0 | exact at1 | exact at2 | exact at3 | exact at4 | exact at5) rfl ?_)
     | (refine qae hM rfl rfl tyU rfl rfl (by first | exact au0 | exact au1 | exact au2) rfl rfl (oneN _) ?_;clear hM;intro w' hM)
     | (refine qad hM rfl rfl enAdd (al:=[.agg (uC lo),.agg (uC (cV k))]) (hadd _) rfl ?_;clear hM;intro w' hM))
   ·refine res_c hM rfl tyU rfl at1 rfl rfl ?_
    refine ⟨?_,hM.below⟩
    have hlt:lo+cV k < two256:=by have:=of_decide_eq_false HB.out;omega
    have h:=qnq (k:=k) hlo (s:=s) (o:=0) (by have:=HS.out;rw [Nat.mod_eq_of_lt hlt] at this;unfold cV at this;omega) (by rw [← HS.out];exact qe7 _) (by omega)
    rw [← HL.out,Nat.mul_zero,Nat.add_zero,h];rfl
   ·refine res_c hM rfl tyU rfl at1 rfl rfl ?_
    refine ⟨?_,hM.below⟩
    have hle:two256≤lo+cV k:=of_decide_eq_true HB.out
    have hlt:=cV_lt k
    have h:=qnq (k:=k) hlo (s:=s) (o:=1) (by
     have:=HS.out
     rw [show lo+cV k=(lo+cV k - two256)+two256 by omega,Nat.add_mod_right,Nat.mod_eq_of_lt (by omega)] at this
     unfold cV at this hle hlt;omega) (by rw [← HS.out];exact qe7 _) (by omega)
    rw [← HL.out,Nat.mul_zero,Nat.add_zero,h];rfl
  ·have heq:∀ W:World,(Op.equalIn 10000 24 (.agg (uC hi)) (.agg #[.int .u64 0,.int .u64 0,.int .u64 0,.int .u64 0])).run Tryz.prog W=.ok false W:=fun W=>by
    rw [eqNZ hi hhi W,decide_eq_false h0]
   have hmul:=mulN hi (cV k) hhi (cV_lt k)
   have hld:=Nat.mod_add_div (hi * cV k) two256
   obtain ⟨l,hl1⟩:∃ l,hi * cV k % two256=l:=⟨_,rfl⟩
   obtain ⟨h,hh1⟩:∃ h,hi * cV k / two256=h:=⟨_,rfl⟩
   have hl2:l < two256:=by rw [← hl1];exact qe7 _
   have hh2:h < two256:=by rw [← hh1];exact qqs hhi (cV_lt k)
   rw [hl1,hh1] at hld
   simp only [hl1,hh1] at hmul
   have hadd:=uaddN lo l hlo hl2
   have hsd:=Nat.mod_add_div (lo+l) two256
   have hod:(lo+l) / two256≤1:=by
    have:(lo+l) / two256 < 2:=(Nat.div_lt_iff_lt_mul qbt).2 (by omega)
    omega
   obtain ⟨s,hs⟩:∃ s,(lo+l) % two256=s:=⟨_,rfl⟩
   have hs2:s < two256:=by rw [← hs];exact qe7 _
   obtain ⟨o,ho⟩:∃ o,(lo+l) / two256=o:=⟨_,rfl⟩
   rw [hs,ho] at hsd
   rw [ho] at hod
   have hbd:decide (two256≤lo+l)=decide (o=1):=by
    rw [Bool.eq_iff_iff,decide_eq_true_iff,decide_eq_true_iff]
    constructor
    ·intro h;rcases Nat.lt_or_ge o 1 with h1 | h1
     ·have:o=0:=by omega
      subst this;omega
     ·omega
    ·intro h;subst h;omega
   simp only [hs,hbd] at hadd
   have hcm:cV k+modN k=two256:=qiu k
   obtain ⟨r1,r2⟩:=qpg (m:=modN k) hcm (qg8 k) (Nat.pos_of_ne_zero h0) hld hsd
   have r3:=qr0 (cN_small k).2 hhi hld hsd hod
   rw [HL.out] at r1
   have HR1:=qh r1
   have HR2:=qh r2
   clear r1 r2 hld hsd hcm hbd hs ho hl1 hh1
   have:o=0∨o=1:=by omega
   rcases this with rfl | rfl
   ·simp only [show decide (0=1)=false from rfl] at hadd
    have hone:=uaddN h 1 hh2 (by decide)
    go_wp2_with (first
     | (refine qas hM rfl (runN rfl) ?_;clear hM;intro w' ga hM)
     | (refine qai hM rfl rfl tyU rfl (by first | exact at0 | exact at1 | exact at2 | exact at3 | exact at4 | exact at5) rfl ?_)
     | (refine qae hM rfl rfl tyU rfl rfl (by first | exact au0 | exact au1 | exact au2) rfl rfl (oneN _) ?_;clear hM;intro w' hM)
     | (refine qad hM rfl rfl enMul (al:=[.agg (uC hi),.agg (uC (cV k))]) (hmul _) rfl ?_;clear hM;intro w' hM)
     | (refine qad hM rfl rfl enAdd (al:=[.agg (uC lo),.agg (uC l)]) (hadd _) rfl ?_;clear hM;intro w' hM)
     | (refine qad hM rfl rfl enAdd (al:=[.agg (uC h),.agg (uC 1)]) (hone _) rfl ?_;clear hM;intro w' hM)
     | (refine qoe hM qbc tyU rfl rfl rfl rfl rfl rfl rfl rfl at0 at1 au6 au5 rfl rfl rfl rfl (oneN _) (oneN _) (by decide) rfl rfl rfl rfl rfl rfl rfl rfl (by kernel_rfl) (by kernel_rfl) (by kernel_rfl) (by kernel_rfl) (by kernel_rfl) (fun _ _ _ _ _ h=>h) ?_;clear hM;intro w' hM))
    go_roundg (s+two256 * h)
    case measure=>rw [HN.out];exact HR2.out
    case rel=>exact ⟨s,h,hs2,hh2,qh rfl,HR1,hM.tail.tail.tail⟩
   ·simp only [show decide (1=1)=true from rfl] at hadd
    have hone:=uaddN h 1 hh2 (by decide)
    rw [Nat.mod_eq_of_lt r3] at hone
    obtain ⟨h',hh'⟩:∃ h',h+1=h':=⟨_,rfl⟩
    rw [hh'] at hone r3 HR1 HR2
    clear hh'
    go_wp2_with (first
     | (refine qas hM rfl (runN rfl) ?_;clear hM;intro w' ga hM)
     | (refine qai hM rfl rfl tyU rfl (by first | exact at0 | exact at1 | exact at2 | exact at3 | exact at4 | exact at5) rfl ?_)
     | (refine qae hM rfl rfl tyU rfl rfl (by first | exact au0 | exact au1 | exact au2) rfl rfl (oneN _) ?_;clear hM;intro w' hM)
     | (refine qad hM rfl rfl enMul (al:=[.agg (uC hi),.agg (uC (cV k))]) (hmul _) rfl ?_;clear hM;intro w' hM)
     | (refine qad hM rfl rfl enAdd (al:=[.agg (uC lo),.agg (uC l)]) (hadd _) rfl ?_;clear hM;intro w' hM)
     | (refine qad hM rfl rfl enAdd (al:=[.agg (uC h),.agg (uC 1)]) (hone _) rfl ?_;clear hM;intro w' hM)
     | (refine qoe hM qbc tyU rfl rfl rfl rfl rfl rfl rfl rfl at0 at1 au6 au5 rfl rfl rfl rfl (oneN _) (oneN _) (by decide) rfl rfl rfl rfl rfl rfl rfl rfl (by kernel_rfl) (by kernel_rfl) (by kernel_rfl) (by kernel_rfl) (by kernel_rfl) (fun _ _ _ _ _ h=>h) ?_;clear hM;intro w' hM))
    go_roundg (s+two256 * h')
    case measure=>rw [HN.out];exact HR2.out
    case rel=>exact ⟨s,h',hs2,r3,qh rfl,HR1,hM.tail.tail.tail⟩
/- The walks of field: Reduce, Add, Sub, mul, Mul, power, Inv. -/
theorem enFmul:Ent Tryz.prog 254:=⟨enters_of Tryz.func254 (by kernel_rfl) rfl⟩
theorem enFMul:Ent Tryz.prog 238:=⟨enters_of Tryz.func238 (by kernel_rfl) rfl⟩
theorem enFAdd:Ent Tryz.prog 210:=⟨enters_of Tryz.func210 (by kernel_rfl) rfl⟩
theorem enFSub:Ent Tryz.prog 239:=⟨enters_of Tryz.func239 (by kernel_rfl) rfl⟩
theorem qq3:Ent Tryz.prog 205:=⟨enters_of Tryz.func205 (by kernel_rfl) rfl⟩
theorem enPower:Ent Tryz.prog 229:=⟨enters_of Tryz.func229 (by kernel_rfl) rfl⟩
theorem enBy:Ent Tryz.prog 259:=⟨enters_of Tryz.func259 (by kernel_rfl) rfl⟩
theorem enLen:Ent Tryz.prog 234:=⟨enters_of Tryz.func234 (by kernel_rfl) rfl⟩
theorem enBit:Ent Tryz.prog 236:=⟨enters_of Tryz.func236 (by kernel_rfl) rfl⟩
theorem enInv:Ent Tryz.prog 182:=⟨enters_of Tryz.func182 (by kernel_rfl) rfl⟩
theorem qro (k a:Nat):(a+two256 * 0) % modN k=a % modN k:=by rw [Nat.mul_zero,Nat.add_zero]
theorem qj4 (k a:Nat) (ha:a < two256) (w:World):Calls Tryz.prog 226 #[.agg (uC a),.agg (uC 0),.agg (uC (cV k))] w fun e w'=>e=.returned (.agg (uC (a % modN k)))∧Below w.heap.size w w':=by
 have h:=qj0 k a 0 ha qbt w
 rw [qro] at h
 exact h
theorem storeU64 {w0 w:World} {L:List Blk} {k g j:Nat} {cs:Array Value} {t:TypeId} {v:Value} (hM:Mem w0 w L) (hk:L[k]? = some (g,cs,t)) (hj:cs[j]? = some v) (n:Int):(storeVar 22 ⟨g,j,none⟩ (.int .u64 n)).run Tryz.prog w=.ok () (w.setCell ⟨g,j,none⟩ (.int .u64 n)):=by
 have co:=rc (hM.at_ hk) j hj
 have fo:=rf (hM.at_ hk) j
 go_simp
theorem fReduceK (k:Nat) (hk:k≤1) (low high:Nat) (hl:low < two256) (hh:high < two256) (w:World):Calls Tryz.prog 205 #[.agg (uC low),.agg (uC high),.int .i64 (k:Int)] w fun e w'=>e=.returned (.tuple #[.agg (uC ((low+two256 * high) % modN k)),.int .i64 0])∧Below w.heap.size w w':=by
 have hM:=Mem.nil w
 have hr:=qj0 k low high hl hh
 obtain ⟨V,hV⟩:∃ V,(low+two256 * high) % modN k=V:=⟨_,rfl⟩
 rw [hV] at hr ⊢
 clear hV
 go_enter Tryz.func205,Tryz.ntmps205
 go_wp2_with (first
  | (refine qas hM rfl (runN rfl) ?_;clear hM;intro w' ga hM)
  | (refine qay hM rfl rfl rfl (boxN _ _) ?_;clear hM;intro w' ga hM)
  | (refine qai hM rfl rfl tyU rfl (by exact hat) rfl ?_)
  | (refine qae hM rfl rfl tyU rfl rfl (by exact hau) rfl rfl (oneN _) ?_;clear hM;intro w' hM)
  | (refine qad hM rfl rfl qc9 (al:=[.int .i64 (k:Int)]) (qe2 k hk _) rfl ?_;clear hM;intro w' hM)
  | (refine qad hM rfl rfl qcl (al:=[.agg (uC low),.agg (uC high),.agg (uC (cV k))]) (hr _) rfl ?_;clear hM;intro w' hM))
 refine qb9 hM rfl tyU rfl rfl (by exact hat) rfl rfl ?_
 exact ⟨rfl,hM.below⟩
theorem fmulK (k a b:Nat) (ha:a < two256) (hb:b < two256) (w:World):Calls Tryz.prog 254 #[.agg (uC a),.agg (uC b),.agg (uC (cV k))] w fun e w'=>e=.returned (.agg (uC (mulM (modN k) a b)))∧Below w.heap.size w w':=by
 have hM:=Mem.nil w
 have hmul:=mulN a b ha hb
 have hr:=qj0 k (a * b % two256) (a * b / two256) (qe7 _) (qqs ha hb)
 rw [Nat.mod_add_div] at hr
 unfold mulM
 obtain ⟨V,hV⟩:∃ V,a * b % modN k=V:=⟨_,rfl⟩
 rw [hV] at hr ⊢
 obtain ⟨l,hl⟩:∃ l,a * b % two256=l:=⟨_,rfl⟩
 obtain ⟨h,hh⟩:∃ h,a * b / two256=h:=⟨_,rfl⟩
 simp only [hl,hh] at hmul hr
 clear hV hl hh
 go_enter Tryz.func254,Tryz.ntmps254
 go_wp2_with (first
  | (refine qas hM rfl (runN rfl) ?_;clear hM;intro w' ga hM)
  | (refine qay hM rfl rfl rfl (boxN _ _) ?_;clear hM;intro w' ga hM)
  | (refine qai hM rfl rfl tyU rfl (by exact hat) rfl ?_)
  | (refine qae hM rfl rfl tyU rfl rfl (by exact hau) rfl rfl (oneN _) ?_;clear hM;intro w' hM)
  | (refine qad hM rfl rfl enMul (al:=[.agg (uC a),.agg (uC b)]) (hmul _) rfl ?_;clear hM;intro w' hM)
  | (refine qad hM rfl rfl qcl (al:=[.agg (uC l),.agg (uC h),.agg (uC (cV k))]) (hr _) rfl ?_;clear hM;intro w' hM))
 refine res_c hM rfl tyU rfl (by exact hat) rfl rfl ?_
 exact ⟨rfl,hM.below⟩
theorem fMulK (k:Nat) (hk:k≤1) (a b:Nat) (ha:a < two256) (hb:b < two256) (w:World):Calls Tryz.prog 238 #[.agg (uC a),.agg (uC b),.int .i64 (k:Int)] w fun e w'=>e=.returned (.tuple #[.agg (uC (mulM (modN k) a b)),.int .i64 0])∧Below w.heap.size w w':=by
 have hM:=Mem.nil w
 have hr:=fmulK k a b ha hb
 obtain ⟨V,hV⟩:∃ V,mulM (modN k) a b=V:=⟨_,rfl⟩
 rw [hV] at hr ⊢
 clear hV
 go_enter Tryz.func238,Tryz.ntmps238
 go_wp2_with (first
  | (refine qas hM rfl (runN rfl) ?_;clear hM;intro w' ga hM)
  | (refine qay hM rfl rfl rfl (boxN _ _) ?_;clear hM;intro w' ga hM)
  | (refine qai hM rfl rfl tyU rfl (by exact hat) rfl ?_)
  | (refine qae hM rfl rfl tyU rfl rfl (by exact hau) rfl rfl (oneN _) ?_;clear hM;intro w' hM)
  | (refine qad hM rfl rfl qc9 (al:=[.int .i64 (k:Int)]) (qe2 k hk _) rfl ?_;clear hM;intro w' hM)
  | (refine qad hM rfl rfl enFmul (al:=[.agg (uC a),.agg (uC b),.agg (uC (cV k))]) (hr _) rfl ?_;clear hM;intro w' hM))
 refine qb9 hM rfl tyU rfl rfl (by exact hat) rfl rfl ?_
 exact ⟨rfl,hM.below⟩
theorem fAddK (k:Nat) (hk:k≤1) (a b:Nat) (ha:a < two256) (hb:b < two256) (w:World):Calls Tryz.prog 210 #[.agg (uC a),.agg (uC b),.int .i64 (k:Int)] w fun e w'=>e=.returned (.tuple #[.agg (uC (addM (modN k) a b)),.int .i64 0])∧Below w.heap.size w w':=by
 have hM:=Mem.nil w
 have hadd:=uaddN a b ha hb
 unfold addM
 obtain ⟨V,hV⟩:∃ V,(a+b) % modN k=V:=⟨_,rfl⟩
 rw [hV]
 obtain ⟨s,hs⟩:∃ s,(a+b) % two256=s:=⟨_,rfl⟩
 have hs2:s < two256:=by rw [← hs];exact qe7 _
 rw [hs] at hadd
 by_cases ho:two256≤a+b
 ·rw [decide_eq_true ho] at hadd
  have hr:=qj0 k s 1 hs2 (by decide)
  have e:s+two256 * 1=a+b:=by
   rw [show a+b=(a+b - two256)+two256 by omega,Nat.add_mod_right,Nat.mod_eq_of_lt (by omega)] at hs
   omega
  rw [e,hV] at hr
  clear hs hV ho e
  go_enter Tryz.func210,Tryz.ntmps210
  go_wp2_with (first
   | (refine qas hM rfl (runN rfl) ?_;clear hM;intro w' ga hM)
   | (refine qay hM rfl rfl rfl (boxN _ _) ?_;clear hM;intro w' ga hM)
   | (refine qai hM rfl rfl tyU rfl (by exact hat) rfl ?_)
   | (refine qae hM rfl rfl tyU rfl rfl (by exact hau) rfl rfl (oneN _) ?_;clear hM;intro w' hM)
   | (refine qad hM rfl rfl qc9 (al:=[.int .i64 (k:Int)]) (qe2 k hk _) rfl ?_;clear hM;intro w' hM)
   | (refine qad hM rfl rfl enAdd (al:=[.agg (uC a),.agg (uC b)]) (hadd _) rfl ?_;clear hM;intro w' hM)
   | (refine qfk hM rfl rfl rfl rfl (by exact hau) (storeU64 hM at0 rfl 1) ?_;clear hM;intro w' hM)
   | (refine qad hM rfl rfl qcl (al:=[.agg (uC s),.agg (uC 1),.agg (uC (cV k))]) (hr _) rfl ?_;clear hM;intro w' hM))
  refine qb9 hM rfl tyU rfl rfl (by exact hat) rfl rfl ?_
  exact ⟨rfl,hM.below⟩
 ·rw [decide_eq_false ho] at hadd
  have hr:=qj4 k s hs2
  have e:s=a+b:=by rw [← hs,Nat.mod_eq_of_lt (by omega)]
  rw [e,hV] at hr
  rw [← e] at hr
  clear hs hV ho e
  go_enter Tryz.func210,Tryz.ntmps210
  go_wp2_with (first
   | (refine qas hM rfl (runN rfl) ?_;clear hM;intro w' ga hM)
   | (refine qay hM rfl rfl rfl (boxN _ _) ?_;clear hM;intro w' ga hM)
   | (refine qai hM rfl rfl tyU rfl (by exact hat) rfl ?_)
   | (refine qae hM rfl rfl tyU rfl rfl (by exact hau) rfl rfl (oneN _) ?_;clear hM;intro w' hM)
   | (refine qad hM rfl rfl qc9 (al:=[.int .i64 (k:Int)]) (qe2 k hk _) rfl ?_;clear hM;intro w' hM)
   | (refine qad hM rfl rfl enAdd (al:=[.agg (uC a),.agg (uC b)]) (hadd _) rfl ?_;clear hM;intro w' hM)
   | (refine qad hM rfl rfl qcl (al:=[.agg (uC s),.agg (uC 0),.agg (uC (cV k))]) (hr _) rfl ?_;clear hM;intro w' hM))
  refine qb9 hM rfl tyU rfl rfl (by exact hat) rfl rfl ?_
  exact ⟨rfl,hM.below⟩
theorem fSubK (k:Nat) (hk:k≤1) (a b:Nat) (ha:a < two256) (hb:b < two256) (w:World):Calls Tryz.prog 239 #[.agg (uC a),.agg (uC b),.int .i64 (k:Int)] w fun e w'=>e=.returned (.tuple #[.agg (uC (subM (modN k) a b)),.int .i64 0])∧Below w.heap.size w w':=by
 have hM:=Mem.nil w
 have hra:=qj4 k a ha
 have hrb:=qj4 k b hb
 unfold subM
 have hal:=Nat.mod_lt a (qg8 k)
 have hbl:=Nat.mod_lt b (qg8 k)
 obtain ⟨x,hx⟩:∃ x,a % modN k=x:=⟨_,rfl⟩
 obtain ⟨y,hy⟩:∃ y,b % modN k=y:=⟨_,rfl⟩
 rw [hx] at hra hal
 rw [hy] at hrb hbl
 rw [hx,hy]
 have hm:=qm0 k
 have hsub:=subN x y (by omega) (by omega)
 have hc:=qiu k
 obtain ⟨V,hV⟩:∃ V,(x+modN k - y) % modN k=V:=⟨_,rfl⟩
 rw [hV]
 obtain ⟨d,hd⟩:∃ d,(x+two256 - y) % two256=d:=⟨_,rfl⟩
 have hd2:d < two256:=by rw [← hd];exact qe7 _
 rw [hd] at hsub
 clear hx hy
 by_cases hu:x < y
 ·have e1:d=x+two256 - y:=by rw [← hd,Nat.mod_eq_of_lt (by omega)]
  have h:=qq9 (k:=k) hal hbl (d:=d) (u:=1) (by omega) hd2 (by omega)
  rw [if_pos rfl,hV] at h
  have hlast:=subN d (cV k) hd2 (cV_lt k)
  have e2:(d+two256 - cV k) % two256=V:=by
   have:cV k=(cN k).val:=rfl
   rw [show d+two256 - cV k=(d - cV k)+two256 by omega,Nat.add_mod_right,Nat.mod_eq_of_lt (by omega)]
   omega
  rw [e2] at hlast
  rw [decide_eq_true hu] at hsub
  clear hd hV e1 e2 h hu hc hm hal hbl
  go_enter Tryz.func239,Tryz.ntmps239
  go_wp2_with (first
   | (refine qas hM rfl (runN rfl) ?_;clear hM;intro w' ga hM)
   | (refine qay hM rfl rfl rfl (boxN _ _) ?_;clear hM;intro w' ga hM)
   | (refine qai hM rfl rfl tyU rfl (by exact hat) rfl ?_)
   | (refine qae hM rfl rfl tyU rfl rfl (by exact hau) rfl rfl (oneN _) ?_;clear hM;intro w' hM)
   | (refine qad hM rfl rfl qc9 (al:=[.int .i64 (k:Int)]) (qe2 k hk _) rfl ?_;clear hM;intro w' hM))
  refine qau 8 hM qbc [.agg (uC a),.agg #[.int .u64 0,.int .u64 0,.int .u64 0,.int .u64 0],.agg (uC (cV k)),.agg (uC x),.agg (uC b),.agg #[.int .u64 0,.int .u64 0,.int .u64 0,.int .u64 0],.agg (uC (cV k)),.agg (uC y)] [] (b:=?b1) ?hb rfl (by kernel_rfl) ?hgo ?hfin
  case hb=>simp only [putAll,Act.put,List.setIfInBounds_toArray,List.set_cons_zero,List.set_cons_succ];rfl
  case hgo =>
   refine GoAll.v (.agg (uC a)) (qap tyU at3) ?_
   refine GoAll.v (.agg #[.int .u64 0,.int .u64 0,.int .u64 0,.int .u64 0]) (qaq fun w=>by go_simp) ?_
   refine GoAll.v (.agg (uC (cV k))) (qap tyU at0) ?_
   refine GoAll.v (.agg (uC x)) (qao (al:=[.agg (uC a),.agg (uC 0),.agg (uC (cV k))]) hra qcl) ?_
   refine GoAll.v (.agg (uC b)) (qap tyU at2) ?_
   refine GoAll.v (.agg #[.int .u64 0,.int .u64 0,.int .u64 0,.int .u64 0]) (qaq fun w=>by go_simp) ?_
   refine GoAll.v (.agg (uC (cV k))) (qap tyU at0) ?_
   refine GoAll.v (.agg (uC y)) (qao (al:=[.agg (uC b),.agg (uC 0),.agg (uC (cV k))]) hrb qcl) ?_
   exact GoAll.nil
  case hfin =>
   clear hM;intro w' G hM
   simp only [putLays,List.drop_succ_cons,List.drop_zero,List.map_nil,List.map_cons,List.nil_append,List.cons_append] at hM ⊢
   go_wp2_with (first
    | (refine qas hM rfl (runN rfl) ?_;clear hM;intro w' ga hM)
    | (refine qai hM rfl rfl tyU rfl (by exact hat) rfl ?_)
    | (refine qae hM rfl rfl tyU rfl rfl (by exact hau) rfl rfl (oneN _) ?_;clear hM;intro w' hM)
    | (refine qad hM rfl rfl enSub (al:=[.agg (uC x),.agg (uC y)]) (hsub _) rfl ?_;clear hM;intro w' hM)
    | (refine qad hM rfl rfl enSub (al:=[.agg (uC d),.agg (uC (cV k))]) (hlast _) rfl ?_;clear hM;intro w' hM))
   refine qb9 hM rfl tyU rfl rfl (by exact hat) rfl rfl ?_
   exact ⟨rfl,hM.below⟩
 ·have e1:d=x - y:=by rw [← hd,show x+two256 - y=(x - y)+two256 by omega,Nat.add_mod_right,Nat.mod_eq_of_lt (by omega)]
  have h:=qq9 (k:=k) hal hbl (d:=d) (u:=0) (by omega) hd2 (by omega)
  rw [if_neg (by decide),hV] at h
  rw [decide_eq_false hu] at hsub
  subst h
  clear hd hV e1 hu hc hm hal hbl
  go_enter Tryz.func239,Tryz.ntmps239
  go_wp2_with (first
   | (refine qas hM rfl (runN rfl) ?_;clear hM;intro w' ga hM)
   | (refine qay hM rfl rfl rfl (boxN _ _) ?_;clear hM;intro w' ga hM)
   | (refine qai hM rfl rfl tyU rfl (by exact hat) rfl ?_)
   | (refine qae hM rfl rfl tyU rfl rfl (by exact hau) rfl rfl (oneN _) ?_;clear hM;intro w' hM)
   | (refine qad hM rfl rfl qc9 (al:=[.int .i64 (k:Int)]) (qe2 k hk _) rfl ?_;clear hM;intro w' hM))
  refine qau 8 hM qbc [.agg (uC a),.agg #[.int .u64 0,.int .u64 0,.int .u64 0,.int .u64 0],.agg (uC (cV k)),.agg (uC x),.agg (uC b),.agg #[.int .u64 0,.int .u64 0,.int .u64 0,.int .u64 0],.agg (uC (cV k)),.agg (uC y)] [] (b:=?b2) ?hb rfl (by kernel_rfl) ?hgo ?hfin
  case hb=>simp only [putAll,Act.put,List.setIfInBounds_toArray,List.set_cons_zero,List.set_cons_succ];rfl
  case hgo =>
   refine GoAll.v (.agg (uC a)) (qap tyU at3) ?_
   refine GoAll.v (.agg #[.int .u64 0,.int .u64 0,.int .u64 0,.int .u64 0]) (qaq fun w=>by go_simp) ?_
   refine GoAll.v (.agg (uC (cV k))) (qap tyU at0) ?_
   refine GoAll.v (.agg (uC x)) (qao (al:=[.agg (uC a),.agg (uC 0),.agg (uC (cV k))]) hra qcl) ?_
   refine GoAll.v (.agg (uC b)) (qap tyU at2) ?_
   refine GoAll.v (.agg #[.int .u64 0,.int .u64 0,.int .u64 0,.int .u64 0]) (qaq fun w=>by go_simp) ?_
   refine GoAll.v (.agg (uC (cV k))) (qap tyU at0) ?_
   refine GoAll.v (.agg (uC y)) (qao (al:=[.agg (uC b),.agg (uC 0),.agg (uC (cV k))]) hrb qcl) ?_
   exact GoAll.nil
  case hfin =>
   clear hM;intro w' G hM
   simp only [putLays,List.drop_succ_cons,List.drop_zero,List.map_nil,List.map_cons,List.nil_append,List.cons_append] at hM ⊢
   go_wp2_with (first
    | (refine qas hM rfl (runN rfl) ?_;clear hM;intro w' ga hM)
    | (refine qai hM rfl rfl tyU rfl (by exact hat) rfl ?_)
    | (refine qae hM rfl rfl tyU rfl rfl (by exact hau) rfl rfl (oneN _) ?_;clear hM;intro w' hM)
    | (refine qad hM rfl rfl enSub (al:=[.agg (uC x),.agg (uC y)]) (hsub _) rfl ?_;clear hM;intro w' hM))
   refine qb9 hM rfl tyU rfl rfl (by exact hat) rfl rfl ?_
   exact ⟨rfl,hM.below⟩
/- The walks of field: power's closure, power, Inv. -/
theorem ats {α:Type} {p q:α} {l:List α} {i:Nat} (h:l[i]? = some p):(q :: l)[i+1]? = some p:=by simpa using h
theorem aus {α:Type} {p p' q:α} {l l':List α} {i:Nat} (h:l[i]? = some p∧l.set i p'=l'):(q :: l)[i+1]? = some p∧(q :: l).set (i+1) p'=q :: l':=⟨by simpa using h.1,by simp [h.2]⟩
theorem powByK (k:Nat) {w0 w:World} {L L':List Blk} {i j g7 g5:Nat} (x v:Nat) (hv:v < two256) (hx:x < two256) (hM:Mem w0 w L) (hi:L[i]? = some (g7,uC v,24)∧L.set i (g7,uC (mulM (modN k) v x),24)=L') (hj:L[j]? = some (g5,uC (cV k),24)) :
  Calls Tryz.prog 259 #[.agg (uC x),.pointer (some ⟨g7,0,none⟩),.pointer (some ⟨g5,0,none⟩)] w fun e w'=>e=.returned (.tuple #[])∧Mem w0 w' L':=by
 have hr:=fmulK k v x hv hx
 obtain ⟨V,hV⟩:∃ V,mulM (modN k) v x=V:=⟨_,rfl⟩
 rw [hV] at hr hi
 have HI:=qh hi
 have HJ:=qh hj
 clear hV hi hj
 go_enter Tryz.func259,Tryz.ntmps259
 go_wp2_with (first
  | (refine qay hM rfl rfl rfl (boxN _ _) ?_;clear hM;intro w' ga hM)
  | (refine qai hM rfl rfl tyU rfl (by first | exact at0 | exact ats HI.out.1 | exact ats HJ.out) rfl ?_)
  | (refine qad hM rfl rfl enFmul (al:=[.agg (uC v),.agg (uC x),.agg (uC (cV k))]) (hr _) rfl ?_;clear hM;intro w' hM)
  | (refine qae hM rfl rfl tyU rfl rfl (aus HI.out) rfl rfl (oneN _) ?_;clear hM;intro w' hM))
 exact bodyPost_end (results_none rfl _ _ _) rfl ⟨rfl,hM.tail⟩
theorem powerK (k a n:Nat) (ha:a < two256) (hn:n < two256) (w:World):Calls Tryz.prog 229 #[.agg (uC a),.agg (uC n),.agg (uC (cV k))] w fun e w'=>e=.returned (.agg (uC (powM (modN k) a n)))∧Below w.heap.size w w':=by
 have hM:=Mem.nil w
 have hmf:∀ (fn:Fn) (first cap:Array Value) (w:World),(Instr.makeFunc fn first cap).run Tryz.prog w=.ok (.func fn first cap) w:=fun _ _ _ _=>rfl
 have hlen:=lenN n hn
 have hle:=qji hn
 unfold powM
 obtain ⟨R,hR⟩:∃ R,powS (modN k) a n (bitsN n) 1=R:=⟨_,rfl⟩
 rw [hR]
 have HR:=qh hR
 obtain ⟨m,hm⟩:∃ m,bitsN n=m:=⟨_,rfl⟩
 rw [hm] at hle HR
 simp only [hm] at hlen
 have hw1:IntKind.i64.wrap ((m:Int) - 1)=(m:Int) - 1:=IntWalk.i64_in _ (by omega)
 clear hR hm
 go_enter Tryz.func229,Tryz.ntmps229
 go_wp2_with (first
  | (refine qas hM rfl (runN rfl) ?_;clear hM;intro w' ga hM)
  | (refine qay hM rfl rfl rfl (boxN _ _) ?_;clear hM;intro w' ga hM)
  | (refine qai hM rfl rfl tyU rfl (by exact hat) rfl ?_)
  | (refine qae hM rfl rfl tyU rfl rfl (by exact hau) rfl rfl (oneN _) ?_;clear hM;intro w' hM)
  | (refine qae hM rfl rfl tyU rfl rfl (by exact hau) rfl rfl (oneN 1) ?_;clear hM;intro w' hM)
  | (refine qad hM rfl rfl enLen (al:=[.agg (uC n)]) (hlen _) rfl ?_;clear hM;intro w' hM))
 rename_i g3 w4 g4 w5 g5 w6 g6 w7 w8 K0 hK0
 have HM:=qh hM
 clear hM
 go_loopw [9] (fun i wr=>∃ (j v:Nat),j≤256∧i=.int .i64 ((j:Int) - 1)∧v < two256∧Hid (powS (modN k) a n j v=R)∧Mem w wr [(ga,uC v,24),(g6,uC 0,24),(g5,uC (cV k),24),(g4,uC n,24),(g3,uC a,24)]) (fun i _=>(intOf i+1).toNat)
 case atStart=>exact ⟨m,1,hle,rfl,by decide,HR,HM.out⟩
 case round =>
  obtain ⟨j,v,hj,rfl,hv,HV,hM⟩:=hrel
  clear HM HR
  match j,hj,HV with
  | 0,_,HV =>
   go_wp2_with (first
    | (refine qai hM rfl rfl tyU rfl (by exact hat) rfl ?_)
    | (refine qae hM rfl rfl tyU rfl rfl (by exact hau) rfl rfl (oneN _) ?_;clear hM;intro w' hM))
   refine res_c hM rfl tyU rfl (by exact hat) rfl rfl ?_
   exact ⟨by rw [← HV.out];rfl,hM.below⟩
  | j+1,hj,HV =>
   have hi:((j+1:Nat):Int) - 1=(j:Int):=by omega
   rw [hi]
   have hjI:(j:Int) < 256:=by omega
   have hbit:=bitN n j hn (by omega)
   have hv2:=HV.out
   rw [powS] at hv2
   have hw2:IntKind.i64.wrap ((j:Int) - 1)=(j:Int) - 1:=IntWalk.i64_in _ (by omega)
   have hby1:=fun (w':World) (hM:Mem w w' [(ga,uC v,24),(g6,uC 0,24),(g5,uC (cV k),24),(g4,uC n,24),(g3,uC a,24)])=>powByK k v v hv hv hM au0 at2
   obtain ⟨v1,h1⟩:∃ v1,mulM (modN k) v v=v1:=⟨_,rfl⟩
   have hl1:v1 < two256:=by rw [← h1];exact qh2 _ _ _
   simp only [h1] at hby1 hv2
   obtain ⟨b,hb⟩:∃ b,n.testBit j=b:=⟨_,rfl⟩
   rw [hb] at hv2
   simp only [hb] at hbit
   have hby2:=fun (w':World) (hM:Mem w w' [(ga,uC v1,24),(g6,uC 0,24),(g5,uC (cV k),24),(g4,uC n,24),(g3,uC a,24)])=>powByK k a v1 hl1 ha hM au0 at2
   obtain ⟨v2,h2⟩:∃ v2,mulM (modN k) v1 a=v2:=⟨_,rfl⟩
   have hl2:v2 < two256:=by rw [← h2];exact qh2 _ _ _
   simp only [h2] at hby2 hv2
   clear h1 h2 hb hi
   have HV2:=qh hv2
   clear hv2
   cases b
   ·simp only [Bool.false_eq_true,if_false] at HV2
    go_wp2_with (first
     | (refine qai hM rfl rfl tyU rfl (by exact hat) rfl ?_)
     | (refine qdb rfl rfl rfl enBy (al:=[.agg (uC v)]) (cap:=[.pointer (some ⟨ga,0,none⟩),.pointer (some ⟨g5,0,none⟩)]) (hby1 _ hM) rfl ?_;clear hM;intro w' hM)
     | (refine qad hM rfl rfl enBit (al:=[.agg (uC n),.int .i64 (j:Int)]) (hbit _) rfl ?_;clear hM;intro w' hM))
    go_roundw
    case rel=>exact ⟨j,v1,by omega,rfl,hl1,HV2,hM⟩
    case measure=>simp [intOf]
   ·simp only [if_true] at HV2
    go_wp2_with (first
     | (refine qai hM rfl rfl tyU rfl (by exact hat) rfl ?_)
     | (refine qdb rfl rfl rfl enBy (al:=[.agg (uC v)]) (cap:=[.pointer (some ⟨ga,0,none⟩),.pointer (some ⟨g5,0,none⟩)]) (hby1 _ hM) rfl ?_;clear hM;intro w' hM)
     | (refine qdb rfl rfl rfl enBy (al:=[.agg (uC a)]) (cap:=[.pointer (some ⟨ga,0,none⟩),.pointer (some ⟨g5,0,none⟩)]) (hby2 _ hM) rfl ?_;clear hM;intro w' hM)
     | (refine qad hM rfl rfl enBit (al:=[.agg (uC n),.int .i64 (j:Int)]) (hbit _) rfl ?_;clear hM;intro w' hM))
    go_roundw
    case rel=>exact ⟨j,v2,by omega,rfl,hl2,HV2,hM⟩
    case measure=>simp [intOf]
theorem invK (k:Nat) (hk:k≤1) (a:Nat) (ha:a < two256) (w:World):Calls Tryz.prog 182 #[.agg (uC a),.int .i64 (k:Int)] w fun e w'=>e=.returned (.tuple #[.agg (uC (invM k a)),.int .i64 (if a % modN k=0 then 6 else 0)])∧Below w.heap.size w w':=by
 have hM:=Mem.nil w
 have hra:=qj4 k a ha
 have hml:=qm0 k
 have hmb:=(qc3 k).1
 have hsub:=subN (modN k) 2 hml (by decide)
 have hmod:=qne k hk
 have e2:(modN k+two256 - 2) % two256=modN k - 2:=by
  have:4 < two256:=by decide
  rw [show modN k+two256 - 2=(modN k - 2)+two256 by omega,Nat.add_mod_right,Nat.mod_eq_of_lt (by omega)]
 rw [e2] at hsub
 have hpow:=powerK k a (modN k - 2) ha (by omega)
 unfold invM
 obtain ⟨p,hp⟩:∃ p,powM (modN k) a (modN k - 2)=p:=⟨_,rfl⟩
 rw [hp] at hpow ⊢
 obtain ⟨q,hq⟩:∃ q,modN k - 2=q:=⟨_,rfl⟩
 rw [hq] at hsub hpow
 have hxl:a % modN k < two256:=qe9 _ _
 obtain ⟨x,hx⟩:∃ x,a % modN k=x:=⟨_,rfl⟩
 rw [hx] at hra hxl ⊢
 clear hp hq hx e2 hmb
 by_cases h0:x=0
 ·subst h0
  rw [if_pos rfl,if_pos rfl]
  have heq:∀ W:World,(Op.equalIn 10000 24 (.agg (uC 0)) (.agg #[.int .u64 0,.int .u64 0,.int .u64 0,.int .u64 0])).run Tryz.prog W=.ok true W:=fun W=>eqNZ 0 qbt W
  go_enter Tryz.func182,Tryz.ntmps182
  go_wp2_with (first
   | (refine qas hM rfl (runN rfl) ?_;clear hM;intro w' ga hM)
   | (refine qay hM rfl rfl rfl (boxN _ _) ?_;clear hM;intro w' ga hM)
   | (refine qai hM rfl rfl tyU rfl (by exact hat) rfl ?_)
   | (refine qae hM rfl rfl tyU rfl rfl (by exact hau) rfl rfl (oneN 0) ?_;clear hM;intro w' hM)
   | (refine qae hM rfl rfl tyU rfl rfl (by exact hau) rfl rfl (oneN _) ?_;clear hM;intro w' hM)
   | (refine qad hM rfl rfl qc9 (al:=[.int .i64 (k:Int)]) (qe2 k hk _) rfl ?_;clear hM;intro w' hM)
   | (refine qad hM rfl rfl qcl (al:=[.agg (uC a),.agg (uC 0),.agg (uC (cV k))]) (hra _) rfl ?_;clear hM;intro w' hM))
  refine qb9 hM rfl tyU rfl rfl (by exact hat) rfl rfl ?_
  exact ⟨rfl,hM.below⟩
 ·rw [if_neg h0,if_neg h0]
  have heq:∀ W:World,(Op.equalIn 10000 24 (.agg (uC x)) (.agg #[.int .u64 0,.int .u64 0,.int .u64 0,.int .u64 0])).run Tryz.prog W=.ok false W:=fun W=>by
   rw [eqNZ x hxl W,decide_eq_false h0]
  go_enter Tryz.func182,Tryz.ntmps182
  go_wp2_with (first
   | (refine qas hM rfl (runN rfl) ?_;clear hM;intro w' ga hM)
   | (refine qay hM rfl rfl rfl (boxN _ _) ?_;clear hM;intro w' ga hM)
   | (refine qai hM rfl rfl tyU rfl (by exact hat) rfl ?_)
   | (refine qae hM rfl rfl tyU rfl rfl (by exact hau) rfl rfl (oneN _) ?_;clear hM;intro w' hM)
   | (refine qad hM rfl rfl qc9 (al:=[.int .i64 (k:Int)]) (qe2 k hk _) rfl ?_;clear hM;intro w' hM)
   | (refine qad hM rfl rfl qcl (al:=[.agg (uC a),.agg (uC 0),.agg (uC (cV k))]) (hra _) rfl ?_;clear hM;intro w' hM)
   | (refine qad hM rfl rfl qkv (al:=[.int .i64 (k:Int)]) (hmod _) rfl ?_;clear hM;intro w' hM)
   | (refine qad hM rfl rfl enSub (al:=[.agg (uC (modN k)),.agg (uC 2)]) (hsub _) rfl ?_;clear hM;intro w' hM)
   | (refine qad hM rfl rfl enPower (al:=[.agg (uC a),.agg (uC q),.agg (uC (cV k))]) (hpow _) rfl ?_;clear hM;intro w' hM))
  refine qb9 hM rfl tyU rfl rfl (by exact hat) rfl rfl ?_
  exact ⟨rfl,hM.below⟩
end Go.Proofs.YteoednifdpdbnaaGreat
