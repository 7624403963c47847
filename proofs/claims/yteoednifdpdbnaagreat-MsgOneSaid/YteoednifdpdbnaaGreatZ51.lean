/- The walk of law 21's alive. -/
import Derived.Test.YteoednifdpdbnaaGreatZ50
import Derived.Test.YteoednifdpdbnaaGreatZ49
namespace Go.Proofs.YteoednifdpdbnaaGreat
set_option linter.unusedVariables false
set_option linter.unusedSimpArgs false
open Go.RowKit
set_option maxHeartbeats 4000000
set_option maxRecDepth 100000
theorem enNSign2:Ent Tryz.prog 60:=⟨enters_of Tryz.func60 (by kernel_rfl) rfl⟩
theorem qia:Ent Tryz.prog 61:=⟨enters_of Tryz.func61 (by kernel_rfl) rfl⟩
def nt0:Nt:=⟨2,0,0,List.replicate 32 0,0,zeroSg⟩
theorem signnote (w:World):Calls Tryz.prog 60 #[.agg (uC 1),.agg (ntC nt0)] w fun e w'=>e=.returned (.tuple #[.agg (ntC ntnote),.int .i64 0])∧Below w.heap.size w w':=by
 have e:=(congrArg (fun d=>natOf d % modN 1) qsv).trans knote_h
 have h:=qri 1 nt0 (by decide) ⟨by decide,by decide,by decide,by decide,qpt⟩ (by decide) (by decide) (by decide +kernel) _ (by rw [show digN nt0=digN ⟨2,0,0,List.replicate 32 0,0,zeroSg⟩ from rfl,e];exact knote_K) knote_in (by rw [show digN nt0=digN ⟨2,0,0,List.replicate 32 0,0,zeroSg⟩ from rfl,e];exact qjk) w
 rw [show digN nt0=digN ⟨2,0,0,List.replicate 32 0,0,zeroSg⟩ from rfl,e] at h
 exact h
theorem convB {w0 w:World} {L:List Blk} {k g:Nat} {l:Bytes} {t:TypeId} (hM:Mem w0 w L) (hk:L[k]? = some (g,bytesC l,t)):(convert 97 9 (.slice (some ⟨g,0,none⟩) l.length l.length)).run Tryz.prog w=.ok (.string (bs l)) w:=by
 refine qa3 (e:=5) Tryz.underlying97 Tryz.underlying5 Tryz.underlying9 ?_
 intro _
 refine ⟨g,0,rfl,trivial,fun j u hj=>?_⟩
 have h:=rc (hM.at_ hk) j (u:=u) (by simpa [bytesC] using hj)
 simpa using h
theorem qkb (w:World):Calls Tryz.prog 21 #[] w fun e w'=>e=.returned (.bool true)∧Below w.heap.size w w':=by
 obtain ⟨z,n,hzl,hmk,c_s,hkd,c_r⟩:∃ (z:Bytes) (n:Nt),z.length=32∧(∀ w:World,(Instr.makeSlice 97 (.int .i64 32) (.int .i64 32)).run Tryz.prog w=.ok (.slice (some ⟨w.heap.size,0,none⟩) 32 32) (w.alloc (.cells (bytesC z) 5)))∧(∀ w,Calls Tryz.prog 60 #[.agg (uC 1),.agg (ntC ⟨2,0,0,z,0,zeroSg⟩)] w fun e w'=>e=.returned (.tuple #[.agg (ntC n),.int .i64 0])∧Below w.heap.size w w')∧(n.kd:Int)=2 ∧
   ∀ w,Calls Tryz.prog 61 #[.agg (ntC n)] w fun e w'=>e=.returned (.bool true)∧Below w.heap.size w w' :=
  ⟨List.replicate 32 0,ntnote,rfl,fun w=>qg2 32 (by decide) w,signnote,rfl,fun w=>by
   have h:=qgd ntnote ⟨by decide,by decide,by decide,by decide,wfnote⟩ (by decide) w
   rw [oknote] at h
   exact h⟩
 have hcb:∀ {w0 w':World} {L:List Blk} {k g:Nat} {t:TypeId},Mem w0 w' L→L[k]? = some (g,bytesC z,t)→(convert 97 9 (.slice (some ⟨g,0,none⟩) 32 32)).run Tryz.prog w'=.ok (.string (bs z)) w':=fun hM hk=>by
  have h:=convB hM hk
  rw [hzl] at h
  exact h
 have hM:=Mem.nil w
 clear hzl
 go_enter Tryz.func21,Tryz.ntmps21
 go_wp2_with (first
  | (refine qeu 5 rfl hM rfl (v:=fun g=>.slice (some ⟨g,0,none⟩) 32 32) (cs:=bytesC z) (t:=5) (fun w=>by have h:=hmk w;go_simp) ?_;clear hM;intro w' g5 hM;have hcv:=hcb hM at0)
  | (refine qak 8 rfl hM rfl rfl enNSign2 (al:=[.agg (uC 1),.agg (ntC ⟨2,0,0,z,0,zeroSg⟩)]) (c_s _) rfl ?_;clear hM;intro w' hM)
  | (refine qaj 1 rfl hM rfl (runNt rfl) ?_;clear hM;intro w' g1 hM)
  | (refine qae hM rfl rfl tyNt rfl rfl (by exact hau) rfl rfl (oneNt _) ?_;clear hM;intro w' hM)
  | (refine qaf hM rfl rfl Tryz.isAgg22 rfl (by exact hat) (v:=.int .u64 (n.kd:Int)) rfl ?_)
  | (refine qai hM rfl rfl tyNt rfl (by exact hat) rfl ?_)
  | (refine qak 15 rfl hM rfl rfl qia (al:=[.agg (ntC n)]) (c_r _) rfl ?_;clear hM;intro w' hM))
 go_ret
 exact ⟨rfl,hM.below⟩
end Go.Proofs.YteoednifdpdbnaaGreat
