/- The walk of sha.Mac. -/
import Derived.Test.YteoednifdpdbnaaGreatZ37
import Derived.Test.YteoednifdpdbnaaGreatZ15
import Derived.Deep.Cut
namespace Go.Proofs.YteoednifdpdbnaaGreat
set_option linter.unusedVariables false
set_option linter.unusedSimpArgs false
open Go.RowKit
set_option maxHeartbeats 4000000
set_option maxRecDepth 100000
open Go.RowKit Go.Shelf
theorem enJoin:Ent Tryz.prog 250:=⟨enters_of Tryz.func250 (by kernel_rfl) rfl⟩
theorem qhl:∀ ps:List Bytes,Lib.join ps []=ps.flatten
 | []=>rfl
 | [a]=>by simp [Lib.join]
 | a :: b :: ps=>by
  have:=qhl (b :: ps)
  simp [Lib.join] at this ⊢
  exact this
theorem qs5 (ps:List Bytes) (p0:Bytes) (h0:ps[0]? = some p0) (hN:ps.length≤100000) (hl:ps.flatten.length≤1000000) (g o c:Nat) (hc:ps.length≤c) (w:World) (hcells:∀ (j:Nat) p,ps[j]? = some p→w.cell? ⟨g,o+j,none⟩=some (.string (bs p))) :
  Calls Tryz.prog 250 #[.slice (some ⟨g,o,none⟩) ps.length c,.string ⟨#[]⟩] w fun e w'=>e=.returned (.string (bs ps.flatten))∧Below w.heap.size w w':=by
 have e1:(ps.map bs).map (·.data.toList)=ps:=by
  rw [List.map_map];conv=>rhs;rw [← List.map_id ps]
  exact List.map_congr_left fun a _=>by simp [bs]
 have h:=qnr g o c (ps.map bs) (bs []) w (fun j x hj=>by
  rw [List.getElem?_map,Option.map_eq_some_iff] at hj
  obtain ⟨y,hy,rfl⟩:=hj
  exact hcells j y hy) (qaz (hcells 0 p0 h0)) (by rw [List.length_map];omega) (by rw [List.length_map];exact hc) (by
   rw [e1,show (bs []).data.toList = [] from rfl,qhl];omega)
 rw [e1,List.length_map,show (bs []).data.toList = [] from rfl,qhl] at h
 exact h
theorem qtu (key:Bytes) (hk:key.length≤64) (ps:List Bytes) (p0:Bytes) (h0:ps[0]? = some p0) (hN:ps.length≤100000) (hl:ps.flatten.length≤900000) (g o c:Nat) (hc:ps.length≤c) (w:World) (hcells:∀ (j:Nat) p,ps[j]? = some p→w.cell? ⟨g,o+j,none⟩=some (.string (bs p))) :
  Calls Tryz.prog 208 #[.string (bs key),.slice (some ⟨g,o,none⟩) ps.length c] w fun e w'=>e=.returned (.string (bs (macS key ps.flatten)))∧Below w.heap.size w w':=by
 have hg:g < w.heap.size:=qaz (hcells 0 p0 h0)
 have hj:∀ W:World,Below w.heap.size w W→Calls Tryz.prog 250 #[.slice (some ⟨g,o,none⟩) ps.length c,.string ⟨#[]⟩] W fun e w'=>e=.returned (.string (bs ps.flatten))∧Below W.heap.size W w':=fun W hb =>
  qs5 ps p0 h0 hN (by omega) g o c hc W fun j p hp=>(hb.cell (p:=⟨g,o+j,none⟩) hg).trans (hcells j p hp)
 have c_1:=fun (W:World) (hb:Below w.heap.size w W)=>qny (keyS key 54 ++ ps.flatten) (by rw [List.length_append,qfs];omega) W
 have c_2:=fun (W:World) (hb:Below w.heap.size w W)=>qny (keyS key 92 ++ sumS (keyS key 54 ++ ps.flatten)) (by rw [List.length_append,qfs,qjj];omega) W
 have hmac:macS key ps.flatten=sumS (keyS key 92 ++ sumS (keyS key 54 ++ ps.flatten)):=by unfold macS;rw [if_neg (by omega)]
 rw [hmac]
 have c_5:∀ (g2:Nat) (W:World),Mem w W [(g2,#[.string (bs key)],9)]→Calls Tryz.prog 249 #[.int .u8 54,.pointer (some ⟨g2,0,none⟩)] W fun e w'=>e=.returned (.string (bs (keyS key 54)))∧Mem w w' [(g2,#[.string (bs key)],9)] :=
  fun g2 W hM=>Calls.mono (qnm key hk 54 g2 W (rc (hM.at_ at0) 0 rfl)) fun e w' h=>⟨h.1,hM.call h.2⟩
 have c_9:∀ (g2:Nat) (W:World),Mem w W [(g2,#[.string (bs key)],9)]→Calls Tryz.prog 249 #[.int .u8 92,.pointer (some ⟨g2,0,none⟩)] W fun e w'=>e=.returned (.string (bs (keyS key 92)))∧Mem w w' [(g2,#[.string (bs key)],9)] :=
  fun g2 W hM=>Calls.mono (qnm key hk 92 g2 W (rc (hM.at_ at0) 0 rfl)) fun e w' h=>⟨h.1,hM.call h.2⟩
 have hl5:=qfs key 54
 have hl9:=qfs key 92
 have hlS:=qjj (keyS key 54 ++ ps.flatten)
 obtain ⟨A,hA⟩:∃ A,keyS key 54=A:=⟨_,rfl⟩
 obtain ⟨B,hB⟩:∃ B,keyS key 92=B:=⟨_,rfl⟩
 obtain ⟨F,hF⟩:∃ F,ps.flatten=F:=⟨_,rfl⟩
 rw [hF] at hl hlS
 simp only [hA,hB,hF] at hj c_1 c_2 c_5 c_9 hlS hl5 hl9 ⊢
 obtain ⟨S1,hS1⟩:∃ S,sumS (A ++ F)=S:=⟨_,rfl⟩
 simp only [hS1] at c_1 c_2 hlS ⊢
 obtain ⟨S2,hS2⟩:∃ S,sumS (B ++ S1)=S:=⟨_,rfl⟩
 simp only [hS2] at c_2 ⊢
 have hkI:(key.length:Int)≤64:=by omega
 clear hmac hA hB hF hS1 hS2 hcells hc h0
 go_enter Tryz.func208,Tryz.ntmps208
 go_upto_region 4 with fail
 have hM:Mem w (w.alloc (.cells #[.string (bs key)] 9)) [(w.heap.size,#[.string (bs key)],9)]:=(Mem.nil w).alloc _ _
 generalize w.alloc (.cells #[.string (bs key)] 9)=W at hM ⊢
 generalize w.heap.size=g2 at hM ⊢
 go_wp2_with (first
  | (refine qdb rfl rfl rfl enMac1 (al:=[.int .u8 92]) (cap:=[.pointer (some ⟨g2,0,none⟩)]) (c_9 g2 _ hM) rfl ?_;clear hM;intro w' hM)
  | (refine qdb rfl rfl rfl enMac1 (al:=[.int .u8 54]) (cap:=[.pointer (some ⟨g2,0,none⟩)]) (c_5 g2 _ hM) rfl ?_;clear hM;intro w' hM)
  | (refine qak 17 rfl hM rfl rfl enJoin (al:=[.slice (some ⟨g,o,none⟩) ps.length c,.string ⟨#[]⟩]) (hj _ hM.below) rfl ?_;clear hM;intro w' hM)
  | (refine qak 19 rfl hM rfl rfl enSumS (al:=[.string (bs (A ++ F))]) (c_1 _ hM.below) rfl ?_;clear hM;intro w' hM)
  | (refine qak 21 rfl hM rfl rfl enSumS (al:=[.string (bs (B ++ S1))]) (c_2 _ hM.below) rfl ?_;clear hM;intro w' hM))
 go_ret
 exact ⟨rfl,hM.below⟩
end Go.Proofs.YteoednifdpdbnaaGreat
