/- The walks of msg.Right, the reference's Well and Right. -/
import Derived.Test.YteoednifdpdbnaaGreatZ48
import Derived.Test.YteoednifdpdbnaaGreatZ47
import Derived.Test.YteoednifdpdbnaaGreatZ05
namespace Go.Proofs.YteoednifdpdbnaaGreat
set_option linter.unusedVariables false
set_option linter.unusedSimpArgs false
open Go.RowKit
set_option maxHeartbeats 4000000
set_option maxRecDepth 100000
theorem pa_sg (n:Nt):PartAt (ntC n) 5 9 (sgCn n.sg):=⟨rfl,rfl⟩
theorem qgd (n:Nt) (h:n.Wf) (h63:n.id.length≤9223372036854775807) (w:World):Calls Tryz.prog 61 #[.agg (ntC n)] w fun e w'=>e=.returned (.bool (okNt n))∧Below w.heap.size w w':=by
 have c_w:=fun W:World=>qlv n h63 W
 have c_s:∀ W:World,Calls Tryz.prog 70 #[.agg (sgCn n.sg)] W fun e w'=>e=.returned (.bool (okSg n.sg))∧Below W.heap.size W w':=fun W=>qhd n.sg h.sg W
 have hM:=Mem.nil w
 have hz:okNt n=(wellN n.kd n.rd n.id n.pr && okSg n.sg):=rfl
 obtain ⟨y,hy⟩:∃ y,okSg n.sg=y:=⟨_,rfl⟩
 obtain ⟨x,hx⟩:∃ x,wellN n.kd n.rd n.id n.pr=x:=⟨_,rfl⟩
 rw [hx] at c_w
 rw [hy] at c_s
 rw [hx,hy] at hz
 rw [hz]
 clear hz hx hy h h63
 have pa:PartAt (ntC n) 5 9 (sgCn n.sg):=pa_sg n
 cases x
 all_goals
  go_enter Tryz.func61,Tryz.ntmps61
  go_wp2_with (first
   | (refine qam 1 rfl hM rfl rfl rfl (boxNt n _) ?_;clear hM;intro w' g1 hM)
   | (refine qai hM rfl rfl tyNt rfl (by exact hat) rfl ?_)
   | (refine qak 4 rfl hM rfl rfl enWell (al:=[.agg (ntC n)]) (c_w _) rfl ?_;clear hM;intro w' hM)
   | (refine qav hM rfl rfl tySgn rfl (by exact hat) pa ?_)
   | (refine qak 8 rfl hM rfl rfl enSealed (al:=[.agg (sgCn n.sg)]) (c_s _) rfl ?_;clear hM;intro w' hM))
  go_ret
  exact ⟨rfl,hM.below⟩
end Go.Proofs.YteoednifdpdbnaaGreat
