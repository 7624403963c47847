/- script.deed at every line. -/
import Derived.Test.YtggiicbjegmehaaDoorScR
import Derived.Test.YtggiicbjegmehaaDoorScRb
import Derived.Test.YtggiicbjegmehaaDoorScRc
import Derived.Test.YtggiicbjegmehaaDoorScRd
import Derived.Test.YtggiicbjegmehaaDoorScRe
namespace Go.Proofs.YtggiicbjegmehaaDoor
set_option linter.unusedVariables false
set_option linter.unusedSimpArgs false
open Go.RowKit

theorem deed_any (s : Bytes) (hs : s.length ≤ 50000000) (w : World) (he : Env w) :
    Calls Tryd.prog 22 #[.string (bs s)] w fun e w' => e = .returned (.agg (ddC (deedP s)).toArray) ∧ Below w.heap.size w w' := by
  unfold deedP
  simp only []
  by_cases k5 : kindP ((splitP s).getD 0 []) = 5
  · rw [if_pos k5]
    exact deed_5 s hs _ _ _ _ _ _ _ _ _ rfl rfl (beq_iff_eq.2 k5) rfl rfl rfl rfl rfl rfl rfl w he
  rw [if_neg k5]
  by_cases k7 : kindP ((splitP s).getD 0 []) = 7
  · rw [if_pos k7]
    exact deed_7 s hs _ _ _ _ _ _ _ _ _ rfl rfl (beq_eq_false_iff_ne.2 k5) (beq_iff_eq.2 k7) rfl rfl rfl rfl rfl rfl rfl w he
  rw [if_neg k7]
  by_cases k8 : kindP ((splitP s).getD 0 []) = 8
  · rw [if_pos k8]
    exact deed_8 s hs _ _ _ _ _ _ _ _ _ rfl rfl (beq_eq_false_iff_ne.2 k5) (beq_eq_false_iff_ne.2 k7) (beq_iff_eq.2 k8) rfl rfl rfl rfl rfl rfl rfl w he
  rw [if_neg k8]
  by_cases k9 : kindP ((splitP s).getD 0 []) = 9
  · rw [if_pos k9]
    exact deed_9 s hs _ _ _ _ _ _ _ _ _ rfl rfl (beq_eq_false_iff_ne.2 k5) (beq_eq_false_iff_ne.2 k7) (beq_eq_false_iff_ne.2 k8) (beq_iff_eq.2 k9) rfl rfl rfl rfl rfl rfl rfl w he
  rw [if_neg k9]
  exact deed_other s hs _ _ _ _ _ _ _ _ _ rfl rfl (beq_eq_false_iff_ne.2 k5) (beq_eq_false_iff_ne.2 k7) (beq_eq_false_iff_ne.2 k8) (beq_eq_false_iff_ne.2 k9) rfl rfl rfl rfl rfl rfl rfl w he
end Go.Proofs.YtggiicbjegmehaaDoor
