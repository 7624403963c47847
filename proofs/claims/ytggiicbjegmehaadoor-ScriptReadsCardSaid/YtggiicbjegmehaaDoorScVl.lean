/- The document's Line at every deed that may be. -/
import Derived.Test.YtggiicbjegmehaaDoorScVc
import Derived.Test.YtggiicbjegmehaaDoorScVk
import Derived.Test.YtggiicbjegmehaaDoorScVj
namespace Go.Proofs.YtggiicbjegmehaaDoor
set_option linter.unusedVariables false
set_option linter.unusedSimpArgs false
open Go.RowKit

theorem rword_at {k : Int} (h1 : 1 ≤ k) (h2 : k ≤ 9) : kindsC[k.toNat]? = some (.string (bs (wordP k))) ∧ (wordP k).length ≤ 20 := by
  have : k = 1 ∨ k = 2 ∨ k = 3 ∨ k = 4 ∨ k = 5 ∨ k = 6 ∨ k = 7 ∨ k = 8 ∨ k = 9 := by omega
  rcases this with rfl | rfl | rfl | rfl | rfl | rfl | rfl | rfl | rfl <;> exact ⟨rfl, by decide⟩
theorem rline_any (d : Dd) (hw : WfD d) (hok : okD d = true) (w : World) (he : Env w) :
    Calls Tryd.prog 32 #[.agg (ddC d).toArray] w fun e w' => e = .returned (.string (bs (lineP d))) ∧ Below w.heap.size w w' := by
  obtain ⟨h1, h2, h3, h4, h5, h6, h7, h8, h9⟩ := okD_ranges hok
  have hn := hw.n
  have hc := hw.c
  obtain ⟨k, a, m, t, n, c, ad, b⟩ := d
  simp only [] at h1 h2 h3 h4 h5 h6 h7 h8 h9 hn hc
  obtain ⟨hwd, hwl⟩ := rword_at h1 h2
  obtain ⟨km, rfl⟩ : ∃ km : Nat, k = (km : Int) := ⟨k.toNat, by omega⟩
  rw [Int.toNat_natCast] at hwd
  have hkm : km < 10 := by omega
  rw [ddC_arr]
  obtain ⟨wd, hwe⟩ : ∃ wd, wordP (km : Int) = wd := ⟨_, rfl⟩
  rw [hwe] at hwd hwl
  have f5 : ((km : Int) = 5) → ((km : Int) == 5) = true := fun h => beq_iff_eq.2 h
  by_cases k5 : (km : Int) = 5
  · have e : lineP ⟨(km : Int), a, m, t, n, c, ad, b⟩ = wd ++ 32 :: decI a ++ 32 :: decI m := by simp only [lineP, fieldsD, if_pos k5, hwe, join_two, Lib.join_one]; simp
    rw [e]
    exact rline_5 km a m t n c ad b (beq_iff_eq.2 k5) hkm _ hwd hwl (by omega) (by omega) (by omega) hn hc h9 w he
  by_cases k7 : (km : Int) = 7
  · have e : lineP ⟨(km : Int), a, m, t, n, c, ad, b⟩ = wd ++ 32 :: decI a ++ 32 :: decI t ++ 32 :: decI m ++ 32 :: decI n ++ 32 :: decI c := by simp only [lineP, fieldsD, if_neg k5, if_pos k7, hwe, join_two, Lib.join_one]; simp
    rw [e]
    exact rline_7 km a m t n c ad b (beq_eq_false_iff_ne.2 k5) (beq_iff_eq.2 k7) hkm _ hwd hwl (by omega) (by omega) (by omega) hn hc h9 w he
  by_cases k8 : (km : Int) = 8
  · cases ad with
    | true =>
      have e : lineP ⟨(km : Int), a, m, t, n, c, true, b⟩ = wd ++ 32 :: decI a ++ 32 :: decI t ++ [32, 105, 110] := by simp only [lineP, fieldsD, if_neg k5, if_neg k7, if_pos k8, hwe, join_two, Lib.join_one]; simp
      rw [e]
      exact rline_8t km a m t n c true b (beq_eq_false_iff_ne.2 k5) (beq_eq_false_iff_ne.2 k7) (beq_iff_eq.2 k8) rfl hkm _ hwd hwl (by omega) (by omega) (by omega) hn hc h9 w he
    | false =>
      have e : lineP ⟨(km : Int), a, m, t, n, c, false, b⟩ = wd ++ 32 :: decI a ++ 32 :: decI t ++ [32, 111, 117, 116] := by simp only [lineP, fieldsD, if_neg k5, if_neg k7, if_pos k8, hwe, join_two, Lib.join_one]; simp
      rw [e]
      exact rline_8f km a m t n c false b (beq_eq_false_iff_ne.2 k5) (beq_eq_false_iff_ne.2 k7) (beq_iff_eq.2 k8) rfl hkm _ hwd hwl (by omega) (by omega) (by omega) hn hc h9 w he
  by_cases k9 : (km : Int) = 9
  · have e : lineP ⟨(km : Int), a, m, t, n, c, ad, b⟩ = wd ++ 32 :: decI a ++ [32] ++ bytesP b := by simp only [lineP, fieldsD, if_neg k5, if_neg k7, if_neg k8, if_pos k9, hwe, join_two, Lib.join_one]; simp
    rw [e]
    exact rline_9 km a m t n c ad b (beq_eq_false_iff_ne.2 k5) (beq_eq_false_iff_ne.2 k7) (beq_eq_false_iff_ne.2 k8) (beq_iff_eq.2 k9) hkm _ hwd hwl (by omega) (by omega) (by omega) hn hc h9 w he
  have e : lineP ⟨(km : Int), a, m, t, n, c, ad, b⟩ = wd ++ 32 :: decI a := by simp only [lineP, fieldsD, if_neg k5, if_neg k7, if_neg k8, if_neg k9, hwe, join_two, Lib.join_one]; simp
  rw [e]
  exact rline_other km a m t n c ad b (beq_eq_false_iff_ne.2 k5) (beq_eq_false_iff_ne.2 k7) (beq_eq_false_iff_ne.2 k8) (beq_eq_false_iff_ne.2 k9) hkm _ hwd hwl (by omega) (by omega) (by omega) hn hc h9 w he
end Go.Proofs.YtggiicbjegmehaaDoor
