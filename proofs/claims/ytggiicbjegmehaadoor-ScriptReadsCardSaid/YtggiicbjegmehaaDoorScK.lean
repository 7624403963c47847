/- script.line at every deed that may be. -/
import Derived.Test.YtggiicbjegmehaaDoorScI
import Derived.Test.YtggiicbjegmehaaDoorScJ
namespace Go.Proofs.YtggiicbjegmehaaDoor
set_option linter.unusedVariables false
set_option linter.unusedSimpArgs false
open Go.RowKit

theorem okD_ranges {d : Dd} (h : okD d = true) : 1 ≤ d.k ∧ d.k ≤ 9 ∧ 0 ≤ d.a ∧ d.a ≤ 100000 ∧ 0 ≤ d.t ∧ d.t ≤ 6 ∧ 0 ≤ d.m ∧ d.m ≤ 100000 ∧ d.b.length ≤ 1000 := by
  unfold okD at h
  rw [Bool.and_eq_true, decide_eq_true_eq, decide_eq_true_eq] at h
  exact h.1
theorem word_at {k : Int} (h1 : 1 ≤ k) (h2 : k ≤ 9) : wordsC[(k - 1).toNat]? = some (.string (bs (wordP k))) ∧ (wordP k).length ≤ 20 := by
  have : k = 1 ∨ k = 2 ∨ k = 3 ∨ k = 4 ∨ k = 5 ∨ k = 6 ∨ k = 7 ∨ k = 8 ∨ k = 9 := by omega
  rcases this with rfl | rfl | rfl | rfl | rfl | rfl | rfl | rfl | rfl <;> exact ⟨rfl, by decide⟩
theorem line_any (d : Dd) (hw : WfD d) (hok : okD d = true) (w : World) (he : Env w) :
    Calls Tryd.prog 24 #[.agg (ddC d).toArray] w fun e w' => e = .returned (.string (bs (lineP d))) ∧ Below w.heap.size w w' := by
  obtain ⟨h1, h2, h3, h4, h5, h6, h7, h8, h9⟩ := okD_ranges hok
  have hn := hw.n
  have hc := hw.c
  obtain ⟨k, a, m, t, n, c, ad, b⟩ := d
  simp only [] at h1 h2 h3 h4 h5 h6 h7 h8 h9 hn hc
  obtain ⟨hwd, hwl⟩ := word_at h1 h2
  have hkm : IntKind.i64.wrap (k - 1) = (((k - 1).toNat : Nat) : Int) := by rw [IntWalk.i64_in _ (by omega)]; omega
  rw [ddC_arr]
  by_cases k5 : k = 5
  · have e : lineP ⟨k, a, m, t, n, c, ad, b⟩ = Lib.join [wordP k, decI a, decI m] [32] := by simp [lineP, fieldsD, k5]
    rw [e]
    exact line_5 k a m t n c ad b (beq_iff_eq.2 k5) _ hkm _ hwd hwl (by omega) (by omega) (by omega) hn hc h9 w he
  by_cases k7 : k = 7
  · have e : lineP ⟨k, a, m, t, n, c, ad, b⟩ = Lib.join [wordP k, decI a, decI t, decI m, decI n, decI c] [32] := by simp [lineP, fieldsD, k7]
    rw [e]
    exact line_7 k a m t n c ad b (beq_eq_false_iff_ne.2 k5) (beq_iff_eq.2 k7) _ hkm _ hwd hwl (by omega) (by omega) (by omega) hn hc h9 w he
  by_cases k8 : k = 8
  · cases ad with
    | true =>
      have e : lineP ⟨k, a, m, t, n, c, true, b⟩ = Lib.join [wordP k, decI a, decI t, [105, 110]] [32] := by simp [lineP, fieldsD, k8]
      rw [e]
      exact line_8t k a m t n c true b (beq_eq_false_iff_ne.2 k5) (beq_eq_false_iff_ne.2 k7) (beq_iff_eq.2 k8) _ hkm _ hwd hwl (by omega) (by omega) (by omega) hn hc h9 w he
    | false =>
      have e : lineP ⟨k, a, m, t, n, c, false, b⟩ = Lib.join [wordP k, decI a, decI t, [111, 117, 116]] [32] := by simp [lineP, fieldsD, k8]
      rw [e]
      exact line_8f k a m t n c false b (beq_eq_false_iff_ne.2 k5) (beq_eq_false_iff_ne.2 k7) (beq_iff_eq.2 k8) _ hkm _ hwd hwl (by omega) (by omega) (by omega) hn hc h9 w he
  by_cases k9 : k = 9
  · have e : lineP ⟨k, a, m, t, n, c, ad, b⟩ = Lib.join [wordP k, decI a, bytesP b] [32] := by simp [lineP, fieldsD, k9]
    rw [e]
    exact line_9 k a m t n c ad b (beq_eq_false_iff_ne.2 k5) (beq_eq_false_iff_ne.2 k7) (beq_eq_false_iff_ne.2 k8) (beq_iff_eq.2 k9) _ hkm _ hwd hwl (by omega) (by omega) (by omega) hn hc h9 w he
  have e : lineP ⟨k, a, m, t, n, c, ad, b⟩ = Lib.join [wordP k, decI a] [32] := by simp [lineP, fieldsD, k5, k7, k8, k9]
  rw [e]
  exact line_other k a m t n c ad b (beq_eq_false_iff_ne.2 k5) (beq_eq_false_iff_ne.2 k7) (beq_eq_false_iff_ne.2 k8) (beq_eq_false_iff_ne.2 k9) _ hkm _ hwd hwl (by omega) (by omega) (by omega) hn hc h9 w he

theorem lineP_len {d : Dd} (hw : WfD d) (hok : okD d = true) : (lineP d).length ≤ 20000 := by
  obtain ⟨h1, h2, h3, h4, h5, h6, h7, h8, h9⟩ := okD_ranges hok
  have hn := hw.n
  have hc := hw.c
  have a1 := decI_len (n := d.a) (by omega)
  have a2 := decI_len (n := d.m) (by omega)
  have a3 := decI_len (n := d.t) (by omega)
  have a4 := decI_len (n := d.n) (by omega)
  have a5 := decI_len (n := d.c) (by omega)
  have a6 := bytesP_len d.b
  have a7 := (word_at h1 h2).2
  have hf : ∀ q ∈ fieldsD d, q.length ≤ 3000 := fun q hq => by
    unfold fieldsD at hq
    split at hq
    · simp at hq; subst hq; omega
    split at hq
    · simp at hq; rcases hq with rfl | rfl | rfl | rfl <;> omega
    split at hq
    · simp at hq
      rcases hq with rfl | rfl
      · omega
      · split <;> simp
    split at hq
    · simp at hq; subst hq; omega
    · cases hq
  have hfl : (fieldsD d).length ≤ 4 := by unfold fieldsD; split <;> (try split) <;> (try split) <;> (try split) <;> simp
  have := join_len [32] 3000 (wordP d.k) (decI d.a :: fieldsD d) (fun q hq => by
    rcases List.mem_cons.1 hq with rfl | hq
    · omega
    rcases List.mem_cons.1 hq with rfl | hq
    · omega
    · exact hf q hq)
  unfold lineP
  have e : (decI d.a :: fieldsD d).length * ([32].length + 3000) ≤ 5 * 3001 := by
    rw [List.length_cons]
    exact Nat.mul_le_mul (by omega) (by simp)
  omega
end Go.Proofs.YtggiicbjegmehaaDoor
