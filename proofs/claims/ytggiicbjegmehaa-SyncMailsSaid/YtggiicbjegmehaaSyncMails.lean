/- ecclesialaw25.SyncMails: for every kind, every row of texts and every text the law returns true, and its arguments read behind the call as they read before. No condition. -/
import Derived.Test.YtggiicbjegmehaaMailF
import Derived.Test.YtggiicbjegmehaaLaw
import Derived.Test.YtggiicbjegmehaaRows
namespace Go.Proofs.Ytggiicbjegmehaa
set_option linter.unusedVariables false
set_option linter.unusedSimpArgs false
open Go.ChangeShapes Go.WideShapes Go.ChangeAt Go.RowKit
open Go.ChangeMaps (open_string shut_string)

theorem strs_of {H : Type} : ∀ (es : List D) (xs : List (DataW H)), All2 IsStr es xs → ∃ ps : List Bytes, es = strsD ps ∧ (∀ p ∈ ps, p.length ≤ maxLen) ∧ xs = ps.map fun p => .lit (.string p)
  | _, _, .nil => ⟨[], rfl, by simp, rfl⟩
  | _, _, .cons ⟨s, h1, h2, h3⟩ h => by
    obtain ⟨ps, rfl, hp, rfl⟩ := strs_of _ _ h
    subst h1; subst h2
    exact ⟨s :: ps, rfl, by simpa using ⟨h3, hp⟩, rfl⟩

set_option maxRecDepth 100000 in
theorem syncMails_walk {H : Type} {enc : TypeId × Value → H} {W : World} {base : Nat} {args : Array Value} {ds : List (DataW H)} {p : List MemPlace}
    (hval : ∀ (j : Nat) t v, #[22, 23, 9][j]? = some t → args[j]? = some v → Value.okWide Try.prog W .any base t v)
    (hA : DataW.TrodAll enc Try.prog W 0 (fun _ => true) true [22, 23, 9] args.toList ds p) :
    Calls Try.prog 3 args W fun e W' => e = .returned (.bool true) ∧ Below W.heap.size W W' := by
  obtain ⟨v0, v1, v2, d0, d1, d2, p0, p1, p2, rfl, rfl, rfl, h0, h1, h2⟩ := trodAll_three hA
  obtain ⟨n, rfl, _, _, hw⟩ := open_int Try.underlying22 (hval 0 22 v0 rfl rfl) h0
  obtain ⟨A, m, c, rfl⟩ := okWide_slice Try.underlying23 (hval 1 23 v1 rfl rfl)
  obtain ⟨s, rfl, _, _, hsl⟩ := open_string Try.underlying9 (hval 2 9 v2 rfl rfl) h2
  obtain ⟨_, h1⟩ := h1
  obtain ⟨_, d, hr, es, rfl, hq⟩ := reads_slice Try.underlying23 (by kernel_rfl) (reads_str Try.underlying9) _ _ _ h1
  obtain ⟨ps, rfl, hp⟩ : ∃ ps : List Bytes, es = strsD ps ∧ ∀ p ∈ ps, p.length ≤ maxLen := by
    rcases hq with ⟨rfl, _⟩ | ⟨xs, sp, _, h⟩
    · exact ⟨[], rfl, by simp⟩
    · obtain ⟨ps, h, h', _⟩ := strs_of _ _ h
      exact ⟨ps, h, h'⟩
  have hm := Rep.slice_len hr
  have hm := hm.1
  simp only [strsD, List.length_map] at hm
  subst hm
  have hn0 : 0 ≤ n ∧ n ≤ 18446744073709551615 := by simpa [Lit.wf, IntKind.min, IntKind.max, IntKind.signed, IntKind.bits] using hw
  have hnn : n = (n.toNat : Int) := by omega
  rw [hnn, ← bs_data s]
  refine syncMails_any n.toNat (by omega) ps A c _ W hr ?_ ?_
  · simp only [maxLen] at hsl; simpa using hsl
  · intro p h; have := hp p h; simp only [maxLen] at this; omega

set_option maxRecDepth 100000 in
theorem syncMails_lifted (os : Os) (started : os.Started) (H : Type) (enc : TypeId × Value → H) :
    ReturnsInHanded {} Try.checked os 3 .any (Rows.syncMailsSpec.pre6 enc Try.prog Try.f3 Rows.syncMailsRow.domain false) (Rows.syncMailsSpec.post enc Try.prog Try.f3 false true false false) := by
  refine returnsInHanded_of_change (C := Try.checked) lawOwn started (by kernel_rfl) Try.func3
    (ChangeSpec.witness6 (enc := enc) (C := Try.checked) false ⟨#[], #[.int .u64 0, .slice none 0 0, .string ⟨#[]⟩], []⟩ 8 (by kernel_rfl) (by kernel_rfl) (by kernel_rfl) (by kernel_rfl)) ?_
  intro W base args ds gs before hval hW _ _
  refine law_contract (tb := 4) lawLaid (by kernel_rfl) (by kernel_rfl) Try.underlying4 rfl ?_ hW ?_
  · intro ds h
    match ds, h with
    | [d1, d2, d3], _ => rfl
  · intro p hA
    exact syncMails_walk hval hA

theorem syncMails_holds : Rows.SyncMailsSaid :=
  OpenClaim.holds_of_wide 3 Try.f3 rfl rfl rfl rfl rfl rfl rfl ⟨rfl, rfl, rfl, rfl, rfl⟩ rfl rfl rfl rfl rfl (by kernel_rfl) Try.func3 (by kernel_rfl)
    (of_decide_eq_true (by kernel_rfl)) (by unfold Func.isWrapper; rw [if_neg (of_decide_eq_false (by kernel_rfl))]; exact ⟨rfl, rfl⟩)
    (fun os started H enc _ => syncMails_lifted os started H enc)

#print axioms syncMails_holds
end Go.Proofs.Ytggiicbjegmehaa
