/- The arguments of the laws of layer 25 (a number, a row of texts, a text), opened. -/
import Derived.Test.YtggiicbjegmehaaMailF
import Derived.Test.YtggiicbjegmehaaLaw
namespace Go.Proofs.Ytggiicbjegmehaa
set_option linter.unusedVariables false
set_option linter.unusedSimpArgs false
open Go.ChangeShapes Go.WideShapes Go.ChangeAt Go.RowKit
open Go.ChangeMaps (open_string shut_string)

theorem strs_of {H : Type} : ∀ (es : List D) (xs : List (DataW H)), All2 IsStr es xs → ∃ ps : List Bytes, es = strsD ps ∧ (∀ p ∈ ps, p.length ≤ maxLen) ∧ xs = ps.map fun p => .lit (.string p)
  | _, _, .nil => ⟨[], rfl, by simp, rfl⟩
  | _, _, .cons ⟨s, h1, h2, h3⟩ h => by
    obtain ⟨ps, rfl, hp, rfl⟩ := strs_of _ _ h
    subst h1; subst h2
    exact ⟨s :: ps, rfl, by simpa using ⟨h3, hp⟩, rfl⟩

set_option maxRecDepth 100000 in
theorem sync_args {H : Type} {enc : TypeId × Value → H} {W : World} {base : Nat} {args : Array Value} {ds : List (DataW H)} {p : List MemPlace}
    (hval : ∀ (j : Nat) t v, #[22, 23, 9][j]? = some t → args[j]? = some v → Value.okWide Try.prog W .any base t v)
    (hA : DataW.TrodAll enc Try.prog W 0 (fun _ => true) true [22, 23, 9] args.toList ds p) :
    ∃ (k : Nat) (ps : List Bytes) (A : Option Addr) (c : Nat) (s : Bytes) (d0 d1 d2 : DataW H), args = #[.int .u64 k, .slice A ps.length c, .string (bs s)] ∧ k < 18446744073709551616 ∧ StrV Any W ps A c ∧ s.length ≤ 9223372036854775807 ∧
      (∀ p ∈ ps, p.length ≤ 9223372036854775807) ∧ ds = [d0, d1, d2] ∧ ((ps = [] ∧ d1 = .nil) ∨ ∃ sp, d1 = .slice (ps.map fun p => .lit (.string p)) sp) := by
  obtain ⟨v0, v1, v2, d0, d1, d2, p0, p1, p2, rfl, rfl, rfl, h0, h1, h2⟩ := trodAll_three hA
  obtain ⟨n, rfl, _, _, hw⟩ := open_int Try.underlying22 (hval 0 22 v0 rfl rfl) h0
  obtain ⟨A, m, c, rfl⟩ := okWide_slice Try.underlying23 (hval 1 23 v1 rfl rfl)
  obtain ⟨s, rfl, _, _, hsl⟩ := open_string Try.underlying9 (hval 2 9 v2 rfl rfl) h2
  obtain ⟨_, h1⟩ := h1
  obtain ⟨_, d, hr, es, rfl, hq⟩ := reads_slice Try.underlying23 (by kernel_rfl) (reads_str Try.underlying9) _ _ _ h1
  obtain ⟨ps, rfl, hp, hd⟩ : ∃ ps : List Bytes, es = strsD ps ∧ (∀ p ∈ ps, p.length ≤ maxLen) ∧ ((ps = [] ∧ d1 = .nil) ∨ ∃ sp, d1 = .slice (ps.map fun p => .lit (.string p)) sp) := by
    rcases hq with ⟨rfl, h⟩ | ⟨xs, sp, h0, h⟩
    · exact ⟨[], rfl, by simp, .inl ⟨rfl, h⟩⟩
    · obtain ⟨ps, he, hp', rfl⟩ := strs_of _ _ h
      exact ⟨ps, he, hp', .inr ⟨sp, h0⟩⟩
  have hm := Rep.slice_len hr
  have hm := hm.1
  simp only [strsD, List.length_map] at hm
  subst hm
  have hn0 : 0 ≤ n ∧ n ≤ 18446744073709551615 := by simpa [Lit.wf, IntKind.min, IntKind.max, IntKind.signed, IntKind.bits] using hw
  have hnn : n = (n.toNat : Int) := by omega
  refine ⟨n.toNat, ps, A, c, s.data.toList, d0, d1, d2, by rw [← hnn, bs_data], by omega, hr, ?_, ?_, rfl, hd⟩
  · simp only [maxLen] at hsl; simpa using hsl
  · intro p h; have := hp p h; simp only [maxLen] at this; omega

end Go.Proofs.Ytggiicbjegmehaa
