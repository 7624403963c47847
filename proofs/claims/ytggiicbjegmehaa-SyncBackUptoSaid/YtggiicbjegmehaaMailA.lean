/- Rows of texts; sync.right, ecclesiaref25.Right. -/
import Derived.Test.YtggiicbjegmehaaRlpL
namespace Go.Proofs.Ytggiicbjegmehaa
set_option linter.unusedVariables false
set_option linter.unusedSimpArgs false
open Go.RowKit

def strD (p : Bytes) : D := .v (.string (bs p))
def strsD (ps : List Bytes) : List D := ps.map strD
/-- a row of texts as it lies in memory -/
def StrV (S : Nat → Prop) (w : World) (ps : List Bytes) (A : Option Addr) (c : Nat) : Prop := Rep S w (.sl 1 (strsD ps)) [.slice A ps.length c]
section
variable {S S' : Nat → Prop} {w w' : World} {ps : List Bytes} {A : Option Addr} {c : Nat}
theorem StrV.keep (h : StrV S w ps A c) (hb : Below w.heap.size w w') : StrV S w' ps A c := Rep.keep h hb
theorem StrV.alloc (h : StrV S w ps A c) (o : Obj) : StrV S (w.alloc o) ps A c := Rep.alloc h o
theorem StrV.any (h : StrV S w ps A c) : StrV Any w ps A c := Rep.any h
theorem StrV.mono (h : StrV S w ps A c) (hb : ∀ b, b < w.heap.size → S b → S' b ∧ w'.heap[b]? = w.heap[b]?) : StrV S' w' ps A c := Rep.mono h hb
theorem StrV.nil : StrV S w [] none 0 := Rep.nil_slice 1
theorem StrV.len (h : StrV S w ps A c) : ps.length ≤ c ∧ c ≤ maxLen := h.slice_len.2
theorem StrV.at_ {i : Nat} {p : Bytes} (h : StrV S w ps A c) (hi : ps[i]? = some p) : ∃ g o, A = some ⟨g, o, none⟩ ∧ S g ∧ w.cell? ⟨g, o + i, none⟩ = some (.string (bs p)) := by
  obtain ⟨g, o, ci, hA, hs, hr, _, hc⟩ := h.slice_at (i := i) (d := strD p) (by omega) (by simp [strsD, hi])
  have := hr.v_form; subst this
  have h0 := hc 0 _ rfl
  exact ⟨g, o, hA, hs, by simpa using h0⟩
end

/-- are parts a kind's? -/
def rightP (k : Int) (ps : List Bytes) : Bool :=
  if k = 1 ∨ k = 2 then decide (ps.length = 1) else if k = 3 then decide (ps.length = 2 ∧ (ps.headD []).length = 20 ∧ ((ps.drop 1).headD []).length = 8)
  else if k = 4 then decide (ps.length ≤ 4) else false

theorem ret_bool {a b : Bool} (h : a = b) : Ending.returned (.bool a) = .returned (.bool b) := by rw [h]

set_option maxHeartbeats 2000000 in
theorem right_any (k : Int) (ps : List Bytes) (A : Option Addr) (c : Nat) (w : World) (hv : StrV Any w ps A c) :
    Calls Try.prog 18 #[.int .u64 k, .slice A ps.length c] w fun e w' => e = .returned (.bool (rightP k ps)) ∧ Below w.heap.size w w' := by
  by_cases k1 : k = 1
  · subst k1
    cases hl : ((ps.length : Int) == 1) with
    | true =>
      have hp : rightP 1 ps = true := by rw [beq_iff_eq] at hl; simp [rightP]; omega
      rw [hp]; clear hp hv
      go_enter Try.func18, Try.ntmps18
      go_wp2_with fail
      go_ret
      exact ⟨rfl, Below.refl _ _⟩
    | false =>
      have hp : rightP 1 ps = false := by rw [beq_eq_false_iff_ne] at hl; simp [rightP]; omega
      rw [hp]; clear hp hv
      go_enter Try.func18, Try.ntmps18
      go_wp2_with fail
      go_ret
      exact ⟨rfl, Below.refl _ _⟩
  by_cases k2 : k = 2
  · subst k2
    cases hl : ((ps.length : Int) == 1) with
    | true =>
      have hp : rightP 2 ps = true := by rw [beq_iff_eq] at hl; simp [rightP]; omega
      rw [hp]; clear hp hv
      go_enter Try.func18, Try.ntmps18
      go_wp2_with fail
      go_ret
      exact ⟨rfl, Below.refl _ _⟩
    | false =>
      have hp : rightP 2 ps = false := by rw [beq_eq_false_iff_ne] at hl; simp [rightP]; omega
      rw [hp]; clear hp hv
      go_enter Try.func18, Try.ntmps18
      go_wp2_with fail
      go_ret
      exact ⟨rfl, Below.refl _ _⟩
  by_cases k3 : k = 3
  · subst k3
    clear k1 k2
    by_cases h2 : ps.length = 2
    · obtain ⟨p, q, rfl⟩ : ∃ p q, ps = [p, q] := by
        match ps, h2 with
        | [p, q], _ => exact ⟨p, q, rfl⟩
      obtain ⟨g, o, rfl, _, c0⟩ := hv.at_ (i := 0) (p := p) rfl
      obtain ⟨g', o', hA, _, c1⟩ := hv.at_ (i := 1) (p := q) rfl
      obtain ⟨rfl, rfl⟩ : g' = g ∧ o' = o := by injection hA with hA; injection hA with h1 h2; exact ⟨h1.symm, h2.symm⟩
      rw [Nat.add_zero] at c0
      clear hA h2 hv
      show Calls _ _ #[_, .slice _ 2 _] _ _
      cases hp20 : ((p.length : Int) == 20) with
      | false =>
        have hp : rightP 3 [p, q] = false := by rw [beq_eq_false_iff_ne] at hp20; simp [rightP]; omega
        rw [hp]; clear hp
        go_enter Try.func18, Try.ntmps18
        go_wp2_with fail
        go_ret
        exact ⟨rfl, Below.refl _ _⟩
      | true =>
        cases hq8 : ((q.length : Int) == 8) with
        | true =>
          have hp : rightP 3 [p, q] = true := by rw [beq_iff_eq] at hq8 hp20; simp [rightP]; omega
          rw [hp]; clear hp
          go_enter Try.func18, Try.ntmps18
          go_wp2_with fail
          go_ret
          exact ⟨rfl, Below.refl _ _⟩
        | false =>
          have hp : rightP 3 [p, q] = false := by rw [beq_eq_false_iff_ne] at hq8; simp [rightP]; omega
          rw [hp]; clear hp
          go_enter Try.func18, Try.ntmps18
          go_wp2_with fail
          go_ret
          exact ⟨rfl, Below.refl _ _⟩
    · have hl : ((ps.length : Int) == 2) = false := by rw [beq_eq_false_iff_ne]; omega
      have hp : rightP 3 ps = false := by simp [rightP]; omega
      rw [hp]; clear hp hv h2
      go_enter Try.func18, Try.ntmps18
      go_wp2_with fail
      go_ret
      exact ⟨rfl, Below.refl _ _⟩
  by_cases k4 : k = 4
  · subst k4
    clear k1 k2 k3
    by_cases h4 : ps.length ≤ 4
    · have hp : rightP 4 ps = true := by simp [rightP]; omega
      have d1 : decide ((ps.length : Int) ≤ 4) = true := by rw [decide_eq_true_iff]; omega
      have d2 : decide (ps.length ≤ 4) = true := by rw [decide_eq_true_iff]; omega
      rw [hp]; clear hp hv h4
      go_enter Try.func18, Try.ntmps18
      go_wp2_with fail
      go_ret
      exact ⟨rfl, Below.refl _ _⟩
    · have hp : rightP 4 ps = false := by simp [rightP]; omega
      have d1 : decide ((ps.length : Int) ≤ 4) = false := by rw [decide_eq_false_iff_not]; omega
      have d2 : decide (ps.length ≤ 4) = false := by rw [decide_eq_false_iff_not]; omega
      rw [hp]; clear hp hv h4
      go_enter Try.func18, Try.ntmps18
      go_wp2_with fail
      go_ret
      exact ⟨rfl, Below.refl _ _⟩
  have hp : rightP k ps = false := by simp [rightP, k1, k2, k3, k4]
  have e1 : (k == 1) = false := by rw [beq_eq_false_iff_ne]; exact k1
  have e2 : (k == 2) = false := by rw [beq_eq_false_iff_ne]; exact k2
  have e3 : (k == 3) = false := by rw [beq_eq_false_iff_ne]; exact k3
  have e4 : (k == 4) = false := by rw [beq_eq_false_iff_ne]; exact k4
  rw [hp]; clear hp hv k1 k2 k3 k4
  go_enter Try.func18, Try.ntmps18
  go_wp2_with fail
  go_ret
  exact ⟨rfl, Below.refl _ _⟩


set_option maxHeartbeats 2000000 in
theorem Right_any (k : Int) (ps : List Bytes) (A : Option Addr) (c : Nat) (w : World) (hv : StrV Any w ps A c) :
    Calls Try.prog 22 #[.int .u64 k, .slice A ps.length c] w fun e w' => e = .returned (.bool (rightP k ps)) ∧ Below w.heap.size w w' := by
  by_cases k1 : k = 1
  · subst k1
    cases hl : ((ps.length : Int) == 1) with
    | true =>
      have hp : rightP 1 ps = true := by rw [beq_iff_eq] at hl; simp [rightP]; omega
      rw [hp]; clear hp hv
      go_enter Try.func22, Try.ntmps22
      go_wp2_with fail
      go_ret
      exact ⟨rfl, Below.refl _ _⟩
    | false =>
      have hp : rightP 1 ps = false := by rw [beq_eq_false_iff_ne] at hl; simp [rightP]; omega
      rw [hp]; clear hp hv
      go_enter Try.func22, Try.ntmps22
      go_wp2_with fail
      go_ret
      exact ⟨rfl, Below.refl _ _⟩
  by_cases k2 : k = 2
  · subst k2
    cases hl : ((ps.length : Int) == 1) with
    | true =>
      have hp : rightP 2 ps = true := by rw [beq_iff_eq] at hl; simp [rightP]; omega
      rw [hp]; clear hp hv
      go_enter Try.func22, Try.ntmps22
      go_wp2_with fail
      go_ret
      exact ⟨rfl, Below.refl _ _⟩
    | false =>
      have hp : rightP 2 ps = false := by rw [beq_eq_false_iff_ne] at hl; simp [rightP]; omega
      rw [hp]; clear hp hv
      go_enter Try.func22, Try.ntmps22
      go_wp2_with fail
      go_ret
      exact ⟨rfl, Below.refl _ _⟩
  by_cases k3 : k = 3
  · subst k3
    clear k1 k2
    by_cases h2 : ps.length = 2
    · obtain ⟨p, q, rfl⟩ : ∃ p q, ps = [p, q] := by
        match ps, h2 with
        | [p, q], _ => exact ⟨p, q, rfl⟩
      obtain ⟨g, o, rfl, _, c0⟩ := hv.at_ (i := 0) (p := p) rfl
      obtain ⟨g', o', hA, _, c1⟩ := hv.at_ (i := 1) (p := q) rfl
      obtain ⟨rfl, rfl⟩ : g' = g ∧ o' = o := by injection hA with hA; injection hA with h1 h2; exact ⟨h1.symm, h2.symm⟩
      rw [Nat.add_zero] at c0
      clear hA h2 hv
      show Calls _ _ #[_, .slice _ 2 _] _ _
      cases hp20 : ((p.length : Int) == 20) with
      | false =>
        have hp : rightP 3 [p, q] = false := by rw [beq_eq_false_iff_ne] at hp20; simp [rightP]; omega
        rw [hp]; clear hp
        go_enter Try.func22, Try.ntmps22
        go_wp2_with fail
        go_ret
        exact ⟨rfl, Below.refl _ _⟩
      | true =>
        cases hq8 : ((q.length : Int) == 8) with
        | true =>
          have hp : rightP 3 [p, q] = true := by rw [beq_iff_eq] at hq8 hp20; simp [rightP]; omega
          rw [hp]; clear hp
          go_enter Try.func22, Try.ntmps22
          go_wp2_with fail
          go_ret
          exact ⟨rfl, Below.refl _ _⟩
        | false =>
          have hp : rightP 3 [p, q] = false := by rw [beq_eq_false_iff_ne] at hq8; simp [rightP]; omega
          rw [hp]; clear hp
          go_enter Try.func22, Try.ntmps22
          go_wp2_with fail
          go_ret
          exact ⟨rfl, Below.refl _ _⟩
    · have hl : ((ps.length : Int) == 2) = false := by rw [beq_eq_false_iff_ne]; omega
      have hp : rightP 3 ps = false := by simp [rightP]; omega
      rw [hp]; clear hp hv h2
      go_enter Try.func22, Try.ntmps22
      go_wp2_with fail
      go_ret
      exact ⟨rfl, Below.refl _ _⟩
  by_cases k4 : k = 4
  · subst k4
    clear k1 k2 k3
    by_cases h4 : ps.length ≤ 4
    · have hp : rightP 4 ps = true := by simp [rightP]; omega
      have d1 : decide ((ps.length : Int) ≤ 4) = true := by rw [decide_eq_true_iff]; omega
      have d2 : decide (ps.length ≤ 4) = true := by rw [decide_eq_true_iff]; omega
      rw [hp]; clear hp hv h4
      go_enter Try.func22, Try.ntmps22
      go_wp2_with fail
      go_ret
      exact ⟨rfl, Below.refl _ _⟩
    · have hp : rightP 4 ps = false := by simp [rightP]; omega
      have d1 : decide ((ps.length : Int) ≤ 4) = false := by rw [decide_eq_false_iff_not]; omega
      have d2 : decide (ps.length ≤ 4) = false := by rw [decide_eq_false_iff_not]; omega
      rw [hp]; clear hp hv h4
      go_enter Try.func22, Try.ntmps22
      go_wp2_with fail
      go_ret
      exact ⟨rfl, Below.refl _ _⟩
  have hp : rightP k ps = false := by simp [rightP, k1, k2, k3, k4]
  have e1 : (k == 1) = false := by rw [beq_eq_false_iff_ne]; exact k1
  have e2 : (k == 2) = false := by rw [beq_eq_false_iff_ne]; exact k2
  have e3 : (k == 3) = false := by rw [beq_eq_false_iff_ne]; exact k3
  have e4 : (k == 4) = false := by rw [beq_eq_false_iff_ne]; exact k4
  rw [hp]; clear hp hv k1 k2 k3 k4
  go_enter Try.func22, Try.ntmps22
  go_wp2_with fail
  go_ret
  exact ⟨rfl, Below.refl _ _⟩


end Go.Proofs.Ytggiicbjegmehaa
