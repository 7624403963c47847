/- What is read of what was printed, in plain Lean: numbers; of no program. -/
import Derived.Test.YtggiicbjegmehaaDoorScP
namespace Go.Proofs.YtggiicbjegmehaaDoor
set_option linter.unusedVariables false
set_option linter.unusedSimpArgs false

theorem digit_toNat (d : Nat) (h : d < 10) : (UInt8.ofNat (48 + d)).toNat = 48 + d := by
  rw [UInt8.toNat_ofNat']; omega
theorem parseM_dec (n : Nat) (hn : n ≤ 18446744073709551615) : ∀ r, Lib.parseUintM 18446744073709551615 0 (Lib.decDigits n ++ r) = Lib.parseUintM 18446744073709551615 n r := by
  induction n using Nat.strongRecOn with
  | _ n ih =>
    intro r
    by_cases h : n < 10
    · rw [Lib.decDigits, dif_pos h, List.singleton_append, Lib.parseUintM, digit_toNat n h, if_pos (by omega), if_neg (by omega), if_neg (by omega)]
      congr 1
      omega
    · rw [Lib.decDigits, dif_neg h, List.append_assoc, ih (n / 10) (by omega) (by omega), List.singleton_append, Lib.parseUintM, digit_toNat (n % 10) (by omega), if_pos (by omega), if_neg (by omega), if_neg (by omega)]
      congr 1
      omega
theorem parse_dec (n : Nat) (hn : n ≤ 18446744073709551615) : Lib.parseUintB 64 (decB n) = .ok n := by
  unfold Lib.parseUintB decB
  have hne : Lib.decDigits n ≠ [] := by
    intro e
    have := congrArg List.length e
    rw [Lib.decDigits_length] at this
    have := Lib.nDigits_pos n
    simp at *
    omega
  rw [if_neg hne]
  have := parseM_dec n hn []
  rw [List.append_nil] at this
  exact this
theorem dec_digits (n : Nat) : ∀ c ∈ decB n, 48 ≤ c.toNat ∧ c.toNat ≤ 57 := by
  induction n using Nat.strongRecOn with
  | _ n ih =>
    intro c hc
    unfold decB at hc
    by_cases h : n < 10
    · rw [Lib.decDigits, dif_pos h] at hc
      rw [List.mem_singleton] at hc
      subst hc
      rw [digit_toNat n h]; omega
    · rw [Lib.decDigits, dif_neg h, List.mem_append, List.mem_singleton] at hc
      rcases hc with hc | rfl
      · exact ih (n / 10) (by omega) c hc
      · rw [digit_toNat (n % 10) (by omega)]; omega

/-- where a byte stands first -/
theorem index_at (c : UInt8) (r : Bytes) : ∀ (x : Bytes), c ∉ x → Lib.index (x ++ c :: r) [c] = (x.length : Int)
  | [], _ => by simp [Lib.index]
  | b :: x, h => by
    have hb : ¬ c = b := fun e => h (by rw [e]; exact List.mem_cons_self ..)
    have ih := index_at c r x (fun e => h (List.mem_cons_of_mem _ e))
    rw [List.cons_append, Lib.index, ih, if_neg (by simp [List.isPrefixOf, hb]), if_neg (by simp), List.length_cons]
    omega
theorem index_no (c : UInt8) : ∀ (x : Bytes), c ∉ x → Lib.index x [c] = -1
  | [], _ => by simp [Lib.index]
  | b :: x, h => by
    have hb : ¬ c = b := fun e => h (by rw [e]; exact List.mem_cons_self ..)
    rw [Lib.index, index_no c x (fun e => h (List.mem_cons_of_mem _ e)), if_neg (by simp [List.isPrefixOf, hb]), if_pos (by simp)]
theorem join_two (p q sep : Bytes) (l : List Bytes) : Lib.join (p :: q :: l) sep = p ++ sep ++ Lib.join (q :: l) sep := by
  rw [Lib.join_cons, Lib.join_cons]; simp [Lib.joinTail]
theorem split_join (c : UInt8) : ∀ (l : List Bytes) (p : Bytes), (∀ q ∈ p :: l, c ∉ q) → Lib.splitK [c] 0 l.length (Lib.join (p :: l) [c]) = p :: l
  | [], p, _ => by rw [Lib.join_one]; rfl
  | q :: l, p, h => by
    have h0 := h p (List.mem_cons_self ..)
    have e : Lib.join (p :: q :: l) [c] = p ++ c :: Lib.join (q :: l) [c] := by rw [join_two]; simp
    have ih := split_join c l q (fun x hx => h x (List.mem_cons_of_mem _ hx))
    rw [List.length_cons, e, Lib.splitK, index_at c _ p h0, if_neg (by simp)]
    simp only [Int.toNat_natCast, Nat.add_zero, List.length_cons, List.length_nil]
    rw [List.take_left]
    congr 1
    have : (p ++ c :: Lib.join (q :: l) [c]).drop (p.length + (0 + 1)) = Lib.join (q :: l) [c] := by
      rw [List.drop_append, List.drop_of_length_le (by omega), Nat.add_sub_cancel_left]
      rfl
    rw [this]; exact ih
theorem count_join (c : UInt8) : ∀ (l : List Bytes) (p : Bytes), (∀ q ∈ p :: l, c ∉ q) → (Lib.join (p :: l) [c]).count c = l.length
  | [], p, h => by rw [Lib.join_one, List.length_nil, List.count_eq_zero]; exact h p (List.mem_cons_self ..)
  | q :: l, p, h => by
    have ih := count_join c l q (fun x hx => h x (List.mem_cons_of_mem _ hx))
    rw [join_two, List.count_append, List.count_append, ih, List.count_eq_zero.2 (h p (List.mem_cons_self ..))]
    simp; omega
end Go.Proofs.YtggiicbjegmehaaDoor
