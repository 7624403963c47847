/- Reading rlp: heads, in plain Lean and as rlp.cut reads them. -/
import Derived.Test.YtggiicbjegmehaaRlpD
namespace Go.Proofs.Ytggiicbjegmehaa
set_option linter.unusedVariables false
set_option linter.unusedSimpArgs false
open Go.RowKit

/-- what rlp.cut reads; none: it panics -/
def cutP : Bytes → Option (Bool × Nat × Nat)
  | [] => none
  | c :: t =>
    if c.toNat < 128 then some (false, 0, 1) else
    let is := decide (192 ≤ c.toNat)
    let n := c.toNat - (if is then 192 else 128)
    if n ≤ 55 then some (is, 1, 1 + n) else
    let size := n - 55
    if 2 < size ∨ t.length < size ∨ t.headD 0 = 0 then none else
    if num (t.take size) ≤ 55 then none else some (is, 1 + size, 1 + size + num (t.take size))

/-- what rlp panics with -/
def badV : Value := .iface 84 (.agg #[])

theorem num_take {l : Bytes} {i : Nat} {d : UInt8} (h : l[i]? = some d) : num (l.take (i + 1)) = num (l.take i) * 256 + d.toNat := by
  obtain ⟨hi, hd⟩ := List.getElem?_eq_some_iff.1 h
  rw [List.take_succ_eq_append_getElem hi, hd, num_snoc]

theorem ret3 {p : Bool} {a b a' b' : Int} (h : a = a') (h2 : b = b') : Ending.returned (.tuple #[.bool p, .int .i64 a, .int .i64 b]) = .returned (.tuple #[.bool p, .int .i64 a', .int .i64 b']) := by rw [h, h2]

set_option maxHeartbeats 800000 in
theorem cut_any (s : Bytes) (w : World) (hs : s.length ≤ 1000000) :
    Calls Try.prog 69 #[.string (bs s)] w fun e w' =>
      (match cutP s with
       | some (is, f, t) => e = .returned (.tuple #[.bool is, .int .i64 f, .int .i64 t])
       | none => e = .panicked [{ v := badV, recovered := false }]) ∧ Below w.heap.size w w' := by
  cases s with
  | nil =>
    simp only [cutP]
    go_enter Try.func69, Try.ntmps69
    go_wp2_with fail
    exact ⟨rfl, rfl, Below.refl _ _⟩
  | cons c t =>
    by_cases h1 : (c.toNat : Int) < 128
    · simp only [cutP]
      rw [if_pos (by omega)]
      have hg : decide (192 ≤ (c.toNat : Int)) = false := by rw [decide_eq_false_iff_not]; omega
      go_enter Try.func69, Try.ntmps69
      go_wp2_with fail
      go_ret3
      exact ⟨rfl, Below.refl _ _⟩
    · have hlt := c.toNat_lt
      obtain ⟨is, f, hf1, hf2, hfe, hg⟩ : ∃ (is : Bool) (f : Nat), ((is = false ∧ f = 128) ∨ (is = true ∧ f = 192)) ∧ c.toNat ≤ f + 63 ∧ Hid (cutP (c :: t) =
          if c.toNat - f ≤ 55 then some (is, 1, 1 + (c.toNat - f)) else if 2 < c.toNat - f - 55 ∨ t.length < c.toNat - f - 55 ∨ t.headD 0 = 0 then none else
          if num (t.take (c.toNat - f - 55)) ≤ 55 then none else some (is, 1 + (c.toNat - f - 55), 1 + (c.toNat - f - 55) + num (t.take (c.toNat - f - 55)))) ∧ (f ≤ c.toNat ∧ decide (192 ≤ (c.toNat : Int)) = is) := by
        by_cases h2 : 192 ≤ c.toNat
        · refine ⟨true, 192, .inr ⟨rfl, rfl⟩, by omega, ?_, h2, by rw [decide_eq_true_iff]; omega⟩
          show _ = _
          simp only [cutP]
          rw [if_neg (by omega), decide_eq_true h2]
          rfl
        · refine ⟨false, 128, .inl ⟨rfl, rfl⟩, by omega, ?_, by omega, by rw [decide_eq_false_iff_not]; omega⟩
          show _ = _
          simp only [cutP]
          rw [if_neg (by omega), decide_eq_false h2]
          rfl
      obtain ⟨hg1, hg2⟩ := hg
      have i1 : (128 : Int) ≤ c.toNat := by omega
      have i2 : (c.toNat : Int) ≤ 255 := by omega
      have i3 : (c.toNat : Int) ≤ (f : Int) + 63 := by omega
      have i4 : (f : Int) ≤ c.toNat := by omega
      have HH := Lib.hid (And.intro hf2 (And.intro hg1 hlt))
      clear hlt hf2 hg1
      rcases hf1 with ⟨rfl, rfl⟩ | ⟨rfl, rfl⟩
      · have j1 : (c.toNat : Int) ≤ 128 + 63 := i3
        have j2 : (128 : Int) ≤ c.toNat := i4
        have hh := Lib.hid HH.out
        clear i3 i4 HH
        by_cases hn : (c.toNat : Int) - 128 ≤ 55
        · have hv : cutP (c :: t) = some (false, 1, 1 + (c.toNat - 128)) := by have := hh.out; rw [hfe.out, if_pos (by omega)]
          rw [hv]
          clear hv hfe
          go_enter Try.func69, Try.ntmps69
          go_wp2_with fail
          go_ret3
          exact ⟨ret3 rfl (by have := hh.out; omega), Below.refl _ _⟩
        · by_cases hb1 : (2 : Int) < (c.toNat : Int) - 128 - 55
          · have hv : cutP (c :: t) = none := by have := hh.out; rw [hfe.out, if_neg (by omega), if_pos (.inl (by omega))]
            rw [hv]
            clear hv hfe
            go_enter Try.func69, Try.ntmps69
            go_wp2_with fail
            exact ⟨rfl, rfl, Below.refl _ _⟩
          · by_cases hb2 : (t.length : Int) + 1 < 1 + ((c.toNat : Int) - 128 - 55)
            · have hv : cutP (c :: t) = none := by have := hh.out; rw [hfe.out, if_neg (by omega), if_pos (.inr (.inl (by omega)))]
              rw [hv]
              clear hv hfe
              go_enter Try.func69, Try.ntmps69
              go_wp2_with fail
              exact ⟨rfl, rfl, Below.refl _ _⟩
            · obtain ⟨d, t, rfl⟩ : ∃ d t', t = d :: t' := by
                cases t with
                | nil => simp at hb2; omega
                | cons d t => exact ⟨d, t, rfl⟩
              replace hb2 : 1 + ((c.toNat : Int) - 128 - 55) ≤ (t.length : Int) + 1 + 1 := by simp only [List.length_cons] at hb2; omega
              cases hd : ((d.toNat : Int) == 0) with
              | true =>
                obtain rfl : d = 0 := UInt8.toNat_inj.1 (by rw [beq_iff_eq] at hd; simp only [UInt8.toNat_zero]; omega)
                have hv : cutP (c :: 0 :: t) = none := by
                  have := hh.out
                  rw [hfe.out, if_neg (by omega), if_pos (.inr (.inr rfl))]
                clear hd
                rw [hv]
                have hs2 : (t.length : Int) ≤ 1000000 := by simp at hs; omega
                rcases (by omega : (c.toNat : Int) = 184 ∨ (c.toNat : Int) = 185) with hN | hN
                · obtain rfl : c = 184 := UInt8.toNat_inj.1 (by simp; omega)
                  clear hv hfe hs i1 i2 hg2 j1 j2 hh h1 hn hb1 hN hb2
                  go_enter Try.func69, Try.ntmps69
                  go_wp2_with fail
                  exact ⟨rfl, rfl, Below.refl _ _⟩
                · obtain rfl : c = 185 := UInt8.toNat_inj.1 (by simp; omega)
                  have hl1 : (1 : Int) ≤ t.length := by simp at hb2; omega
                  clear hv hfe hs i1 i2 hg2 j1 j2 hh h1 hn hb1 hN hb2
                  go_enter Try.func69, Try.ntmps69
                  go_wp2_with fail
                  exact ⟨rfl, rfl, Below.refl _ _⟩
              | false =>
                have hd0 : ¬ d = 0 := by intro h; subst h; simp at hd
                rcases (by omega : (c.toNat : Int) = 184 ∨ (c.toNat : Int) = 185) with hN | hN
                · obtain rfl : c = 184 := UInt8.toNat_inj.1 (by simp; omega)
                  have hfe2 := hfe.out
                  rw [show (184 : UInt8).toNat - 128 - 55 = 1 from rfl, if_neg (by decide), if_neg (by simp; exact hd0)] at hfe2
                  have hnum : num ((d :: t).take 1) = d.toNat := by simp [num]
                  rw [hnum] at hfe2
                  clear hnum
                  have hor := bits_or_i64 0 d.toNat (by omega) d.toNat_lt
                  rw [show ((0 : Nat) : Int) * 256 = 0 by omega, Int.zero_add] at hor
                  have hs2 : (t.length : Int) ≤ 1000000 := by simp at hs; omega
                  have hdi : (d.toNat : Int) ≤ 255 := by have := d.toNat_lt; omega
                  clear hfe hd0 i1 i2 hg2 j1 j2 hh h1 hn hb1 hN hb2 hs
                  by_cases h55 : (d.toNat : Int) ≤ 55
                  · rw [if_pos (by omega)] at hfe2
                    rw [hfe2]
                    clear hfe2
                    go_enter Try.func69, Try.ntmps69
                    go_wp2_with fail
                    refine wp_loop_rounds 2 ?_
                    rw [rounds_succ]
                    go_wp2_with fail
                    rw [rounds_succ]
                    go_wp2_with fail
                    exact ⟨rfl, rfl, Below.refl _ _⟩
                  · rw [if_neg (by omega)] at hfe2
                    rw [hfe2]
                    clear hfe2
                    go_enter Try.func69, Try.ntmps69
                    go_wp2_with fail
                    refine wp_loop_rounds 2 ?_
                    rw [rounds_succ]
                    go_wp2_with fail
                    rw [rounds_succ]
                    go_wp2_with fail
                    go_ret3
                    exact ⟨ret3 (by omega) (by omega), Below.refl _ _⟩
                · obtain rfl : c = 185 := UInt8.toNat_inj.1 (by simp; omega)
                  obtain ⟨d2, t, rfl⟩ : ∃ d2 t', t = d2 :: t' := by
                    cases t with
                    | nil => simp at hb2
                    | cons d2 t => exact ⟨d2, t, rfl⟩
                  have hfe2 := hfe.out
                  rw [show (185 : UInt8).toNat - 128 - 55 = 2 from rfl, if_neg (by decide), if_neg (by simp; exact hd0)] at hfe2
                  have hnum : num ((d :: d2 :: t).take 2) = d.toNat * 256 + d2.toNat := by simp [num]
                  rw [hnum] at hfe2
                  clear hnum
                  have hor := bits_or_i64 0 d.toNat (by omega) d.toNat_lt
                  rw [show ((0 : Nat) : Int) * 256 = 0 by omega, Int.zero_add] at hor
                  have hor2 := bits_or_i64 d.toNat d2.toNat (by have := d.toNat_lt; omega) d2.toNat_lt
                  have hd2i : (d2.toNat : Int) ≤ 255 := by have := d2.toNat_lt; omega
                  have hs2 : (t.length : Int) ≤ 1000000 := by simp at hs; omega
                  have hdi : (d.toNat : Int) ≤ 255 := by have := d.toNat_lt; omega
                  clear hfe hd0 i1 i2 hg2 j1 j2 hh h1 hn hb1 hN hb2 hs
                  by_cases h55 : (d.toNat : Int) * 256 + d2.toNat ≤ 55
                  · rw [if_pos (by omega)] at hfe2
                    rw [hfe2]
                    clear hfe2
                    go_enter Try.func69, Try.ntmps69
                    go_wp2_with fail
                    refine wp_loop_rounds 3 ?_
                    rw [rounds_succ]
                    go_wp2_with fail
                    rw [rounds_succ]
                    go_wp2_with fail
                    rw [rounds_succ]
                    go_wp2_with fail
                    exact ⟨rfl, rfl, Below.refl _ _⟩
                  · rw [if_neg (by omega)] at hfe2
                    rw [hfe2]
                    clear hfe2
                    go_enter Try.func69, Try.ntmps69
                    go_wp2_with fail
                    refine wp_loop_rounds 3 ?_
                    rw [rounds_succ]
                    go_wp2_with fail
                    rw [rounds_succ]
                    go_wp2_with fail
                    rw [rounds_succ]
                    go_wp2_with fail
                    go_ret3
                    exact ⟨ret3 (by omega) (by omega), Below.refl _ _⟩
      · have j1 : (c.toNat : Int) ≤ 192 + 63 := i3
        have j2 : (192 : Int) ≤ c.toNat := i4
        have hh := Lib.hid HH.out
        clear i3 i4 HH
        by_cases hn : (c.toNat : Int) - 192 ≤ 55
        · have hv : cutP (c :: t) = some (true, 1, 1 + (c.toNat - 192)) := by have := hh.out; rw [hfe.out, if_pos (by omega)]
          rw [hv]
          clear hv hfe
          go_enter Try.func69, Try.ntmps69
          go_wp2_with fail
          go_ret3
          exact ⟨ret3 rfl (by have := hh.out; omega), Below.refl _ _⟩
        · by_cases hb1 : (2 : Int) < (c.toNat : Int) - 192 - 55
          · have hv : cutP (c :: t) = none := by have := hh.out; rw [hfe.out, if_neg (by omega), if_pos (.inl (by omega))]
            rw [hv]
            clear hv hfe
            go_enter Try.func69, Try.ntmps69
            go_wp2_with fail
            exact ⟨rfl, rfl, Below.refl _ _⟩
          · by_cases hb2 : (t.length : Int) + 1 < 1 + ((c.toNat : Int) - 192 - 55)
            · have hv : cutP (c :: t) = none := by have := hh.out; rw [hfe.out, if_neg (by omega), if_pos (.inr (.inl (by omega)))]
              rw [hv]
              clear hv hfe
              go_enter Try.func69, Try.ntmps69
              go_wp2_with fail
              exact ⟨rfl, rfl, Below.refl _ _⟩
            · obtain ⟨d, t, rfl⟩ : ∃ d t', t = d :: t' := by
                cases t with
                | nil => simp at hb2; omega
                | cons d t => exact ⟨d, t, rfl⟩
              replace hb2 : 1 + ((c.toNat : Int) - 192 - 55) ≤ (t.length : Int) + 1 + 1 := by simp only [List.length_cons] at hb2; omega
              cases hd : ((d.toNat : Int) == 0) with
              | true =>
                obtain rfl : d = 0 := UInt8.toNat_inj.1 (by rw [beq_iff_eq] at hd; simp only [UInt8.toNat_zero]; omega)
                have hv : cutP (c :: 0 :: t) = none := by
                  have := hh.out
                  rw [hfe.out, if_neg (by omega), if_pos (.inr (.inr rfl))]
                clear hd
                rw [hv]
                have hs2 : (t.length : Int) ≤ 1000000 := by simp at hs; omega
                rcases (by omega : (c.toNat : Int) = 248 ∨ (c.toNat : Int) = 249) with hN | hN
                · obtain rfl : c = 248 := UInt8.toNat_inj.1 (by simp; omega)
                  clear hv hfe hs i1 i2 hg2 j1 j2 hh h1 hn hb1 hN hb2
                  go_enter Try.func69, Try.ntmps69
                  go_wp2_with fail
                  exact ⟨rfl, rfl, Below.refl _ _⟩
                · obtain rfl : c = 249 := UInt8.toNat_inj.1 (by simp; omega)
                  have hl1 : (1 : Int) ≤ t.length := by simp at hb2; omega
                  clear hv hfe hs i1 i2 hg2 j1 j2 hh h1 hn hb1 hN hb2
                  go_enter Try.func69, Try.ntmps69
                  go_wp2_with fail
                  exact ⟨rfl, rfl, Below.refl _ _⟩
              | false =>
                have hd0 : ¬ d = 0 := by intro h; subst h; simp at hd
                rcases (by omega : (c.toNat : Int) = 248 ∨ (c.toNat : Int) = 249) with hN | hN
                · obtain rfl : c = 248 := UInt8.toNat_inj.1 (by simp; omega)
                  have hfe2 := hfe.out
                  rw [show (248 : UInt8).toNat - 192 - 55 = 1 from rfl, if_neg (by decide), if_neg (by simp; exact hd0)] at hfe2
                  have hnum : num ((d :: t).take 1) = d.toNat := by simp [num]
                  rw [hnum] at hfe2
                  clear hnum
                  have hor := bits_or_i64 0 d.toNat (by omega) d.toNat_lt
                  rw [show ((0 : Nat) : Int) * 256 = 0 by omega, Int.zero_add] at hor
                  have hs2 : (t.length : Int) ≤ 1000000 := by simp at hs; omega
                  have hdi : (d.toNat : Int) ≤ 255 := by have := d.toNat_lt; omega
                  clear hfe hd0 i1 i2 hg2 j1 j2 hh h1 hn hb1 hN hb2 hs
                  by_cases h55 : (d.toNat : Int) ≤ 55
                  · rw [if_pos (by omega)] at hfe2
                    rw [hfe2]
                    clear hfe2
                    go_enter Try.func69, Try.ntmps69
                    go_wp2_with fail
                    refine wp_loop_rounds 2 ?_
                    rw [rounds_succ]
                    go_wp2_with fail
                    rw [rounds_succ]
                    go_wp2_with fail
                    exact ⟨rfl, rfl, Below.refl _ _⟩
                  · rw [if_neg (by omega)] at hfe2
                    rw [hfe2]
                    clear hfe2
                    go_enter Try.func69, Try.ntmps69
                    go_wp2_with fail
                    refine wp_loop_rounds 2 ?_
                    rw [rounds_succ]
                    go_wp2_with fail
                    rw [rounds_succ]
                    go_wp2_with fail
                    go_ret3
                    exact ⟨ret3 (by omega) (by omega), Below.refl _ _⟩
                · obtain rfl : c = 249 := UInt8.toNat_inj.1 (by simp; omega)
                  obtain ⟨d2, t, rfl⟩ : ∃ d2 t', t = d2 :: t' := by
                    cases t with
                    | nil => simp at hb2
                    | cons d2 t => exact ⟨d2, t, rfl⟩
                  have hfe2 := hfe.out
                  rw [show (249 : UInt8).toNat - 192 - 55 = 2 from rfl, if_neg (by decide), if_neg (by simp; exact hd0)] at hfe2
                  have hnum : num ((d :: d2 :: t).take 2) = d.toNat * 256 + d2.toNat := by simp [num]
                  rw [hnum] at hfe2
                  clear hnum
                  have hor := bits_or_i64 0 d.toNat (by omega) d.toNat_lt
                  rw [show ((0 : Nat) : Int) * 256 = 0 by omega, Int.zero_add] at hor
                  have hor2 := bits_or_i64 d.toNat d2.toNat (by have := d.toNat_lt; omega) d2.toNat_lt
                  have hd2i : (d2.toNat : Int) ≤ 255 := by have := d2.toNat_lt; omega
                  have hs2 : (t.length : Int) ≤ 1000000 := by simp at hs; omega
                  have hdi : (d.toNat : Int) ≤ 255 := by have := d.toNat_lt; omega
                  clear hfe hd0 i1 i2 hg2 j1 j2 hh h1 hn hb1 hN hb2 hs
                  by_cases h55 : (d.toNat : Int) * 256 + d2.toNat ≤ 55
                  · rw [if_pos (by omega)] at hfe2
                    rw [hfe2]
                    clear hfe2
                    go_enter Try.func69, Try.ntmps69
                    go_wp2_with fail
                    refine wp_loop_rounds 3 ?_
                    rw [rounds_succ]
                    go_wp2_with fail
                    rw [rounds_succ]
                    go_wp2_with fail
                    rw [rounds_succ]
                    go_wp2_with fail
                    exact ⟨rfl, rfl, Below.refl _ _⟩
                  · rw [if_neg (by omega)] at hfe2
                    rw [hfe2]
                    clear hfe2
                    go_enter Try.func69, Try.ntmps69
                    go_wp2_with fail
                    refine wp_loop_rounds 3 ?_
                    rw [rounds_succ]
                    go_wp2_with fail
                    rw [rounds_succ]
                    go_wp2_with fail
                    rw [rounds_succ]
                    go_wp2_with fail
                    go_ret3
                    exact ⟨ret3 (by omega) (by omega), Below.refl _ _⟩

end Go.Proofs.Ytggiicbjegmehaa
