/- ecclesiaref08.size. -/
import Derived.Test.YtggiicbjegmehaaRlpF
namespace Go.Proofs.Ytggiicbjegmehaa
set_option linter.unusedVariables false
set_option linter.unusedSimpArgs false
open Go.RowKit

def sizeD (d : Nat) (t : Bytes) : Int × Int :=
    if d < 128 then (0, 1) else if d ≤ 183 then (1, (d : Int) - 128) else
    if 3 < d - 183 ∨ t.length < d - 183 then (-1, 0) else (1 + ((d - 183 : Nat) : Int), num (t.take (d - 183)))
/-- what size says: how long the head is, how much stands behind it -/
def sizeP : Bytes → Int × Int
  | [] => (0, 0)
  | c :: t => sizeD (if 192 ≤ c.toNat then c.toNat - 64 else c.toNat) t
theorem sizeP_lo {c : UInt8} (t : Bytes) (h : c.toNat < 192) : sizeP (c :: t) = sizeD c.toNat t := by simp only [sizeP]; rw [if_neg (by omega)]
theorem sizeP_hi {c : UInt8} (t : Bytes) (h : 192 ≤ c.toNat) : sizeP (c :: t) = sizeD (c.toNat - 64) t := by simp only [sizeP]; rw [if_pos h]

theorem ret_ints {a b a' b' : Int} (h : a = a') (h2 : b = b') : Ending.returned (.tuple #[.int .i64 a, .int .i64 b]) = .returned (.tuple #[.int .i64 a', .int .i64 b']) := by rw [h, h2]

def SizeSaid (s : Bytes) (w : World) : Prop := Calls Try.prog 70 #[.string (bs s)] w fun e w' =>
      e = .returned (.tuple #[.int .i64 (sizeP s).1, .int .i64 (sizeP s).2]) ∧ Below w.heap.size w w'

theorem size_184 (d1 : UInt8) (t : Bytes) (w : World) (hs : (t.length : Int) ≤ 1000000) : SizeSaid (184 :: d1 :: t) w := by
  show Calls _ _ _ _ _
  have hp : sizeP (184 :: d1 :: t) = (2, ((num [d1] : Nat) : Int)) := by
    rw [sizeP_lo _ (by decide), sizeD, if_neg (by decide), if_neg (by decide), if_neg (by simp)]
    rfl
  rw [hp]
  have hn : ((num [d1] : Nat) : Int) = d1.toNat := by simp [num]
  rw [hn]
  have i1 : (d1.toNat : Int) ≤ 255 := by have := d1.toNat_lt; omega
  clear hp hn
  go_enter Try.func70, Try.ntmps70
  go_wp2_with fail
  refine wp_loop_rounds 2 ?_
  rw [rounds_succ]
  go_wp2_with fail
  rw [rounds_succ]
  go_wp2_with fail
  go_ret2
  exact ⟨ret_ints rfl (by omega), Below.refl _ _⟩

theorem size_185 (d1 d2 : UInt8) (t : Bytes) (w : World) (hs : (t.length : Int) ≤ 1000000) : SizeSaid (185 :: d1 :: d2 :: t) w := by
  show Calls _ _ _ _ _
  have hp : sizeP (185 :: d1 :: d2 :: t) = (3, ((num [d1, d2] : Nat) : Int)) := by
    rw [sizeP_lo _ (by decide), sizeD, if_neg (by decide), if_neg (by decide), if_neg (by simp)]
    rfl
  rw [hp]
  have hn : ((num [d1, d2] : Nat) : Int) = 256 * d1.toNat + d2.toNat := by simp [num]; omega
  rw [hn]
  have i1 : (d1.toNat : Int) ≤ 255 := by have := d1.toNat_lt; omega
  have i2 : (d2.toNat : Int) ≤ 255 := by have := d2.toNat_lt; omega
  clear hp hn
  go_enter Try.func70, Try.ntmps70
  go_wp2_with fail
  refine wp_loop_rounds 3 ?_
  rw [rounds_succ]
  go_wp2_with fail
  rw [rounds_succ]
  go_wp2_with fail
  rw [rounds_succ]
  go_wp2_with fail
  go_ret2
  exact ⟨ret_ints rfl (by omega), Below.refl _ _⟩

theorem size_186 (d1 d2 d3 : UInt8) (t : Bytes) (w : World) (hs : (t.length : Int) ≤ 1000000) : SizeSaid (186 :: d1 :: d2 :: d3 :: t) w := by
  show Calls _ _ _ _ _
  have hp : sizeP (186 :: d1 :: d2 :: d3 :: t) = (4, ((num [d1, d2, d3] : Nat) : Int)) := by
    rw [sizeP_lo _ (by decide), sizeD, if_neg (by decide), if_neg (by decide), if_neg (by simp)]
    rfl
  rw [hp]
  have hn : ((num [d1, d2, d3] : Nat) : Int) = 256 * (256 * d1.toNat + d2.toNat) + d3.toNat := by simp [num]; omega
  rw [hn]
  have i1 : (d1.toNat : Int) ≤ 255 := by have := d1.toNat_lt; omega
  have i2 : (d2.toNat : Int) ≤ 255 := by have := d2.toNat_lt; omega
  have i3 : (d3.toNat : Int) ≤ 255 := by have := d3.toNat_lt; omega
  clear hp hn
  go_enter Try.func70, Try.ntmps70
  go_wp2_with fail
  refine wp_loop_rounds 4 ?_
  rw [rounds_succ]
  go_wp2_with fail
  rw [rounds_succ]
  go_wp2_with fail
  rw [rounds_succ]
  go_wp2_with fail
  rw [rounds_succ]
  go_wp2_with fail
  go_ret2
  exact ⟨ret_ints rfl (by omega), Below.refl _ _⟩

theorem size_248 (d1 : UInt8) (t : Bytes) (w : World) (hs : (t.length : Int) ≤ 1000000) : SizeSaid (248 :: d1 :: t) w := by
  show Calls _ _ _ _ _
  have hp : sizeP (248 :: d1 :: t) = (2, ((num [d1] : Nat) : Int)) := by
    rw [sizeP_hi _ (by decide), sizeD, if_neg (by decide), if_neg (by decide), if_neg (by simp)]
    rfl
  rw [hp]
  have hn : ((num [d1] : Nat) : Int) = d1.toNat := by simp [num]
  rw [hn]
  have i1 : (d1.toNat : Int) ≤ 255 := by have := d1.toNat_lt; omega
  clear hp hn
  go_enter Try.func70, Try.ntmps70
  go_wp2_with fail
  refine wp_loop_rounds 2 ?_
  rw [rounds_succ]
  go_wp2_with fail
  rw [rounds_succ]
  go_wp2_with fail
  go_ret2
  exact ⟨ret_ints rfl (by omega), Below.refl _ _⟩

theorem size_249 (d1 d2 : UInt8) (t : Bytes) (w : World) (hs : (t.length : Int) ≤ 1000000) : SizeSaid (249 :: d1 :: d2 :: t) w := by
  show Calls _ _ _ _ _
  have hp : sizeP (249 :: d1 :: d2 :: t) = (3, ((num [d1, d2] : Nat) : Int)) := by
    rw [sizeP_hi _ (by decide), sizeD, if_neg (by decide), if_neg (by decide), if_neg (by simp)]
    rfl
  rw [hp]
  have hn : ((num [d1, d2] : Nat) : Int) = 256 * d1.toNat + d2.toNat := by simp [num]; omega
  rw [hn]
  have i1 : (d1.toNat : Int) ≤ 255 := by have := d1.toNat_lt; omega
  have i2 : (d2.toNat : Int) ≤ 255 := by have := d2.toNat_lt; omega
  clear hp hn
  go_enter Try.func70, Try.ntmps70
  go_wp2_with fail
  refine wp_loop_rounds 3 ?_
  rw [rounds_succ]
  go_wp2_with fail
  rw [rounds_succ]
  go_wp2_with fail
  rw [rounds_succ]
  go_wp2_with fail
  go_ret2
  exact ⟨ret_ints rfl (by omega), Below.refl _ _⟩

theorem size_250 (d1 d2 d3 : UInt8) (t : Bytes) (w : World) (hs : (t.length : Int) ≤ 1000000) : SizeSaid (250 :: d1 :: d2 :: d3 :: t) w := by
  show Calls _ _ _ _ _
  have hp : sizeP (250 :: d1 :: d2 :: d3 :: t) = (4, ((num [d1, d2, d3] : Nat) : Int)) := by
    rw [sizeP_hi _ (by decide), sizeD, if_neg (by decide), if_neg (by decide), if_neg (by simp)]
    rfl
  rw [hp]
  have hn : ((num [d1, d2, d3] : Nat) : Int) = 256 * (256 * d1.toNat + d2.toNat) + d3.toNat := by simp [num]; omega
  rw [hn]
  have i1 : (d1.toNat : Int) ≤ 255 := by have := d1.toNat_lt; omega
  have i2 : (d2.toNat : Int) ≤ 255 := by have := d2.toNat_lt; omega
  have i3 : (d3.toNat : Int) ≤ 255 := by have := d3.toNat_lt; omega
  clear hp hn
  go_enter Try.func70, Try.ntmps70
  go_wp2_with fail
  refine wp_loop_rounds 4 ?_
  rw [rounds_succ]
  go_wp2_with fail
  rw [rounds_succ]
  go_wp2_with fail
  rw [rounds_succ]
  go_wp2_with fail
  rw [rounds_succ]
  go_wp2_with fail
  go_ret2
  exact ⟨ret_ints rfl (by omega), Below.refl _ _⟩

theorem size_small (c : UInt8) (t : Bytes) (w : World) (hs : (t.length : Int) ≤ 1000000) (h : (c.toNat : Int) < 128) : SizeSaid (c :: t) w := by
  show Calls _ _ _ _ _
  have hp : sizeP (c :: t) = (0, 1) := by
    rw [sizeP_lo _ (by omega), sizeD]
    rw [if_pos (by omega)]
  rw [hp]
  have hc : (c.toNat : Int) ≤ 255 := by have := c.toNat_lt; omega
  clear hp
  have hg : decide (192 ≤ (c.toNat : Int)) = false := by rw [decide_eq_false_iff_not]; omega
  have h2 : (c.toNat : Int) < 192 := by omega
  go_enter Try.func70, Try.ntmps70
  go_wp2_with fail
  go_ret2
  exact ⟨ret_ints rfl (by omega), Below.refl _ _⟩

theorem size_lo (c : UInt8) (t : Bytes) (w : World) (hs : (t.length : Int) ≤ 1000000) (h : (128 : Int) ≤ c.toNat) (h3 : (c.toNat : Int) ≤ 183) : SizeSaid (c :: t) w := by
  show Calls _ _ _ _ _
  have hp : sizeP (c :: t) = (1, (c.toNat : Int) - 128) := by
    rw [sizeP_lo _ (by omega), sizeD]
    rw [if_neg (by omega), if_pos (by omega)]
  rw [hp]
  have hc : (c.toNat : Int) ≤ 255 := by have := c.toNat_lt; omega
  clear hp
  have hg : decide (192 ≤ (c.toNat : Int)) = false := by rw [decide_eq_false_iff_not]; omega
  have h2 : (c.toNat : Int) < 192 := by omega
  have h4 : ¬ (c.toNat : Int) < 128 := by omega
  go_enter Try.func70, Try.ntmps70
  go_wp2_with fail
  go_ret2
  exact ⟨ret_ints rfl (by omega), Below.refl _ _⟩

theorem size_hi (c : UInt8) (t : Bytes) (w : World) (hs : (t.length : Int) ≤ 1000000) (h : (192 : Int) ≤ c.toNat) (h3 : (c.toNat : Int) - 64 ≤ 183) : SizeSaid (c :: t) w := by
  show Calls _ _ _ _ _
  have hp : sizeP (c :: t) = (1, (c.toNat : Int) - 64 - 128) := by
    rw [sizeP_hi _ (by omega), sizeD]
    rw [if_neg (by omega), if_pos (by omega), show ((c.toNat - 64 : Nat) : Int) = (c.toNat : Int) - 64 by omega]
  rw [hp]
  have hc : (c.toNat : Int) ≤ 255 := by have := c.toNat_lt; omega
  clear hp
  have hg : decide (192 ≤ (c.toNat : Int)) = true := by rw [decide_eq_true_iff]; omega
  have h4 : ¬ (c.toNat : Int) - 64 < 128 := by omega
  go_enter Try.func70, Try.ntmps70
  go_wp2_with fail
  go_ret2
  exact ⟨ret_ints rfl (by omega), Below.refl _ _⟩

theorem size_lofar (c : UInt8) (t : Bytes) (w : World) (hs : (t.length : Int) ≤ 1000000) (h : ¬ (c.toNat : Int) ≤ 183) (h2 : (c.toNat : Int) < 192) (hk : (3 : Int) < (c.toNat : Int) - 183) : SizeSaid (c :: t) w := by
  show Calls _ _ _ _ _
  have hp : sizeP (c :: t) = (-1, 0) := by
    rw [sizeP_lo _ (by omega), sizeD]
    rw [if_neg (by omega), if_neg (by omega), if_pos (.inl (by omega))]
  rw [hp]
  have hc : (c.toNat : Int) ≤ 255 := by have := c.toNat_lt; omega
  clear hp
  have hg : decide (192 ≤ (c.toNat : Int)) = false := by rw [decide_eq_false_iff_not]; omega
  have h4 : ¬ (c.toNat : Int) < 128 := by omega
  go_enter Try.func70, Try.ntmps70
  go_wp2_with fail
  go_ret2
  exact ⟨ret_ints rfl (by omega), Below.refl _ _⟩

theorem size_hifar (c : UInt8) (t : Bytes) (w : World) (hs : (t.length : Int) ≤ 1000000) (h : (183 : Int) < (c.toNat : Int) - 64) (h2 : (192 : Int) ≤ c.toNat) (hk : (3 : Int) < (c.toNat : Int) - 64 - 183) : SizeSaid (c :: t) w := by
  show Calls _ _ _ _ _
  have hp : sizeP (c :: t) = (-1, 0) := by
    rw [sizeP_hi _ (by omega), sizeD]
    rw [if_neg (by omega), if_neg (by omega), if_pos (.inl (by omega))]
  rw [hp]
  have hc : (c.toNat : Int) ≤ 255 := by have := c.toNat_lt; omega
  clear hp
  have hg : decide (192 ≤ (c.toNat : Int)) = true := by rw [decide_eq_true_iff]; omega
  have h4 : ¬ (c.toNat : Int) - 64 < 128 := by omega
  go_enter Try.func70, Try.ntmps70
  go_wp2_with fail
  go_ret2
  exact ⟨ret_ints rfl (by omega), Below.refl _ _⟩

theorem size_loshort (c : UInt8) (t : Bytes) (w : World) (hs : (t.length : Int) ≤ 1000000) (h : ¬ (c.toNat : Int) ≤ 183) (h2 : (c.toNat : Int) < 192) (hk : (c.toNat : Int) - 183 ≤ 3) (hl : (t.length : Int) + 1 < 1 + ((c.toNat : Int) - 183)) : SizeSaid (c :: t) w := by
  show Calls _ _ _ _ _
  have hp : sizeP (c :: t) = (-1, 0) := by
    rw [sizeP_lo _ (by omega), sizeD]
    rw [if_neg (by omega), if_neg (by omega), if_pos (.inr (by omega))]
  rw [hp]
  have hc : (c.toNat : Int) ≤ 255 := by have := c.toNat_lt; omega
  clear hp
  have hg : decide (192 ≤ (c.toNat : Int)) = false := by rw [decide_eq_false_iff_not]; omega
  have h4 : ¬ (c.toNat : Int) < 128 := by omega
  go_enter Try.func70, Try.ntmps70
  go_wp2_with fail
  go_ret2
  exact ⟨ret_ints rfl (by omega), Below.refl _ _⟩

theorem size_hishort (c : UInt8) (t : Bytes) (w : World) (hs : (t.length : Int) ≤ 1000000) (h : (183 : Int) < (c.toNat : Int) - 64) (h2 : (192 : Int) ≤ c.toNat) (hk : (c.toNat : Int) - 64 - 183 ≤ 3) (hl : (t.length : Int) + 1 < 1 + ((c.toNat : Int) - 64 - 183)) : SizeSaid (c :: t) w := by
  show Calls _ _ _ _ _
  have hp : sizeP (c :: t) = (-1, 0) := by
    rw [sizeP_hi _ (by omega), sizeD]
    rw [if_neg (by omega), if_neg (by omega), if_pos (.inr (by omega))]
  rw [hp]
  have hc : (c.toNat : Int) ≤ 255 := by have := c.toNat_lt; omega
  clear hp
  have hg : decide (192 ≤ (c.toNat : Int)) = true := by rw [decide_eq_true_iff]; omega
  have h4 : ¬ (c.toNat : Int) - 64 < 128 := by omega
  go_enter Try.func70, Try.ntmps70
  go_wp2_with fail
  go_ret2
  exact ⟨ret_ints rfl (by omega), Below.refl _ _⟩

theorem uncons {t : Bytes} {n : Nat} (h : n + 1 ≤ t.length) : ∃ d r, t = d :: r ∧ n ≤ r.length := by
  cases t with
  | nil => simp at h
  | cons d r => exact ⟨d, r, rfl, by simpa using h⟩
theorem size_any (c : UInt8) (t : Bytes) (w : World) (hs : t.length ≤ 1000000) : SizeSaid (c :: t) w := by
  have hs' : (t.length : Int) ≤ 1000000 := by omega
  have hc := c.toNat_lt
  by_cases h2 : c.toNat < 192
  · by_cases h : c.toNat < 128
    · exact size_small c t w hs' (by omega)
    · by_cases h3 : c.toNat ≤ 183
      · exact size_lo c t w hs' (by omega) (by omega)
      · by_cases hk : 3 < c.toNat - 183
        · exact size_lofar c t w hs' (by omega) (by omega) (by omega)
        · by_cases hl : t.length < c.toNat - 183
          · exact size_loshort c t w hs' (by omega) (by omega) (by omega) (by omega)
          · rcases (by omega : c.toNat = 184 ∨ c.toNat = 185 ∨ c.toNat = 186) with hN | hN | hN
            · have hl' : 1 ≤ t.length := by omega
              obtain rfl : c = 184 := UInt8.toNat_inj.1 (by simp; omega)
              clear hN hl hk h3 h h2 hc
              obtain ⟨d1, t, rfl, k1⟩ := uncons (n := 0) hl'
              exact size_184 d1 t w (by simp at hs; omega)
            · have hl' : 2 ≤ t.length := by omega
              obtain rfl : c = 185 := UInt8.toNat_inj.1 (by simp; omega)
              clear hN hl hk h3 h h2 hc
              obtain ⟨d1, t, rfl, k1⟩ := uncons (n := 1) hl'
              obtain ⟨d2, t, rfl, k2⟩ := uncons (n := 0) k1
              exact size_185 d1 d2 t w (by simp at hs; omega)
            · have hl' : 3 ≤ t.length := by omega
              obtain rfl : c = 186 := UInt8.toNat_inj.1 (by simp; omega)
              clear hN hl hk h3 h h2 hc
              obtain ⟨d1, t, rfl, k1⟩ := uncons (n := 2) hl'
              obtain ⟨d2, t, rfl, k2⟩ := uncons (n := 1) k1
              obtain ⟨d3, t, rfl, k3⟩ := uncons (n := 0) k2
              exact size_186 d1 d2 d3 t w (by simp at hs; omega)
  · by_cases h3 : c.toNat ≤ 247
    · exact size_hi c t w hs' (by omega) (by omega)
    · by_cases hk : 3 < c.toNat - 247
      · exact size_hifar c t w hs' (by omega) (by omega) (by omega)
      · by_cases hl : t.length < c.toNat - 247
        · exact size_hishort c t w hs' (by omega) (by omega) (by omega) (by omega)
        · rcases (by omega : c.toNat = 248 ∨ c.toNat = 249 ∨ c.toNat = 250) with hN | hN | hN
          · have hl' : 1 ≤ t.length := by omega
            obtain rfl : c = 248 := UInt8.toNat_inj.1 (by simp; omega)
            clear hN hl hk h3 h2 hc
            obtain ⟨d1, t, rfl, k1⟩ := uncons (n := 0) hl'
            exact size_248 d1 t w (by simp at hs; omega)
          · have hl' : 2 ≤ t.length := by omega
            obtain rfl : c = 249 := UInt8.toNat_inj.1 (by simp; omega)
            clear hN hl hk h3 h2 hc
            obtain ⟨d1, t, rfl, k1⟩ := uncons (n := 1) hl'
            obtain ⟨d2, t, rfl, k2⟩ := uncons (n := 0) k1
            exact size_249 d1 d2 t w (by simp at hs; omega)
          · have hl' : 3 ≤ t.length := by omega
            obtain rfl : c = 250 := UInt8.toNat_inj.1 (by simp; omega)
            clear hN hl hk h3 h2 hc
            obtain ⟨d1, t, rfl, k1⟩ := uncons (n := 2) hl'
            obtain ⟨d2, t, rfl, k2⟩ := uncons (n := 1) k1
            obtain ⟨d3, t, rfl, k3⟩ := uncons (n := 0) k2
            exact size_250 d1 d2 d3 t w (by simp at hs; omega)

/-- size and cut speak of one head -/
theorem sizeP_cut {s : Bytes} {is : Bool} {f t : Nat} (h : cutP s = some (is, f, t)) : sizeP s = ((f : Int), (t : Int) - f) ∧ f ≤ t ∧ ∃ c r, s = c :: r ∧ is = decide (192 ≤ c.toNat) := by
  cases s with
  | nil => cases h
  | cons c r =>
    have hlt := c.toNat_lt
    simp only [cutP] at h
    simp only [sizeP, sizeD]
    by_cases h1 : c.toNat < 128
    · rw [if_pos h1] at h
      simp at h
      obtain ⟨rfl, rfl, rfl⟩ := h
      rw [if_neg (show ¬ 192 ≤ c.toNat by omega), if_pos h1]
      exact ⟨rfl, by omega, c, r, rfl, by rw [decide_eq_false (by omega)]⟩
    · rw [if_neg h1] at h
      obtain ⟨F, hFe, hFc, hd⟩ : ∃ F, (if decide (192 ≤ c.toNat) = true then 192 else 128) = F ∧ F ≤ c.toNat ∧ (if 192 ≤ c.toNat then c.toNat - 64 else c.toNat) = c.toNat - F + 128 := by
        by_cases h2 : 192 ≤ c.toNat
        · exact ⟨192, by rw [decide_eq_true h2]; rfl, h2, by rw [if_pos h2]; omega⟩
        · exact ⟨128, by rw [decide_eq_false h2]; rfl, by omega, by rw [if_neg h2]; omega⟩
      rw [hFe] at h
      rw [hd, if_neg (by omega)]
      by_cases h55 : c.toNat - F ≤ 55
      · rw [if_pos h55] at h
        simp at h
        obtain ⟨h0, rfl, rfl⟩ := h
        rw [if_pos (by omega)]
        refine ⟨?_, by omega, c, r, rfl, h0.symm⟩
        rw [Prod.mk.injEq]; exact ⟨rfl, by omega⟩
      · rw [if_neg h55] at h
        by_cases hbad : 2 < c.toNat - F - 55 ∨ r.length < c.toNat - F - 55 ∨ r.headD 0 = 0
        · rw [if_pos hbad] at h; cases h
        · rw [if_neg hbad] at h
          by_cases hm : num (r.take (c.toNat - F - 55)) ≤ 55
          · rw [if_pos hm] at h; cases h
          · rw [if_neg hm] at h
            simp at h
            obtain ⟨h0, rfl, rfl⟩ := h
            have e : c.toNat - F + 128 - 183 = c.toNat - F - 55 := by omega
            rw [if_neg (by omega), e, if_neg (by omega)]
            refine ⟨?_, by omega, c, r, rfl, h0.symm⟩
            rw [Prod.mk.injEq]; exact ⟨by omega, by omega⟩
/-- what size says is small -/
theorem sizeP_le (c : UInt8) (t : Bytes) : (sizeP (c :: t) = (-1, 0)) ∨ (0 ≤ (sizeP (c :: t)).1 ∧ 0 ≤ (sizeP (c :: t)).2 ∧ 1 ≤ (sizeP (c :: t)).1 + (sizeP (c :: t)).2 ∧ (sizeP (c :: t)).1 ≤ 4 ∧ (sizeP (c :: t)).2 < 16777216 ∧
    ((sizeP (c :: t)).1 = 0 → (sizeP (c :: t)).2 = 1 ∧ c.toNat < 128)) := by
  have hlt := c.toNat_lt
  generalize hz : sizeP (c :: t) = z
  simp only [sizeP, sizeD] at hz
  generalize hd : (if 192 ≤ c.toNat then c.toNat - 64 else c.toNat) = d at hz
  have hd2 : d < 192 ∧ (d < 128 → c.toNat < 128) := by
    by_cases h : 192 ≤ c.toNat
    · rw [if_pos h] at hd; omega
    · rw [if_neg h] at hd; omega
  by_cases h1 : d < 128
  · rw [if_pos h1] at hz
    subst hz
    exact .inr ⟨by simp, by simp, by simp, by simp, by simp, fun _ => ⟨rfl, hd2.2 h1⟩⟩
  · rw [if_neg h1] at hz
    by_cases h2 : d ≤ 183
    · rw [if_pos h2] at hz
      subst hz
      exact .inr ⟨by simp, by show (0 : Int) ≤ (d : Int) - 128; omega, by show (1 : Int) ≤ 1 + ((d : Int) - 128); omega, by simp, by show (d : Int) - 128 < _; omega, fun h => by simp at h⟩
    · rw [if_neg h2] at hz
      by_cases h3 : 3 < d - 183 ∨ t.length < d - 183
      · rw [if_pos h3] at hz; exact .inl hz.symm
      · rw [if_neg h3] at hz
        subst hz
        have hn := num_lt (t.take (d - 183))
        rw [List.length_take, Nat.min_eq_left (by omega)] at hn
        have h4 : (256 : Nat) ^ (d - 183) ≤ 256 ^ 3 := Nat.pow_le_pow_right (by omega) (by omega)
        refine .inr ⟨?_, ?_, ?_, ?_, ?_, fun h => ?_⟩ <;> simp only [] at * <;> omega

end Go.Proofs.Ytggiicbjegmehaa
