/- Heads that are written are read; items that stand first: plain Lean. -/
import Derived.Test.YtggiicbjegmehaaRlpE
namespace Go.Proofs.Ytggiicbjegmehaa
set_option linter.unusedVariables false
set_option linter.unusedSimpArgs false

theorem cutP_low {c : UInt8} (r : Bytes) (h : c.toNat < 128) : cutP (c :: r) = some (false, 0, 1) := by simp only [cutP]; rw [if_pos h]

theorem cutP_head {F n : Nat} (hF : F = 128 ∨ F = 192) (hn : n < 65536) (r : Bytes) :
    cutP (headP F n ++ r) = some (decide (F = 192), (headP F n).length, (headP F n).length + n) := by
  obtain ⟨c, t, e, g1, g2, g3, g4⟩ := headP_first F n hF hn
  have hl := digs_len_lt 2 n (by omega)
  rw [e]
  have hc : ¬ c.toNat < 128 := by omega
  have hlt := c.toNat_lt
  have his : decide (192 ≤ c.toNat) = decide (F = 192) := by
    rcases hF with rfl | rfl
    · have := g2 rfl; rw [decide_eq_false (by omega)]; rfl
    · rw [decide_eq_true (by omega)]; rfl
  have hfr : (if decide (F = 192) = true then 192 else 128) = F := by rcases hF with rfl | rfl <;> rfl
  simp only [List.cons_append, cutP]
  rw [if_neg hc, his, hfr]
  by_cases h55 : n ≤ 55
  · obtain ⟨rfl, hcn⟩ := g3 h55
    rw [if_pos (by omega), show c.toNat - F = n by omega]; rfl
  · obtain ⟨rfl, hcn⟩ := g4 (by omega)
    have hp := digs_len_pos (n := n) (by omega)
    rw [if_neg (by omega), show c.toNat - F - 55 = (digs n).length by omega, List.take_left' rfl, num_digs, if_neg ?_, if_neg (by omega)]
    · simp; omega
    · rintro (h | h | h)
      · omega
      · simp at h; omega
      · cases hd : digs n with
        | nil => rw [hd] at hp; simp at hp
        | cons a l => rw [hd] at h; simp at h; exact digs_head n a l hd h

theorem cutP_some {s : Bytes} {is : Bool} {f t : Nat} (h : cutP s = some (is, f, t)) :
    (is = false ∧ f = 0 ∧ t = 1 ∧ ∃ c r, s = c :: r ∧ c.toNat < 128) ∨
    (1 ≤ f ∧ f ≤ t ∧ t - f < 65536 ∧ s = headP (if is then 192 else 128) (t - f) ++ s.drop f ∧ (headP (if is then 192 else 128) (t - f)).length = f) := by
  cases s with
  | nil => cases h
  | cons c r =>
    simp only [cutP] at h
    by_cases h1 : c.toNat < 128
    · rw [if_pos h1] at h
      simp at h
      obtain ⟨rfl, rfl, rfl⟩ := h
      exact .inl ⟨rfl, rfl, rfl, c, r, rfl, h1⟩
    · rw [if_neg h1] at h
      have hlt := c.toNat_lt
      obtain ⟨F, hFe, hFc, hF2⟩ : ∃ F, (if decide (192 ≤ c.toNat) = true then 192 else 128) = F ∧ F ≤ c.toNat ∧ (F = 128 ∨ F = 192) := by
        by_cases h2 : 192 ≤ c.toNat
        · exact ⟨192, by rw [decide_eq_true h2]; rfl, h2, .inr rfl⟩
        · exact ⟨128, by rw [decide_eq_false h2]; rfl, by omega, .inl rfl⟩
      have hF63 : c.toNat ≤ F + 63 := by
        by_cases h2 : 192 ≤ c.toNat
        · rw [decide_eq_true h2] at hFe; simp at hFe; omega
        · rcases hF2 with rfl | rfl <;> omega
      rw [hFe] at h
      by_cases h55 : c.toNat - F ≤ 55
      · rw [if_pos h55] at h
        simp at h
        obtain ⟨rfl, rfl, rfl⟩ := h
        rw [hFe, Nat.add_sub_cancel_left]
        have hh : headP F (c.toNat - F) = [c] := by
          unfold headP; rw [if_pos h55, show F + (c.toNat - F) = c.toNat by omega]; simp
        exact .inr ⟨by omega, by omega, by omega, by rw [hh]; rfl, by rw [hh]; rfl⟩
      · rw [if_neg h55] at h
        by_cases hbad : 2 < c.toNat - F - 55 ∨ r.length < c.toNat - F - 55 ∨ r.headD 0 = 0
        · rw [if_pos hbad] at h; cases h
        · rw [if_neg hbad] at h
          have hb1 : c.toNat - F - 55 ≤ 2 := by omega
          have hb2 : c.toNat - F - 55 ≤ r.length := by omega
          have hb3 : r.headD 0 ≠ 0 := fun e => hbad (.inr (.inr e))
          generalize hz : c.toNat - F - 55 = z at *
          by_cases hm : num (r.take z) ≤ 55
          · rw [if_pos hm] at h; cases h
          · rw [if_neg hm] at h
            simp at h
            obtain ⟨rfl, rfl, rfl⟩ := h
            have hnl := num_lt (r.take z)
            rw [List.length_take, Nat.min_eq_left hb2] at hnl
            have hz2 : (256 : Nat) ^ z ≤ 256 ^ 2 := Nat.pow_le_pow_right (by omega) hb1
            have hdg : digs (num (r.take z)) = r.take z := digs_num _ (by
              intro a l e
              cases r with
              | nil => simp at e
              | cons b r =>
                cases z with
                | zero => simp at e
                | succ z => simp at e; simp at hb3; rw [← e.1]; exact hb3)
            have hdl : (digs (num (r.take z))).length = z := by rw [hdg, List.length_take, Nat.min_eq_left hb2]
            rw [hFe, Nat.add_sub_cancel_left]
            have hh : headP F (num (r.take z)) = c :: r.take z := by
              unfold headP; rw [if_neg hm, hdg, List.length_take, Nat.min_eq_left hb2, show F + 55 + z = c.toNat by omega]; simp
            refine .inr ⟨by omega, by omega, by omega, ?_, ?_⟩
            · rw [hh, Nat.add_comm 1 z]; simp
            · rw [hh]; simp; omega

/-- the head of an item that is written -/
theorem cutP_write {x : Item} (hx : pureP x = true) (hl : (writeP x).length < 65536) (r : Bytes) :
    (x.l = true ∧ ∃ H, cutP (writeP x ++ r) = some (true, H, H + (writesP x.ks).length) ∧ H + (writesP x.ks).length = (writeP x).length ∧ (writeP x ++ r).drop H = writesP x.ks ++ r) ∨
    (x.l = false ∧ ∃ c, x.b = [c] ∧ c.toNat < 128 ∧ cutP (writeP x ++ r) = some (false, 0, 1) ∧ writeP x = [c]) ∨
    (x.l = false ∧ ¬ (x.b.length = 1 ∧ (x.b.headD 0).toNat < 128) ∧ ∃ H, 1 ≤ H ∧ cutP (writeP x ++ r) = some (false, H, H + x.b.length) ∧ H + x.b.length = (writeP x).length ∧ (writeP x ++ r).drop H = x.b ++ r) := by
  obtain ⟨l, b, ks⟩ := x
  cases l with
  | true =>
    simp only [writeP, Item.l, Item.ks] at hl ⊢
    rw [List.length_append] at hl
    refine .inl ⟨trivial, (headP 192 (writesP ks).length).length, ?_, by rw [List.length_append], ?_⟩
    · rw [List.append_assoc, cutP_head (.inr rfl) (by omega)]; rfl
    · rw [List.append_assoc, List.drop_left' rfl]
  | false =>
    simp only [Item.l, Item.b]
    by_cases h1 : b.length = 1 ∧ (b.headD 0).toNat < 128
    · obtain ⟨c, rfl⟩ : ∃ c, b = [c] := by
        match b, h1.1 with
        | [c], _ => exact ⟨c, rfl⟩
      have h2 := h1.2
      simp at h2
      refine .inr (.inl ⟨trivial, c, rfl, h2, ?_, ?_⟩)
      · simp only [writeP]; rw [if_pos h1]; exact cutP_low _ h2
      · simp only [writeP]; rw [if_pos h1]
    · have hw : writeP (.mk false b ks) = headP 128 b.length ++ b := by simp only [writeP]; rw [if_neg h1]
      rw [hw] at hl ⊢
      rw [List.length_append] at hl
      refine .inr (.inr ⟨trivial, h1, (headP 128 b.length).length, headP_len _ _, ?_, by rw [List.length_append], ?_⟩)
      · rw [List.append_assoc, cutP_head (.inl rfl) (by omega)]; rfl
      · rw [List.append_assoc, List.drop_left' rfl]

/-- some items, written, that others begin with -/
theorem writesP_split : ∀ (a c : List Item) (b : Bytes), puresP a = true → puresP c = true → (writesP c).length < 65536 → writesP a ++ b = writesP c → ∃ d, c = a ++ d ∧ b = writesP d ∧ puresP d = true
  | [], c, b, _, hc, _, h => ⟨c, rfl, by simpa [writesP] using h, hc⟩
  | k :: a, [], b, _, _, _, h => by
    exfalso
    have h1 := writeP_len k
    have h2 := congrArg List.length h
    simp only [writesP, List.length_append, List.length_nil] at h2; omega
  | k :: a, k' :: c, b, ha, hc, hl, h => by
    simp only [puresP, Bool.and_eq_true] at ha hc
    simp only [writesP, List.length_append] at hl
    have hk : (writeP k).length < 65536 := by
      have h2 := congrArg List.length h
      simp only [writesP, List.length_append] at h2; omega
    simp only [writesP, List.append_assoc] at h
    obtain ⟨rfl, h3⟩ := writeP_inj k k' _ _ ha.1 hc.1 hk (by omega) h
    obtain ⟨d, rfl, hb, hd⟩ := writesP_split a c b ha.2 hc.2 (by omega) h3
    exact ⟨d, rfl, hb, hd⟩

/-- no item stands first -/
def NoItem (s : Bytes) : Prop := ∀ x r, pureP x = true → s ≠ writeP x ++ r

theorem noItem_cut {s : Bytes} (hs : s.length < 65536) (h : cutP s = none) : NoItem s := by
  rintro x r hx rfl
  have hl : (writeP x).length < 65536 := by rw [List.length_append] at hs; omega
  rcases cutP_write hx hl r with ⟨_, H, e, _⟩ | ⟨_, c, _, _, e, _⟩ | ⟨_, _, H, _, e, _⟩ <;> rw [h] at e <;> cases e
theorem noItem_long {s : Bytes} {is : Bool} {f t : Nat} (hs : s.length < 65536) (h : cutP s = some (is, f, t)) (ht : s.length < t) : NoItem s := by
  rintro x r hx rfl
  have hl : (writeP x).length < 65536 := by rw [List.length_append] at hs; omega
  rw [List.length_append] at ht
  rcases cutP_write hx hl r with ⟨_, H, e, e2, _⟩ | ⟨_, c, _, _, e, e2⟩ | ⟨_, _, H, _, e, e2, _⟩
  · rw [h] at e; simp at e; omega
  · rw [h] at e; simp at e; rw [e2] at ht; simp at ht; omega
  · rw [h] at e; simp at e; omega
/-- bytes that could stand for themselves -/
theorem noItem_byte {s : Bytes} {t : Nat} (hs : s.length < 65536) (h : cutP s = some (false, 1, t)) (ht : t ≤ s.length) (h1 : ((s.take t).drop 1).length = 1) (h2 : (((s.take t).drop 1).headD 0).toNat < 128) : NoItem s := by
  rintro x r hx rfl
  have hl : (writeP x).length < 65536 := by rw [List.length_append] at hs; omega
  rcases cutP_write hx hl r with ⟨_, H, e, e2, _⟩ | ⟨_, c, _, _, e, e2⟩ | ⟨_, hn, H, _, e, e2, e3⟩
  · rw [h] at e; simp at e
  · rw [h] at e; simp at e
  · rw [h] at e; simp at e
    obtain ⟨rfl, rfl⟩ := e
    have hb : ((writeP x ++ r).take (1 + x.b.length)).drop 1 = x.b := by
      rw [List.drop_take, e3, Nat.add_sub_cancel_left, List.take_left' rfl]
    rw [hb] at h1 h2
    exact hn ⟨h1, h2⟩
/-- bytes that stand first -/
theorem leaf_here {s : Bytes} {f t : Nat} (h : cutP s = some (false, f, t)) (ht : t ≤ s.length) (hn : ¬ (f = 1 ∧ ((s.take t).drop f).length = 1 ∧ (((s.take t).drop f).headD 0).toNat < 128)) :
    s = writeP (.mk false ((s.take t).drop f) []) ++ s.drop t := by
  rcases cutP_some h with ⟨_, rfl, rfl, c, r, rfl, hc⟩ | ⟨h1, h2, h3, h4, h5⟩
  · simp [writeP, hc]
  · simp only [Bool.false_eq_true, if_false] at h4 h5
    have hlen : ((s.take t).drop f).length = t - f := by rw [List.length_drop, List.length_take]; omega
    have hw : writeP (.mk false ((s.take t).drop f) []) = headP 128 (t - f) ++ (s.take t).drop f := by
      simp only [writeP]
      rw [if_neg, hlen]
      rintro ⟨g1, g2⟩
      refine hn ⟨?_, g1, g2⟩
      rw [hlen] at g1
      rw [← h5, g1]; rfl
    rw [hw, List.append_assoc]
    conv => lhs; rw [h4]
    congr 1
    rw [List.drop_take]
    conv => lhs; rw [← List.take_append_drop (t - f) (s.drop f)]
    congr 1
    rw [List.drop_drop]; congr 1; omega
/-- a list that stands first -/
theorem list_here {s : Bytes} {f t : Nat} {ks : List Item} (h : cutP s = some (true, f, t)) (ht : t ≤ s.length) (hk : (s.take t).drop f = writesP ks) : s = writeP (.mk true [] ks) ++ s.drop t := by
  rcases cutP_some h with ⟨h0, _⟩ | ⟨h1, h2, h3, h4, h5⟩
  · cases h0
  · simp only [if_true] at h4 h5
    have hlen : (writesP ks).length = t - f := by rw [← hk, List.length_drop, List.length_take]; omega
    simp only [writeP]
    rw [hlen, List.append_assoc]
    conv => lhs; rw [h4]
    congr 1
    rw [← hk, List.drop_take]
    conv => lhs; rw [← List.take_append_drop (t - f) (s.drop f)]
    congr 1
    rw [List.drop_drop]; congr 1; omega
/-- where an item in a list is none, the list is none -/
theorem noItem_kid {s body : Bytes} {f t : Nat} {ks : List Item} (hs : s.length < 65536) (h : cutP s = some (true, f, t)) (ht : t ≤ s.length) (hp : puresP ks = true) (hk : (s.take t).drop f = writesP ks ++ body) (hb : body ≠ []) (hn : NoItem body) : NoItem s := by
  rintro x r hx rfl
  have hl : (writeP x).length < 65536 := by rw [List.length_append] at hs; omega
  rcases cutP_write hx hl r with ⟨hxl, H, e, e2, e3⟩ | ⟨_, c, _, _, e, e2⟩ | ⟨_, _, H, _, e, e2, e3⟩
  · rw [h] at e; simp at e
    obtain ⟨rfl, rfl⟩ := e
    have hbb : ((writeP x ++ r).take (f + (writesP x.ks).length)).drop f = writesP x.ks := by
      rw [List.drop_take, e3, Nat.add_sub_cancel_left, List.take_left' rfl]
    rw [hbb] at hk
    have hpx : puresP x.ks = true := by rw [pureP_eq] at hx; simp at hx; exact hx.2
    obtain ⟨d, hd, hbd, hpd⟩ := writesP_split ks x.ks body hp hpx (by omega) hk.symm
    cases d with
    | nil => exact hb (by rw [hbd]; rfl)
    | cons k d =>
      simp only [puresP, Bool.and_eq_true] at hpd
      exact hn k (writesP d) hpd.1 (by rw [hbd]; rfl)
  · rw [h] at e; simp at e
  · rw [h] at e; simp at e

end Go.Proofs.Ytggiicbjegmehaa
