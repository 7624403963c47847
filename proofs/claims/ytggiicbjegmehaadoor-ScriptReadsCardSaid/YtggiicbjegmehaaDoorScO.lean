/- What a line tells, in plain Lean; strings.Split at a blank, the index of a kind's word. -/
import Derived.Test.YtggiicbjegmehaaDoorScN
namespace Go.Proofs.YtggiicbjegmehaaDoor
set_option linter.unusedVariables false
set_option linter.unusedSimpArgs false
open Go.RowKit

/-- a text at all its blanks -/
def splitP (s : Bytes) : List Bytes := Lib.splitK [32] 0 (Lib.count s [32]) s
theorem splitB_list (s : Bytes) : ((Lib.splitB (bs [32]) 0 (Lib.countB (bs s) (bs [32])) (bs s)).map Value.string) = strC (splitP s) := by
  have h := Lib.splitB_data (bs [32]) 0 (Lib.countB (bs s) (bs [32])) (bs s)
  have e : splitP s = (Lib.splitB (bs [32]) 0 (Lib.countB (bs s) (bs [32])) (bs s)).map (·.data.toList) := h.symm
  rw [e, strC, List.map_map]
  refine List.map_congr_left fun a _ => ?_
  simp [bs]
theorem splitP_len (s : Bytes) : (splitP s).length = Lib.countB (bs s) (bs [32]) + 1 := by
  have h := Lib.splitB_all (bs [32]) (by decide) 0 _ (bs s) rfl
  have e := congrArg List.length (splitB_list s)
  rw [List.length_map, strC_len] at e
  omega
theorem splitP_pos (s : Bytes) : 0 < (splitP s).length := by rw [splitP_len]; omega
theorem splitP_le (s : Bytes) : (splitP s).length ≤ s.length + 1 := by
  rw [splitP_len]
  have := Lib.countB_le (bs [32]) (by decide) _ (bs s) (Nat.le_refl _)
  rw [size_bs] at this
  omega
theorem splitK_piece (sep : Bytes) : ∀ (k : Nat) (s : Bytes), ∀ p ∈ Lib.splitK sep 0 k s, p.length ≤ s.length
  | 0, s, p, h => by rw [Lib.splitK, List.mem_singleton] at h; rw [h]; exact Nat.le_refl _
  | k + 1, s, p, h => by
    rw [Lib.splitK] at h
    split at h
    · rw [List.mem_singleton] at h; rw [h]; exact Nat.le_refl _
    · rcases List.mem_cons.1 h with rfl | h
      · simp [List.length_take]; omega
      · have := splitK_piece sep k _ p h
        rw [List.length_drop] at this
        omega
theorem splitP_piece (s p : Bytes) (h : p ∈ splitP s) : p.length ≤ s.length := splitK_piece _ _ _ _ h
theorem splitP_join (p : Bytes) (l : List Bytes) (h : ∀ q ∈ p :: l, (32 : UInt8) ∉ q) : splitP (Lib.join (p :: l) [32]) = p :: l := by
  unfold splitP
  rw [Lib.count_one, count_join 32 l p h]
  exact split_join 32 l p h

theorem split_any (s : Bytes) (hs : s.length ≤ 100000000) (w : World) (he : Env w) :
    Calls Tryd.prog 18 #[.string (bs s), .string ⟨#[32]⟩] w fun e w' => (∃ A, e = .returned (.slice A (splitP s).length (splitP s).length) ∧ StrV Any w' (splitP s) A (splitP s).length) ∧ Below w.heap.size w w' := by
  refine (strings_Split_shaped (bs s) (bs [32]) w he.shaped (by rw [size_bs]; omega) (by decide)).mono ?_
  rintro e w1 ⟨rfl, rfl⟩
  rw [splitB_list s, ← splitP_len s]
  have hle := splitP_le s
  refine ⟨⟨_, rfl, strV_of (lies_new w (strC (splitP s)).toArray _) (Nat.le_refl _) (by simp only [maxLen]; omega)⟩, ?_⟩
  exact (Below.refl _ _).alloc (Nat.le_refl _) _

/-- the kind that a word names; 0: none -/
def kindP (x : Bytes) : Int := Lib.idxOfS (wordsP.map bs) (bs x) + 1
theorem idxFrom_ge (x : ByteArray) : ∀ (zs : List ByteArray) (i : Nat), -1 ≤ Lib.idxFromS zs x i ∧ Lib.idxFromS zs x i < i + zs.length + 1 := by
  intro zs
  induction zs with
  | nil => intro i; simp [Lib.idxFromS]; omega
  | cons a l ih =>
    intro i
    have := ih (i + 1)
    simp only [Lib.idxFromS, List.length_cons]
    split <;> omega
theorem kindP_range (x : Bytes) : 0 ≤ kindP x ∧ kindP x ≤ 10 := by
  have := idxFrom_ge (bs x) (wordsP.map bs) 0
  unfold kindP Lib.idxOfS
  simp only [List.length_map] at this
  have e : wordsP.length = 9 := rfl
  omega
theorem kindP_word {k : Int} (h1 : 1 ≤ k) (h2 : k ≤ 9) : kindP (wordP k) = k := by
  have : k = 1 ∨ k = 2 ∨ k = 3 ∨ k = 4 ∨ k = 5 ∨ k = 6 ∨ k = 7 ∨ k = 8 ∨ k = 9 := by omega
  rcases this with rfl | rfl | rfl | rfl | rfl | rfl | rfl | rfl | rfl <;> decide +kernel

/-- what a line tells, as it stands -/
def deedP (s : Bytes) : Dd :=
  let ps := splitP s
  let k := kindP (ps.getD 0 [])
  let last := ps.getD (ps.length - 1) []
  if k = 5 then ⟨k, getI ps 1, getI ps 2, 0, 0, 0, false, []⟩
  else if k = 7 then ⟨k, getI ps 1, getI ps 3, getI ps 2, getU ps 4, getU ps 5, false, []⟩
  else if k = 8 then ⟨k, getI ps 1, 0, getI ps 2, 0, 0, last == [105, 110], []⟩
  else if k = 9 then ⟨k, getI ps 1, 0, 0, 0, 0, false, unP last []⟩
  else ⟨k, getI ps 1, 0, 0, 0, 0, false, []⟩
theorem getU_dec {ps : List Bytes} {i : Nat} {n : Int} (h : ps[i]? = some (decI n)) (hn : 0 ≤ n ∧ n ≤ 18446744073709551615) : getU ps i = n := by
  unfold getU
  rw [h]
  show (numB (decB n.toNat) : Int) = n
  unfold numB
  rw [parse_dec _ (by omega)]
  simp only []
  omega
theorem getI_dec {ps : List Bytes} {i : Nat} {n : Int} (h : ps[i]? = some (decI n)) (hn : 0 ≤ n ∧ n ≤ 9223372036854775807) : getI ps i = n := by
  unfold getI
  rw [h]
  show (if numB (decB n.toNat) ≤ _ then (numB (decB n.toNat) : Int) else 0) = n
  have e : numB (decB n.toNat) = n.toNat := by unfold numB; rw [parse_dec _ (by omega)]
  rw [e, if_pos (by omega)]
  omega
theorem getU_range (ps : List Bytes) (i : Nat) : 0 ≤ getU ps i ∧ getU ps i ≤ 18446744073709551615 := by
  unfold getU
  split
  · omega
  · unfold numB
    split
    · rename_i h; have := parseB_le h; omega
    · omega
theorem getI_range (ps : List Bytes) (i : Nat) : 0 ≤ getI ps i ∧ getI ps i ≤ 9223372036854775807 := by
  unfold getI
  split
  · omega
  · split <;> omega
theorem deedP_wf (s : Bytes) : WfD (deedP s) := by
  have hk := kindP_range ((splitP s).getD 0 [])
  have h1 := getI_range (splitP s) 1
  have h2 := getI_range (splitP s) 2
  have h3 := getI_range (splitP s) 3
  have h4 := getU_range (splitP s) 4
  have h5 := getU_range (splitP s) 5
  unfold deedP
  simp only []
  repeat' split
  all_goals exact ⟨by simp only []; omega, by simp only []; omega, by simp only []; omega, by simp only []; omega, by simp only []; omega, by simp only []; omega⟩
theorem unP_len : ∀ (s acc : Bytes), (unP s acc).length ≤ acc.length + s.length
  | [], acc => by simp [unP]
  | [x], acc => by simp [unP]
  | x :: y :: r, acc => by
    rw [unP]
    split
    · simp
    · have := unP_len r (acc ++ [UInt8.ofNat (16 * (idxH x).toNat + (idxH y).toNat)])
      simp only [List.length_append, List.length_cons, List.length_nil] at this ⊢
      omega
theorem last_mem (s : Bytes) : (splitP s).getD ((splitP s).length - 1) [] ∈ splitP s := by
  have h := splitP_pos s
  rw [List.getD_eq_getElem?_getD, List.getElem?_eq_getElem (by omega)]
  exact List.getElem_mem _
theorem deedP_b (s : Bytes) : (deedP s).b.length ≤ s.length := by
  have h1 := unP_len ((splitP s).getD ((splitP s).length - 1) []) []
  have h2 := splitP_piece s _ (last_mem s)
  simp only [List.length_nil] at h1
  unfold deedP
  simp only []
  repeat' split
  all_goals simp only [List.length_nil]; omega
theorem dec_no (n : Int) (c : UInt8) (h : c.toNat < 48 ∨ 57 < c.toNat) : c ∉ decI n := fun hc => by
  have := dec_digits n.toNat c hc
  omega
theorem hex_no (b : Bytes) (c : UInt8) (h : c.toNat < 48) : c ∉ hexedP b := fun hc => by
  unfold hexedP at hc
  rw [List.mem_flatMap] at hc
  obtain ⟨x, _, hx⟩ := hc
  have h0 : ∀ n : Fin 16, 48 ≤ (hexP n.val).toNat := by decide
  have hx1 := x.toNat_lt
  have e1 := h0 ⟨x.toNat / 16, by omega⟩
  have e2 := h0 ⟨x.toNat % 16, by omega⟩
  simp only [List.mem_cons, List.mem_nil_iff, or_false] at hx
  rcases hx with rfl | rfl <;> simp only [] at e1 e2 <;> omega
theorem bytes_no (b : Bytes) (c : UInt8) (h : c.toNat < 45) : c ∉ bytesP b := by
  unfold bytesP
  split
  · intro hc; rw [List.mem_singleton] at hc; subst hc; revert h; decide
  · exact hex_no b c (by omega)
theorem word_no {k : Int} (h1 : 1 ≤ k) (h2 : k ≤ 9) (c : UInt8) (h : c.toNat < 97) : c ∉ wordP k := by
  have : k = 1 ∨ k = 2 ∨ k = 3 ∨ k = 4 ∨ k = 5 ∨ k = 6 ∨ k = 7 ∨ k = 8 ∨ k = 9 := by omega
  have e : ∀ x ∈ wordP k, 97 ≤ x.toNat := by
    rcases this with rfl | rfl | rfl | rfl | rfl | rfl | rfl | rfl | rfl <;> decide
  intro hc
  have := e c hc
  omega
/-- no piece of a deed's line has a byte that parts words or lines -/
theorem fields_no (d : Dd) (c : UInt8) (h : c.toNat < 45) : ∀ q ∈ fieldsD d, c ∉ q := by
  have hd := fun n => dec_no n c (.inl (by omega))
  intro q hq
  unfold fieldsD at hq
  split at hq
  · simp at hq; subst hq; exact hd _
  split at hq
  · simp at hq; rcases hq with rfl | rfl | rfl | rfl <;> exact hd _
  split at hq
  · simp at hq
    rcases hq with rfl | rfl
    · exact hd _
    · intro hc
      have e : ∀ x ∈ (if d.ad = true then [105, 110] else [111, 117, 116] : Bytes), 97 ≤ x.toNat := by cases d.ad <;> decide
      have := e c hc
      omega
  split at hq
  · simp at hq; subst hq; exact bytes_no _ c h
  · cases hq
theorem line_split {d : Dd} (hok : okD d = true) : splitP (lineP d) = wordP d.k :: decI d.a :: fieldsD d := by
  obtain ⟨h1, h2, _⟩ := okD_ranges hok
  refine splitP_join _ _ fun q hq => ?_
  rcases List.mem_cons.1 hq with rfl | hq
  · exact word_no h1 h2 32 (by decide)
  rcases List.mem_cons.1 hq with rfl | hq
  · exact dec_no _ 32 (.inl (by decide))
  · exact fields_no d 32 (by decide) q hq
theorem okD_plain {d : Dd} (hok : okD d = true) : (d.k ≠ 5 → d.k ≠ 7 → d.m = 0) ∧ (d.k ≠ 7 → d.k ≠ 8 → d.t = 0) ∧ (d.k ≠ 7 → d.n = 0 ∧ d.c = 0) ∧ (d.k ≠ 8 → d.ad = false) ∧ (d.k ≠ 9 → d.b = []) := by
  unfold okD at hok
  rw [Bool.and_eq_true, decide_eq_true_eq, decide_eq_true_eq] at hok
  exact hok.2.2
theorem unP_bytes (b : Bytes) : unP (bytesP b) [] = b := by
  unfold bytesP
  split
  · rename_i h; subst h; rfl
  · rw [unP_hexed]; rfl
/-- a deed that may be is told by its line -/
theorem deedP_line {d : Dd} (hw : WfD d) (hok : okD d = true) : deedP (lineP d) = d := by
  obtain ⟨h1, h2, h3, h4, h5, h6, h7, h8, h9⟩ := okD_ranges hok
  obtain ⟨p1, p2, p3, p4, p5⟩ := okD_plain hok
  have hn := hw.n
  have hc := hw.c
  have hs := line_split hok
  unfold deedP
  simp only [hs]
  have hk : kindP ((wordP d.k :: decI d.a :: fieldsD d).getD 0 []) = d.k := kindP_word h1 h2
  have ha : getI (wordP d.k :: decI d.a :: fieldsD d) 1 = d.a := getI_dec rfl (by omega)
  rw [hk, ha]
  obtain ⟨k, a, m, t, n, c, ad, b⟩ := d
  simp only [] at h1 h2 h3 h4 h5 h6 h7 h8 h9 p1 p2 p3 p4 p5 hn hc ⊢
  by_cases k5 : k = 5
  · subst k5
    rw [if_pos rfl, getI_dec (n := m) rfl (by omega)]
    rw [p2 (by decide) (by decide), (p3 (by decide)).1, (p3 (by decide)).2, p4 (by decide), p5 (by decide)]
  rw [if_neg k5]
  by_cases k7 : k = 7
  · subst k7
    rw [if_pos rfl, getI_dec (i := 2) (n := t) rfl (by omega), getI_dec (i := 3) (n := m) rfl (by omega), getU_dec (i := 4) (n := n) rfl (by omega), getU_dec (i := 5) (n := c) rfl (by omega)]
    rw [p4 (by decide), p5 (by decide)]
  rw [if_neg k7]
  obtain ⟨rfl, rfl⟩ := p3 k7
  obtain rfl := p1 k5 k7
  by_cases k8 : k = 8
  · subst k8
    rw [if_pos rfl, getI_dec (i := 2) (n := t) rfl (by omega), p5 (by decide)]
    cases ad <;> rfl
  rw [if_neg k8]
  obtain rfl := p4 k8
  obtain rfl := p2 k7 k8
  by_cases k9 : k = 9
  · subst k9
    rw [if_pos rfl]
    have e : (wordP 9 :: decI a :: fieldsD ⟨9, a, 0, 0, 0, 0, false, b⟩).getD ((wordP 9 :: decI a :: fieldsD ⟨9, a, 0, 0, 0, 0, false, b⟩).length - 1) [] = bytesP b := rfl
    rw [e, unP_bytes]
  rw [if_neg k9]
  obtain rfl := p5 k9
  rfl
end Go.Proofs.YtggiicbjegmehaaDoor
