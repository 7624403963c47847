/- What the document reads and writes, in plain Lean: the same. -/
import Derived.Test.YtggiicbjegmehaaDoorScS
namespace Go.Proofs.YtggiicbjegmehaaDoor
set_option linter.unusedVariables false
set_option linter.unusedSimpArgs false

/-- a small word's number, or 0 -/
def smallP (ps : List Bytes) (i : Nat) : Int := match ps[i]? with | none => 0 | some s => if numB s ≤ 1000000 then (numB s : Int) else 0
def digitP (c : UInt8) : Nat := if 97 ≤ c.toNat ∧ c.toNat ≤ 102 then c.toNat - 87 else c.toNat % 16
theorem digitP_lt (c : UInt8) : digitP c < 16 := by
  unfold digitP; split <;> omega
def runP : Bytes → Bytes
  | x :: y :: r => UInt8.ofNat (16 * digitP x + digitP y) :: runP r
  | _ => []
/-- the last kind with that word, among the first i -/
def kinds10 : List Bytes := [] :: wordsP
def lastP (x : Bytes) : Nat → Int
  | 0 => 0
  | i + 1 => if 0 < i ∧ kinds10[i]? = some x then (i : Int) else lastP x i
theorem lastP_kind (x : Bytes) : lastP x 10 = kindP x := by
  by_cases h : x ∈ wordsP
  · have e : ∀ y ∈ wordsP, lastP y 10 = kindP y := by decide +kernel
    exact e x h
  · have h1 : kindP x = 0 := by
      have e : ∀ (zs : List Bytes) (i : Nat), x ∉ zs → Lib.idxFromS (zs.map bs) (bs x) i = -1 := by
        intro zs
        induction zs with
        | nil => intro i _; rfl
        | cons a l ih =>
          intro i hx
          have ha : ¬ bs a = bs x := fun e => hx (by rw [bs_inj e]; exact List.mem_cons_self ..)
          rw [List.map_cons, Lib.idxFromS, ih (i + 1) (fun e => hx (List.mem_cons_of_mem _ e))]
          simp [ha]
      unfold kindP Lib.idxOfS
      rw [e wordsP 0 h]
      rfl
    have h2 : ∀ i, lastP x i = 0 := by
      intro i
      induction i with
      | zero => rfl
      | succ i ih =>
        rw [lastP, if_neg, ih]
        rintro ⟨h0, h1⟩
        cases i with
        | zero => omega
        | succ i => exact h (List.mem_of_getElem? (by simpa [kinds10] using h1))
    rw [h1, h2]
/-- what a line tells, as the document has it -/
def rdeedP (s : Bytes) : Dd :=
  let ps := splitP s
  let k := kindP (ps.getD 0 [])
  let last := ps.getD (ps.length - 1) []
  if k = 5 then ⟨k, smallP ps 1, smallP ps 2, 0, 0, 0, false, []⟩
  else if k = 7 then ⟨k, smallP ps 1, smallP ps 3, smallP ps 2, getU ps 4, getU ps 5, false, []⟩
  else if k = 8 then ⟨k, smallP ps 1, 0, smallP ps 2, 0, 0, last == [105, 110], []⟩
  else if k = 9 then ⟨k, smallP ps 1, 0, 0, 0, 0, false, runP last⟩
  else ⟨k, smallP ps 1, 0, 0, 0, 0, false, []⟩
theorem smallP_dec {ps : List Bytes} {i : Nat} {n : Int} (h : ps[i]? = some (decI n)) (hn : 0 ≤ n ∧ n ≤ 1000000) : smallP ps i = n := by
  unfold smallP
  rw [h]
  show (if numB (decB n.toNat) ≤ _ then (numB (decB n.toNat) : Int) else 0) = n
  have e : numB (decB n.toNat) = n.toNat := by unfold numB; rw [parse_dec _ (by omega)]
  rw [e, if_pos (by omega)]
  omega
theorem smallP_range (ps : List Bytes) (i : Nat) : 0 ≤ smallP ps i ∧ smallP ps i ≤ 1000000 := by
  unfold smallP
  split
  · omega
  · split <;> omega
theorem rdeedP_wf (s : Bytes) : WfD (rdeedP s) := by
  have hk := kindP_range ((splitP s).getD 0 [])
  have h1 := smallP_range (splitP s) 1
  have h2 := smallP_range (splitP s) 2
  have h3 := smallP_range (splitP s) 3
  have h4 := getU_range (splitP s) 4
  have h5 := getU_range (splitP s) 5
  unfold rdeedP
  simp only []
  repeat' split
  all_goals exact ⟨by simp only []; omega, by simp only []; omega, by simp only []; omega, by simp only []; omega, by simp only []; omega, by simp only []; omega⟩
theorem runP_len : ∀ s : Bytes, (runP s).length ≤ s.length
  | [] => by simp [runP]
  | [x] => by simp [runP]
  | x :: y :: r => by
    have := runP_len r
    rw [runP]; simp only [List.length_cons]; omega
theorem rdeedP_b (s : Bytes) : (rdeedP s).b.length ≤ s.length := by
  have h1 := runP_len ((splitP s).getD ((splitP s).length - 1) [])
  have h2 := splitP_piece s _ (last_mem s)
  unfold rdeedP
  simp only []
  repeat' split
  all_goals simp only [List.length_nil]; omega
theorem digit_hex (n : Nat) (h : n < 16) : digitP (hexP n) = n := by
  have h0 : ∀ n : Fin 16, digitP (hexP n.val) = n.val := by decide +kernel
  exact h0 ⟨n, h⟩
theorem runP_hexed : ∀ b : Bytes, runP (hexedP b) = b
  | [] => rfl
  | x :: b => by
    have hx := x.toNat_lt
    have e : hexedP (x :: b) = hexP (x.toNat / 16) :: hexP (x.toNat % 16) :: hexedP b := rfl
    rw [e, runP, digit_hex _ (by omega), digit_hex _ (by omega), runP_hexed b, Nat.div_add_mod]
    simp
theorem runP_bytes (b : Bytes) : runP (bytesP b) = b := by
  unfold bytesP
  split
  · rename_i h; subst h; rfl
  · exact runP_hexed b
/-- a deed that may be is told by its line -/
theorem rdeedP_line {d : Dd} (hw : WfD d) (hok : okD d = true) : rdeedP (lineP d) = d := by
  obtain ⟨h1, h2, h3, h4, h5, h6, h7, h8, h9⟩ := okD_ranges hok
  obtain ⟨p1, p2, p3, p4, p5⟩ := okD_plain hok
  have hn := hw.n
  have hc := hw.c
  have hs := line_split hok
  unfold rdeedP
  simp only [hs]
  have hk : kindP ((wordP d.k :: decI d.a :: fieldsD d).getD 0 []) = d.k := kindP_word h1 h2
  have ha : smallP (wordP d.k :: decI d.a :: fieldsD d) 1 = d.a := smallP_dec rfl (by omega)
  rw [hk, ha]
  obtain ⟨k, a, m, t, n, c, ad, b⟩ := d
  simp only [] at h1 h2 h3 h4 h5 h6 h7 h8 h9 p1 p2 p3 p4 p5 hn hc ⊢
  by_cases k5 : k = 5
  · subst k5
    rw [if_pos rfl, smallP_dec (n := m) rfl (by omega)]
    rw [p2 (by decide) (by decide), (p3 (by decide)).1, (p3 (by decide)).2, p4 (by decide), p5 (by decide)]
  rw [if_neg k5]
  by_cases k7 : k = 7
  · subst k7
    rw [if_pos rfl, smallP_dec (i := 2) (n := t) rfl (by omega), smallP_dec (i := 3) (n := m) rfl (by omega), getU_dec (i := 4) (n := n) rfl (by omega), getU_dec (i := 5) (n := c) rfl (by omega)]
    rw [p4 (by decide), p5 (by decide)]
  rw [if_neg k7]
  obtain ⟨rfl, rfl⟩ := p3 k7
  obtain rfl := p1 k5 k7
  by_cases k8 : k = 8
  · subst k8
    rw [if_pos rfl, smallP_dec (i := 2) (n := t) rfl (by omega), p5 (by decide)]
    cases ad <;> rfl
  rw [if_neg k8]
  obtain rfl := p4 k8
  obtain rfl := p2 k7 k8
  by_cases k9 : k = 9
  · subst k9
    rw [if_pos rfl]
    have e : (wordP 9 :: decI a :: fieldsD ⟨9, a, 0, 0, 0, 0, false, b⟩).getD ((wordP 9 :: decI a :: fieldsD ⟨9, a, 0, 0, 0, 0, false, b⟩).length - 1) [] = bytesP b := rfl
    rw [e, runP_bytes]
  rw [if_neg k9]
  obtain rfl := p5 k9
  rfl
/-- a line that is good by either reading is good by both, and tells the same -/
theorem rgoodL (no : Int) (t : Bytes) : (decide (no ≤ 401) && (okD (rdeedP t) && (lineP (rdeedP t) == t))) = goodL no t ∧ (goodL no t = true → rdeedP t = deedP t) := by
  have h1 : ∀ f : Bytes → Dd, (∀ x, WfD (f x)) → okD (f t) = true → lineP (f t) = t → rdeedP t = f t ∧ deedP t = f t := fun f hw ho hl => by
    have a := rdeedP_line (hw t) ho
    have b := deedP_line (hw t) ho
    rw [hl] at a b
    exact ⟨a, b⟩
  constructor
  · unfold goodL
    congr 1
    rw [Bool.eq_iff_iff]
    simp only [Bool.and_eq_true, beq_iff_eq]
    constructor
    · rintro ⟨a, b⟩
      have := (h1 rdeedP rdeedP_wf a b).2
      rw [this]; exact ⟨a, b⟩
    · rintro ⟨a, b⟩
      have := (h1 deedP deedP_wf a b).1
      rw [this]; exact ⟨a, b⟩
  · intro hg
    unfold goodL at hg
    rw [Bool.and_eq_true, Bool.and_eq_true, beq_iff_eq] at hg
    exact (h1 deedP deedP_wf hg.2.1 hg.2.2).1
/-- what a first line tells, as the document has it -/
def rheadP (t : Bytes) : Pl := ⟨smallP (splitP t) 1, smallP (splitP t) 2, getU (splitP t) 3, getU (splitP t) 4, []⟩
theorem rheadP_wf (t : Bytes) : WfP (rheadP t) := by
  have h1 := smallP_range (splitP t) 1
  have h2 := smallP_range (splitP t) 2
  have h3 := getU_range (splitP t) 3
  have h4 := getU_range (splitP t) 4
  exact ⟨by simp only [rheadP]; omega, by simp only [rheadP]; omega, h3, h4, fun d hd => by cases hd⟩
theorem rheadP_first {p : Pl} (hw : WfP p) (hok : okP p = true) : rheadP (firstP p) = withDs p [] := by
  have h := headOk_ranges (okP_parts hok).1
  have hh := hw.has
  unfold rheadP withDs
  rw [first_split, smallP_dec (n := p.many) (i := 1) rfl (by omega), smallP_dec (n := p.set) (i := 2) rfl (by omega), getU_dec (n := p.ep) (i := 3) rfl (by omega), getU_dec (n := p.has) (i := 4) rfl (by omega)]
theorem rgoodF (t : Bytes) : (okP (rheadP t) && (firstP (rheadP t) == t)) = goodF t ∧ (goodF t = true → rheadP t = headP t) := by
  have h1 : ∀ f : Bytes → Pl, (∀ x, WfP (f x)) → (∀ x, (f x).ds = []) → okP (f t) = true → firstP (f t) = t → rheadP t = f t ∧ headP t = f t := fun f hw hd ho hl => by
    have a := rheadP_first (hw t) ho
    have b := headP_first (hw t) ho
    rw [hl] at a b
    have e : withDs (f t) [] = f t := by
      have := hd t
      cases hf : f t
      rw [hf] at this
      simp only [withDs, this]
      simp only [] at this
      rw [this]
    rw [e] at a b
    exact ⟨a, b⟩
  constructor
  · unfold goodF
    rw [Bool.eq_iff_iff]
    simp only [Bool.and_eq_true, beq_iff_eq]
    constructor
    · rintro ⟨a, b⟩
      have := (h1 rheadP rheadP_wf (fun _ => rfl) a b).2
      rw [this]; exact ⟨a, b⟩
    · rintro ⟨a, b⟩
      have := (h1 headP headP_wf (fun _ => rfl) a b).1
      rw [this]; exact ⟨a, b⟩
  · intro hg
    unfold goodF at hg
    rw [Bool.and_eq_true, beq_iff_eq] at hg
    exact (h1 headP headP_wf (fun _ => rfl) hg.1 hg.2).1

/-- a split goes on behind a cut -/
theorem index_cutP (c : UInt8) : ∀ s : Bytes, Lib.index s [c] = if (cutP c s).2.2 = true then (((cutP c s).1.length : Nat) : Int) else -1
  | [] => by simp [Lib.index, cutP]
  | b :: s => by
    rcases cutP_spec c (b :: s) with ⟨h0, ⟨h1, h2⟩ | ⟨h1, h2, h3⟩⟩
    · rw [if_pos h1]
      have := index_at c (cutP c (b :: s)).2.1 (cutP c (b :: s)).1 h0
      rw [← h2] at this
      exact this
    · rw [if_neg (by rw [h1]; simp)]
      have := index_no c (cutP c (b :: s)).1 h0
      rw [h2] at this
      exact this
theorem splitP_cut (s : Bytes) : splitP s = if (cutP 32 s).2.2 = true then (cutP 32 s).1 :: splitP (cutP 32 s).2.1 else [s] := by
  unfold splitP
  rw [Lib.count_one]
  rcases cutP_spec 32 s with ⟨h0, ⟨h1, h2⟩ | ⟨h1, h2, h3⟩⟩
  · rw [if_pos h1]
    have hc : s.count 32 = (cutP 32 s).2.1.count 32 + 1 := by
      conv => lhs; rw [h2]
      rw [List.count_append, List.count_cons_self, List.count_eq_zero.2 h0]
      omega
    rw [hc, Lib.splitK, index_cutP, if_pos h1, if_neg (by simp), Lib.count_one]
    simp only [Int.toNat_natCast, Nat.add_zero, List.length_cons, List.length_nil]
    obtain ⟨x, hx⟩ : ∃ x, (cutP 32 s).1 = x := ⟨_, rfl⟩
    obtain ⟨y, hy⟩ : ∃ y, (cutP 32 s).2.1 = y := ⟨_, rfl⟩
    rw [hx, hy] at h2 ⊢
    clear hx hy hc h1 h0
    subst h2
    have ht : (x ++ 32 :: y).take x.length = x := by rw [List.take_left]
    have hd : (x ++ 32 :: y).drop (x.length + (0 + 1)) = y := by
      rw [List.drop_append, List.drop_of_length_le (by omega), Nat.add_sub_cancel_left]
      rfl
    rw [ht, hd]
  · rw [if_neg (by rw [h1]; simp)]
    have : s.count 32 = 0 := by rw [List.count_eq_zero]; rw [← h2]; exact h0
    rw [this]
    rfl

/-- a word's digits, one behind the other -/
def valP : Bytes → Nat → Nat
  | [], n => n
  | c :: r, n => if c.toNat < 48 ∨ 57 < c.toNat ∨ (18446744073709551615 - (c.toNat - 48)) / 10 < n then 0 else valP r (10 * n + (c.toNat - 48))
theorem valP_parse : ∀ (l : Bytes) (n : Nat), n ≤ 18446744073709551615 → valP l n = match Lib.parseUintM 18446744073709551615 n l with | .ok u => u | _ => 0
  | [], n, _ => rfl
  | c :: r, n, hn => by
    rw [valP, Lib.parseUintM]
    by_cases h : 48 ≤ c.toNat ∧ c.toNat ≤ 57
    · rw [if_pos h]
      by_cases h2 : (18446744073709551615 - (c.toNat - 48)) / 10 < n
      · rw [if_pos (.inr (.inr h2))]
        split
        · rename_i u hu
          split at hu
          · cases hu
          · split at hu
            · cases hu
            · omega
        · rfl
      · rw [if_neg (by omega), if_neg (by omega), if_neg (by omega), valP_parse r _ (by omega), Nat.mul_comm]
    · rw [if_neg h, if_pos (by omega)]
theorem valP_num (s : Bytes) : valP s 0 = numB s := by
  unfold numB Lib.parseUintB
  by_cases h : s = []
  · subst h; rfl
  · rw [if_neg h, valP_parse s 0 (by omega)]
    rfl
end Go.Proofs.YtggiicbjegmehaaDoor
