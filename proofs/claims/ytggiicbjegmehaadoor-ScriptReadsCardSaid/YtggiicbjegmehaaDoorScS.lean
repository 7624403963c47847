/- Plays read line by line, in plain Lean: what a text's lines tell, both ways. -/
import Derived.Test.YtggiicbjegmehaaDoorScO
namespace Go.Proofs.YtggiicbjegmehaaDoor
set_option linter.unusedVariables false
set_option linter.unusedSimpArgs false

/-- a text at the first such byte -/
def cutP (c : UInt8) : Bytes → Bytes × Bytes × Bool
  | [] => ([], [], false)
  | b :: s => if b = c then ([], s, true) else (b :: (cutP c s).1, (cutP c s).2.1, (cutP c s).2.2)
theorem cut_lib (c : UInt8) : ∀ s : Bytes, Lib.cut s [c] = cutP c s
  | [] => by simp [Lib.cut, Lib.index, cutP]
  | b :: s => by
    have ih := cut_lib c s
    have hge := Lib.index_ge s [c]
    unfold Lib.cut at ih ⊢
    rw [Lib.index]
    by_cases hb : b = c
    · subst hb; simp [cutP, List.isPrefixOf]
    · have hp : List.isPrefixOf [c] (b :: s) = false := by simp [List.isPrefixOf, Ne.symm hb]
      rw [hp]
      simp only [cutP, if_neg hb, ← ih]
      by_cases hm : Lib.index s [c] = -1
      · simp [hm]
      · have h0 : 0 ≤ Lib.index s [c] := by omega
        have h1 : 0 ≤ Lib.index s [c] + 1 := by omega
        have e : (Lib.index s [c] + 1).toNat = (Lib.index s [c]).toNat + 1 := by omega
        have e2 : (Lib.index s [c]).toNat + 1 + [c].length = ((Lib.index s [c]).toNat + [c].length) + 1 := by omega
        simp only [beq_iff_eq, if_neg hm, Bool.false_eq_true, if_false, if_pos h0, if_pos h1, e, e2, List.take_succ_cons, List.drop_succ_cons]
theorem cutP_hit {c : UInt8} {r : Bytes} : ∀ {x : Bytes}, c ∉ x → cutP c (x ++ c :: r) = (x, r, true)
  | [], _ => by simp [cutP]
  | b :: x, h => by
    have hb : ¬ b = c := fun e => h (by rw [e]; exact List.mem_cons_self ..)
    rw [List.cons_append, cutP, if_neg hb, cutP_hit (fun e => h (List.mem_cons_of_mem _ e))]
theorem cutP_no {c : UInt8} : ∀ {x : Bytes}, c ∉ x → cutP c x = (x, [], false)
  | [], _ => by simp [cutP]
  | b :: x, h => by
    have hb : ¬ b = c := fun e => h (by rw [e]; exact List.mem_cons_self ..)
    rw [cutP, if_neg hb, cutP_no (fun e => h (List.mem_cons_of_mem _ e))]
theorem cutP_spec (c : UInt8) : ∀ s : Bytes, c ∉ (cutP c s).1 ∧ (((cutP c s).2.2 = true ∧ s = (cutP c s).1 ++ c :: (cutP c s).2.1) ∨ ((cutP c s).2.2 = false ∧ (cutP c s).1 = s ∧ (cutP c s).2.1 = []))
  | [] => by simp [cutP]
  | b :: s => by
    obtain ⟨h0, ih⟩ := cutP_spec c s
    rw [cutP]
    by_cases hb : b = c
    · rw [if_pos hb]; subst hb; simp
    · rw [if_neg hb]
      refine ⟨fun e => ?_, ?_⟩
      · rcases List.mem_cons.1 e with e | e
        · exact hb e.symm
        · exact h0 e
      rcases ih with ⟨h1, h2⟩ | ⟨h1, h2, h3⟩
      · exact .inl ⟨h1, by simp only [List.cons_append]; rw [← h2]⟩
      · exact .inr ⟨h1, by simp only [h2], h3⟩
theorem cutP_len (c : UInt8) (s : Bytes) : (cutP c s).1.length ≤ s.length ∧ (cutP c s).2.1.length ≤ s.length ∧ (s ≠ [] → (cutP c s).2.1.length < s.length) := by
  rcases (cutP_spec c s).2 with ⟨_, h⟩ | ⟨_, h1, h2⟩
  · have := congrArg List.length h
    rw [List.length_append, List.length_cons] at this
    exact ⟨by omega, by omega, fun _ => by omega⟩
  · rw [h1, h2]
    refine ⟨by omega, by simp, fun hne => ?_⟩
    cases s with
    | nil => exact absurd rfl hne
    | cons a l => simp

/-- does line no tell a deed that may be, and has that line? -/
def goodL (no : Int) (t : Bytes) : Bool := decide (no ≤ 401) && (okD (deedP t) && (lineP (deedP t) == t))
/-- the deeds of the lines from number no on -/
def restP : Nat → Int → List Dd → Bytes → Option (List Dd) × Int
  | 0, _, acc, _ => (some acc, 0)
  | f + 1, no, acc, s => if s = [] then (some acc, 0) else
      if ((cutP 10 s).2.2 && goodL no (cutP 10 s).1) = true then restP f (no + 1) (acc ++ [deedP (cutP 10 s).1]) (cutP 10 s).2.1 else (none, no)
theorem restP_fuel : ∀ (f g : Nat) (no : Int) (acc : List Dd) (s : Bytes), s.length ≤ f → s.length ≤ g → restP f no acc s = restP g no acc s
  | 0, 0, _, _, _, _, _ => rfl
  | 0, g + 1, no, acc, s, h, _ => by
    have : s = [] := List.eq_nil_of_length_eq_zero (by omega)
    subst this; rfl
  | f + 1, 0, no, acc, s, _, h => by
    have : s = [] := List.eq_nil_of_length_eq_zero (by omega)
    subst this; rfl
  | f + 1, g + 1, no, acc, s, h1, h2 => by
    rw [restP, restP]
    by_cases hs : s = []
    · rw [if_pos hs, if_pos hs]
    · have := (cutP_len 10 s).2.2 hs
      rw [if_neg hs, if_neg hs, restP_fuel f g _ _ _ (by omega) (by omega)]
def restS (no : Int) (acc : List Dd) (s : Bytes) : Option (List Dd) × Int := restP s.length no acc s
theorem restS_nil (no : Int) (acc : List Dd) : restS no acc [] = (some acc, 0) := rfl
theorem restS_step {no : Int} {acc : List Dd} {s : Bytes} (h : s ≠ []) : restS no acc s = if ((cutP 10 s).2.2 && goodL no (cutP 10 s).1) = true then restS (no + 1) (acc ++ [deedP (cutP 10 s).1]) (cutP 10 s).2.1 else (none, no) := by
  have h1 := (cutP_len 10 s).2.2 h
  have h2 : restS no acc s = restP ((s.length - 1) + 1) no acc s := restP_fuel _ _ _ _ _ (Nat.le_refl _) (by omega)
  rw [h2, restP, if_neg h]
  unfold restS
  rw [restP_fuel (s.length - 1) (cutP 10 s).2.1.length _ _ _ (by omega) (by omega)]
/-- what a first line tells -/
def headP (t : Bytes) : Pl := ⟨getI (splitP t) 1, getI (splitP t) 2, getU (splitP t) 3, getU (splitP t) 4, []⟩
def goodF (t : Bytes) : Bool := okP (headP t) && (firstP (headP t) == t)
def withDs (p : Pl) (ds : List Dd) : Pl := ⟨p.many, p.set, p.ep, p.has, ds⟩
/-- the plan of a text, or the number of the line that is none -/
def parseP (s : Bytes) : Option Pl × Int :=
  if ((cutP 10 s).2.2 && goodF (cutP 10 s).1) = true then
    ((restS 2 [] (cutP 10 s).2.1).1.map (withDs (headP (cutP 10 s).1)), (restS 2 [] (cutP 10 s).2.1).2)
  else (none, 1)

/-- the lines of deeds -/
def linesP (l : List Dd) : Bytes := l.flatMap fun d => lineP d ++ [10]
theorem join_lines (f : Bytes) : ∀ l : List Dd, Lib.join (f :: l.map lineP) [10] ++ [10] = f ++ 10 :: linesP l := by
  intro l
  induction l generalizing f with
  | nil => simp [Lib.join_one, linesP]
  | cons d l ih =>
    rw [List.map_cons, join_two, List.append_assoc, ih]
    simp [linesP]
theorem textP_lines (p : Pl) : textP p = firstP p ++ 10 :: linesP p.ds := join_lines _ _
theorem join_no (c : UInt8) (sep : Bytes) (hs : c ∉ sep) : ∀ (l : List Bytes), (∀ q ∈ l, c ∉ q) → c ∉ Lib.join l sep
  | [], _ => by simp [Lib.join_nil]
  | [p], h => by rw [Lib.join_one]; exact h p (List.mem_cons_self ..)
  | p :: q :: l, h => by
    have ih := join_no c sep hs (q :: l) (fun x hx => h x (List.mem_cons_of_mem _ hx))
    rw [join_two]
    intro hc
    rcases List.mem_append.1 hc with hc | hc
    · rcases List.mem_append.1 hc with hc | hc
      · exact h p (List.mem_cons_self ..) hc
      · exact hs hc
    · exact ih hc
theorem lineP_no {d : Dd} (hok : okD d = true) : (10 : UInt8) ∉ lineP d := by
  obtain ⟨h1, h2, _⟩ := okD_ranges hok
  refine join_no 10 [32] (by decide) _ fun q hq => ?_
  rcases List.mem_cons.1 hq with rfl | hq
  · exact word_no h1 h2 10 (by decide)
  rcases List.mem_cons.1 hq with rfl | hq
  · exact dec_no _ 10 (.inl (by decide))
  · exact fields_no d 10 (by decide) q hq
theorem first_words (p : Pl) (c : UInt8) (h : c.toNat < 45) : ∀ q ∈ [[110, 111, 100, 101, 115], decI p.many, decI p.set, decI p.ep, decI p.has], c ∉ q := by
  intro q hq
  simp only [List.mem_cons, List.mem_nil_iff, or_false] at hq
  rcases hq with rfl | rfl | rfl | rfl | rfl
  · intro hc
    have e : ∀ x ∈ ([110, 111, 100, 101, 115] : Bytes), 97 ≤ x.toNat := by decide
    have := e c hc
    omega
  all_goals exact dec_no _ c (.inl (by omega))
theorem firstP_no (p : Pl) : (10 : UInt8) ∉ firstP p := join_no 10 [32] (by decide) _ (first_words p 10 (by decide))
theorem first_split (p : Pl) : splitP (firstP p) = [[110, 111, 100, 101, 115], decI p.many, decI p.set, decI p.ep, decI p.has] := splitP_join _ _ (first_words p 32 (by decide))
theorem headOk_ranges {p : Pl} (h : headOk p = true) : 2 ≤ p.many ∧ p.many ≤ 7 ∧ 2 ≤ p.set ∧ p.set ≤ p.many ∧ 1 ≤ p.ep ∧ p.ep ≤ 1000 ∧ p.has ≤ 1000000000 ∧ p.ds.length ≤ 400 := by
  unfold headOk at h; exact of_decide_eq_true h
theorem okP_parts {p : Pl} (h : okP p = true) : headOk p = true ∧ p.ds.all okD = true := by unfold okP at h; exact Bool.and_eq_true_iff.1 h
theorem headP_first {p : Pl} (hw : WfP p) (hok : okP p = true) : headP (firstP p) = withDs p [] := by
  have h := headOk_ranges (okP_parts hok).1
  have hh := hw.has
  unfold headP withDs
  rw [first_split, getI_dec (n := p.many) (i := 1) rfl (by omega), getI_dec (n := p.set) (i := 2) rfl (by omega), getU_dec (n := p.ep) (i := 3) rfl (by omega), getU_dec (n := p.has) (i := 4) rfl (by omega)]
theorem ok_without {p : Pl} (hok : okP p = true) : okP (withDs p []) = true := by
  have h := headOk_ranges (okP_parts hok).1
  unfold okP headOk withDs
  simp only [List.length_nil, List.all_nil, Bool.and_true, decide_eq_true_eq]
  omega
theorem goodF_first {p : Pl} (hw : WfP p) (hok : okP p = true) : goodF (firstP p) = true := by
  unfold goodF
  rw [headP_first hw hok, ok_without hok]
  have : firstP (withDs p []) = firstP p := rfl
  rw [this]; simp
theorem goodL_line {d : Dd} (hw : WfD d) (hok : okD d = true) {no : Int} (hn : no ≤ 401) : goodL no (lineP d) = true := by
  unfold goodL
  rw [deedP_line hw hok, hok]
  simp [hn]
theorem rest_lines : ∀ (l : List Dd) (no : Int) (acc : List Dd) (x : Bytes), (∀ d ∈ l, WfD d) → (∀ d ∈ l, okD d = true) → no + l.length ≤ 402 → restS no acc (linesP l ++ x) = restS (no + l.length) (acc ++ l) x
  | [], no, acc, x, _, _, _ => by simp [linesP]
  | d :: l, no, acc, x, hw, hok, hn => by
    have hw0 := hw d (List.mem_cons_self ..)
    have hok0 := hok d (List.mem_cons_self ..)
    have e : linesP (d :: l) ++ x = lineP d ++ 10 :: (linesP l ++ x) := by simp [linesP]
    rw [List.length_cons] at hn
    rw [e, restS_step (by simp), cutP_hit (lineP_no hok0), if_pos (by simp only [Bool.true_and]; exact goodL_line hw0 hok0 (by omega))]
    simp only []
    rw [deedP_line hw0 hok0, rest_lines l (no + 1) (acc ++ [d]) x (fun y hy => hw y (List.mem_cons_of_mem _ hy)) (fun y hy => hok y (List.mem_cons_of_mem _ hy)) (by omega)]
    rw [List.length_cons, List.append_assoc, List.singleton_append]
    congr 1
    omega
theorem rest_sound : ∀ (f : Nat) (s : Bytes) (no : Int) (acc ds : List Dd) (n : Int), s.length ≤ f → restS no acc s = (some ds, n) → n = 0 ∧ ∃ l, ds = acc ++ l ∧ linesP l = s ∧ (∀ d ∈ l, WfD d ∧ okD d = true) ∧ (l = [] ∨ no + l.length ≤ 402)
  | f, s, no, acc, ds, n, hf, h => by
    by_cases hs : s = []
    · subst hs
      rw [restS_nil] at h
      injection h with h1 h2
      injection h1 with h1
      exact ⟨h2.symm, [], by rw [h1]; simp, rfl, fun d hd => (by cases hd), .inl rfl⟩
    · rw [restS_step hs] at h
      split at h
      · rename_i hg
        rw [Bool.and_eq_true] at hg
        obtain ⟨hg1, hg2⟩ := hg
        unfold goodL at hg2
        rw [Bool.and_eq_true, Bool.and_eq_true, decide_eq_true_eq, beq_iff_eq] at hg2
        obtain ⟨hn, hok, hl⟩ := hg2
        have hlen := (cutP_len 10 s).2.2 hs
        match f with
        | 0 => omega
        | f + 1 =>
          obtain ⟨h1, l, h2, h3, h4, h5⟩ := rest_sound f _ (no + 1) _ ds n (by omega) h
          refine ⟨h1, deedP (cutP 10 s).1 :: l, by rw [h2]; simp, ?_, ?_, ?_⟩
          · rcases (cutP_spec 10 s).2 with ⟨_, e⟩ | ⟨e, _⟩
            · have e2 : linesP (deedP (cutP 10 s).1 :: l) = lineP (deedP (cutP 10 s).1) ++ 10 :: linesP l := by simp [linesP]
              rw [e2, hl, h3]; exact e.symm
            · rw [e] at hg1; cases hg1
          · intro d hd
            rcases List.mem_cons.1 hd with rfl | hd
            · exact ⟨deedP_wf _, hok⟩
            · exact h4 d hd
          · right
            rw [List.length_cons]
            rcases h5 with rfl | h5
            · simp; omega
            · omega
      · cases h
theorem rest_none : ∀ (f : Nat) (s : Bytes) (no : Int) (acc : List Dd) (n : Int), s.length ≤ f → restS no acc s = (none, n) → no ≤ n
  | f, s, no, acc, n, hf, h => by
    by_cases hs : s = []
    · subst hs
      rw [restS_nil] at h
      cases h
    · rw [restS_step hs] at h
      have hlen := (cutP_len 10 s).2.2 hs
      split at h
      · match f with
        | 0 => omega
        | f + 1 =>
          have := rest_none f _ _ _ _ (by omega) h
          omega
      · injection h with h1 h2
        omega
/-- what was printed is read -/
theorem parse_text {p : Pl} (hw : WfP p) (hok : okP p = true) : parseP (textP p) = (some p, 0) := by
  obtain ⟨h1, h2⟩ := okP_parts hok
  have h := headOk_ranges h1
  unfold parseP
  rw [textP_lines, cutP_hit (firstP_no p), if_pos (by simp only [Bool.true_and]; exact goodF_first hw hok)]
  simp only []
  have hr := rest_lines p.ds 2 [] [] hw.ds (fun d hd => List.all_eq_true.1 h2 d hd) (by omega)
  rw [List.append_nil, List.nil_append, restS_nil] at hr
  rw [hr, headP_first hw hok]
  rfl
theorem headP_wf (t : Bytes) : WfP (headP t) := by
  have h1 := getI_range (splitP t) 1
  have h2 := getI_range (splitP t) 2
  have h3 := getU_range (splitP t) 3
  have h4 := getU_range (splitP t) 4
  exact ⟨by simp only [headP]; omega, by simp only [headP]; omega, h3, h4, fun d hd => by cases hd⟩
/-- what is read was printed -/
theorem parse_sound {s : Bytes} {p : Pl} {n : Int} (h : parseP s = (some p, n)) : n = 0 ∧ okP p = true ∧ WfP p ∧ textP p = s := by
  unfold parseP at h
  split at h
  · rename_i hg
    rw [Bool.and_eq_true] at hg
    obtain ⟨hg1, hg2⟩ := hg
    unfold goodF at hg2
    rw [Bool.and_eq_true, beq_iff_eq] at hg2
    obtain ⟨hok, hf⟩ := hg2
    injection h with h1 h2
    cases hr : restS 2 [] (cutP 10 s).2.1 with
    | mk r m =>
      rw [hr] at h1 h2
      cases r with
      | none => cases h1
      | some ds =>
        obtain ⟨q1, l, q2, q3, q4, q5⟩ := rest_sound _ _ _ _ _ _ (Nat.le_refl _) hr
        have h1 : withDs (headP (cutP 10 s).1) ds = p := by injection h1
        have h2 : m = n := h2
        rw [List.nil_append] at q2
        subst q2
        have hw := headP_wf (cutP 10 s).1
        have hh := headOk_ranges (okP_parts hok).1
        refine ⟨by omega, ?_, ?_, ?_⟩
        · rw [← h1]
          unfold okP headOk withDs
          rw [Bool.and_eq_true, decide_eq_true_eq]
          refine ⟨⟨hh.1, hh.2.1, hh.2.2.1, hh.2.2.2.1, hh.2.2.2.2.1, hh.2.2.2.2.2.1, hh.2.2.2.2.2.2.1, ?_⟩, List.all_eq_true.2 fun d hd => (q4 d hd).2⟩
          simp only []
          rcases q5 with rfl | q5
          · simp
          · omega
        · rw [← h1]; exact ⟨hw.many, hw.set, hw.ep, hw.has, fun d hd => (q4 d hd).1⟩
        · rw [textP_lines, ← h1]
          show firstP (headP (cutP 10 s).1) ++ 10 :: linesP ds = s
          rw [hf, q3]
          rcases (cutP_spec 10 s).2 with ⟨_, e⟩ | ⟨e, _⟩
          · exact e.symm
          · rw [e] at hg1; cases hg1
  · cases h
theorem parse_none {s : Bytes} {n : Int} (h : parseP s = (none, n)) : 1 ≤ n := by
  unfold parseP at h
  split at h
  · injection h with h1 h2
    cases hr : restS 2 [] (cutP 10 s).2.1 with
    | mk r m =>
      rw [hr] at h1 h2
      cases r with
      | some ds => cases h1
      | none =>
        have := rest_none _ _ _ _ _ (Nat.le_refl _) hr
        have h2 : m = n := h2
        omega
  · injection h with h1 h2; omega

/-- no line of a deed is a first line, nor is a first line a deed's -/
theorem goodF_line {d : Dd} (hok : okD d = true) : goodF (lineP d) = false := by
  obtain ⟨h1, h2, _⟩ := okD_ranges hok
  cases hg : goodF (lineP d) with
  | false => rfl
  | true =>
    unfold goodF at hg
    rw [Bool.and_eq_true, beq_iff_eq] at hg
    have e := congrArg (fun x => (splitP x).getD 0 []) hg.2
    simp only [first_split, line_split hok] at e
    have : d.k = 1 ∨ d.k = 2 ∨ d.k = 3 ∨ d.k = 4 ∨ d.k = 5 ∨ d.k = 6 ∨ d.k = 7 ∨ d.k = 8 ∨ d.k = 9 := by omega
    have e : [110, 111, 100, 101, 115] = wordP d.k := e
    rcases this with h | h | h | h | h | h | h | h | h <;> rw [h] at e <;> revert e <;> decide
theorem goodL_first (no : Int) (p : Pl) : goodL no (firstP p) = false := by
  have hk : (deedP (firstP p)).k = 0 := by
    have hk : kindP ((splitP (firstP p)).getD 0 []) = 0 := by rw [first_split]; show kindP [110, 111, 100, 101, 115] = 0; decide +kernel
    unfold deedP
    simp only [hk]
    rfl
  have : okD (deedP (firstP p)) = false := by
    cases ho : okD (deedP (firstP p)) with
    | false => rfl
    | true => have := (okD_ranges ho).1; omega
  unfold goodL
  rw [this]; simp
/-- a plan's lines without the first one are no plan -/
theorem parse_rest {p : Pl} (hok : okP p = true) : parseP (linesP p.ds) = (none, 1) := by
  obtain ⟨h1, h2⟩ := okP_parts hok
  unfold parseP
  rw [if_neg]
  cases hd : p.ds with
  | nil => simp [linesP, cutP]
  | cons d l =>
    have hok0 : okD d = true := List.all_eq_true.1 h2 d (by rw [hd]; exact List.mem_cons_self ..)
    have e : linesP (d :: l) = lineP d ++ 10 :: linesP l := by simp [linesP]
    rw [e, cutP_hit (lineP_no hok0), goodF_line hok0]
    simp
/-- nor are they with the first one behind all -/
theorem parse_more {p : Pl} (hw : WfP p) (hok : okP p = true) : parseP (textP p ++ firstP p ++ [10]) = (none, (p.ds.length : Int) + 2) := by
  obtain ⟨h1, h2⟩ := okP_parts hok
  have h := headOk_ranges h1
  unfold parseP
  have e : textP p ++ firstP p ++ [10] = firstP p ++ 10 :: (linesP p.ds ++ (firstP p ++ [10])) := by rw [textP_lines]; simp
  rw [e, cutP_hit (firstP_no p), if_pos (by simp only [Bool.true_and]; exact goodF_first hw hok)]
  simp only []
  have hr := rest_lines p.ds 2 [] (firstP p ++ [10]) hw.ds (fun d hd => List.all_eq_true.1 h2 d hd) (by omega)
  rw [hr, restS_step (by simp), show firstP p ++ [10] = firstP p ++ 10 :: [] from rfl, cutP_hit (firstP_no p), goodL_first]
  simp only [Bool.and_false, Bool.false_eq_true, if_false, Option.map_none]
  congr 1
  omega
theorem text_cut (p : Pl) : cutP 10 (textP p) = (firstP p, linesP p.ds, true) := by rw [textP_lines, cutP_hit (firstP_no p)]
theorem lines_count : ∀ (l : List Dd), (∀ d ∈ l, okD d = true) → (linesP l).count 10 = l.length
  | [], _ => by simp [linesP]
  | d :: l, h => by
    have e : linesP (d :: l) = lineP d ++ 10 :: linesP l := by simp [linesP]
    rw [e, List.count_append, List.count_cons_self, lines_count l (fun y hy => h y (List.mem_cons_of_mem _ hy)), List.count_eq_zero.2 (lineP_no (h d (List.mem_cons_self ..)))]
    simp
theorem text_count {p : Pl} (hok : okP p = true) : (textP p).count 10 = p.ds.length + 1 := by
  obtain ⟨h1, h2⟩ := okP_parts hok
  rw [textP_lines, List.count_append, List.count_cons_self, lines_count _ (fun d hd => List.all_eq_true.1 h2 d hd), List.count_eq_zero.2 (firstP_no p)]
  omega
end Go.Proofs.YtggiicbjegmehaaDoor
