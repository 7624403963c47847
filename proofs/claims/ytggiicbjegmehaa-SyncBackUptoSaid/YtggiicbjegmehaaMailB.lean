/- sync.Mail; ecclesiaref25.item and Mail. -/
import Derived.Test.YtggiicbjegmehaaMailA
import Derived.OneCell
namespace Go.Proofs.Ytggiicbjegmehaa
set_option linter.unusedVariables false
set_option linter.unusedSimpArgs false
open Go.RowKit

theorem frozen_row {w : World} {g : Nat} {cs : Array Value} {e : TypeId} (h : w.heap[g]? = some (.cells cs e (0, 0))) (o : Nat) : w.frozen? ⟨g, o, none⟩ = false := by simp [World.frozen?, h]
theorem cell_row2 {w : World} {g : Nat} {a b c : Value} {e : TypeId} (h : w.heap[g]? = some (.cells #[a, b, c] e (0, 0))) : w.cell? ⟨g, 2, none⟩ = some c := by rw [cell_of_row _ _ 2 _ _ _ h]; rfl
def leafI (p : Bytes) : Item := .mk false p []
def kidsI (k : Nat) (ps : List Bytes) : List Item := leafI (digs k) :: ps.map leafI
def mailI (k : Nat) (ps : List Bytes) : Item := .mk true [] (kidsI k ps)
def mailR (k : Nat) (ps : List Bytes) : Bytes × Nat := if rightP k ps = true then encR (mailI k ps) else ([], 1)
/-- nobody's blocks -/
def Nobody : Nat → Prop := fun _ => False
theorem Nobody.mono {S : Nat → Prop} {w w' : World} {sz : Nat} {ds : List D} {xs : List Value} (h : RepN Nobody w sz ds xs) : RepN S w' sz ds xs := h.mono fun b _ hs => hs.elim
theorem rightP_len {k : Int} {ps : List Bytes} (h : rightP k ps = true) : ps.length ≤ 4 := by
  unfold rightP at h
  split at h
  · have := of_decide_eq_true h; omega
  · split at h
    · have := of_decide_eq_true h; omega
    · split at h
      · exact of_decide_eq_true h
      · cases h
theorem countP_mail (k : Nat) (ps : List Bytes) : countP (mailI k ps) = ps.length + 2 := by
  have : ∀ l : List Bytes, countsP (l.map leafI) = l.length := fun l => by
    induction l with
    | nil => rfl
    | cons a l ih => simp only [List.map_cons, countsP, ih, leafI, countP, List.length_cons]; omega
  simp only [mailI, kidsI, countP, countsP, leafI, this]
  omega
theorem kidsI_take {k : Nat} {ps : List Bytes} {i : Nat} {p : Bytes} (h : ps[i]? = some p) : kidsI k (ps.take (i + 1)) = kidsI k (ps.take i) ++ [leafI p] := by
  simp only [kidsI, take_snoc h, List.map_append, List.map_cons, List.map_nil, List.cons_append]
theorem ret_mail {a a' : Bytes} {b b' : Int} (h : a = a') (h2 : b = b') : Ending.returned (.tuple #[.string (bs a), .int .i64 b]) = .returned (.tuple #[.string (bs a'), .int .i64 b']) := by rw [h, h2]

set_option maxHeartbeats 1000000 in
theorem Mail_any (k : Nat) (hk : k < 18446744073709551616) (ps : List Bytes) (A : Option Addr) (c : Nat) (w : World) (hv : StrV Any w ps A c)
    (hW : rightP k ps = true → (writeP (mailI k ps)).length < 16777216) :
    Calls Try.prog 6 #[.int .u64 k, .slice A ps.length c] w fun e w' =>
      e = .returned (.tuple #[.string (bs (mailR k ps).1), .int .i64 (mailR k ps).2]) ∧ Below w.heap.size w w' := by
  obtain ⟨ki, hki⟩ : ∃ ki : Int, ki = k := ⟨_, rfl⟩
  rw [← hki]
  have Hki := Lib.hid hki
  have h0 : 0 ≤ ki := by omega
  have h1 : ki < 18446744073709551616 := by omega
  clear hki hk
  cases hr : rightP k ps with
  | false =>
    have hm : mailR k ps = ([], 1) := by unfold mailR; rw [hr]; rfl
    rw [hm]
    clear hm hW
    go_enter Try.func6, Try.ntmps6
    go_wp2_with fail
    refine (right_any ki ps A c _ hv).mono ?_
    rw [Hki.out, hr]
    clear hr
    rintro e w1 ⟨rfl, hb1⟩
    go_wp2_with fail
    go_ret2
    exact ⟨rfl, hb1⟩
  | true =>
    have hm : mailR k ps = encR (mailI k ps) := by unfold mailR; rw [hr]; rfl
    rw [hm]
    clear hm
    have Hr := Lib.hid hr
    have hl4 := rightP_len hr
    have HW := Lib.hid (hW hr)
    have hl5 : (ps.length : Int) ≤ 4 := by omega
    clear hr hW hl4
    go_enter Try.func6, Try.ntmps6
    go_wp2_with fail
    refine (right_any ki ps A c _ hv).mono ?_
    have hrk : rightP ki ps = true := by rw [Hki.out]; exact Hr.out
    rw [hrk]
    clear hrk
    rintro e w1 ⟨rfl, hb1⟩
    go_wp2_with fail
    refine (Number_any ki h0 h1 _).mono ?_
    have hkn : ki.toNat = k := by have := Hki.out; omega
    rw [hkn]
    clear hkn
    rintro e w2 ⟨rfl, hb2⟩
    go_wp2_with fail
    refine (List_any _ 1 1 _).mono ?_
    rintro e w3 ⟨rfl, hb3⟩
    have hb3s := hb3.size
    simp at hb3s
    have hb2s := hb2.size
    have hb1s := hb1.size
    have hown0 : (w2.alloc (.cells #[.bool false, .string (bs (digs k)), .slice none 0 0] 49)).ownsRow w2.heap.size 49 3 (.slice (some ⟨w2.heap.size, 0, none⟩) 1 1) 1 [.bool false, .string (bs (digs k)), .slice none 0 0] :=
      World.ownsRow_lit w2 _ 1 (Nat.le_refl _) (by simp [maxLen]) rfl
    have hown3 := own_keep hown0 hb3
    have hw3 : Below w.heap.size w w3 := ((hb1.trans (hb2.mono hb1s)).alloc (by omega) _).trans (hb3.mono (by simp; omega))
    have hb2w : w.heap.size ≤ w2.heap.size := by omega
    have hw2 : Below w.heap.size w w2 := hb1.trans (hb2.mono hb1s)
    have H23 : Below w2.heap.size w2 w3 := ((Below.refl _ _).alloc (Nat.le_refl _) _).trans (hb3.mono (by simp))
    clear hown0 hb1 hb2 hb3 hb1s hb2s
    go_wp2_with fail
    have h23 : Below w2.heap.size w2 w3 := H23
    go_loopw [19] (fun a wr => ∃ (i : Nat) (xs : List Value) (v : Value), a = .int .i64 i ∧ i ≤ ps.length ∧ wr.heap[w3.heap.size]? = some (.cells #[.bool true, .string ⟨#[]⟩, v] 49 (0, 0)) ∧
        wr.ownsRow w2.heap.size 49 3 v (i + 1) xs ∧ v.ownBlock ≠ some w3.heap.size ∧ RepN Nobody wr 3 (itemsD (kidsI k (ps.take i))) xs ∧ Below w2.heap.size w2 wr)
      (fun a _ => ps.length - (intOf a).toNat)
    case atStart =>
      refine ⟨0, _, _, rfl, Nat.zero_le _, heap_alloc_new w3 _, hown3.alloc _, ?_, ?_, h23.alloc (by omega) _⟩
      · intro e; have e := Option.some.inj e; simp only [] at e; omega
      · exact .cons (sz := 3) (ItemV.leaf (digs k) false) rfl .nil
    case round =>
      obtain ⟨i, xs, v, rfl, hi, hbx, hown, hnb, hr, hb⟩ := hrel
      obtain ⟨A1, c1, rfl⟩ := own_form hown
      have hbs := hb.size
      have hxl : w3.heap.size < wr.heap.size := by
        have := (Array.getElem?_eq_some_iff.1 hbx).1; exact this
      have x0 : wr.cell? ⟨w3.heap.size, 0, none⟩ = some (.bool true) := by rw [cell_of_row _ _ 0 _ _ _ hbx]; rfl
      have x1 : wr.cell? ⟨w3.heap.size, 1, none⟩ = some (.string ⟨#[]⟩) := by rw [cell_of_row _ _ 1 _ _ _ hbx]; rfl
      have x2 : wr.cell? ⟨w3.heap.size, 2, none⟩ = some (.slice A1 (i + 1) c1) := by rw [cell_of_row _ _ 2 _ _ _ hbx]; rfl
      have hww : Below w.heap.size w wr := hw2.trans (hb.mono hb2w)
      by_cases hlt : i < ps.length
      · have hlt' : (i : Int) < ps.length := by omega
        obtain ⟨p, hp⟩ := getElem_ex hlt
        obtain ⟨g, o, rfl, _, cp⟩ := (hv.keep hww).at_ hp
        have Hp := Lib.hid hp
        have hVb : Below wr.heap.size wr (wr.alloc (.cells #[.bool false, .string (bs p), .slice none 0 0] 49)) := (Below.refl _ _).alloc (Nat.le_refl _) _
        have hownV := own_keep hown hVb
        have k2 := ca x2 (.cells #[.bool false, .string (bs p), .slice none 0 0] 49)
        have gx := Lib.hid ((hVb.block w3.heap.size hxl).trans hbx)
        have hVs : wr.heap.size < (wr.alloc (.cells #[.bool false, .string (bs p), .slice none 0 0] 49)).heap.size := by simp
        have HVb := Lib.hid hVb
        have HNB := Lib.hid hnb
        clear hVb hbx hnb hp hlt
        go_wp2_with (at_builtin; refine wpl_append elItem rfl rfl w2.heap.size hownV rfl (m := 1) (itemC (leafI p) none 0) rfl rfl ?_ ?_ ?_ ?_ ?_ ?_; exact (lies_new wr #[.bool false, .string (bs p), .slice none 0 0] _); exact (itemC_one _ _ _); (simp only [maxLen]; omega); omega; omega; intro v1 w4 hown1 hg1 hat1; obtain ⟨A2, c2, rfl⟩ := own_form hown1; have hbx4 := (hg1.block w3.heap.size (by omega) (fun e => HNB.out e.symm)).trans gx.out; have e2 := cell_row2 hbx4; have ef := frozen_row hbx4 2; have Hbx4 := Lib.hid hbx4; clear hbx4)
        go_roundw
        case rel =>
          refine ⟨i + 1, xs ++ itemC (leafI p) none 0, .slice A2 (i + 1 + 1) c2, by go_num, by omega, ?_, ?_, ?_, ?_, ?_⟩
          · exact heap_setCell_here Hbx4.out _
          · refine ownsRow_setCell_other hown1 (a := ⟨w3.heap.size, 2, none⟩) ?_ _
            rcases hat1 with h | h
            · rw [h]; exact HNB.out
            · rw [h]; intro e; have e := Option.some.inj e; simp at e; omega
          · rcases hat1 with h | h
            · rw [h]; exact HNB.out
            · rw [h]; intro e; have e := Option.some.inj e; simp at e; omega
          · rw [kidsI_take Hp.out, itemsD_append]
            exact Nobody.mono (RepN.append (.cons (sz := 3) (ItemV.leaf p false) rfl .nil) hr)
          · exact (below_app (hb.alloc hbs _) hownV hg1 (by omega) (Nat.le_refl _)).setCell (p := ⟨w3.heap.size, 2, none⟩) (by show w2.heap.size ≤ w3.heap.size; omega) _
        case measure =>
          simp only [intOf]
          omega
      · obtain rfl : i = ps.length := by omega
        have hlt' : ¬ (ps.length : Int) < ps.length := by omega
        have xf : ∀ o, wr.frozen? ⟨w3.heap.size, o, none⟩ = false := fun o => by simp [World.frozen?, hbx]
        rw [List.take_length] at hr
        clear hlt hbx
        go_wp2_with fail
        have hvx : ItemV Any wr (mailI k ps) A1 c1 := by
          have h := rep_own (S := Any) hown (Nobody.mono hr) (by rw [itemsD_len]; simp [kidsI]) (fun _ _ _ => trivial)
          refine itemV_mk ?_
          have e : (mailI k ps).ks.length = ps.length + 1 := by simp [mailI, kidsI, Item.ks]
          rw [e]
          exact h
        have e : Calls Try.prog 21 #[.agg #[.bool true, .string ⟨#[]⟩, .slice A1 (ps.length + 1) c1]] wr fun e w' => e = .returned (.tuple #[.string (bs (encR (mailI k ps)).1), .int .i64 (encR (mailI k ps)).2]) ∧ Below wr.heap.size wr w' := by
          have := Encode_any (mailI k ps) A1 c1 wr HW.out hvx
          have e : (mailI k ps).ks.length = ps.length + 1 := by simp [mailI, kidsI, Item.ks]
          rw [e] at this
          exact this
        refine e.mono ?_
        clear e
        rintro e w4 ⟨rfl, hb4⟩
        go_wp2_with fail
        go_ret2
        exact ⟨rfl, hww.trans (hb4.mono (by omega))⟩

set_option maxHeartbeats 1000000 in
theorem item_any (k : Nat) (hk : k < 18446744073709551616) (ps : List Bytes) (A : Option Addr) (c : Nat) (w : World) (hv : StrV Any w ps A c) (hl4 : ps.length ≤ 4) :
    Calls Try.prog 24 #[.int .u64 k, .slice A ps.length c] w fun e w' =>
      ∃ A' c', e = .returned (.agg #[.bool true, .string (bs []), .slice A' (ps.length + 1) c']) ∧ ItemV Any w' (mailI k ps) A' c' ∧ Below w.heap.size w w' := by
  obtain ⟨ki, hki⟩ : ∃ ki : Int, ki = k := ⟨_, rfl⟩
  rw [← hki]
  have Hki := Lib.hid hki
  have h0 : 0 ≤ ki := by omega
  have h1 : ki < 18446744073709551616 := by omega
  have hl5 : (ps.length : Int) ≤ 4 := by omega
  clear hki hk hl4
  go_enter Try.func24, Try.ntmps24
  go_wp2_with fail
  refine (refNumber_any ki h0 h1 _).mono ?_
  have hkn : ki.toNat = k := by have := Hki.out; omega
  rw [hkn]
  clear hkn
  rintro e w2 ⟨rfl, hb2⟩
  have hb2s := hb2.size
  simp at hb2s
  have hw2 : Below w.heap.size w w2 := below_box (hb2.mono (by simp))
  obtain ⟨q1, q2⟩ := bcell hb2
  have r0 : w2.cell? ⟨w.heap.size, 0, none⟩ = some (.bool false) := by rw [q1 _ _ (by simp)]; simp
  have r1 : w2.cell? ⟨w.heap.size, 1, none⟩ = some (.string ⟨#[]⟩) := by rw [q1 _ _ (by simp)]; simp
  have r2 : w2.cell? ⟨w.heap.size, 2, none⟩ = some (.slice none 0 0) := by rw [q1 _ _ (by simp)]; simp
  have rf : ∀ o, w2.frozen? ⟨w.heap.size, o, none⟩ = false := fun o => by rw [q2 _ _ (by simp)]; simp
  clear q1 q2 hb2
  have hown0 : (w2.alloc (.cells #[.bool false, .string (bs (digs k)), .slice none 0 0] 49)).ownsRow w2.heap.size 49 3 (.slice (some ⟨w2.heap.size, 0, none⟩) 1 1) 1 [.bool false, .string (bs (digs k)), .slice none 0 0] :=
    World.ownsRow_lit w2 _ 1 (Nat.le_refl _) (by simp [maxLen]) rfl
  go_wp2_with fail
  go_loopw [14] (fun a wr => ∃ (i : Nat) (xs : List Value) (v : Value), a = .int .i64 i ∧ i ≤ ps.length ∧ wr.heap[w2.heap.size + 1]? = some (.cells #[.bool true, .string ⟨#[]⟩, v] 49 (0, 0)) ∧
      wr.ownsRow w2.heap.size 49 3 v (i + 1) xs ∧ v.ownBlock ≠ some (w2.heap.size + 1) ∧ RepN Nobody wr 3 (itemsD (kidsI k (ps.take i))) xs ∧ Below w2.heap.size w2 wr)
    (fun a _ => ps.length - (intOf a).toNat)
  case atStart =>
    refine ⟨0, _, _, rfl, Nat.zero_le _, ?_, hown0.alloc _, ?_, ?_, ((Below.refl _ _).alloc (Nat.le_refl _) _).alloc (by simp) _⟩
    · have := heap_alloc_new (w2.alloc (.cells #[.bool false, .string (bs (digs k)), .slice none 0 0] 49)) (.cells #[.bool true, .string ⟨#[]⟩, .slice (some ⟨w2.heap.size, 0, none⟩) 1 1] 49)
      simpa using this
    · intro e; have e := Option.some.inj e; simp only [] at e; omega
    · exact .cons (sz := 3) (ItemV.leaf (digs k) false) rfl .nil
  case round =>
    obtain ⟨i, xs, v, rfl, hi, hbx, hown, hnb, hr, hb⟩ := hrel
    obtain ⟨A1, c1, rfl⟩ := own_form hown
    have hbs := hb.size
    have hxl : w2.heap.size + 1 < wr.heap.size := (Array.getElem?_eq_some_iff.1 hbx).1
    have x0 : wr.cell? ⟨w2.heap.size + 1, 0, none⟩ = some (.bool true) := by rw [cell_of_row _ _ 0 _ _ _ hbx]; rfl
    have x1 : wr.cell? ⟨w2.heap.size + 1, 1, none⟩ = some (.string ⟨#[]⟩) := by rw [cell_of_row _ _ 1 _ _ _ hbx]; rfl
    have x2 : wr.cell? ⟨w2.heap.size + 1, 2, none⟩ = some (.slice A1 (i + 1) c1) := by rw [cell_of_row _ _ 2 _ _ _ hbx]; rfl
    have hww : Below w.heap.size w wr := hw2.trans (hb.mono (by omega))
    by_cases hlt : i < ps.length
    · have hlt' : (i : Int) < ps.length := by omega
      obtain ⟨p, hp⟩ := getElem_ex hlt
      obtain ⟨g, o, rfl, _, cp⟩ := (hv.keep hww).at_ hp
      have Hp := Lib.hid hp
      have hVb : Below wr.heap.size wr (wr.alloc (.cells #[.bool false, .string (bs p), .slice none 0 0] 49)) := (Below.refl _ _).alloc (Nat.le_refl _) _
      have hownV := own_keep hown hVb
      have k2 := ca x2 (.cells #[.bool false, .string (bs p), .slice none 0 0] 49)
      have gx := Lib.hid ((hVb.block (w2.heap.size + 1) hxl).trans hbx)
      have hVs : wr.heap.size < (wr.alloc (.cells #[.bool false, .string (bs p), .slice none 0 0] 49)).heap.size := by simp
      have HVb := Lib.hid hVb
      have HNB := Lib.hid hnb
      clear hVb hbx hnb hp hlt r0 r1 r2 rf
      go_wp2_with (at_builtin; refine wpl_append elItem rfl rfl w2.heap.size hownV rfl (m := 1) (itemC (leafI p) none 0) rfl rfl ?_ ?_ ?_ ?_ ?_ ?_; exact (lies_new wr #[.bool false, .string (bs p), .slice none 0 0] _); exact (itemC_one _ _ _); (simp only [maxLen]; omega); omega; omega; intro v1 w4 hown1 hg1 hat1; obtain ⟨A2, c2, rfl⟩ := own_form hown1; have hbx4 := (hg1.block (w2.heap.size + 1) (by omega) (fun e => HNB.out e.symm)).trans gx.out; have e2 := cell_row2 hbx4; have ef := frozen_row hbx4 2; have Hbx4 := Lib.hid hbx4; clear hbx4)
      go_roundw
      case rel =>
        refine ⟨i + 1, xs ++ itemC (leafI p) none 0, .slice A2 (i + 1 + 1) c2, by go_num, by omega, ?_, ?_, ?_, ?_, ?_⟩
        · exact heap_setCell_here Hbx4.out _
        · refine ownsRow_setCell_other hown1 (a := ⟨w2.heap.size + 1, 2, none⟩) ?_ _
          rcases hat1 with h | h
          · rw [h]; exact HNB.out
          · rw [h]; intro e; have e := Option.some.inj e; simp at e; omega
        · rcases hat1 with h | h
          · rw [h]; exact HNB.out
          · rw [h]; intro e; have e := Option.some.inj e; simp at e; omega
        · rw [kidsI_take Hp.out, itemsD_append]
          exact Nobody.mono (RepN.append (.cons (sz := 3) (ItemV.leaf p false) rfl .nil) hr)
        · exact (below_app (hb.alloc hbs _) hownV hg1 (by omega) (Nat.le_refl _)).setCell (p := ⟨w2.heap.size + 1, 2, none⟩) (by show w2.heap.size ≤ w2.heap.size + 1; omega) _
      case measure =>
        simp only [intOf]
        omega
    · obtain rfl : i = ps.length := by omega
      have hlt' : ¬ (ps.length : Int) < ps.length := by omega
      rw [List.take_length] at hr
      obtain ⟨q1, q2⟩ := bcell hb
      have s0 := (q1 w.heap.size 0 (by omega)).trans r0
      have s1 := (q1 w.heap.size 1 (by omega)).trans r1
      have s2 := (q1 w.heap.size 2 (by omega)).trans r2
      have sf : ∀ o, wr.frozen? ⟨w.heap.size, o, none⟩ = false := fun o => (q2 w.heap.size o (by omega)).trans (rf o)
      clear hlt hbx q1 q2 r0 r1 r2 rf
      go_wp2_with fail
      refine bodyPost_ret (v := .agg #[.bool true, .string (bs []), .slice A1 (ps.length + 1) c1]) (by simp [results, Try.results24, go_sem, s0, s1, s2]; rfl) rfl ?_
      refine ⟨A1, c1, rfl, ?_, ((hww.setCell (p := ⟨w.heap.size, 0, none⟩) (Nat.le_refl _) _).setCell (p := ⟨w.heap.size, 1, none⟩) (Nat.le_refl _) _).setCell (p := ⟨w.heap.size, 2, none⟩) (Nat.le_refl _) _⟩
      have hown2 := ownsRow_setCell_below (ownsRow_setCell_below (ownsRow_setCell_below hown (a := ⟨w.heap.size, 0, none⟩) (by show w.heap.size < w2.heap.size; omega) (.bool true)) (a := ⟨w.heap.size, 1, none⟩) (by show w.heap.size < w2.heap.size; omega) (.string ⟨#[]⟩)) (a := ⟨w.heap.size, 2, none⟩) (by show w.heap.size < w2.heap.size; omega) (.slice A1 (ps.length + 1) c1)
      have h := rep_own (S := Any) hown2 (Nobody.mono hr) (by rw [itemsD_len]; simp [kidsI]) (fun _ _ _ => trivial)
      refine itemV_mk ?_
      have e : (mailI k ps).ks.length = ps.length + 1 := by simp [mailI, kidsI, Item.ks]
      rw [e]
      exact h

theorem refMail_any (k : Nat) (hk : k < 18446744073709551616) (ps : List Bytes) (A : Option Addr) (c : Nat) (w : World) (hv : StrV Any w ps A c)
    (hW : rightP k ps = true → (writeP (mailI k ps)).length < 16777216) :
    Calls Try.prog 7 #[.int .u64 k, .slice A ps.length c] w fun e w' =>
      e = .returned (.tuple #[.string (bs (mailR k ps).1), .int .i64 (mailR k ps).2]) ∧ Below w.heap.size w w' := by
  have hit := fun (h : ps.length ≤ 4) w (hv : StrV Any w ps A c) => item_any k hk ps A c w hv h
  have hRt := fun w (hv : StrV Any w ps A c) => Right_any (k : Int) ps A c w hv
  obtain ⟨ki, hki⟩ : ∃ ki : Int, ki = k := ⟨_, rfl⟩
  rw [← hki] at hit hRt ⊢
  have Hki := Lib.hid hki
  clear hki hk
  cases hr : rightP k ps with
  | false =>
    have hm : mailR k ps = ([], 1) := by unfold mailR; rw [hr]; rfl
    rw [hm]
    clear hm hW
    go_enter Try.func7, Try.ntmps7
    go_wp2_with fail
    refine (hRt _ hv).mono ?_
    rw [Hki.out, hr]
    clear hr
    rintro e w1 ⟨rfl, hb1⟩
    go_wp2_with fail
    go_ret2
    exact ⟨rfl, hb1⟩
  | true =>
    have hm : mailR k ps = encR (mailI k ps) := by unfold mailR; rw [hr]; rfl
    rw [hm]
    clear hm
    have Hr := Lib.hid hr
    have HL := Lib.hid (rightP_len hr)
    have HW := Lib.hid (hW hr)
    clear hr hW
    go_enter Try.func7, Try.ntmps7
    go_wp2_with fail
    refine (hRt _ hv).mono ?_
    have hrk : rightP ki ps = true := by rw [Hki.out]; exact Hr.out
    rw [hrk]
    clear hrk
    rintro e w1 ⟨rfl, hb1⟩
    go_wp2_with fail
    refine (hit HL.out _ (hv.keep hb1)).mono ?_
    rintro e w2 ⟨A', c', rfl, hvx, hb2⟩
    go_wp2_with fail
    have e : Calls Try.prog 23 #[.agg #[.bool true, .string (bs []), .slice A' (ps.length + 1) c']] w2 fun e w' => e = .returned (.tuple #[.string (bs (encR (mailI k ps)).1), .int .i64 (encR (mailI k ps)).2]) ∧ Below w2.heap.size w2 w' := by
      have := refEncode_any (mailI k ps) A' c' w2 HW.out hvx (by rw [countP_mail]; have := HL.out; omega)
      have e : (mailI k ps).ks.length = ps.length + 1 := by simp [mailI, kidsI, Item.ks]
      rw [e] at this
      exact this
    refine e.mono ?_
    clear e
    rintro e w3 ⟨rfl, hb3⟩
    go_wp2_with fail
    go_ret2
    exact ⟨rfl, (hb1.trans (hb2.mono hb1.size)).trans (hb3.mono (by have := hb1.size; have := hb2.size; omega))⟩
end Go.Proofs.Ytggiicbjegmehaa
