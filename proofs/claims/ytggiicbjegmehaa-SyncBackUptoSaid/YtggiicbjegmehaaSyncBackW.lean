/- The walk of ecclesialaw25.SyncBack, for texts that are not too long. -/
import Derived.Test.YtggiicbjegmehaaMailF
namespace Go.Proofs.Ytggiicbjegmehaa
set_option linter.unusedVariables false
set_option linter.unusedSimpArgs false
open Go.RowKit

theorem writes_leaves_sum (ps : List Bytes) (h : (ps.map List.length).sum ≤ 1048576) : (writesP (ps.map leafI)).length ≤ (ps.map List.length).sum + 4 * ps.length := by
  induction ps with
  | nil => simp [writesP]
  | cons p ps ih =>
    simp only [List.map_cons, List.sum_cons] at h ⊢
    have h1 := ih (by omega)
    have h3 := headP_len_le4 128 p.length (by omega)
    simp only [List.map_cons, writesP, List.length_append, List.length_cons, leafI, writeP]
    split
    · omega
    · rw [List.length_append]; omega
theorem sum_take_le (ps : List Bytes) (m : Nat) : ((ps.take m).map List.length).sum ≤ (ps.map List.length).sum := by
  induction ps generalizing m with
  | nil => simp
  | cons p ps ih =>
    cases m with
    | zero => simp
    | succ m => have := ih m; simp only [List.take_succ_cons, List.map_cons, List.sum_cons]; omega
theorem write_mail_sum (k : Nat) (hk : k < 18446744073709551616) (ps : List Bytes) (hps : ps.length ≤ 4) (h : (ps.map List.length).sum ≤ 1048576) : (writeP (mailI k ps)).length < 16777216 := by
  have h1 := writes_leaves_sum ps h
  have hd := digs_len_lt 8 k (by omega)
  have hw : (writeP (leafI (digs k))).length ≤ 12 := by
    simp only [leafI, writeP]
    split
    · omega
    · rw [List.length_append]; have := headP_len_le 128 (digs k).length (by omega); omega
  simp only [mailI, kidsI, writeP, List.length_append, writesP]
  have := headP_len_le4 192 ((writeP (leafI (digs k))).length + (writesP (ps.map leafI)).length) (by omega)
  omega
theorem mailR_len {k : Nat} {ps : List Bytes} {t : Bytes} (h : mailR k ps = (t, 0)) : t.length ≤ 4000 := by
  unfold mailR at h
  split at h
  · unfold encR at h
    split at h
    · simp at h
    · split at h
      · simp at h
      · split at h
        · simp at h
        · rename_i h4
          simp at h; subst h; omega
  · simp at h

set_option maxRecDepth 100000 in
set_option maxHeartbeats 2000000 in
theorem syncBack_any (k : Nat) (hk : k < 18446744073709551616) (ps : List Bytes) (A : Option Addr) (c : Nat) (s : Bytes) (w : World) (hv : StrV Any w ps A c) (hs63 : s.length ≤ 9223372036854775807)
    (htot : (ps.map List.length).sum ≤ 1048576) :
    Calls Try.prog 4 #[.int .u64 k, .slice A ps.length c, .string (bs s)] w fun e w' => e = .returned (.bool true) ∧ Below w.heap.size w w' := by
  have hl := hv.len
  simp only [maxLen] at hl
  obtain ⟨m, hm, hmm⟩ : ∃ m : Nat, min (ps.length : Int) 8 = m ∧ m = min ps.length 8 := ⟨min ps.length 8, by omega, rfl⟩
  have hm1 : (m : Int) ≤ ps.length := by omega
  have hm2 : (m : Int) ≤ c := by omega
  have hq : (ps.take m).length = m := by rw [List.length_take]; omega
  have hvq : StrV Any w (ps.take m) A c := strV_of (by have := hv.lies.take m; simpa [strC, List.map_take] using this) (by omega) hv.len.2
  have hsum := sum_take_le ps m
  clear hmm
  generalize ps.take m = qs at hq hvq hsum
  subst hq
  obtain ⟨m, hms, hmm⟩ : ∃ m : Nat, min (s.length : Int) 4100 = m ∧ m = min s.length 4100 := ⟨min s.length 4100, by omega, rfl⟩
  have hm3 : (m : Int) ≤ s.length := by omega
  have hW : rightP k qs = true → (writeP (mailI k qs)).length < 16777216 := fun h => write_mail_sum k hk qs (rightP_len h) (by omega)
  have hM := Mail_any k hk qs A c w hvq hW
  have hno := mailR_no k qs
  generalize hR : mailR k qs = tf at hM hno
  obtain ⟨tt, ff⟩ := tf
  simp only [] at hM hno
  have HR := Lib.hid hR
  have HM := Lib.hid hM
  clear hR hM hW hmm hsum
  go_enter Try.func4, Try.ntmps4
  go_wp2_with fail
  refine HM.out.mono ?_
  rintro e w1 ⟨rfl, hb1⟩
  by_cases hff : ff = 0
  case' pos =>
    subst hff
    have hO := mailR_yes (mailR_len HR.out) hk HR.out
    have HO := Lib.hid hO
    clear hO hno
    go_wp2_with fail
    refine (Open_any tt _).mono ?_
    rintro e w2 ⟨hb2, k2, ps2, A2, c2, no2, rfl, hv2, hs2⟩
    obtain ⟨rfl, rfl, rfl⟩ := openSaid_unique hs2 HO.out
    clear hs2
    go_wp2_with fail
    refine (Same_yes ps2 A2 A c2 c _ hv2.any ((hvq.keep hb1).keep hb2)).mono ?_
    rintro e wr ⟨rfl, hb3⟩
    have hbr := (hb1.trans (hb2.mono hb1.size)).trans (hb3.mono (by have := hb2.size; have := hb1.size; omega))
    clear hb1 hb2 hb3
    go_wp2_with fail
  case' neg =>
    have hne : ((ff : Int) == 0) = false := by rw [beq_eq_false_iff_ne]; omega
    clear hno
    rename World => wr
    have hbr := hb1
    go_wp2_with fail
  all_goals
    refine (Open_any _ _).mono ?_
    rintro e w4 ⟨hb4, k4, ps4, A4, c4, no4, rfl, hv4, hs4⟩
    have HO4 := Lib.hid hs4
    by_cases hno : no4 = 0
    · subst hno
      have hs4' : rightP k4 ps4 = true ∧ k4 < 18446744073709551616 ∧ mailR k4 ps4 = (s.take m, 0) ∧ (writeP (mailI k4 ps4)).length < 16777216 := by
        rcases HO4.out with ⟨_, e, r, l, b⟩ | ⟨h, _⟩
        · exact ⟨r, b, mailR_of l r e, by rw [← e]; omega⟩
        · cases h
      obtain ⟨_, hk4, hR4, hl4⟩ := hs4'
      have hM4 := Mail_any k4 hk4 ps4 A4 c4 w4 hv4.any (fun _ => hl4)
      rw [hR4] at hM4
      have HM4 := Lib.hid hM4
      clear hM4 hs4 hR4
      go_wp2_with fail
      refine HM4.out.mono ?_
      rintro e w5 ⟨rfl, hb5⟩
      go_wp2_with fail
      refine (alive_any _).mono ?_
      rintro e w6 ⟨rfl, hb6⟩
      go_wp2_with fail
      go_ret
      exact ⟨rfl, ((hbr.trans (hb4.mono hbr.size)).trans (hb5.mono (by have := hb4.size; have := hbr.size; omega))).trans (hb6.mono (by have := hb4.size; have := hb5.size; have := hbr.size; omega))⟩
    · have hs4' : no4 = 4 ∧ k4 = 0 ∧ ps4 = [] := by
        rcases hs4 with ⟨h, _⟩ | ⟨h, h1, h2, _⟩
        · exact absurd h hno
        · exact ⟨h, h1, h2⟩
      obtain ⟨rfl, rfl, rfl⟩ := hs4'
      clear hs4 hno
      go_wp2_with fail
      refine (alive_any _).mono ?_
      rintro e w6 ⟨rfl, hb6⟩
      go_wp2_with fail
      go_ret
      exact ⟨rfl, (hbr.trans (hb4.mono hbr.size)).trans (hb6.mono (by have := hb4.size; have := hbr.size; omega))⟩
end Go.Proofs.Ytggiicbjegmehaa
