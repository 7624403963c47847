/- The walk of ecclesialaw25.SyncMails. -/
import Derived.Test.YtggiicbjegmehaaMailE
namespace Go.Proofs.Ytggiicbjegmehaa
set_option linter.unusedVariables false
set_option linter.unusedSimpArgs false
open Go.RowKit

theorem own_strV' {w : World} {base : Nat} {e : TypeId} {A : Option Addr} {n c : Nat} {ps : List Bytes} (h : w.ownsRow base e 1 (.slice A n c) n (strC ps)) : StrV (Fresh base) w ps A c := by
  have hn : n = ps.length := by have := h.1; rw [strC_len] at this; omega
  subst hn
  exact rep_own h (repN_strC ps) (by simp [strsD]) (fun g hg _ => hg)
/-- texts of which so many are cut -/
def cutsP (n k : Nat) (ps : List Bytes) : List Bytes := (ps.take k).map (fun p => p.take n) ++ ps.drop k
theorem cutsP_zero (n : Nat) (ps : List Bytes) : cutsP n 0 ps = ps := rfl
theorem cutsP_len (n k : Nat) (ps : List Bytes) : (cutsP n k ps).length = ps.length := by simp [cutsP]; omega
theorem cutsP_get {n k : Nat} {ps : List Bytes} {p : Bytes} (h : ps[k]? = some p) : (cutsP n k ps)[k]? = some p := by
  have hk := (List.getElem?_eq_some_iff.1 h).1
  unfold cutsP
  rw [List.getElem?_append_right (by simp; omega)]
  simp [Nat.min_eq_left (Nat.le_of_lt hk), h]
theorem cutsP_set {n k : Nat} {ps : List Bytes} {p : Bytes} (h : ps[k]? = some p) : (strC (cutsP n k ps)).set k (.string (bs (p.take n))) = strC (cutsP n (k + 1) ps) := by
  have hk := (List.getElem?_eq_some_iff.1 h).1
  unfold strC cutsP
  rw [take_snoc h, drop_cons h]
  simp only [List.map_append, List.map_cons, List.map_nil, List.append_assoc]
  rw [List.set_append_right _ _ (by simp; omega)]
  simp [Nat.min_eq_left (Nat.le_of_lt hk)]
theorem cutsP_all (n : Nat) (ps : List Bytes) : cutsP n ps.length ps = ps.map (fun p => p.take n) := by simp [cutsP]

theorem writes_leaves_le (ps : List Bytes) (n : Nat) (hn : n < 65536) (h : ∀ p ∈ ps, p.length ≤ n) : (writesP (ps.map leafI)).length ≤ ps.length * (n + 3) := by
  induction ps with
  | nil => simp [writesP]
  | cons p ps ih =>
    have h1 := ih (fun q hq => h q (List.mem_cons_of_mem _ hq))
    have h2 := h p (List.mem_cons_self ..)
    have h3 := headP_len_le 128 p.length (by omega)
    simp only [List.map_cons, writesP, List.length_append, List.length_cons, leafI, writeP]
    rw [Nat.add_mul]
    split
    · omega
    · rw [List.length_append]; omega
theorem write_mail_le (k : Nat) (hk : k < 18446744073709551616) (ps : List Bytes) (hps : ps.length ≤ 4) (h : ∀ p ∈ ps, p.length ≤ 4100) : (writeP (mailI k ps)).length < 16777216 := by
  have h1 := writes_leaves_le ps 4100 (by omega) h
  have hd := digs_len_lt 8 k (by omega)
  have hw : (writeP (leafI (digs k))).length ≤ 12 := by
    simp only [leafI, writeP]
    split
    · omega
    · rw [List.length_append]; have := headP_len_le 128 (digs k).length (by omega); omega
  have h4 : ps.length * (4100 + 3) ≤ 4 * 4103 := Nat.mul_le_mul hps (Nat.le_refl _)
  simp only [mailI, kidsI, writeP, List.length_append, writesP]
  have := headP_len_le 192 ((writeP (leafI (digs k))).length + (writesP (ps.map leafI)).length) (by omega)
  omega

set_option maxRecDepth 100000 in
set_option maxHeartbeats 2000000 in
theorem syncMails_any (k : Nat) (hk : k < 18446744073709551616) (ps : List Bytes) (A : Option Addr) (c : Nat) (s : Bytes) (w : World) (hv : StrV Any w ps A c) (hs63 : s.length ≤ 9223372036854775807)
    (hp63 : ∀ p ∈ ps, p.length ≤ 9223372036854775807) :
    Calls Try.prog 3 #[.int .u64 k, .slice A ps.length c, .string (bs s)] w fun e w' => e = .returned (.bool true) ∧ Below w.heap.size w w' := by
  have hl := hv.len
  simp only [maxLen] at hl
  obtain ⟨m, hm, hmm⟩ : ∃ m : Nat, min (ps.length : Int) 8 = m ∧ m = min ps.length 8 := ⟨min ps.length 8, by omega, rfl⟩
  have hm1 : (m : Int) ≤ ps.length := by omega
  have hm2 : (m : Int) ≤ c := by omega
  have hm3 : (m : Int) ≤ 8 := by omega
  have hq : (ps.take m).length = m := by rw [List.length_take]; omega
  have hown0 : (w.alloc (.cells #[] 9)).ownsRow w.heap.size 9 1 (.slice (some ⟨w.heap.size, 0, none⟩) 0 0) 0 [] := World.ownsRow_lit w _ 0 (Nat.le_refl _) (by simp [maxLen]) rfl
  have hnews : Lies Any (w.alloc (.cells #[] 9)) A (strC (ps.take m)) := by
    have := (hv.alloc (.cells #[] 9)).lies.take m
    simpa [strC, List.map_take] using this
  have hqp : ∀ p ∈ ps.take m, p.length ≤ 9223372036854775807 := fun p h => hp63 p (List.mem_of_mem_take h)
  clear hmm hp63
  generalize ps.take m = qs at hq hnews hqp
  subst hq
  have HL := Lib.hid (show (strC qs).length = qs.length * 1 by rw [strC_len]; omega)
  have HP := Lib.hid hqp
  clear hqp
  go_enter Try.func3, Try.ntmps3
  go_wp2_with (at_builtin; refine wpl_append elStr rfl rfl w.heap.size hown0 rfl (m := qs.length) (strC qs) rfl HL.out hnews (one_strC _) (by simp only [maxLen]; omega) (by omega) (by simp) ?_; intro v1 w1 hown1 hg1 hat1; rw [Nat.zero_add] at hown1; obtain ⟨A1, c1, rfl⟩ := own_form hown1)
  have hb1 : Below w.heap.size w w1 := below_app ((Below.refl _ _).alloc (Nat.le_refl _) _) hown0 hg1 (by simp) (Nat.le_refl _)
  clear hm hown0 hnews hg1 hat1
  go_loopw [7, 8, 28] (fun _ _ i wr => ∃ j : Nat, j ≤ qs.length ∧ i = .int .i64 j ∧ wr.ownsRow w.heap.size 9 1 (.slice A1 qs.length c1) qs.length (strC (cutsP 4100 j qs)) ∧ Below w.heap.size w wr) (fun _ _ i _ => qs.length - (intOf i).toNat)
  case atStart => exact ⟨0, Nat.zero_le _, rfl, hown1, hb1⟩
  case round =>
    obtain ⟨j, hj, rfl, hown, hb⟩ := hrel
    clear hown1 hb1
    by_cases hlt : j < qs.length
    · obtain ⟨g, cap, hA, hg0, hg1⟩ := hown.form (by omega)
      obtain ⟨rfl, rfl⟩ : A1 = some ⟨g, 0, none⟩ ∧ c1 = cap := by injection hA with h1 _ h2; exact ⟨h1, h2⟩
      clear hA
      obtain ⟨p, hp⟩ := getElem_ex hlt
      have hc := hown.cellAt j (by omega)
      rw [strC_get (cutsP_get hp)] at hc
      have hf := hown.frozenAt j
      have hlt' : (j : Int) < qs.length := by omega
      have hpl := HP.out p (List.mem_of_getElem? hp)
      obtain ⟨m, hm, hmm⟩ : ∃ m : Nat, min (p.length : Int) 4100 = m ∧ m = min p.length 4100 := ⟨min p.length 4100, by omega, rfl⟩
      have hm1 : (m : Int) ≤ p.length := by omega
      have Hs := Lib.hid (cutsP_set (n := 4100) hp)
      have Hm := Lib.hid (show p.take 4100 = p.take m by rw [hmm, List.take_eq_take_min]; rw [Nat.min_comm])
      have HO := Lib.hid hown
      clear hp hmm hown
      go_wp2_with fail
      go_roundw
      case rel =>
        have h := HO.out.stored j (.string (bs (p.take 4100)))
        rw [Hs.out, Hm.out] at h
        exact ⟨j + 1, hlt, by go_num, h.1, hb.setCell (p := ⟨g, j, none⟩) hg0 _⟩
      case measure => simp [intOf]; omega
    · obtain rfl : j = qs.length := by omega
      have hlt' : ¬ (qs.length : Int) < qs.length := by omega
      rw [cutsP_all] at hown
      obtain ⟨rs, hrs⟩ : ∃ rs, qs.map (fun p => p.take 4100) = rs := ⟨_, rfl⟩
      have hrl : qs.length = rs.length := by rw [← hrs, List.length_map]
      have hrp : ∀ p ∈ rs, p.length ≤ 4100 := by
        rw [← hrs]; intro p hp
        obtain ⟨q, _, rfl⟩ := List.mem_map.1 hp
        simp; omega
      rw [hrs] at hown
      have hvr := own_strV' hown
      obtain ⟨m, hm, hmm⟩ : ∃ m : Nat, min (s.length : Int) 4100 = m ∧ m = min s.length 4100 := ⟨min s.length 4100, by omega, rfl⟩
      have hm1 : (m : Int) ≤ s.length := by omega
      have hbs := hb.size
      have hW : rightP k rs = true → (writeP (mailI k rs)).length < 16777216 := fun h => write_mail_le k hk rs (rightP_len h) hrp
      have hM := fun w hv => Mail_any k hk rs A1 c1 w hv hW
      have hR := fun w hv => refMail_any k hk rs A1 c1 w hv hW
      rw [← hrl] at hM hR
      generalize mailR k rs = tf at hM hR
      obtain ⟨tt, ff⟩ := tf
      simp only [] at hM hR
      have HM := Lib.hid hM
      have HR := Lib.hid hR
      clear hown hrs hrl hrp hmm hlt hW hM hR
      go_wp2_with fail
      refine (HM.out _ hvr.any).mono ?_
      rintro e w2 ⟨rfl, hb2⟩
      go_wp2_with fail
      refine (HR.out _ (hvr.any.keep hb2)).mono ?_
      rintro e w3 ⟨rfl, hb3⟩
      go_wp2_with fail
      refine (Open_any _ _).mono ?_
      rintro e w4 ⟨hb4, k4, ps4, A4, c4, no4, rfl, hv4, hs4⟩
      go_wp2_with fail
      refine (refOpen_any _ _).mono ?_
      rintro e w5 ⟨hb5, k5, ps5, A5, c5, no5, rfl, hv5, hs5⟩
      obtain ⟨rfl, rfl, rfl⟩ := openSaid_unique hs4 hs5
      clear hs4 hs5
      go_wp2_with fail
      refine (alive_any _).mono ?_
      rintro e w6 ⟨rfl, hb6⟩
      go_wp2_with fail
      refine (Same_yes ps4 A4 A5 c4 c5 _ ((hv4.any.keep hb5).keep hb6) (hv5.any.keep hb6)).mono ?_
      rintro e w7 ⟨rfl, hb7⟩
      go_wp2_with fail
      go_ret
      refine ⟨rfl, ?_⟩
      exact (((((hb.trans (hb2.mono hbs)).trans (hb3.mono (by have := hb2.size; omega))).trans (hb4.mono (by have := hb2.size; have := hb3.size; omega))).trans (hb5.mono (by have := hb2.size; have := hb3.size; have := hb4.size; omega))).trans (hb6.mono (by have := hb2.size; have := hb3.size; have := hb4.size; have := hb5.size; omega))).trans (hb7.mono (by have := hb2.size; have := hb3.size; have := hb4.size; have := hb5.size; have := hb6.size; omega))
end Go.Proofs.Ytggiicbjegmehaa
