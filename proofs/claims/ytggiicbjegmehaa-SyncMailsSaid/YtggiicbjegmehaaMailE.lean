/- Rows of texts of the call's own; ecclesiaref25.Same; ecclesialaw25.alive. -/
import Derived.Test.YtggiicbjegmehaaMailD
import Derived.Deep.AppendLies
import Derived.Deep.QuietTactic
namespace Go.Proofs.Ytggiicbjegmehaa
set_option linter.unusedVariables false
set_option linter.unusedSimpArgs false
open Go.RowKit

/-- texts' cells -/
def strC (ps : List Bytes) : List Value := ps.map fun p => .string (bs p)
theorem strC_len (ps : List Bytes) : (strC ps).length = ps.length := by simp [strC]
theorem strC_get {ps : List Bytes} {i : Nat} {p : Bytes} (h : ps[i]? = some p) : (strC ps)[i]? = some (.string (bs p)) := by simp [strC, h]
theorem repN_strC {S : Nat → Prop} {w : World} : ∀ (ps : List Bytes), RepN S w 1 (strsD ps) (strC ps)
  | [] => .nil
  | p :: ps => .cons (cs := [_]) (.v _ rfl) rfl (repN_strC ps)
theorem strC_of {S : Nat → Prop} {w : World} : ∀ (ps : List Bytes) (cs : List Value), RepN S w 1 (strsD ps) cs → cs = strC ps
  | [], _, h => by cases h; rfl
  | p :: ps, _, h => by
    cases h with
    | cons h0 _ h1 =>
      have h0 : Rep S w (.v (.string (bs p))) _ := h0
      rw [h0.v_form, strC_of ps _ h1]; rfl
theorem StrV.lies {S : Nat → Prop} {w : World} {ps : List Bytes} {A : Option Addr} {c : Nat} (h : StrV S w ps A c) : Lies S w A (strC ps) := by
  obtain ⟨css, h1, h2, _, _⟩ := h.slice_open
  rwa [strC_of _ _ h1] at h2
theorem Lies.take {S : Nat → Prop} {w : World} {A : Option Addr} {cs : List Value} (h : Lies S w A cs) (n : Nat) : Lies S w A (cs.take n) := fun hne => by
  obtain ⟨g, o, hA, hs, hc⟩ := h (fun e => by rw [e] at hne; simp at hne)
  exact ⟨g, o, hA, hs, fun j u hj => hc j u (by rw [List.getElem?_take] at hj; split at hj; exact hj; cases hj)⟩
theorem strV_of {S : Nat → Prop} {w : World} {ps : List Bytes} {A : Option Addr} {c : Nat} (h : Lies S w A (strC ps)) (h1 : ps.length ≤ c) (h2 : c ≤ maxLen) : StrV S w ps A c :=
  .sl (repN_strC ps) (by simp [strsD]) h h1 h2
theorem one_strC (ps : List Bytes) : ∀ u ∈ strC ps, u.oneCell' = true := by
  intro u hu; obtain ⟨p, _, rfl⟩ := List.mem_map.1 hu; rfl
theorem own_strV {w : World} {base : Nat} {e : TypeId} {v : Value} {n : Nat} {ps : List Bytes} (h : w.ownsRow base e 1 v n (strC ps)) : ∃ A c, v = .slice A ps.length c ∧ n = ps.length ∧ StrV (Fresh base) w ps A c := by
  have hn : n = ps.length := by have := h.1; rw [strC_len] at this; omega
  subst hn
  obtain ⟨A, c, rfl⟩ := own_form h
  exact ⟨A, c, rfl, rfl, rep_own h (repN_strC ps) (by simp [strsD]) (fun g hg _ => hg)⟩

set_option maxHeartbeats 400000 in
theorem Same_yes (ps : List Bytes) (A A' : Option Addr) (c c' : Nat) (w : World) (hv : StrV Any w ps A c) (hv' : StrV Any w ps A' c') :
    Calls Try.prog 11 #[.slice A ps.length c, .slice A' ps.length c'] w fun e w' => e = .returned (.bool true) ∧ Below w.heap.size w w' := by
  have hl63 : (ps.length : Int) ≤ 9223372036854775807 := by have := hv.len; simp only [maxLen] at this; omega
  go_enter Try.func11, Try.ntmps11
  go_wp2_with fail
  go_loopw [5, 13] (fun _ i wr => ∃ k : Nat, k ≤ ps.length ∧ i = .int .i64 k ∧ Below w.heap.size w wr) (fun _ i _ => ps.length - (intOf i).toNat)
  case atStart => exact ⟨0, Nat.zero_le _, rfl, Below.refl _ _⟩
  case round =>
    obtain ⟨k, hk, rfl, hb⟩ := hrel
    by_cases hlt : k < ps.length
    · obtain ⟨p, hp⟩ := getElem_ex hlt
      obtain ⟨g, o, rfl, _, c0⟩ := (hv.keep hb).at_ hp
      obtain ⟨g', o', rfl, _, c1⟩ := (hv'.keep hb).at_ hp
      have hlt' : (k : Int) < ps.length := by omega
      clear hp
      go_wp2_with fail
      go_quiet (fail)
      go_wp2_with fail
      go_roundw
      case rel => exact ⟨k + 1, by omega, by go_num, below_drewN hb _⟩
      case measure => simp [intOf]; omega
    · have hlt' : ¬ (k : Int) < ps.length := by omega
      go_wp2_with fail
      go_ret
      exact ⟨rfl, hb⟩

theorem mail_t : mailR 2 [[116]] = (writeP (mailI 2 [[116]]), 0) ∧ OpenSaid (writeP (mailI 2 [[116]])) 2 [[116]] 0 ∧ (writeP (mailI 2 [[116]])).length < 16777216 := by
  have hd : digs 2 = [2] := by rw [digs_pos (by omega), show 2 / 256 = 0 by omega, digs_zero]; rfl
  have hw : writeP (mailI 2 [[116]]) = [194, 2, 116] := by simp [mailI, kidsI, leafI, hd, writeP, writesP, headP]
  refine ⟨mailR_of (by rw [hw]; decide) (by simp [rightP]) rfl, .inl ⟨rfl, rfl, by simp [rightP], by rw [hw]; decide, by omega⟩, by rw [hw]; decide⟩

set_option maxHeartbeats 400000 in
theorem alive_any (w : World) : Calls Try.prog 10 #[] w fun e w' => e = .returned (.bool true) ∧ Below w.heap.size w w' := by
  obtain ⟨m1, m2, m3⟩ := mail_t
  have hv1 : StrV Any (w.alloc (.cells #[.string ⟨#[116]⟩] 9)) [[116]] (some ⟨w.heap.size, 0, none⟩) 1 :=
    strV_of (lies_new w #[.string ⟨#[116]⟩] _) (Nat.le_refl _) (by simp [maxLen])
  have hM := Mail_any 2 (by omega) [[116]] _ _ _ hv1 (fun _ => m3)
  rw [m1] at hM
  generalize writeP (mailI 2 [[116]]) = s at hM m2
  have M2 := Lib.hid m2
  clear m1 m2 m3
  go_enter Try.func10, Try.ntmps10
  go_wp2_with fail
  refine hM.mono ?_
  clear hM
  rintro e w1 ⟨rfl, hb1⟩
  go_wp2_with fail
  refine (Open_any s _).mono ?_
  rintro e w2 ⟨hb2, k, ps, A, c, no, rfl, hv, hs⟩
  obtain ⟨rfl, rfl, rfl⟩ := openSaid_unique hs M2.out
  obtain ⟨g, o, rfl, _, c0⟩ := hv.at_ (i := 0) (p := [116]) rfl
  rw [Nat.add_zero] at c0
  have hbb : Below w.heap.size w w2 := below_call (below_box (hb1.mono (by simp))) (by have := hb1.size; simp at this; omega) hb2
  clear hs hv
  go_wp2_with fail
  go_ret
  exact ⟨rfl, hbb⟩
end Go.Proofs.Ytggiicbjegmehaa
