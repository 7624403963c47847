/- The walks of script.get. -/
import Derived.Test.YtggiicbjegmehaaDoorScQ
namespace Go.Proofs.YtggiicbjegmehaaDoor
set_option linter.unusedVariables false
set_option linter.unusedSimpArgs false
open Go.RowKit

def numB (s : Bytes) : Nat := match Lib.parseUintB 64 s with | .ok u => u | _ => 0
theorem parseM_le : ∀ (l : Bytes) (acc u : Nat), acc ≤ 18446744073709551615 → Lib.parseUintM 18446744073709551615 acc l = .ok u → u ≤ 18446744073709551615
  | [], acc, u, h, e => by rw [Lib.parseUintM] at e; injection e with e; omega
  | c :: l, acc, u, h, e => by
    rw [Lib.parseUintM] at e
    split at e
    · split at e
      · cases e
      split at e
      · cases e
      · exact parseM_le l _ u (by omega) e
    · cases e
theorem parseB_le {s : Bytes} {u : Nat} (h : Lib.parseUintB 64 s = .ok u) : u ≤ 18446744073709551615 := by
  unfold Lib.parseUintB at h
  split at h
  · cases h
  · exact parseM_le s 0 u (by omega) h
theorem pu_any (s : Bytes) (hs : s.length ≤ 281474976710656) (w : World) (he : Env w) :
    Calls Tryd.prog 41 #[.string (bs s), .int .i64 10, .int .i64 64] w fun e w' =>
      (∃ (u : Nat) (ev : Value), e = .returned (.tuple #[.int .u64 (u : Int), ev]) ∧ ((Lib.parseUintB 64 s = .ok u ∧ ev = .nilIface) ∨ (numB s = 0 ∧ ∃ te pe, ev = .iface te pe))) ∧ Below w.heap.size w w' := by
  have hd : (bs s).data.toList = s := rfl
  by_cases hu : ∃ u, Lib.parseUintB 64 s = .ok u
  · obtain ⟨u, h⟩ := hu
    refine (strconv_ParseUint_10_at64_ok (bs s) (by rw [size_bs]; omega) u (by rw [hd]; exact h) w).mono ?_
    rintro e w1 ⟨rfl, hw⟩
    refine ⟨⟨u, _, rfl, .inl ⟨h, rfl⟩⟩, ?_⟩
    rcases hw with rfl | rfl
    · exact Below.refl _ _
    · exact ⟨rfl, rfl, rfl, by rw [Lib.bytesWorld_size]; omega, fun k hk => Lib.bytesWorld_at_old w _ _ k hk⟩
  have hz : numB s = 0 := by
    unfold numB
    split
    · rename_i u h; exact absurd ⟨u, h⟩ hu
    · rfl
  by_cases h : Lib.parseUintB 64 s = .range
  · obtain ⟨ev, h1, h2⟩ := he.e2
    refine (strconv_ParseUint_10_at64_range (bs s) (by rw [size_bs]; exact hs) (by rw [hd]; exact h) ev w h1 h2).mono ?_
    rintro e w1 ⟨N, rfl, _, _, hb⟩
    exact ⟨⟨18446744073709551615, _, rfl, .inr ⟨hz, _, _, rfl⟩⟩, hb⟩
  · obtain ⟨ev, h1, h2⟩ := he.e1
    refine (strconv_ParseUint_10_at64_bad (bs s) (by rw [size_bs]; exact hs) (by rw [hd]; exact fun u hx => hu ⟨u, hx⟩) (by rw [hd]; exact h) ev w h1 h2).mono ?_
    rintro e w1 ⟨N, rfl, _, _, hb⟩
    exact ⟨⟨0, _, rfl, .inr ⟨hz, _, _, rfl⟩⟩, hb⟩

/-- a word's number, or 0 -/
def getU (ps : List Bytes) (i : Nat) : Int := match ps[i]? with | none => 0 | some s => (numB s : Int)
def getI (ps : List Bytes) (i : Nat) : Int := match ps[i]? with | none => 0 | some s => if numB s ≤ 9223372036854775807 then (numB s : Int) else 0

set_option maxRecDepth 100000 in
set_option maxHeartbeats 4000000 in
theorem getU_any (ps : List Bytes) (hl : ps.length ≤ 100000000) (hp : ∀ p ∈ ps, p.length ≤ 100000000) (i : Nat) (hi : i ≤ 100) (A : Option Addr) (c : Nat) (w : World) (he : Env w) (hv : StrV Any w ps A c) :
    Calls Tryd.prog 20 #[.slice A ps.length c, .int .i64 (i : Int)] w fun e w' => e = .returned (.int .u64 (getU ps i)) ∧ Below w.heap.size w w' := by
  have hlI : (ps.length : Int) ≤ 100000000 := by omega
  by_cases hlt : i < ps.length
  · obtain ⟨s, hs⟩ := getElem_ex hlt
    obtain ⟨g, o, rfl, _, hc⟩ := hv.at_ hs
    have hltI : (i : Int) < ps.length := by omega
    have hlt2 : ¬ (ps.length : Int) ≤ i := by omega
    have HP := Lib.hid (pu_any s (by have := hp s (List.mem_of_getElem? hs); omega) w he)
    have hG : getU ps i = (numB s : Int) := by unfold getU; rw [hs]
    rw [hG]
    clear hs hG hv hp he
    go_enter Tryd.func20, Tryd.ntmps20
    go_wp2_with fail
    refine HP.out.mono ?_
    rintro e w1 ⟨⟨u, ev, rfl, hr⟩, hb⟩
    rcases hr with ⟨h1, rfl⟩ | ⟨h1, te, pe, rfl⟩
    · have hu := parseB_le h1
      have hu0 : ¬ (u : Int) < 0 := by omega
      have HN : Hid (numB s = u) := Lib.hid (by unfold numB; rw [h1])
      clear h1 hc
      go_wp2_with fail
      go_ret
      exact ⟨by rw [HN.out]; rfl, hb⟩
    · have HN := Lib.hid h1
      clear h1 hc
      go_wp2_with fail
      go_ret
      exact ⟨by rw [HN.out]; rfl, hb⟩
  · have hlt2 : (ps.length : Int) ≤ i := by omega
    have hG : getU ps i = 0 := by unfold getU; rw [List.getElem?_eq_none (by omega)]
    rw [hG]
    clear hG hv hp he
    go_enter Tryd.func20, Tryd.ntmps20
    go_wp2_with fail
    go_ret
    exact ⟨rfl, Below.refl _ _⟩

set_option maxRecDepth 100000 in
set_option maxHeartbeats 4000000 in
theorem getI_any (ps : List Bytes) (hl : ps.length ≤ 100000000) (hp : ∀ p ∈ ps, p.length ≤ 100000000) (i : Nat) (hi : i ≤ 100) (A : Option Addr) (c : Nat) (w : World) (he : Env w) (hv : StrV Any w ps A c) :
    Calls Tryd.prog 19 #[.slice A ps.length c, .int .i64 (i : Int)] w fun e w' => e = .returned (.int .i64 (getI ps i)) ∧ Below w.heap.size w w' := by
  have hlI : (ps.length : Int) ≤ 100000000 := by omega
  by_cases hlt : i < ps.length
  · obtain ⟨s, hs⟩ := getElem_ex hlt
    obtain ⟨g, o, rfl, _, hc⟩ := hv.at_ hs
    have hltI : (i : Int) < ps.length := by omega
    have hlt2 : ¬ (ps.length : Int) ≤ i := by omega
    have HP := Lib.hid (pu_any s (by have := hp s (List.mem_of_getElem? hs); omega) w he)
    obtain ⟨G, hG⟩ : ∃ G, getI ps i = G := ⟨_, rfl⟩
    have HG : Hid (G = if numB s ≤ 9223372036854775807 then (numB s : Int) else 0) := Lib.hid (by rw [← hG]; unfold getI; rw [hs])
    rw [hG]
    clear hs hG hv hp he
    go_enter Tryd.func19, Tryd.ntmps19
    go_wp2_with fail
    refine HP.out.mono ?_
    rintro e w1 ⟨⟨u, ev, rfl, hr⟩, hb⟩
    rcases hr with ⟨h1, rfl⟩ | ⟨h1, te, pe, rfl⟩
    · have hu := parseB_le h1
      have HN : Hid (numB s = u) := Lib.hid (by unfold numB; rw [h1])
      by_cases hs63 : u ≤ 9223372036854775807
      · have hw1 : IntKind.i64.wrap (u : Int) = u := IntWalk.i64_in _ (by omega)
        have hw2 : IntKind.u64.wrap (u : Int) = u := IntWalk.u64_in _ (by omega)
        have hu0 : ¬ (u : Int) < 0 := by omega
        have HR : Hid (G = u) := Lib.hid (by rw [HG.out, HN.out, if_pos hs63])
        clear h1 hc HN
        go_wp2_with fail
        go_ret
        exact ⟨by rw [HR.out]; rfl, hb⟩
      · obtain ⟨v, hv⟩ : ∃ v : Int, (u : Int) - 18446744073709551616 = v := ⟨_, rfl⟩
        have hw1 : IntKind.i64.wrap (u : Int) = v := by
          rw [← hv]; unfold IntKind.wrap; simp [IntKind.signed, IntKind.bits]; omega
        have hw2 : IntKind.u64.wrap v = (u : Int) := by
          rw [← hv]; unfold IntKind.wrap; simp [IntKind.signed, IntKind.bits]; omega
        have hu0 : v < 0 := by omega
        have HR : Hid (G = 0) := Lib.hid (by rw [HG.out, HN.out, if_neg hs63])
        clear h1 hc HN hv
        go_wp2_with fail
        go_ret
        exact ⟨by rw [HR.out]; rfl, hb⟩
    · have HR : Hid (G = 0) := Lib.hid (by rw [HG.out, h1]; rfl)
      clear h1 hc
      go_wp2_with fail
      go_ret
      exact ⟨by rw [HR.out]; rfl, hb⟩
  · have hlt2 : (ps.length : Int) ≤ i := by omega
    have hG : getI ps i = 0 := by unfold getI; rw [List.getElem?_eq_none (by omega)]
    rw [hG]
    clear hG hv hp he
    go_enter Tryd.func19, Tryd.ntmps19
    go_wp2_with fail
    go_ret
    exact ⟨rfl, Below.refl _ _⟩
end Go.Proofs.YtggiicbjegmehaaDoor
