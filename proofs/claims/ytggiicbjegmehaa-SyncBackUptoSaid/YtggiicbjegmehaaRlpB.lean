/- The walks of rlp and of the reference: functions that go down an item. -/
import Derived.Test.YtggiicbjegmehaaRlpA
import Derived.Test.YtggiicbjegmehaaItems
namespace Go.Proofs.Ytggiicbjegmehaa
set_option linter.unusedVariables false
set_option linter.unusedSimpArgs false
open Go.RowKit

theorem ret_int {k : IntKind} {a b : Int} (h : a = b) : Ending.returned (.int k a) = .returned (.int k b) := by rw [h]

set_option maxHeartbeats 400000 in
theorem deep_any (N : Nat) : ∀ (x : Item) (A : Option Addr) (c : Nat) (w : World), countP x ≤ N → countP x ≤ 1000000 → pureP x = true → ItemV Any w x A c →
    Calls Try.prog 43 #[.agg #[.bool x.l, .string (bs x.b), .slice A x.ks.length c]] w fun e w' => e = .returned (.int .i64 (depthP x)) ∧ Below w.heap.size w w' := by
  induction N with
  | zero => intro x A c w h; have := countP_pos x; omega
  | succ N ih =>
    intro x A c w hN hM hp hv
    cases hl : x.l with
    | false =>
      have hk := pureP_leaf hp hl
      have h0 : depthP x = 0 := by rw [depthP_eq, hk, hl]; simp [depthsP]
      rw [h0]
      clear h0 hk hl
      go_enter Try.func43, Try.ntmps43
      go_wp2_with fail
      go_ret
      exact ⟨rfl, (Below.refl _ _).alloc (Nat.le_refl _) _⟩
    | true =>
      have hlen := countsP_ge x.ks
      have hcnt : countP x = 1 + countsP x.ks := by cases x; rfl
      have hdc := depthP_le_count x
      have hkl : x.ks.length ≤ 1000000 := by omega
      have Hl := Lib.hid hl
      have Hd := Lib.hid hcnt
      have hd : Hid (depthP x = depthsP x.ks + 1) := by show _ = _; rw [depthP_eq, hl]; rfl
      clear hl hcnt
      go_enter Try.func43, Try.ntmps43
      go_wp2_with fail
      go_loopw [3, 5, 12] (fun d _ i wr => ∃ k : Nat, k ≤ x.ks.length ∧ i = .int .i64 k ∧ d = .int .i64 (depthsP (x.ks.take k)) ∧ Below (w.heap.size+1) (w.alloc (.cells #[.bool true, .string (bs x.b), .slice A x.ks.length c] 49)) wr) (fun _ _ i _ => x.ks.length - (intOf i).toNat)
      case atStart => exact ⟨0, Nat.zero_le _, rfl, rfl, Below.refl _ _⟩
      case round =>
        obtain ⟨k, hk, rfl, rfl, hb⟩ := hrel
        by_cases hlt : k < x.ks.length
        · obtain ⟨y, hy⟩ := getElem_ex hlt
          have hv' := (hv.alloc (.cells #[.bool true, .string (bs x.b), .slice A x.ks.length c] 49)).keep (hb.mono (by simp))
          obtain ⟨g, o, A', c', hA, _, hvy, c0, c1, c2⟩ := hv'.at_ hy
          subst hA
          go_wp2_with fail
          refine (ih y A' c' _ (by have := countP_mem hy; omega) (by have := countP_mem hy; omega) (pureP_mem hp hy) (hvy.alloc _)).mono ?_
          rintro e w1 ⟨rfl, hb1⟩
          have hmx := depthsP_take hy
          have Hmx := Lib.hid hmx
          clear hmx
          go_wp2_with fail
          go_roundw
          case rel => 
            refine ⟨k + 1, hlt, by go_num, ?_, ?_⟩
            · rw [Hmx.out]; congr 1; split <;> omega
            · exact below_next hb (by have := hb.size; simpa using this) hb1
          case measure => simp [intOf]; omega
        · obtain rfl : k = x.ks.length := by omega
          have hds : depthsP x.ks ≤ 1000000 := by have := hd.out; omega
          rw [List.take_length] 
          go_wp2_with fail
          go_ret
          exact ⟨ret_int (by have := hd.out; omega), below_box hb⟩

set_option maxHeartbeats 400000 in
theorem Depth_any (N : Nat) : ∀ (x : Item) (A : Option Addr) (c : Nat) (w : World), countP x ≤ N → countP x ≤ 1000000 → ItemV Any w x A c →
    Calls Try.prog 47 #[.agg #[.bool x.l, .string (bs x.b), .slice A x.ks.length c]] w fun e w' => e = .returned (.int .i64 (depthP x)) ∧ Below w.heap.size w w' := by
  induction N with
  | zero => intro x A c w h; have := countP_pos x; omega
  | succ N ih =>
    intro x A c w hN hM hv
    have hlen := countsP_ge x.ks
    have hcnt : countP x = 1 + countsP x.ks := by cases x; rfl
    have hdc := depthP_le_count x
    have hkl : x.ks.length ≤ 1000000 := by omega
    have Hd := Lib.hid hcnt
    have hd : Hid (depthP x = depthsP x.ks + if x.l then 1 else 0) := depthP_eq x
    have hds : depthsP x.ks ≤ 1000000 := by have := hd.out; omega
    clear hcnt
    go_enter Try.func47, Try.ntmps47
    go_wp2_with fail
    go_loopw [3, 5, 6, 10] (fun d _ _ i wr => ∃ k : Nat, k ≤ x.ks.length ∧ i = .int .i64 k ∧ d = .int .i64 (depthsP (x.ks.take k)) ∧ Below (w.heap.size+1) (w.alloc (.cells #[.bool x.l, .string (bs x.b), .slice A x.ks.length c] 49)) wr) (fun _ _ _ i _ => x.ks.length - (intOf i).toNat)
    case atStart => exact ⟨0, Nat.zero_le _, rfl, rfl, Below.refl _ _⟩
    case round =>
      obtain ⟨k, hk, rfl, rfl, hb⟩ := hrel
      by_cases hlt : k < x.ks.length
      · obtain ⟨y, hy⟩ := getElem_ex hlt
        have hv' := (hv.alloc (.cells #[.bool x.l, .string (bs x.b), .slice A x.ks.length c] 49)).keep (hb.mono (by simp))
        obtain ⟨g, o, A', c', hA, _, hvy, c0, c1, c2⟩ := hv'.at_ hy
        subst hA
        go_wp2_with fail
        refine (ih y A' c' _ (by have := countP_mem hy; omega) (by have := countP_mem hy; omega) (hvy.alloc _)).mono ?_
        rintro e w1 ⟨rfl, hb1⟩
        have hmx := depthsP_take hy
        have Hmx := Lib.hid hmx
        clear hmx
        go_wp2_with fail
        all_goals
          go_roundw
          case rel =>
            refine ⟨k + 1, hlt, by go_num, ?_, ?_⟩
            · rw [Hmx.out]; congr 1; omega
            · exact below_next hb (by have := hb.size; simpa using this) hb1
          case measure => simp [intOf]; omega
      · obtain rfl : k = x.ks.length := by omega
        rw [List.take_length]
        obtain ⟨q1, q2⟩ := bcell hb
        have hcl : wr.cell? ⟨w.heap.size, 0, none⟩ = some (.bool x.l) := by rw [q1 _ _ (by omega)]; simp
        clear q1 q2
        cases hl : x.l
        all_goals
          rw [hl] at hcl
          have Hl := Lib.hid hl
          clear hl
          go_wp2_with fail
          go_ret
          exact ⟨ret_int (by have := hd.out; rw [Hl.out] at this; simp at this; omega), below_box hb⟩

set_option maxHeartbeats 400000 in
theorem pure_any (N : Nat) : ∀ (x : Item) (A : Option Addr) (c : Nat) (w : World), countP x ≤ N → countP x ≤ 1000000 → ItemV Any w x A c →
    Calls Try.prog 46 #[.agg #[.bool x.l, .string (bs x.b), .slice A x.ks.length c]] w fun e w' => e = .returned (.bool (pureP x)) ∧ Below w.heap.size w w' := by
  induction N with
  | zero => intro x A c w h; have := countP_pos x; omega
  | succ N ih =>
    intro x A c w hN hM hv
    have hlen := countsP_ge x.ks
    have hcnt : countP x = 1 + countsP x.ks := by cases x; rfl
    have hkl : x.ks.length ≤ 1000000 := by omega
    have Hd := Lib.hid hcnt
    clear hcnt
    have hpe : pureP x = ((if x.l then x.b.isEmpty else x.ks.isEmpty) && puresP x.ks) := by cases x; rfl
    by_cases hbad : (if x.l then x.b.isEmpty else x.ks.isEmpty) = true
    · rw [hbad, Bool.true_and] at hpe
      have Hpe := Lib.hid hpe
      clear hpe
      have hh : (x.l = true ∧ x.b = []) ∨ (x.l = false ∧ x.ks.length = 0) := by
        cases hl : x.l <;> simp [hl] at hbad <;> simp [hbad]
      clear hbad
      rcases hh with ⟨hl, hb0⟩ | ⟨hl, hk0⟩
      · have Hb := Lib.hid hb0
        have hv1 := hv.alloc (.cells #[.bool x.l, .string (bs x.b), .slice A x.ks.length c] 49)
        rw [hl, hb0] at hv1
        rw [hl, hb0]
        have Hl := Lib.hid hl
        clear hl hb0
        go_enter Try.func46, Try.ntmps46
        go_wp2_with fail
        go_loopw [4, 26] (fun _ i wr => ∃ k : Nat, k ≤ x.ks.length ∧ i = .int .i64 k ∧ puresP (x.ks.take k) = true ∧ Below (w.heap.size+1) (w.alloc (.cells #[.bool true, .string (bs []), .slice A x.ks.length c] 49)) wr) (fun _ i _ => x.ks.length - (intOf i).toNat)
        case atStart => exact ⟨0, Nat.zero_le _, rfl, rfl, Below.refl _ _⟩
        case round =>
          obtain ⟨k, hk, rfl, hpk, hb⟩ := hrel
          by_cases hlt : k < x.ks.length
          · obtain ⟨y, hy⟩ := getElem_ex hlt
            have hv' := hv1.keep (hb.mono (by simp))
            obtain ⟨g, o, A', c', hA, _, hvy, c0, c1, c2⟩ := hv'.at_ hy
            subst hA
            have hpt := puresP_take hy
            rw [hpk, Bool.true_and] at hpt
            have Hpt := Lib.hid hpt
            clear hpt hpk
            cases hpy : pureP y
            · have Hpy := Lib.hid hpy
              clear hpy
              go_wp2_with fail
              refine (ih y A' c' _ (by have := countP_mem hy; have := Hd.out; omega) (by have := countP_mem hy; have := Hd.out; omega) (hvy.alloc _)).mono ?_
              rintro e w1 ⟨rfl, hb1⟩
              rw [Hpy.out]
              go_wp2_with fail
              go_ret
              refine ⟨?_, below_box (below_next hb (by have := hb.size; simpa using this) hb1)⟩
              rw [Hpe.out, pures_false hy Hpy.out]; rfl
            · have Hpy := Lib.hid hpy
              clear hpy
              go_wp2_with fail
              refine (ih y A' c' _ (by have := countP_mem hy; have := Hd.out; omega) (by have := countP_mem hy; have := Hd.out; omega) (hvy.alloc _)).mono ?_
              rintro e w1 ⟨rfl, hb1⟩
              rw [Hpy.out]
              go_wp2_with fail
              go_roundw
              case rel => exact ⟨k + 1, hlt, by go_num, by rw [Hpt.out, Hpy.out], below_next hb (by have := hb.size; simpa using this) hb1⟩
              case measure => simp [intOf]; omega
          · obtain rfl : k = x.ks.length := by omega
            rw [List.take_length] at hpk
            have Hpk := Lib.hid hpk
            clear hpk
            go_wp2_with fail
            go_ret
            exact ⟨by rw [Hpe.out, Hpk.out]; rfl, below_box hb⟩
      · have hkn : x.ks = [] := List.eq_nil_of_length_eq_zero hk0
        have hp1 : pureP x = true := by rw [Hpe.out, hkn]; rfl
        rw [hl, hp1, hk0]
        clear hl hp1 hk0 hkn
        go_enter Try.func46, Try.ntmps46
        go_wp2_with fail
        go_loopw [4, 26] (fun _ i wr => i = .int .i64 0 ∧ Below (w.heap.size+1) (w.alloc (.cells #[.bool false, .string (bs x.b), .slice A 0 c] 49)) wr) (fun _ i _ => 0)
        case atStart => exact ⟨rfl, Below.refl _ _⟩
        case round =>
          obtain ⟨rfl, hb⟩ := hrel
          go_wp2_with fail
          go_ret
          exact ⟨rfl, below_box hb⟩
    · have hpf : pureP x = false := by rw [hpe]; simp [hbad]
      rw [hpf]
      have hh : (x.l = true ∧ (x.b == []) = false) ∨ (x.l = false ∧ 0 < (x.ks.length : Int)) := by
        cases hl : x.l
        · rw [hl] at hbad
          refine .inr ⟨rfl, ?_⟩
          cases hk : x.ks
          · rw [hk] at hbad; simp at hbad
          · simp
        · rw [hl] at hbad
          refine .inl ⟨rfl, ?_⟩
          cases hk : x.b
          · rw [hk] at hbad; simp at hbad
          · rfl
      clear hpf hbad hpe
      rcases hh with ⟨hl, hb0⟩ | ⟨hl, hb0⟩
      all_goals
        rw [hl]
        clear hl
        go_enter Try.func46, Try.ntmps46
        go_wp2_with fail
        go_ret
        exact ⟨rfl, (Below.refl _ _).alloc (Nat.le_refl _) _⟩

end Go.Proofs.Ytggiicbjegmehaa
