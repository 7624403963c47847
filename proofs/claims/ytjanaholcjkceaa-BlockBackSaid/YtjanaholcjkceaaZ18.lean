/- The walks of rlp and of the reference: functions that go down an item. -/
import Derived.Test.YtjanaholcjkceaaZ17
import Derived.Test.YtjanaholcjkceaaZ12
namespace Go.Proofs.Ytjanaholcjkceaa
set_option linter.unusedVariables false
set_option linter.unusedSimpArgs false
open Go.RowKit
theorem ret_int {k : IntKind} {a b : Int} (h : a = b) : Ending.returned (.int k a) = .returned (.int k b) := by rw [h]
set_option maxHeartbeats 400000 in
theorem deep_any (N : Nat) : ∀ (x : Item) (A : Option Addr) (c : Nat) (w : World), countP x ≤ N → countP x ≤ 1000000 → pureP x = true → ItemV Any w x A c →
    Calls Try.prog 30 #[.agg #[.bool x.l, .string (bs x.b), .slice A x.ks.length c]] w fun e w' => e = .returned (.int .i64 (depthP x)) ∧ Below w.heap.size w w' := by
  induction N with
  | zero => intro x A c w h; have := countP_pos x; omega
  | succ N ih =>
    intro x A c w hN hM hp hv
    cases hl : x.l with
    | false =>
      have hk := pureP_leaf hp hl
      have h0 : depthP x = 0 := by rw [depthP_eq, hk, hl]; simp [depthsP]
      rw [h0]
      clear h0 hk hl
      go_enter Try.func30, Try.ntmps30
      go_wp2_with fail
      go_ret
      exact ⟨rfl, (Below.refl _ _).alloc (Nat.le_refl _) _⟩
    | true =>
      have hlen := countsP_ge x.ks
      have hcnt : countP x = 1 + countsP x.ks := by cases x; rfl
      have hdc := depthP_le_count x
      have hkl : x.ks.length ≤ 1000000 := by omega
      have Hl := Lib.hid hl
      have Hd := Lib.hid hcnt
      have hd : Hid (depthP x = depthsP x.ks + 1) := by show _ = _; rw [depthP_eq, hl]; rfl
      clear hl hcnt
      go_enter Try.func30, Try.ntmps30
      go_wp2_with fail
      go_loopw [3, 5, 12] (fun d _ i wr => ∃ k : Nat, k ≤ x.ks.length ∧ i = .int .i64 k ∧ d = .int .i64 (depthsP (x.ks.take k)) ∧ Below (w.heap.size+1) (w.alloc (.cells #[.bool true, .string (bs x.b), .slice A x.ks.length c] 45)) wr) (fun _ _ i _ => x.ks.length - (intOf i).toNat)
      case atStart => exact ⟨0, Nat.zero_le _, rfl, rfl, Below.refl _ _⟩
      case round =>
        obtain ⟨k, hk, rfl, rfl, hb⟩ := hrel
        by_cases hlt : k < x.ks.length
        · obtain ⟨y, hy⟩ := getElem_ex hlt
          have hv' := (hv.alloc (.cells #[.bool true, .string (bs x.b), .slice A x.ks.length c] 45)).keep (hb.mono (by simp))
          obtain ⟨g, o, A', c', hA, _, hvy, c0, c1, c2⟩ := hv'.at_ hy
          subst hA
          go_wp2_with fail
          refine (ih y A' c' _ (by have := countP_mem hy; omega) (by have := countP_mem hy; omega) (pureP_mem hp hy) (hvy.alloc _)).mono ?_
          rintro e w1 ⟨rfl, hb1⟩
          have hmx := depthsP_take hy
          have Hmx := Lib.hid hmx
          clear hmx
          go_wp2_with fail
          go_roundw
          case rel => 
            refine ⟨k + 1, hlt, by go_num, ?_, ?_⟩
            · rw [Hmx.out]; congr 1; split <;> omega
            · exact below_next hb (by have := hb.size; simpa using this) hb1
          case measure => simp [intOf]; omega
        · obtain rfl : k = x.ks.length := by omega
          have hds : depthsP x.ks ≤ 1000000 := by have := hd.out; omega
          rw [List.take_length] 
          go_wp2_with fail
          go_ret
          exact ⟨ret_int (by have := hd.out; omega), below_box hb⟩
end Go.Proofs.Ytjanaholcjkceaa
/- The walks of rlp.well and of the reference's Many: items in a row, one behind the other. -/
namespace Go.Proofs.Ytjanaholcjkceaa
set_option linter.unusedVariables false
set_option linter.unusedSimpArgs false
open Go.RowKit
theorem elItem : ElemOk Try.prog 43 45 (.agg #[.bool false, .string ⟨#[]⟩, .slice none 0 0]) 3 48 := ⟨Try.underlying43, by kernel_rfl, rfl, by omega⟩
set_option maxHeartbeats 800000 in
theorem well_any (x : Item) (A : Option Addr) (c : Nat) (w : World) (hv : ItemV Any w x A c) :
    Calls Try.prog 29 #[.agg #[.bool x.l, .string (bs x.b), .slice A x.ks.length c]] w fun e w' => e = .returned (.bool (wellP x)) ∧ Below w.heap.size w w' := by
  go_enter Try.func29, Try.ntmps29
  go_wp2_with fail
  go_loopw [3, 4, 5] (fun v i _ wr => ∃ (k : Nat) (q : List Item) (xs : List Value), k ≤ q.length ∧ q.length ≤ 4000 ∧ i = .int .i64 k ∧ wr.ownsRow (w.heap.size + 1) 45 3 v q.length xs ∧ RepN Any w 3 (itemsD q) xs ∧
      Hid (countP x = k + countsP (q.drop k)) ∧ Hid (pureP x = puresP (q.drop k)) ∧ Below (w.heap.size+1) (w.alloc (.cells #[.bool x.l, .string (bs x.b), .slice A x.ks.length c] 45)) wr) (fun _ i _ _ => 4001 - (intOf i).toNat)
  case atStart =>
    refine ⟨0, [x], itemC x A c, by simp, by simp, rfl, ?_, ?_, ?_, ?_, ?_⟩
    · have := World.ownsRow_lit (base := w.heap.size + 1) (e := 45) (size := 3) (w.alloc (.cells #[.bool x.l, .string (bs x.b), .slice A x.ks.length c] 45)) #[.bool x.l, .string (bs x.b), .slice A x.ks.length c] 1 (by simp) (by simp only [maxLen]; omega) rfl
      simpa [itemC] using this
    · exact .cons hv rfl .nil
    · show _ = _; simp [countsP]
    · show _ = _; simp [puresP]
    · exact ((Below.refl _ _).alloc (by simp) _)
  case round =>
    obtain ⟨k, q, xs, hk, hq, rfl, hown, hr, H1, H2, hb⟩ := hrel
    obtain ⟨A1, c1, rfl⟩ := own_form hown
    have hbs := hb.size
    simp at hbs
    by_cases hlt : k < q.length
    · obtain ⟨y, hy⟩ := getElem_ex hlt
      obtain ⟨g, A', c', hA, hvy, d0, d1, d2⟩ := own_item hown hr hy
      subst hA
      have hstep := wait_step hy
      have hmore := wait_more hy
      have Hs1 := Lib.hid hstep.1
      have Hs2 := Lib.hid hstep.2
      clear hstep
      have hyl := hvy.len
      rcases okB_cases y with ⟨hok, hh⟩ | ⟨hok, hh⟩
      · rw [hok, Bool.true_and] at Hs2
        clear hok
        have hfin : ((y.l = true ∧ y.b = []) ∨ (y.l = false ∧ y.ks.length = 0)) := hh
        by_cases hmany : (4000 : Int) - q.length < y.ks.length
        · have hwf : Hid (wellP x = false) := by show _ = _; unfold wellP; rw [decide_eq_false (by have := H1.out; omega), Bool.and_false]
          rcases hh with ⟨hl, hb0⟩ | ⟨hl, hb0⟩
          · rw [hl] at d0
            rw [hb0] at d1
            clear hl hb0 hfin
            go_wp2_with fail
            go_ret
            exact ⟨by rw [hwf.out]; rfl, below_box (hb.alloc (by omega) _)⟩
          · omega
        · obtain ⟨css, hkr, hkl, hkn, hko⟩ := hvy.kids.slice_open
          rcases hh with ⟨hl, hb0⟩ | ⟨hl, hb0⟩
          · rw [hl] at d0
            rw [hb0] at d1
            clear hl hb0 hfin
            go_wp2_with (at_builtin; refine wpl_append elItem rfl rfl (w.heap.size + 1) (hown.alloc _) rfl css rfl hkn ((hkl.mono (fun b hlt hs => ⟨hs, (below_box (hb.alloc (by omega) _)).block b hlt⟩))) hko (by simp only [maxLen]; omega) (by omega) (by simp; omega) ?_; intro v1 w1 hown1 hg1 hat1)
            go_roundw
            case rel =>
              refine ⟨k + 1, q ++ y.ks, xs ++ css, by simp; omega, by simp; omega, by go_num, by simpa using hown1, ?_, ?_, ?_, ?_⟩
              · rw [itemsD_append]; exact RepN.append hkr hr
              · show _ = _; rw [H1.out, Hs1.out]
              · show _ = _; rw [H2.out, Hs2.out]
              · exact below_app (hb.alloc (by omega) _) (hown.alloc _) hg1 (by simp; omega) (Nat.le_refl _)
            case measure => simp [intOf]; omega
          · rw [hl] at d0
            have hky : y.ks = [] := List.eq_nil_of_length_eq_zero hb0
            have hcs : css = [] := List.eq_nil_of_length_eq_zero (by rw [hkn, hb0])
            subst hcs
            rw [hb0] at d2
            have Hky := Lib.hid hky
            clear hl hb0 hfin hky hkr hkn hmany hyl hmore
            go_wp2_with (at_builtin; refine wpl_append elItem rfl rfl (w.heap.size + 1) (hown.alloc _) rfl [] rfl rfl Lies.nil (fun u hu => by cases hu) (by simp only [maxLen]; omega) (by omega) (by simp; omega) ?_; intro v1 w1 hown1 hg1 hat1)
            go_roundw
            case rel =>
              refine ⟨k + 1, q, xs, by omega, by omega, by go_num, by simpa using hown1, hr, ?_, ?_, ?_⟩
              · show _ = _; have := Hs1.out; rw [Hky.out, List.append_nil] at this; rw [H1.out, this]
              · show _ = _; have := Hs2.out; rw [Hky.out, List.append_nil] at this; rw [H2.out, this]
              · exact below_app (hb.alloc (by omega) _) (hown.alloc _) hg1 (by simp; omega) (Nat.le_refl _)
            case measure => simp [intOf]; omega
      · have hwf : Hid (wellP x = false) := by show _ = _; unfold wellP; rw [H2.out, Hs2.out, hok]; rfl
        clear hok hvy hmore hyl Hs1 Hs2
        generalize hn : y.ks.length = n at d2 hh
        clear hn
        rcases hh with ⟨hl, hb0⟩ | ⟨hl, hb0⟩
        all_goals
          rw [hl] at d0
          clear hl
          go_wp2_with fail
          go_ret
          exact ⟨by rw [hwf.out]; rfl, below_box (hb.alloc (by omega) _)⟩
    · obtain rfl : k = q.length := by omega
      have hwf : Hid (wellP x = true) := by
        show _ = _
        have h1 := H1.out
        have h2 := H2.out
        simp [countsP, puresP] at h1 h2
        unfold wellP; rw [h2, decide_eq_true (by omega)]; rfl
      clear hr
      go_wp2_with fail
      go_ret
      exact ⟨by rw [hwf.out]; rfl, below_box hb⟩
end Go.Proofs.Ytjanaholcjkceaa
