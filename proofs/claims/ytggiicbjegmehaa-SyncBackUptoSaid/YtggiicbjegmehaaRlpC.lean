/- The walks of rlp.well and of the reference's Many: items in a row, one behind the other. -/
import Derived.Test.YtggiicbjegmehaaRlpB
namespace Go.Proofs.Ytggiicbjegmehaa
set_option linter.unusedVariables false
set_option linter.unusedSimpArgs false
open Go.RowKit

theorem elItem : ElemOk Try.prog 47 49 (.agg #[.bool false, .string ⟨#[]⟩, .slice none 0 0]) 3 48 := ⟨Try.underlying47, by kernel_rfl, rfl, by omega⟩

set_option maxHeartbeats 800000 in
theorem well_any (x : Item) (A : Option Addr) (c : Nat) (w : World) (hv : ItemV Any w x A c) :
    Calls Try.prog 42 #[.agg #[.bool x.l, .string (bs x.b), .slice A x.ks.length c]] w fun e w' => e = .returned (.bool (wellP x)) ∧ Below w.heap.size w w' := by
  go_enter Try.func42, Try.ntmps42
  go_wp2_with fail
  go_loopw [3, 4, 5] (fun v i _ wr => ∃ (k : Nat) (q : List Item) (xs : List Value), k ≤ q.length ∧ q.length ≤ 4000 ∧ i = .int .i64 k ∧ wr.ownsRow (w.heap.size + 1) 49 3 v q.length xs ∧ RepN Any w 3 (itemsD q) xs ∧
      Hid (countP x = k + countsP (q.drop k)) ∧ Hid (pureP x = puresP (q.drop k)) ∧ Below (w.heap.size+1) (w.alloc (.cells #[.bool x.l, .string (bs x.b), .slice A x.ks.length c] 49)) wr) (fun _ i _ _ => 4001 - (intOf i).toNat)
  case atStart =>
    refine ⟨0, [x], itemC x A c, by simp, by simp, rfl, ?_, ?_, ?_, ?_, ?_⟩
    · have := World.ownsRow_lit (base := w.heap.size + 1) (e := 49) (size := 3) (w.alloc (.cells #[.bool x.l, .string (bs x.b), .slice A x.ks.length c] 49)) #[.bool x.l, .string (bs x.b), .slice A x.ks.length c] 1 (by simp) (by simp only [maxLen]; omega) rfl
      simpa [itemC] using this
    · exact .cons hv rfl .nil
    · show _ = _; simp [countsP]
    · show _ = _; simp [puresP]
    · exact ((Below.refl _ _).alloc (by simp) _)
  case round =>
    obtain ⟨k, q, xs, hk, hq, rfl, hown, hr, H1, H2, hb⟩ := hrel
    obtain ⟨A1, c1, rfl⟩ := own_form hown
    have hbs := hb.size
    simp at hbs
    by_cases hlt : k < q.length
    · obtain ⟨y, hy⟩ := getElem_ex hlt
      obtain ⟨g, A', c', hA, hvy, d0, d1, d2⟩ := own_item hown hr hy
      subst hA
      have hstep := wait_step hy
      have hmore := wait_more hy
      have Hs1 := Lib.hid hstep.1
      have Hs2 := Lib.hid hstep.2
      clear hstep
      have hyl := hvy.len
      rcases okB_cases y with ⟨hok, hh⟩ | ⟨hok, hh⟩
      · rw [hok, Bool.true_and] at Hs2
        clear hok
        have hfin : ((y.l = true ∧ y.b = []) ∨ (y.l = false ∧ y.ks.length = 0)) := hh
        by_cases hmany : (4000 : Int) - q.length < y.ks.length
        · have hwf : Hid (wellP x = false) := by show _ = _; unfold wellP; rw [decide_eq_false (by have := H1.out; omega), Bool.and_false]
          rcases hh with ⟨hl, hb0⟩ | ⟨hl, hb0⟩
          · rw [hl] at d0
            rw [hb0] at d1
            clear hl hb0 hfin
            go_wp2_with fail
            go_ret
            exact ⟨by rw [hwf.out]; rfl, below_box (hb.alloc (by omega) _)⟩
          · omega
        · obtain ⟨css, hkr, hkl, hkn, hko⟩ := hvy.kids.slice_open
          rcases hh with ⟨hl, hb0⟩ | ⟨hl, hb0⟩
          · rw [hl] at d0
            rw [hb0] at d1
            clear hl hb0 hfin
            go_wp2_with (at_builtin; refine wpl_append elItem rfl rfl (w.heap.size + 1) (hown.alloc _) rfl css rfl hkn ((hkl.mono (fun b hlt hs => ⟨hs, (below_box (hb.alloc (by omega) _)).block b hlt⟩))) hko (by simp only [maxLen]; omega) (by omega) (by simp; omega) ?_; intro v1 w1 hown1 hg1 hat1)
            go_roundw
            case rel =>
              refine ⟨k + 1, q ++ y.ks, xs ++ css, by simp; omega, by simp; omega, by go_num, by simpa using hown1, ?_, ?_, ?_, ?_⟩
              · rw [itemsD_append]; exact RepN.append hkr hr
              · show _ = _; rw [H1.out, Hs1.out]
              · show _ = _; rw [H2.out, Hs2.out]
              · exact below_app (hb.alloc (by omega) _) (hown.alloc _) hg1 (by simp; omega) (Nat.le_refl _)
            case measure => simp [intOf]; omega
          · rw [hl] at d0
            have hky : y.ks = [] := List.eq_nil_of_length_eq_zero hb0
            have hcs : css = [] := List.eq_nil_of_length_eq_zero (by rw [hkn, hb0])
            subst hcs
            rw [hb0] at d2
            have Hky := Lib.hid hky
            clear hl hb0 hfin hky hkr hkn hmany hyl hmore
            go_wp2_with (at_builtin; refine wpl_append elItem rfl rfl (w.heap.size + 1) (hown.alloc _) rfl [] rfl rfl Lies.nil (fun u hu => by cases hu) (by simp only [maxLen]; omega) (by omega) (by simp; omega) ?_; intro v1 w1 hown1 hg1 hat1)
            go_roundw
            case rel =>
              refine ⟨k + 1, q, xs, by omega, by omega, by go_num, by simpa using hown1, hr, ?_, ?_, ?_⟩
              · show _ = _; have := Hs1.out; rw [Hky.out, List.append_nil] at this; rw [H1.out, this]
              · show _ = _; have := Hs2.out; rw [Hky.out, List.append_nil] at this; rw [H2.out, this]
              · exact below_app (hb.alloc (by omega) _) (hown.alloc _) hg1 (by simp; omega) (Nat.le_refl _)
            case measure => simp [intOf]; omega
      · have hwf : Hid (wellP x = false) := by show _ = _; unfold wellP; rw [H2.out, Hs2.out, hok]; rfl
        clear hok hvy hmore hyl Hs1 Hs2
        generalize hn : y.ks.length = n at d2 hh
        clear hn
        rcases hh with ⟨hl, hb0⟩ | ⟨hl, hb0⟩
        all_goals
          rw [hl] at d0
          clear hl
          go_wp2_with fail
          go_ret
          exact ⟨by rw [hwf.out]; rfl, below_box (hb.alloc (by omega) _)⟩
    · obtain rfl : k = q.length := by omega
      have hwf : Hid (wellP x = true) := by
        show _ = _
        have h1 := H1.out
        have h2 := H2.out
        simp [countsP, puresP] at h1 h2
        unfold wellP; rw [h2, decide_eq_true (by omega)]; rfl
      clear hr
      go_wp2_with fail
      go_ret
      exact ⟨by rw [hwf.out]; rfl, below_box hb⟩

set_option maxHeartbeats 1000000 in
theorem Many_any (x : Item) (A : Option Addr) (c : Nat) (w : World) (hv : ItemV Any w x A c) :
    Calls Try.prog 45 #[.agg #[.bool x.l, .string (bs x.b), .slice A x.ks.length c], .int .i64 4000] w fun e w' => ∃ n : Nat, e = .returned (.int .i64 n) ∧ n ≤ 4001 ∧ (4000 < n ↔ 4000 < countP x) ∧ Below w.heap.size w w' := by
  go_enter Try.func45, Try.ntmps45
  go_wp2_with fail
  go_loopw [5, 6, 8] (fun v i _ wr => ∃ (k : Nat) (q : List Item) (xs : List Value), k ≤ q.length ∧ i = .int .i64 k ∧ wr.ownsRow (w.heap.size + 1) 49 3 v q.length xs ∧ RepN Any w 3 (itemsD q) xs ∧
      Hid (ManyS x k q) ∧ Below (w.heap.size+1) (w.alloc (.cells #[.bool x.l, .string (bs x.b), .slice A x.ks.length c] 49)) wr) (fun _ i _ _ => 4002 - (intOf i).toNat)
  case atStart =>
    refine ⟨0, [x], itemC x A c, by simp, rfl, ?_, ?_, ?_, ?_⟩
    · have := World.ownsRow_lit (base := w.heap.size + 1) (e := 49) (size := 3) (w.alloc (.cells #[.bool x.l, .string (bs x.b), .slice A x.ks.length c] 49)) #[.bool x.l, .string (bs x.b), .slice A x.ks.length c] 1 (by simp) (by simp only [maxLen]; omega) rfl
      simpa [itemC] using this
    · exact .cons hv rfl .nil
    · exact .inl ⟨by simp, by simp [countsP]⟩
    · exact ((Below.refl _ _).alloc (by simp) _)
  case round =>
    obtain ⟨k, q, xs, hk, rfl, hown, hr, HS, hb⟩ := hrel
    obtain ⟨A1, c1, rfl⟩ := own_form hown
    have hbs := hb.size
    simp at hbs
    have hql := HS.out.le
    by_cases hlt : k < q.length
    · by_cases hle : (q.length : Int) ≤ 4000
      · obtain ⟨y, hy⟩ := getElem_ex hlt
        obtain ⟨g, A', c', hA, hvy, d0, d1, d2⟩ := own_item hown hr hy
        subst hA
        have hyb : y.ks.length ≤ 9223372036854775807 := by have := hvy.len; simp only [maxLen] at this; omega
        clear d0 d1
        go_wp2_with fail
        go_loopw [5, 8, 29] (fun v _ i wr2 => ∃ (j : Nat) (q2 : List Item) (xs2 : List Value), j ≤ y.ks.length ∧ i = .int .i64 j ∧ wr2.ownsRow (w.heap.size + 1) 49 3 v q2.length xs2 ∧ RepN Any w 3 (itemsD q2) xs2 ∧
            Hid (ManyI x q y.ks j q2) ∧ Below (w.heap.size+1) (w.alloc (.cells #[.bool x.l, .string (bs x.b), .slice A x.ks.length c] 49)) wr2) (fun _ _ i _ => y.ks.length - (intOf i).toNat)
        case atStart => exact ⟨0, q, xs, Nat.zero_le _, rfl, hown, hr, ManyI.start HS.out, hb⟩
        case round =>
          obtain ⟨j, q2, xs2, hj, rfl, hown2, hr2, HI, hb2⟩ := hrel
          obtain ⟨A2, c2, rfl⟩ := own_form hown2
          have hbs2 := hb2.size
          simp at hbs2
          have hql2 := HI.out.le
          by_cases hjt : j < y.ks.length
          · obtain ⟨z, hz⟩ := getElem_ex hjt
            have hwr := below_box hb2
            obtain ⟨g3, o3, A3, c3, hA3, _, hvz, e0, e1, e2⟩ := (hvy.keep hwr).at_ hz
            subst hA3
            have hvz0 : ItemV Any w z A3 c3 := by
              obtain ⟨g4, o4, A4, c4, hA4, _, hv4, f0, f1, f2⟩ := hvy.at_ hz
              injection hA4 with hA4
              injection hA4 with hg ho _
              subst hg; subst ho
              have := hwr.cell (p := ⟨g3, o3 + j * 3 + 2, none⟩) (lt_of_cell f2)
              rw [f2, e2] at this
              injection this with this
              injection this with h1 h2 h3
              subst h1; subst h3
              exact hv4
            by_cases hle2 : (q2.length : Int) ≤ 4000
            · go_wp2_with (at_builtin; refine wpl_append elItem rfl rfl (w.heap.size + 1) ((hown2.alloc _).alloc _) rfl (m := 1) (itemC z A3 c3) rfl rfl (lies_new' _ _ (by simp) #[.bool z.l, .string (bs z.b), .slice A3 z.ks.length c3] _) (itemC_one _ _ _) (by simp only [maxLen]; omega) (by omega) (by simp; omega) ?_; intro v1 w1 hown1 hg1 hat1)
              go_roundw
              case rel =>
                refine ⟨j + 1, q2 ++ [z], xs2 ++ itemC z A3 c3, hjt, by go_num, by simpa using hown1, ?_, ManyI.more HS.out (by omega) hy hz HI.out (by omega), ?_⟩
                · rw [itemsD_append]; exact RepN.append (.cons hvz0 rfl .nil) hr2
                · exact below_app ((hb2.alloc (by omega) _).alloc (by simp; omega) _) ((hown2.alloc _).alloc _) hg1 (by simp; omega) (Nat.le_refl _)
              case measure => simp [intOf]; omega
            · go_wp2_with fail
              go_roundw
              case rel => exact ⟨j + 1, q2, xs2, hjt, by go_num, hown2.alloc _, hr2, ManyI.stay hz HI.out (by omega), hb2.alloc (by omega) _⟩
              case measure => simp [intOf]; omega
          · obtain rfl : j = y.ks.length := by omega
            have HN : Hid (ManyS x (k + 1) q2) := ManyS.next HS.out (by omega) hy HI.out
            have hkq : k + 1 ≤ q2.length := by
              rcases HI.out with ⟨e, _⟩ | ⟨e, _⟩
              · rw [e]; simp; omega
              · omega
            go_wp2_with fail
            go_roundw
            case rel => exact ⟨k + 1, q2, xs2, hkq, by go_num, hown2, hr2, HN, hb2⟩
            case measure => simp [intOf]; omega
      · have hfin := HS.out.fin (by omega) hk
        go_wp2_with fail
        go_ret
        exact ⟨q.length, rfl, hql, hfin, below_box hb⟩
    · have hfin := HS.out.fin (by omega) hk
      have hkk : k = q.length := by omega
      subst hkk
      go_wp2_with fail
      go_ret
      exact ⟨q.length, rfl, hql, hfin, below_box hb⟩

end Go.Proofs.Ytggiicbjegmehaa
