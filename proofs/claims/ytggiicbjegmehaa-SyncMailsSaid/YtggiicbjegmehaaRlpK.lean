/- ecclesiaref08.Decode. -/
import Derived.Test.YtggiicbjegmehaaRlpJ
namespace Go.Proofs.Ytggiicbjegmehaa
set_option linter.unusedVariables false
set_option linter.unusedSimpArgs false
open Go.RowKit

set_option maxHeartbeats 1000000 in
theorem refDecode_any (s : Bytes) (w : World) : Calls Try.prog 28 #[.string (bs s)] w (DecPost s w) := by
  by_cases h4 : (4000 : Int) < s.length
  · go_enter Try.func28, Try.ntmps28
    go_wp2_with fail
    refine bodyPost_ret (v := .tuple #[.agg #[.bool false, .string (bs []), .slice none 0 0], .int .i64 2]) (by simp [results, Try.results28, go_sem]; rfl) rfl ?_
    exact decPost_zero 2 ((Below.refl _ _).alloc (Nat.le_refl _) _) (.inl ⟨by omega, rfl, rfl⟩)
  · have H4 := Lib.hid h4
    have h4' : (s.length : Int) ≤ 4000 := by omega
    go_enter Try.func28, Try.ntmps28
    go_wp2_with fail
    refine (Read_any 4101 s _ (by omega) (by omega)).mono ?_
    rintro e w1 ⟨hb1, ok, x, A, c, n, rfl, hvx, hp1, hp2⟩
    have hb1s := hb1.size
    simp at hb1s
    have hw : Below w.heap.size w w1 := below_box (hb1.mono (by simp))
    obtain ⟨q1, q2⟩ := bcell hb1
    have r0 : w1.cell? ⟨w.heap.size, 0, none⟩ = some (.bool false) := by rw [q1 _ _ (by simp)]; simp
    have r1 : w1.cell? ⟨w.heap.size, 1, none⟩ = some (.string ⟨#[]⟩) := by rw [q1 _ _ (by simp)]; simp
    have r2 : w1.cell? ⟨w.heap.size, 2, none⟩ = some (.slice none 0 0) := by rw [q1 _ _ (by simp)]; simp
    have rf : ∀ o, w1.frozen? ⟨w.heap.size, o, none⟩ = false := fun o => by rw [q2 _ _ (by simp)]; simp
    have k0 := ca r0 (.cells #[.bool x.l, .string (bs x.b), .slice A x.ks.length c] 49)
    have k1 := ca r1 (.cells #[.bool x.l, .string (bs x.b), .slice A x.ks.length c] 49)
    have k2 := ca r2 (.cells #[.bool x.l, .string (bs x.b), .slice A x.ks.length c] 49)
    have e0 := fa (lt_of_cell r0) (rf 0) (.cells #[.bool x.l, .string (bs x.b), .slice A x.ks.length c] 49)
    have e1 := fa (lt_of_cell r0) (rf 1) (.cells #[.bool x.l, .string (bs x.b), .slice A x.ks.length c] 49)
    have e2 := fa (lt_of_cell r0) (rf 2) (.cells #[.bool x.l, .string (bs x.b), .slice A x.ks.length c] 49)
    clear q1 q2 hb1
    cases ok with
    | false =>
      have hno : ∀ y, pureP y = true → s ≠ writeP y := fun y hy e => by
        have := (hp2 y [] hy (by rw [List.append_nil]; exact e)).1
        cases this
      clear hp1 hp2
      go_wp2_with fail
      refine bodyPost_ret (v := .tuple #[.agg #[.bool false, .string (bs []), .slice none 0 0], .int .i64 4]) (by simp [results, Try.results28, go_sem, k0, k1, k2]; rfl) rfl ?_
      exact decPost_zero 4 ((((hw.alloc (by omega) _).setCell (p := ⟨w.heap.size, 0, none⟩) (Nat.le_refl _) _).setCell (p := ⟨w.heap.size, 1, none⟩) (Nat.le_refl _) _).setCell (p := ⟨w.heap.size, 2, none⟩) (Nat.le_refl _) _) (.inr (.inr (.inr ⟨by omega, rfl, rfl, hno⟩)))
    | true =>
      obtain ⟨g1, g2, g3, g4⟩ := hp1 rfl
      have Hp2 := Lib.hid hp2
      have hC : countP x ≤ 1000000 := by have := countP_le x g3; omega
      have hW : (writeP x).length < 16777216 := by omega
      have Hg := Lib.hid (And.intro g1 (And.intro g2 (And.intro g4 (And.intro hC hW))))
      clear hp1 hp2 g1 g2 g4 hC hW
      by_cases hn : n = s.length
      · obtain ⟨ni, hni⟩ : ∃ ni : Int, ni = n := ⟨_, rfl⟩
        rw [← hni]
        have hne : ni = (s.length : Int) := by omega
        have HN := Lib.hid hn
        clear hn hni
        go_wp2_with fail
        refine (Write_any (countP x) x A c _ (Nat.le_refl _) Hg.out.2.2.2.1 Hg.out.2.2.2.2 ((hvx.alloc _).mono fun b _ _ => ⟨trivial, rfl⟩)).mono ?_
        rintro e w2 ⟨rfl, hb2⟩
        have hb2s := hb2.size
        simp at hb2s
        obtain ⟨q1, q2⟩ := bcell hb2
        have r0 := (q1 w.heap.size 0 (by simp; omega)).trans k0
        have r1 := (q1 w.heap.size 1 (by simp; omega)).trans k1
        have r2 := (q1 w.heap.size 2 (by simp; omega)).trans k2
        have f0 := (q2 w.heap.size 0 (by simp; omega)).trans e0
        have f1 := (q2 w.heap.size 1 (by simp; omega)).trans e1
        have f2 := (q2 w.heap.size 2 (by simp; omega)).trans e2
        have y0 : w2.cell? ⟨w1.heap.size, 0, none⟩ = some (.bool x.l) := by rw [q1 _ _ (by simp)]; simp
        have y1 : w2.cell? ⟨w1.heap.size, 1, none⟩ = some (.string (bs x.b)) := by rw [q1 _ _ (by simp)]; simp
        have y2 : w2.cell? ⟨w1.heap.size, 2, none⟩ = some (.slice A x.ks.length c) := by rw [q1 _ _ (by simp)]; simp
        have hv2 := (hvx.alloc (.cells #[.bool x.l, .string (bs x.b), .slice A x.ks.length c] 49)).keep (hb2.mono (by simp))
        have hw2 : Below w.heap.size w w2 := (hw.alloc (by omega) _).trans (hb2.mono (by simp; omega))
        clear q1 q2 k0 k1 k2 e0 e1 e2 rf hb2
        by_cases hws : writeP x = s
        · have hwb : (writeP x == s) = true := by rw [beq_iff_eq]; exact hws
          have HW := Lib.hid hws
          clear hws
          go_wp2_with fail
          refine (Depth_any (countP x) x A c _ (Nat.le_refl _) Hg.out.2.2.2.1 (hv2.mono fun b _ _ => ⟨trivial, rfl⟩)).mono ?_
          rintro e w3 ⟨rfl, hb3⟩
          have hb3s := hb3.size
          obtain ⟨q1, q2⟩ := bcell hb3
          have s0 := (q1 w.heap.size 0 (by omega)).trans r0
          have s1 := (q1 w.heap.size 1 (by omega)).trans r1
          have s2 := (q1 w.heap.size 2 (by omega)).trans r2
          have t0 := (q2 w.heap.size 0 (by omega)).trans f0
          have t1 := (q2 w.heap.size 1 (by omega)).trans f1
          have t2 := (q2 w.heap.size 2 (by omega)).trans f2
          have z0 := (q1 w1.heap.size 0 (by omega)).trans y0
          have z1 := (q1 w1.heap.size 1 (by omega)).trans y1
          have z2 := (q1 w1.heap.size 2 (by omega)).trans y2
          have hv3 := hv2.keep hb3
          have hw3 : Below w.heap.size w w3 := hw2.trans (hb3.mono (by omega))
          clear q1 q2 r0 r1 r2 f0 f1 f2 y0 y1 y2 hb3
          by_cases hd : (8 : Int) < depthP x
          · go_wp2_with fail
            refine bodyPost_ret (v := .tuple #[.agg #[.bool false, .string (bs []), .slice none 0 0], .int .i64 5]) (by simp [results, Try.results28, go_sem, s0, s1, s2]; rfl) rfl ?_
            exact decPost_zero 5 ((((hw3).setCell (p := ⟨w.heap.size, 0, none⟩) (Nat.le_refl _) _).setCell (p := ⟨w.heap.size, 1, none⟩) (Nat.le_refl _) _).setCell (p := ⟨w.heap.size, 2, none⟩) (Nat.le_refl _) _) (.inr (.inr (.inl ⟨by omega, rfl, rfl, x, g3, HW.out.symm, by omega⟩)))
          · go_wp2_with fail
            refine bodyPost_ret (v := .tuple #[.agg #[.bool x.l, .string (bs x.b), .slice A x.ks.length c], .int .i64 0]) (by simp [results, Try.results28, go_sem, s0, s1, s2]) rfl ?_
            refine ⟨(((hw3).setCell (p := ⟨w.heap.size, 0, none⟩) (Nat.le_refl _) _).setCell (p := ⟨w.heap.size, 1, none⟩) (Nat.le_refl _) _).setCell (p := ⟨w.heap.size, 2, none⟩) (Nat.le_refl _) _, x, A, c, 0, rfl, ?_, .inr (.inl ⟨by omega, rfl, g3, HW.out.symm, by omega⟩)⟩
            refine hv3.mono fun b hlt hs => ?_
            have hs' : w.heap.size + 1 ≤ b := by have : _ ≤ b := hs; simpa using this
            refine ⟨by show w.heap.size ≤ b; omega, ?_⟩
            rw [Below.heap_setCell _ _ _ _ (by show b ≠ w.heap.size; omega), Below.heap_setCell _ _ _ _ (by show b ≠ w.heap.size; omega), Below.heap_setCell _ _ _ _ (by show b ≠ w.heap.size; omega)]
        · have hwb : (writeP x == s) = false := by rw [beq_eq_false_iff_ne]; exact hws
          have HW := Lib.hid hws
          clear hws
          go_wp2_with fail
          refine bodyPost_ret (v := .tuple #[.agg #[.bool false, .string (bs []), .slice none 0 0], .int .i64 4]) (by simp [results, Try.results28, go_sem, r0, r1, r2]; rfl) rfl ?_
          refine decPost_zero 4 ((((hw2).setCell (p := ⟨w.heap.size, 0, none⟩) (Nat.le_refl _) _).setCell (p := ⟨w.heap.size, 1, none⟩) (Nat.le_refl _) _).setCell (p := ⟨w.heap.size, 2, none⟩) (Nat.le_refl _) _) (.inr (.inr (.inr ⟨by omega, rfl, rfl, fun y hy e => HW.out ?_⟩)))
          rw [(Hp2.out y [] hy (by rw [List.append_nil]; exact e)).2.1]
          exact e.symm
      · obtain ⟨ni, hni⟩ : ∃ ni : Int, ni = n := ⟨_, rfl⟩
        rw [← hni]
        have hne : ¬ ni = (s.length : Int) := by omega
        have HN := Lib.hid hn
        clear hn hni
        go_wp2_with fail
        refine bodyPost_ret (v := .tuple #[.agg #[.bool false, .string (bs []), .slice none 0 0], .int .i64 4]) (by simp [results, Try.results28, go_sem, k0, k1, k2]; rfl) rfl ?_
        refine decPost_zero 4 ((((hw.alloc (by omega) _).setCell (p := ⟨w.heap.size, 0, none⟩) (Nat.le_refl _) _).setCell (p := ⟨w.heap.size, 1, none⟩) (Nat.le_refl _) _).setCell (p := ⟨w.heap.size, 2, none⟩) (Nat.le_refl _) _) (.inr (.inr (.inr ⟨by omega, rfl, rfl, fun y hy e => HN.out ?_⟩)))
        rw [(Hp2.out y [] hy (by rw [List.append_nil]; exact e)).2.2, e]
end Go.Proofs.Ytggiicbjegmehaa
