/- Numbers: rlp.Value, rlp.Number, rlp.List, the reference's. -/
import Derived.Test.YtggiicbjegmehaaGreatZ25
import Derived.Test.YtggiicbjegmehaaGreatZ27
namespace Go.Proofs.YtggiicbjegmehaaGreat
set_option linter.unusedVariables false
set_option linter.unusedSimpArgs false
open Go.RowKit
theorem Number_any (n : Int) (h0 : 0 ≤ n) (hn : n < 18446744073709551616) (w : World) :
    Calls Tryz.prog 156 #[.int .u64 n] w fun e w' => e = .returned (.agg #[.bool false, .string (bs (digs n.toNat)), .slice none 0 0]) ∧ Below w.heap.size w w' := by
  go_enter Tryz.func156, Tryz.ntmps156
  go_wp2_with fail
  refine (plain_any n h0 hn _).mono ?_
  rintro e w1 ⟨rfl, hb1⟩
  have hw := below_box (hb1.mono (by simp))
  obtain ⟨q1, q2⟩ := bcell hb1
  have r0 : w1.cell? ⟨w.heap.size, 0, none⟩ = some (.bool false) := by rw [q1 _ _ (by simp)]; simp
  have r1 : w1.cell? ⟨w.heap.size, 1, none⟩ = some (.string ⟨#[]⟩) := by rw [q1 _ _ (by simp)]; simp
  have r2 : w1.cell? ⟨w.heap.size, 2, none⟩ = some (.slice none 0 0) := by rw [q1 _ _ (by simp)]; simp
  have rf : ∀ o, w1.frozen? ⟨w.heap.size, o, none⟩ = false := fun o => by rw [q2 _ _ (by simp)]; simp
  clear q1 q2
  go_wp2_with fail
  refine bodyPost_ret (v := .agg #[.bool false, .string (bs (digs n.toNat)), .slice none 0 0]) (by simp [results, Tryz.results156, go_sem, r0, r1, r2]) rfl ?_
  exact ⟨rfl, ((hw.setCell (p := ⟨w.heap.size, 0, none⟩) (Nat.le_refl _) _).setCell (p := ⟨w.heap.size, 1, none⟩) (Nat.le_refl _) _).setCell (p := ⟨w.heap.size, 2, none⟩) (Nat.le_refl _) _⟩
theorem refNumber_any (n : Int) (h0 : 0 ≤ n) (hn : n < 18446744073709551616) (w : World) :
    Calls Tryz.prog 124 #[.int .u64 n] w fun e w' => e = .returned (.agg #[.bool false, .string (bs (digs n.toNat)), .slice none 0 0]) ∧ Below w.heap.size w w' := by
  go_enter Tryz.func124, Tryz.ntmps124
  go_wp2_with fail
  refine (Digits_any n h0 hn _).mono ?_
  rintro e w1 ⟨rfl, hb1⟩
  have hw := below_box (hb1.mono (by simp))
  obtain ⟨q1, q2⟩ := bcell hb1
  have r0 : w1.cell? ⟨w.heap.size, 0, none⟩ = some (.bool false) := by rw [q1 _ _ (by simp)]; simp
  have r1 : w1.cell? ⟨w.heap.size, 1, none⟩ = some (.string ⟨#[]⟩) := by rw [q1 _ _ (by simp)]; simp
  have r2 : w1.cell? ⟨w.heap.size, 2, none⟩ = some (.slice none 0 0) := by rw [q1 _ _ (by simp)]; simp
  have rf : ∀ o, w1.frozen? ⟨w.heap.size, o, none⟩ = false := fun o => by rw [q2 _ _ (by simp)]; simp
  clear q1 q2
  go_wp2_with fail
  refine bodyPost_ret (v := .agg #[.bool false, .string (bs (digs n.toNat)), .slice none 0 0]) (by simp [results, Tryz.results124, go_sem, r0, r1, r2]) rfl ?_
  exact ⟨rfl, ((hw.setCell (p := ⟨w.heap.size, 0, none⟩) (Nat.le_refl _) _).setCell (p := ⟨w.heap.size, 1, none⟩) (Nat.le_refl _) _).setCell (p := ⟨w.heap.size, 2, none⟩) (Nat.le_refl _) _⟩
theorem List_any (A : Option Addr) (m c : Nat) (w : World) :
    Calls Tryz.prog 44 #[.slice A m c] w fun e w' => e = .returned (.agg #[.bool true, .string (bs []), .slice A m c]) ∧ Below w.heap.size w w' := by
  go_enter Tryz.func44, Tryz.ntmps44
  go_wp2_with fail
  refine bodyPost_ret (v := .agg #[.bool true, .string (bs []), .slice A m c]) (by simp [results, Tryz.results44, go_sem]; rfl) rfl ?_
  exact ⟨rfl, by repeat' first | exact Below.refl _ _ | refine Below.setCell (p := ⟨w.heap.size, _, none⟩) ?_ (Nat.le_refl _) _ | refine Below.alloc ?_ (Nat.le_refl _) _⟩
end Go.Proofs.YtggiicbjegmehaaGreat
