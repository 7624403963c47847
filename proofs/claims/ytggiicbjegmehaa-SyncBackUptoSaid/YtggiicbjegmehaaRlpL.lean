/- Numbers: rlp.Value, rlp.Number, rlp.List, the reference's. -/
import Derived.Test.YtggiicbjegmehaaRlpK
import Derived.BigQuiet
namespace Go.Proofs.Ytggiicbjegmehaa
set_option linter.unusedVariables false
set_option linter.unusedSimpArgs false
open Go.RowKit

/-- what Value says -/
def valP (x : Item) : Nat × Nat := if x.l = true ∨ 0 < x.ks.length ∨ 8 < x.b.length ∨ digs (num x.b) ≠ x.b then (0, 4) else (num x.b, 0)
theorem valP_bad {x : Item} (h : x.l = true ∨ 0 < x.ks.length ∨ 8 < x.b.length ∨ digs (num x.b) ≠ x.b) : valP x = (0, 4) := if_pos h
theorem valP_good {x : Item} (h1 : x.l = false) (h2 : x.ks.length = 0) (h3 : x.b.length ≤ 8) (h4 : digs (num x.b) = x.b) : valP x = (num x.b, 0) := by
  unfold valP; rw [if_neg]; rintro (h | h | h | h)
  · rw [h1] at h; cases h
  · omega
  · omega
  · exact h h4
theorem ret_val {a b a' b' : Int} (h : a = a') (h2 : b = b') : Ending.returned (.tuple #[.int .u64 a, .int .i64 b]) = .returned (.tuple #[.int .u64 a', .int .i64 b']) := by rw [h, h2]

theorem num_bound {l : Bytes} {k : Nat} (h : l.length ≤ 8) (hk : k < l.length) : num (l.take k) < 72057594037927936 := by
  have h1 := num_lt (l.take k)
  have h2 : (256 : Nat) ^ (l.take k).length ≤ 256 ^ 7 := Nat.pow_le_pow_right (by omega) (by rw [List.length_take]; omega)
  omega
theorem num_bound8 {l : Bytes} (h : l.length ≤ 8) : num l < 18446744073709551616 := by
  have h1 := num_lt l
  have h2 : (256 : Nat) ^ l.length ≤ 256 ^ 8 := Nat.pow_le_pow_right (by omega) h
  omega
theorem step_or {l : Bytes} {k : Nat} (hk : k < l.length) (h8 : l.length ≤ 8) :
    Value.int .u64 (bits BinOp.or IntKind.u64 (IntKind.u64.wrap ((num (l.take k) : Int) * 256)) (IntKind.u64.wrap ((l[k]).toNat : Int))) = .int .u64 (num (l.take (k + 1)) : Int) := by
  have hm := num_bound h8 hk
  have hd := (l[k]).toNat_lt
  rw [IntWalk.u64_in _ (by omega), IntWalk.u64_in _ (by omega), bits_or_u64 _ _ hm (by omega), num_take (d := l[k]) (by simp)]
  exact congrArg (Value.int .u64) (by omega)
theorem step_add {l : Bytes} {k : Nat} (hk : k < l.length) (h8 : l.length ≤ 8) :
    Value.int .u64 (IntKind.u64.wrap (IntKind.u64.wrap (256 * (num (l.take k) : Int)) + IntKind.u64.wrap ((l[k]).toNat : Int))) = .int .u64 (num (l.take (k + 1)) : Int) := by
  have hm := num_bound h8 hk
  have hd := (l[k]).toNat_lt
  rw [IntWalk.u64_in (256 * _) (by omega), IntWalk.u64_in ((l[k]).toNat : Int) (by omega), IntWalk.u64_in _ (by omega), num_take (d := l[k]) (by simp)]
  exact congrArg (Value.int .u64) (by omega)
theorem digs_bad {c : UInt8} {r : Bytes} (h : c = 0) : digs (num (c :: r)) ≠ c :: r := fun e => digs_head _ _ _ e h
theorem digs_good {c : UInt8} {r : Bytes} (h : c ≠ 0) : digs (num (c :: r)) = c :: r := digs_num _ (fun a l e => by cases e; exact h)

theorem Number_any (n : Int) (h0 : 0 ≤ n) (hn : n < 18446744073709551616) (w : World) :
    Calls Try.prog 20 #[.int .u64 n] w fun e w' => e = .returned (.agg #[.bool false, .string (bs (digs n.toNat)), .slice none 0 0]) ∧ Below w.heap.size w w' := by
  go_enter Try.func20, Try.ntmps20
  go_wp2_with fail
  refine (plain_any n h0 hn _).mono ?_
  rintro e w1 ⟨rfl, hb1⟩
  have hw := below_box (hb1.mono (by simp))
  obtain ⟨q1, q2⟩ := bcell hb1
  have r0 : w1.cell? ⟨w.heap.size, 0, none⟩ = some (.bool false) := by rw [q1 _ _ (by simp)]; simp
  have r1 : w1.cell? ⟨w.heap.size, 1, none⟩ = some (.string ⟨#[]⟩) := by rw [q1 _ _ (by simp)]; simp
  have r2 : w1.cell? ⟨w.heap.size, 2, none⟩ = some (.slice none 0 0) := by rw [q1 _ _ (by simp)]; simp
  have rf : ∀ o, w1.frozen? ⟨w.heap.size, o, none⟩ = false := fun o => by rw [q2 _ _ (by simp)]; simp
  clear q1 q2
  go_wp2_with fail
  refine bodyPost_ret (v := .agg #[.bool false, .string (bs (digs n.toNat)), .slice none 0 0]) (by simp [results, Try.results20, go_sem, r0, r1, r2]) rfl ?_
  exact ⟨rfl, ((hw.setCell (p := ⟨w.heap.size, 0, none⟩) (Nat.le_refl _) _).setCell (p := ⟨w.heap.size, 1, none⟩) (Nat.le_refl _) _).setCell (p := ⟨w.heap.size, 2, none⟩) (Nat.le_refl _) _⟩

theorem refNumber_any (n : Int) (h0 : 0 ≤ n) (hn : n < 18446744073709551616) (w : World) :
    Calls Try.prog 49 #[.int .u64 n] w fun e w' => e = .returned (.agg #[.bool false, .string (bs (digs n.toNat)), .slice none 0 0]) ∧ Below w.heap.size w w' := by
  go_enter Try.func49, Try.ntmps49
  go_wp2_with fail
  refine (Digits_any n h0 hn _).mono ?_
  rintro e w1 ⟨rfl, hb1⟩
  have hw := below_box (hb1.mono (by simp))
  obtain ⟨q1, q2⟩ := bcell hb1
  have r0 : w1.cell? ⟨w.heap.size, 0, none⟩ = some (.bool false) := by rw [q1 _ _ (by simp)]; simp
  have r1 : w1.cell? ⟨w.heap.size, 1, none⟩ = some (.string ⟨#[]⟩) := by rw [q1 _ _ (by simp)]; simp
  have r2 : w1.cell? ⟨w.heap.size, 2, none⟩ = some (.slice none 0 0) := by rw [q1 _ _ (by simp)]; simp
  have rf : ∀ o, w1.frozen? ⟨w.heap.size, o, none⟩ = false := fun o => by rw [q2 _ _ (by simp)]; simp
  clear q1 q2
  go_wp2_with fail
  refine bodyPost_ret (v := .agg #[.bool false, .string (bs (digs n.toNat)), .slice none 0 0]) (by simp [results, Try.results49, go_sem, r0, r1, r2]) rfl ?_
  exact ⟨rfl, ((hw.setCell (p := ⟨w.heap.size, 0, none⟩) (Nat.le_refl _) _).setCell (p := ⟨w.heap.size, 1, none⟩) (Nat.le_refl _) _).setCell (p := ⟨w.heap.size, 2, none⟩) (Nat.le_refl _) _⟩

theorem List_any (A : Option Addr) (m c : Nat) (w : World) :
    Calls Try.prog 19 #[.slice A m c] w fun e w' => e = .returned (.agg #[.bool true, .string (bs []), .slice A m c]) ∧ Below w.heap.size w w' := by
  go_enter Try.func19, Try.ntmps19
  go_wp2_with fail
  refine bodyPost_ret (v := .agg #[.bool true, .string (bs []), .slice A m c]) (by simp [results, Try.results19, go_sem]; rfl) rfl ?_
  exact ⟨rfl, by repeat' first | exact Below.refl _ _ | refine Below.setCell (p := ⟨w.heap.size, _, none⟩) ?_ (Nat.le_refl _) _ | refine Below.alloc ?_ (Nat.le_refl _) _⟩

set_option maxHeartbeats 1000000 in
theorem Value_any (x : Item) (A : Option Addr) (c : Nat) (w : World) :
    Calls Try.prog 27 #[.agg #[.bool x.l, .string (bs x.b), .slice A x.ks.length c]] w fun e w' =>
      e = .returned (.tuple #[.int .u64 (valP x).1, .int .i64 (valP x).2]) ∧ Below w.heap.size w w' := by
  cases hl : x.l with
  | true =>
    rw [valP_bad (.inl hl)]
    clear hl
    go_enter Try.func27, Try.ntmps27
    go_wp2_with fail
    go_ret2
    exact ⟨rfl, (Below.refl _ _).alloc (Nat.le_refl _) _⟩
  | false =>
    by_cases hk : (0 : Int) < x.ks.length
    · rw [valP_bad (.inr (.inl (by omega)))]
      have hk2 : decide (0 < x.ks.length) = true := by rw [decide_eq_true_iff]; omega
      clear hl
      go_enter Try.func27, Try.ntmps27
      go_wp2_with fail
      go_ret2
      exact ⟨rfl, (Below.refl _ _).alloc (Nat.le_refl _) _⟩
    · by_cases h8 : (8 : Int) < x.b.length
      · rw [valP_bad (.inr (.inr (.inl (by omega))))]
        have hk2 : decide (0 < x.ks.length) = false := by rw [decide_eq_false_iff_not]; omega
        have hk3 : decide (8 < (x.b.length : Int)) = true := by rw [decide_eq_true_iff]; omega
        clear hl hk
        go_enter Try.func27, Try.ntmps27
        go_wp2_with fail
        go_ret2
        exact ⟨rfl, (Below.refl _ _).alloc (Nat.le_refl _) _⟩
      · have Hh := Lib.hid (And.intro hl (And.intro hk h8))
        have hk2 : decide (0 < x.ks.length) = false := by rw [decide_eq_false_iff_not]; omega
        have hk3 : decide (8 < (x.b.length : Int)) = false := by rw [decide_eq_false_iff_not]; omega
        have h8' : (x.b.length : Int) ≤ 8 := by omega
        clear hl hk h8
        generalize hB : x.b = b at *
        have HB := Lib.hid hB
        clear hB
        cases b with
        | nil =>
          have hz : valP x = (0, 0) := by rw [valP_good Hh.out.1 (by have := Hh.out.2.1; omega) (by rw [HB.out]; simp) (by rw [HB.out]; exact digs_zero), HB.out]; rfl
          rw [hz]
          clear hz
          go_enter Try.func27, Try.ntmps27
          go_wp2_with fail
          refine wp_loop_rounds 1 ?_
          rw [rounds_succ]
          go_wp2_with fail
          go_ret2
          exact ⟨rfl, (Below.refl _ _).alloc (Nat.le_refl _) _⟩
        | cons c0 r =>
          have hr8 : (c0 :: r).length ≤ 8 := by omega
          have hr8' : (r.length : Int) + 1 ≤ 8 := by simp only [List.length_cons] at hr8; omega
          have Hr8 := Lib.hid hr8
          clear hr8 h8'
          cases hc : ((c0.toNat : Int) == 0) with
          | true =>
            have hz : valP x = (0, 4) := valP_bad (.inr (.inr (.inr (by rw [HB.out]; exact digs_bad (UInt8.toNat_inj.1 (by rw [beq_iff_eq] at hc; simp only [UInt8.toNat_zero]; omega))))))
            rw [hz]
            clear hz
            go_enter Try.func27, Try.ntmps27
            go_wp2_with fail
            go_ret2
            exact ⟨rfl, (Below.refl _ _).alloc (Nat.le_refl _) _⟩
          | false =>
            have hz : valP x = (num (c0 :: r), 0) := by
              rw [valP_good Hh.out.1 (by have := Hh.out.2.1; omega) (by rw [HB.out]; exact Hr8.out) (by rw [HB.out]; exact digs_good (fun h => by subst h; simp at hc)), HB.out]
            rw [hz]
            clear hz
            go_enter Try.func27, Try.ntmps27
            go_wp2_with fail
            go_loopw [5, 33] (fun a i wr => ∃ k : Nat, k ≤ (c0 :: r).length ∧ i = .int .i64 k ∧ a = .int .u64 (num ((c0 :: r).take k)) ∧ wr = w.alloc (.cells #[.bool false, .string (bs (c0 :: r)), .slice A x.ks.length c] 49)) (fun _ i _ => (c0 :: r).length - (intOf i).toNat)
            case atStart => exact ⟨0, Nat.zero_le _, rfl, rfl, rfl⟩
            case round =>
              obtain ⟨k, hkl, rfl, rfl, rfl⟩ := hrel
              by_cases hlt : k < (c0 :: r).length
              · have hlt' : (k : Int) < (r.length : Int) + 1 := by simp only [List.length_cons] at hlt; omega
                have Hlt := Lib.hid hlt
                clear hlt
                go_wp2_with fail
                refine ⟨⟨k + 1, Hlt.out, by go_num, step_or Hlt.out Hr8.out, trivial⟩, ?_⟩
                have := Hlt.out
                simp only [intOf]
                omega
              · obtain rfl : k = (c0 :: r).length := by omega
                rw [List.take_length]
                have hlt' : ¬ ((c0 :: r).length : Int) < (r.length : Int) + 1 := by simp only [List.length_cons]; omega
                clear hlt
                go_wp2_with fail
                go_ret2
                exact ⟨rfl, (Below.refl _ _).alloc (Nat.le_refl _) _⟩
set_option maxHeartbeats 1000000 in
theorem refValue_any (x : Item) (A : Option Addr) (c : Nat) (w : World) :
    Calls Try.prog 29 #[.agg #[.bool x.l, .string (bs x.b), .slice A x.ks.length c]] w fun e w' =>
      e = .returned (.tuple #[.int .u64 (valP x).1, .int .i64 (valP x).2]) ∧ Below w.heap.size w w' := by
  cases hl : x.l with
  | true =>
    rw [valP_bad (.inl hl)]
    clear hl
    go_enter Try.func29, Try.ntmps29
    go_wp2_with fail
    go_ret2
    exact ⟨rfl, (Below.refl _ _).alloc (Nat.le_refl _) _⟩
  | false =>
    by_cases hk : (0 : Int) < x.ks.length
    · rw [valP_bad (.inr (.inl (by omega)))]
      have hk2 : decide (0 < x.ks.length) = true := by rw [decide_eq_true_iff]; omega
      clear hl
      go_enter Try.func29, Try.ntmps29
      go_wp2_with fail
      go_ret2
      exact ⟨rfl, (Below.refl _ _).alloc (Nat.le_refl _) _⟩
    · by_cases h8 : (8 : Int) < x.b.length
      · rw [valP_bad (.inr (.inr (.inl (by omega))))]
        have hk2 : decide (0 < x.ks.length) = false := by rw [decide_eq_false_iff_not]; omega
        have hk3 : decide (8 < (x.b.length : Int)) = true := by rw [decide_eq_true_iff]; omega
        clear hl hk
        go_enter Try.func29, Try.ntmps29
        go_wp2_with fail
        go_ret2
        exact ⟨rfl, (Below.refl _ _).alloc (Nat.le_refl _) _⟩
      · have Hh := Lib.hid (And.intro hl (And.intro hk h8))
        have hk2 : decide (0 < x.ks.length) = false := by rw [decide_eq_false_iff_not]; omega
        have hk3 : decide (8 < (x.b.length : Int)) = false := by rw [decide_eq_false_iff_not]; omega
        have h8' : (x.b.length : Int) ≤ 8 := by omega
        have Hr8 : Hid (x.b.length ≤ 8) := by show _ ≤ _; omega
        clear hl hk h8
        go_enter Try.func29, Try.ntmps29
        go_wp2_with fail
        go_loopw [4, 5] (fun a i wr => ∃ k : Nat, k ≤ x.b.length ∧ i = .int .i64 k ∧ a = .int .u64 (num (x.b.take k)) ∧ wr = w.alloc (.cells #[.bool false, .string (bs x.b), .slice A x.ks.length c] 49)) (fun _ i _ => x.b.length - (intOf i).toNat)
        case atStart => exact ⟨0, Nat.zero_le _, rfl, rfl, rfl⟩
        case round =>
          obtain ⟨k, hkl, rfl, rfl, rfl⟩ := hrel
          by_cases hlt : k < x.b.length
          · have hlt' : (k : Int) < x.b.length := by omega
            have Hlt := Lib.hid hlt
            clear hlt
            go_wp2_with fail
            refine ⟨⟨k + 1, Hlt.out, by go_num, step_add Hlt.out Hr8.out, trivial⟩, ?_⟩
            have := Hlt.out
            simp only [intOf]
            omega
          · obtain rfl : k = x.b.length := by omega
            rw [List.take_length]
            have hlt' : ¬ (x.b.length : Int) < x.b.length := by omega
            clear hlt
            go_wp2_with fail
            have hdg : ∀ w, Calls Try.prog 53 #[.int .u64 (num x.b : Int)] w fun e w' => e = .returned (.string (bs (digs (num x.b)))) ∧ Below w.heap.size w w' :=
              fun w => Digits_any (num x.b : Int) (by omega) (by have := num_bound8 Hr8.out; omega) w
            by_cases hd : digs (num x.b) = x.b
            · have HV := Lib.hid (valP_good Hh.out.1 (by have := Hh.out.2.1; omega) Hr8.out hd)
              have hdb : (digs (num x.b) == x.b) = true := by rw [beq_iff_eq]; exact hd
              clear hd
              go_region_held3 (fun w' => w'.cell? ⟨w.heap.size, 1, none⟩ = some (.string (bs x.b))) (first | (rw [(bcell hb1).1 _ _ (by simp)]; simp; done) | go_keep)
                ((go_at_call 53; refine (hdg _).mono ?_; rintro e w1 ⟨rfl, hb1⟩))
              go_wp2_with fail
              go_ret2
              exact ⟨by rw [HV.out]; rfl, below_box' hb1⟩
            · have HV := Lib.hid (valP_bad (.inr (.inr (.inr hd))))
              have hdb : (digs (num x.b) == x.b) = false := by rw [beq_eq_false_iff_ne]; exact hd
              clear hd
              go_region_held3 (fun w' => w'.cell? ⟨w.heap.size, 1, none⟩ = some (.string (bs x.b))) (first | (rw [(bcell hb1).1 _ _ (by simp)]; simp; done) | go_keep)
                ((go_at_call 53; refine (hdg _).mono ?_; rintro e w1 ⟨rfl, hb1⟩))
              go_wp2_with fail
              go_ret2
              exact ⟨by rw [HV.out]; rfl, below_box' hb1⟩
end Go.Proofs.Ytggiicbjegmehaa
