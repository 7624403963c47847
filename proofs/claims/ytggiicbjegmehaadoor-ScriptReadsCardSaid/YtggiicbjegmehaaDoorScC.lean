/- Deeds are equal or not; the walks of script.right and of what asks it of all deeds. -/
import Derived.Test.YtggiicbjegmehaaDoorScB
namespace Go.Proofs.YtggiicbjegmehaaDoor
set_option linter.unusedVariables false
set_option linter.unusedSimpArgs false
open Go.RowKit

theorem eqFields_step {P : Program} {w : World} {d : Nat} {xs ys : Array Value} {f : Field} {fs : List Field} (hne : f.name ≠ "_") {a b : Value} {r : Bool} {R : Bool} (ha : (part f.type xs f.offset).run P w = .ok a w) (hb : (part f.type ys f.offset).run P w = .ok b w)
    (hr : (Op.equalIn d f.type a b).run P w = .ok r w) (h : (Op.eqFields d xs ys fs).run P w = .ok R w) : (Op.eqFields d xs ys (f :: fs)).run P w = .ok (r && R) w := by
  rw [Op.eqFields, if_pos hne]
  cases r <;> simp [Sem.run_bind, ha, hb, hr, h]
theorem fieldsDd : Tryd.prog.underlying 46 = some (.struct (Tryd.prog.fieldsOf 46)) := by kernel_rfl
theorem stoodDd : Tryd.prog.stoodInHeld 46 = false := by kernel_rfl
theorem guardDd : Tryd.prog.eqGuardType Tryd.prog.depth 46 = false := by kernel_rfl
section
variable (d : Dd) (w : World)
theorem partD0 : (part 3 (ddC d).toArray 0).run Tryd.prog w = .ok (.int .i64 d.k) w := by simp [part, isAgg, run_underlying Tryd.underlying3, ddC, Sem.run_bind]
theorem partD1 : (part 3 (ddC d).toArray 1).run Tryd.prog w = .ok (.int .i64 d.a) w := by simp [part, isAgg, run_underlying Tryd.underlying3, ddC, Sem.run_bind]
theorem partD2 : (part 3 (ddC d).toArray 2).run Tryd.prog w = .ok (.int .i64 d.m) w := by simp [part, isAgg, run_underlying Tryd.underlying3, ddC, Sem.run_bind]
theorem partD3 : (part 3 (ddC d).toArray 3).run Tryd.prog w = .ok (.int .i64 d.t) w := by simp [part, isAgg, run_underlying Tryd.underlying3, ddC, Sem.run_bind]
theorem partD4 : (part 22 (ddC d).toArray 4).run Tryd.prog w = .ok (.int .u64 d.n) w := by simp [part, isAgg, run_underlying Tryd.underlying22, ddC, Sem.run_bind]
theorem partD5 : (part 22 (ddC d).toArray 5).run Tryd.prog w = .ok (.int .u64 d.c) w := by simp [part, isAgg, run_underlying Tryd.underlying22, ddC, Sem.run_bind]
theorem partD6 : (part 4 (ddC d).toArray 6).run Tryd.prog w = .ok (.bool d.ad) w := by simp [part, isAgg, run_underlying Tryd.underlying4, ddC, Sem.run_bind]
theorem partD7 : (part 9 (ddC d).toArray 7).run Tryd.prog w = .ok (.string (bs d.b)) w := by simp [part, isAgg, run_underlying Tryd.underlying9, ddC, Sem.run_bind]
end
theorem eqIntD (x y : Int) (w : World) : (Op.equalIn 9999 3 (.int .i64 x) (.int .i64 y)).run Tryd.prog w = .ok (x == y) w := run_equalIn_int w 9998 _ .i64 .i64 _ _ Tryd.underlying3
theorem eqU64D (x y : Int) (w : World) : (Op.equalIn 9999 22 (.int .u64 x) (.int .u64 y)).run Tryd.prog w = .ok (x == y) w := run_equalIn_int w 9998 _ .u64 .u64 _ _ Tryd.underlying22
theorem eqBoolD (x y : Bool) (w : World) : (Op.equalIn 9999 4 (.bool x) (.bool y)).run Tryd.prog w = .ok (x == y) w := run_equalIn_bool w 9998 _ _ _ Tryd.underlying4
theorem eqStrD (x y : Bytes) (w : World) : (Op.equalIn 9999 9 (.string (bs x)) (.string (bs y))).run Tryd.prog w = .ok (x == y) w := by
  have := run_equalIn_string (P := Tryd.prog) w 9998 _ (bs x) (bs y) Tryd.underlying9
  rwa [toList_bs, toList_bs] at this
theorem dd_eq (x y : Dd) : ((x.k == y.k) && ((x.a == y.a) && ((x.m == y.m) && ((x.t == y.t) && ((x.n == y.n) && ((x.c == y.c) && ((x.ad == y.ad) && ((x.b == y.b) && true)))))))) = decide (x = y) := by
  obtain ⟨a1, a2, a3, a4, a5, a6, a7, a8⟩ := x
  obtain ⟨b1, b2, b3, b4, b5, b6, b7, b8⟩ := y
  rw [Bool.eq_iff_iff]
  simp
theorem eqDd (x y : Dd) (w : World) : (Op.equalIn 10000 46 (.agg (ddC x).toArray) (.agg (ddC y).toArray)).run Tryd.prog w = .ok (decide (x = y)) w := by
  have hm : (Op.eqFields 9999 (ddC x).toArray (ddC y).toArray (Tryd.prog.fieldsOf 46).toList).run Tryd.prog w = .ok ((x.k == y.k) && ((x.a == y.a) && ((x.m == y.m) && ((x.t == y.t) && ((x.n == y.n) && ((x.c == y.c) && ((x.ad == y.ad) && ((x.b == y.b) && true)))))))) w := by
    simp only [Program.fieldsOf, Tryd.underlying46]
    refine eqFields_step (by decide) (partD0 x w) (partD0 y w) (eqIntD _ _ w) ?_
    refine eqFields_step (by decide) (partD1 x w) (partD1 y w) (eqIntD _ _ w) ?_
    refine eqFields_step (by decide) (partD2 x w) (partD2 y w) (eqIntD _ _ w) ?_
    refine eqFields_step (by decide) (partD3 x w) (partD3 y w) (eqIntD _ _ w) ?_
    refine eqFields_step (by decide) (partD4 x w) (partD4 y w) (eqU64D _ _ w) ?_
    refine eqFields_step (by decide) (partD5 x w) (partD5 y w) (eqU64D _ _ w) ?_
    refine eqFields_step (by decide) (partD6 x w) (partD6 y w) (eqBoolD _ _ w) ?_
    refine eqFields_step (by decide) (partD7 x w) (partD7 y w) (eqStrD _ _ w) ?_
    rfl
  rw [show (10000 : Nat) = 9999 + 1 from rfl, run_equalIn_agg w 9999 _ _ _ fieldsDd stoodDd, hm]
  rw [dd_eq]
theorem eqlDd (x y : Dd) (w : World) : (binOp .eql 46 (.agg (ddC x).toArray) (.agg (ddC y).toArray)).run Tryd.prog w = .ok (.bool (decide (x = y))) w := by
  rw [run_eql_struct, eqDd]; rfl
theorem neqDd (x y : Dd) (w : World) : (binOp .neq 46 (.agg (ddC x).toArray) (.agg (ddC y).toArray)).run Tryd.prog w = .ok (.bool (!decide (x = y))) w := by
  rw [run_neq_struct, eqDd]; rfl
theorem within_val {n most : Int} {r : Bool} (h : decide (0 ≤ n ∧ n ≤ most) = r) (w : World) : Calls Tryd.prog 47 #[.int .i64 n, .int .i64 most] w fun e w' => e = .returned (.bool r) ∧ Below w.heap.size w w' := h ▸ within_any n most w
theorem wrap_pred {k : Int} (h : -9223372036854775808 ≤ k ∧ k ≤ 9223372036854775807) : decide (0 ≤ IntKind.i64.wrap (k - 1) ∧ IntKind.i64.wrap (k - 1) ≤ 8) = decide (0 ≤ k - 1 ∧ k - 1 ≤ 8) := by
  by_cases hm : k = -9223372036854775808
  · subst hm; decide
  · rw [IntWalk.i64_in _ (by omega)]
set_option maxRecDepth 100000 in
set_option maxHeartbeats 8000000 in
theorem right_seven (k a m t n c : Int) (ad : Bool) (b : Bytes) (hb63 : b.length ≤ 9223372036854775807) (h7 : (k == 7) = true) (kk : Int) (hkk : IntKind.i64.wrap (k - 1) = kk) (va vb vc vd ve ff : Bool) (hA : decide (0 ≤ kk ∧ kk ≤ 8) = va) (hE0 : decide ((⟨k, a, m, t, n, c, ad, b⟩ : Dd) = plainD ⟨k, a, m, t, n, c, ad, b⟩) = vb)
    (hC : decide (0 ≤ a ∧ a ≤ 100000) = vc) (hD : decide (0 ≤ m ∧ m ≤ 6) = vd) (hE : decide (0 ≤ t ∧ t ≤ 6) = ve) (hF : decide ((b.length : Int) ≤ 1000) = ff) (w : World) :
    Calls Tryd.prog 23 #[.agg #[.int .i64 k, .int .i64 a, .int .i64 m, .int .i64 t, .int .u64 n, .int .u64 c, .bool ad, .string (bs b)]] w fun e w' => e = .returned (.bool (va && (vb && (vc && (vd && (ve && ff)))))) ∧ Below w.heap.size w w' := by
  have hEQ := eqlDd ⟨k, a, m, t, n, c, ad, b⟩ (plainD ⟨k, a, m, t, n, c, ad, b⟩)
  have hP := plain_any ⟨k, a, m, t, n, c, ad, b⟩
  have hGG := fun w x y => run_eqGuard_agg (P := Tryd.prog) w .eql 46 x y (ddC ⟨k, a, m, t, n, c, ad, b⟩).toArray (ddC (plainD ⟨k, a, m, t, n, c, ad, b⟩)).toArray guardDd
  rw [hE0] at hEQ
  simp only [ddC_arr ⟨k, a, m, t, n, c, ad, b⟩] at hEQ hP hGG
  obtain ⟨PV, hPV⟩ : ∃ PV, Value.agg (ddC (plainD ⟨k, a, m, t, n, c, ad, b⟩)).toArray = PV := ⟨_, rfl⟩
  simp only [hPV] at hEQ hP hGG
  have hw8 : IntKind.i64.wrap 8 = 8 := by decide
  have HP := Lib.hid hP
  have HEQ := Lib.hid hEQ
  have HG := Lib.hid hGG
  have hbI : (b.length : Int) ≤ 9223372036854775807 := by omega
  obtain ⟨X, hXe⟩ : ∃ X, w.heap.size = X := ⟨_, rfl⟩
  have hX0 := heap_alloc_new w (.cells #[.int .i64 k, .int .i64 a, .int .i64 m, .int .i64 t, .int .u64 n, .int .u64 c, .bool ad, .string (bs b)] 46)
  rw [hXe] at hX0
  have HX0 := Lib.hid hX0
  have hB0 : Below w.heap.size w (w.alloc (.cells #[.int .i64 k, .int .i64 a, .int .i64 m, .int .i64 t, .int .u64 n, .int .u64 c, .bool ad, .string (bs b)] 46)) := (Below.refl _ _).alloc (Nat.le_refl _) _
  have HB0 := Lib.hid hB0
  clear hEQ hP hGG hPV hE0 hX0 hB0
  go_enter Tryd.func23, Tryd.ntmps23
  go_wp2_with fail
  try rw [hXe]
  have hX : (w.alloc (.cells #[.int .i64 k, .int .i64 a, .int .i64 m, .int .i64 t, .int .u64 n, .int .u64 c, .bool ad, .string (bs b)] 46)).drew.heap[X]? = some (.cells #[.int .i64 k, .int .i64 a, .int .i64 m, .int .i64 t, .int .u64 n, .int .u64 c, .bool ad, .string (bs b)] 46 (0, 0)) := HX0.out
  have hB : Below w.heap.size w (w.alloc (.cells #[.int .i64 k, .int .i64 a, .int .i64 m, .int .i64 t, .int .u64 n, .int .u64 c, .bool ad, .string (bs b)] 46)).drew := HB0.out.drew
  clear HX0 HB0
  cases va with
  | false =>
    refine wp_region_R [(99, fun w' => w'.heap[X]? = some (.cells #[.int .i64 k, .int .i64 a, .int .i64 m, .int .i64 t, .int .u64 n, .int .u64 c, .bool ad, .string (bs b)] 46 (0, 0)))] (by kernel_rfl) ?_
    generalize (w.alloc (.cells #[.int .i64 k, .int .i64 a, .int .i64 m, .int .i64 t, .int .u64 n, .int .u64 c, .bool ad, .string (bs b)] 46)).drew = W at hX hB ⊢
    refine R_p (i := 0) (v := .pointer (some ⟨X, 0, none⟩)) (Meets.here hX Meets.nil) ?_
    refine R_l (i := 1) (v := .int .i64 k) 99 _ List.mem_cons_self rfl (yieldsIf_load_cell rfl rfl rfl (fun w' hS => rc hS 0 rfl) Tryd.underlying3 rfl) (Meets.here hX Meets.nil) ?_
    refine R_p (i := 2) (v := .int .i64 kk) (Meets.here hX Meets.nil) ?_
    refine R_now 3 fun K hK => ?_
    go_simp
    refine (words_any _).mono ?_
    rintro e w3 ⟨rfl, hb3⟩
    replace hX := (hb3.block _ (Array.getElem?_eq_some_iff.1 hX).1).trans hX
    replace hB := below_call hB hB.size hb3
    clear hb3
    refine hK.out _ _ (Meets.here hX Meets.nil) (fun hMeets => ?_)
    clear hK K hMeets
    refine lay_R ?_
    refine R_p (i := 4) (v := .int .i64 9) (Meets.here hX Meets.nil) ?_
    refine R_p (i := 5) (v := .int .i64 8) (Meets.here hX Meets.nil) ?_
    refine R_now 6 fun K hK => ?_
    go_simp
    refine (within_val hA _).mono ?_
    rintro e w6 ⟨rfl, hb6⟩
    replace hX := (hb6.block _ (Array.getElem?_eq_some_iff.1 hX).1).trans hX
    replace hB := below_call hB hB.size hb6
    clear hb6
    refine hK.out _ _ (Meets.here hX Meets.nil) (fun hMeets => ?_)
    clear hK K hMeets
    refine lay_R ?_
    refine R_p (i := 7) (v := .bool false) (Meets.here hX Meets.nil) ?_
    refine R_s (i := 8) (Meets.here hX Meets.nil) ?_
    refine R_s (i := 9) (Meets.here hX Meets.nil) ?_
    refine R_s (i := 10) (Meets.here hX Meets.nil) ?_
    refine R_s (i := 11) (Meets.here hX Meets.nil) ?_
    refine R_p (i := 12) (v := .bool false) (Meets.here hX Meets.nil) ?_
    refine R_p (i := 13) (v := .bool false) (Meets.here hX Meets.nil) ?_
    refine R_s (i := 14) (Meets.here hX Meets.nil) ?_
    refine R_s (i := 15) (Meets.here hX Meets.nil) ?_
    refine R_s (i := 16) (Meets.here hX Meets.nil) ?_
    refine R_p (i := 17) (v := .bool false) (Meets.here hX Meets.nil) ?_
    refine R_p (i := 18) (v := .bool false) (Meets.here hX Meets.nil) ?_
    refine R_s (i := 19) (Meets.here hX Meets.nil) ?_
    refine R_s (i := 20) (Meets.here hX Meets.nil) ?_
    refine R_s (i := 21) (Meets.here hX Meets.nil) ?_
    refine R_s (i := 22) (Meets.here hX Meets.nil) ?_
    refine R_p (i := 23) (v := .bool false) (Meets.here hX Meets.nil) ?_
    refine R_p (i := 24) (v := .bool false) (Meets.here hX Meets.nil) ?_
    refine R_s (i := 25) (Meets.here hX Meets.nil) ?_
    refine R_s (i := 26) (Meets.here hX Meets.nil) ?_
    refine R_s (i := 27) (Meets.here hX Meets.nil) ?_
    refine R_p (i := 28) (v := .bool false) (Meets.here hX Meets.nil) ?_
    refine R_p (i := 29) (v := .bool false) (Meets.here hX Meets.nil) ?_
    refine R_s (i := 30) (Meets.here hX Meets.nil) ?_
    refine R_s (i := 31) (Meets.here hX Meets.nil) ?_
    refine R_s (i := 32) (Meets.here hX Meets.nil) ?_
    refine R_s (i := 33) (Meets.here hX Meets.nil) ?_
    refine R_p (i := 34) (v := .bool false) (Meets.here hX Meets.nil) ?_
    refine R_p (i := 35) (v := .bool false) (Meets.here hX Meets.nil) ?_
    refine R_done (by kernel_rfl) ?_ _
    go_wp2_with fail
    go_ret
    exact ⟨rfl, hB⟩
  | true =>
    cases vb with
    | false =>
      refine wp_region_R [(99, fun w' => w'.heap[X]? = some (.cells #[.int .i64 k, .int .i64 a, .int .i64 m, .int .i64 t, .int .u64 n, .int .u64 c, .bool ad, .string (bs b)] 46 (0, 0)))] (by kernel_rfl) ?_
      generalize (w.alloc (.cells #[.int .i64 k, .int .i64 a, .int .i64 m, .int .i64 t, .int .u64 n, .int .u64 c, .bool ad, .string (bs b)] 46)).drew = W at hX hB ⊢
      refine R_p (i := 0) (v := .pointer (some ⟨X, 0, none⟩)) (Meets.here hX Meets.nil) ?_
      refine R_l (i := 1) (v := .int .i64 k) 99 _ List.mem_cons_self rfl (yieldsIf_load_cell rfl rfl rfl (fun w' hS => rc hS 0 rfl) Tryd.underlying3 rfl) (Meets.here hX Meets.nil) ?_
      refine R_p (i := 2) (v := .int .i64 kk) (Meets.here hX Meets.nil) ?_
      refine R_now 3 fun K hK => ?_
      go_simp
      refine (words_any _).mono ?_
      rintro e w3 ⟨rfl, hb3⟩
      replace hX := (hb3.block _ (Array.getElem?_eq_some_iff.1 hX).1).trans hX
      replace hB := below_call hB hB.size hb3
      clear hb3
      refine hK.out _ _ (Meets.here hX Meets.nil) (fun hMeets => ?_)
      clear hK K hMeets
      refine lay_R ?_
      refine R_p (i := 4) (v := .int .i64 9) (Meets.here hX Meets.nil) ?_
      refine R_p (i := 5) (v := .int .i64 8) (Meets.here hX Meets.nil) ?_
      refine R_now 6 fun K hK => ?_
      go_simp
      refine (within_val hA _).mono ?_
      rintro e w6 ⟨rfl, hb6⟩
      replace hX := (hb6.block _ (Array.getElem?_eq_some_iff.1 hX).1).trans hX
      replace hB := below_call hB hB.size hb6
      clear hb6
      refine hK.out _ _ (Meets.here hX Meets.nil) (fun hMeets => ?_)
      clear hK K hMeets
      refine lay_R ?_
      refine R_p (i := 7) (v := .bool true) (Meets.here hX Meets.nil) ?_
      refine R_l (i := 8) (v := .agg #[.int .i64 k, .int .i64 a, .int .i64 m, .int .i64 t, .int .u64 n, .int .u64 c, .bool ad, .string (bs b)]) 99 _ List.mem_cons_self rfl (yieldsIf_load_row rfl rfl rfl (fun w' hS => hS) Tryd.underlying46 rfl infoDd) (Meets.here hX Meets.nil) ?_
      refine R_l (i := 9) (v := .agg #[.int .i64 k, .int .i64 a, .int .i64 m, .int .i64 t, .int .u64 n, .int .u64 c, .bool ad, .string (bs b)]) 99 _ List.mem_cons_self rfl (yieldsIf_load_row rfl rfl rfl (fun w' hS => hS) Tryd.underlying46 rfl infoDd) (Meets.here hX Meets.nil) ?_
      refine R_now 10 fun K hK => ?_
      go_simp
      refine (HP.out _).mono ?_
      rintro e w10 ⟨rfl, hb10⟩
      replace hX := (hb10.block _ (Array.getElem?_eq_some_iff.1 hX).1).trans hX
      replace hB := below_call hB hB.size hb10
      clear hb10
      refine hK.out _ _ (Meets.here hX Meets.nil) (fun hMeets => ?_)
      clear hK K hMeets
      refine lay_R ?_
      refine R_p (i := 11) (v := .bool false) (Meets.here hX Meets.nil) ?_ (hy := by intro w'; have h1 := HEQ.out w'; have h2 := HG.out w'; generalize Value.agg #[.int .i64 k, .int .i64 a, .int .i64 m, .int .i64 t, .int .u64 n, .int .u64 c, .bool ad, .string (bs b)] = V1 at h1 h2 ⊢; go_simp)
      refine R_p (i := 12) (v := .bool false) (Meets.here hX Meets.nil) ?_
      refine R_p (i := 13) (v := .bool false) (Meets.here hX Meets.nil) ?_
      refine R_s (i := 14) (Meets.here hX Meets.nil) ?_
      refine R_s (i := 15) (Meets.here hX Meets.nil) ?_
      refine R_s (i := 16) (Meets.here hX Meets.nil) ?_
      refine R_p (i := 17) (v := .bool false) (Meets.here hX Meets.nil) ?_
      refine R_p (i := 18) (v := .bool false) (Meets.here hX Meets.nil) ?_
      refine R_s (i := 19) (Meets.here hX Meets.nil) ?_
      refine R_s (i := 20) (Meets.here hX Meets.nil) ?_
      refine R_s (i := 21) (Meets.here hX Meets.nil) ?_
      refine R_s (i := 22) (Meets.here hX Meets.nil) ?_
      refine R_p (i := 23) (v := .bool false) (Meets.here hX Meets.nil) ?_
      refine R_p (i := 24) (v := .bool false) (Meets.here hX Meets.nil) ?_
      refine R_s (i := 25) (Meets.here hX Meets.nil) ?_
      refine R_s (i := 26) (Meets.here hX Meets.nil) ?_
      refine R_s (i := 27) (Meets.here hX Meets.nil) ?_
      refine R_p (i := 28) (v := .bool false) (Meets.here hX Meets.nil) ?_
      refine R_p (i := 29) (v := .bool false) (Meets.here hX Meets.nil) ?_
      refine R_s (i := 30) (Meets.here hX Meets.nil) ?_
      refine R_s (i := 31) (Meets.here hX Meets.nil) ?_
      refine R_s (i := 32) (Meets.here hX Meets.nil) ?_
      refine R_s (i := 33) (Meets.here hX Meets.nil) ?_
      refine R_p (i := 34) (v := .bool false) (Meets.here hX Meets.nil) ?_
      refine R_p (i := 35) (v := .bool false) (Meets.here hX Meets.nil) ?_
      refine R_done (by kernel_rfl) ?_ _
      go_wp2_with fail
      go_ret
      exact ⟨rfl, hB⟩
    | true =>
      cases vc with
      | false =>
        refine wp_region_R [(99, fun w' => w'.heap[X]? = some (.cells #[.int .i64 k, .int .i64 a, .int .i64 m, .int .i64 t, .int .u64 n, .int .u64 c, .bool ad, .string (bs b)] 46 (0, 0)))] (by kernel_rfl) ?_
        generalize (w.alloc (.cells #[.int .i64 k, .int .i64 a, .int .i64 m, .int .i64 t, .int .u64 n, .int .u64 c, .bool ad, .string (bs b)] 46)).drew = W at hX hB ⊢
        refine R_p (i := 0) (v := .pointer (some ⟨X, 0, none⟩)) (Meets.here hX Meets.nil) ?_
        refine R_l (i := 1) (v := .int .i64 k) 99 _ List.mem_cons_self rfl (yieldsIf_load_cell rfl rfl rfl (fun w' hS => rc hS 0 rfl) Tryd.underlying3 rfl) (Meets.here hX Meets.nil) ?_
        refine R_p (i := 2) (v := .int .i64 kk) (Meets.here hX Meets.nil) ?_
        refine R_now 3 fun K hK => ?_
        go_simp
        refine (words_any _).mono ?_
        rintro e w3 ⟨rfl, hb3⟩
        replace hX := (hb3.block _ (Array.getElem?_eq_some_iff.1 hX).1).trans hX
        replace hB := below_call hB hB.size hb3
        clear hb3
        refine hK.out _ _ (Meets.here hX Meets.nil) (fun hMeets => ?_)
        clear hK K hMeets
        refine lay_R ?_
        refine R_p (i := 4) (v := .int .i64 9) (Meets.here hX Meets.nil) ?_
        refine R_p (i := 5) (v := .int .i64 8) (Meets.here hX Meets.nil) ?_
        refine R_now 6 fun K hK => ?_
        go_simp
        refine (within_val hA _).mono ?_
        rintro e w6 ⟨rfl, hb6⟩
        replace hX := (hb6.block _ (Array.getElem?_eq_some_iff.1 hX).1).trans hX
        replace hB := below_call hB hB.size hb6
        clear hb6
        refine hK.out _ _ (Meets.here hX Meets.nil) (fun hMeets => ?_)
        clear hK K hMeets
        refine lay_R ?_
        refine R_p (i := 7) (v := .bool true) (Meets.here hX Meets.nil) ?_
        refine R_l (i := 8) (v := .agg #[.int .i64 k, .int .i64 a, .int .i64 m, .int .i64 t, .int .u64 n, .int .u64 c, .bool ad, .string (bs b)]) 99 _ List.mem_cons_self rfl (yieldsIf_load_row rfl rfl rfl (fun w' hS => hS) Tryd.underlying46 rfl infoDd) (Meets.here hX Meets.nil) ?_
        refine R_l (i := 9) (v := .agg #[.int .i64 k, .int .i64 a, .int .i64 m, .int .i64 t, .int .u64 n, .int .u64 c, .bool ad, .string (bs b)]) 99 _ List.mem_cons_self rfl (yieldsIf_load_row rfl rfl rfl (fun w' hS => hS) Tryd.underlying46 rfl infoDd) (Meets.here hX Meets.nil) ?_
        refine R_now 10 fun K hK => ?_
        go_simp
        refine (HP.out _).mono ?_
        rintro e w10 ⟨rfl, hb10⟩
        replace hX := (hb10.block _ (Array.getElem?_eq_some_iff.1 hX).1).trans hX
        replace hB := below_call hB hB.size hb10
        clear hb10
        refine hK.out _ _ (Meets.here hX Meets.nil) (fun hMeets => ?_)
        clear hK K hMeets
        refine lay_R ?_
        refine R_p (i := 11) (v := .bool true) (Meets.here hX Meets.nil) ?_ (hy := by intro w'; have h1 := HEQ.out w'; have h2 := HG.out w'; generalize Value.agg #[.int .i64 k, .int .i64 a, .int .i64 m, .int .i64 t, .int .u64 n, .int .u64 c, .bool ad, .string (bs b)] = V1 at h1 h2 ⊢; go_simp)
        refine R_p (i := 12) (v := .bool true) (Meets.here hX Meets.nil) ?_
        refine R_p (i := 13) (v := .bool true) (Meets.here hX Meets.nil) ?_
        refine R_p (i := 14) (v := .pointer (some ⟨X, 1, none⟩)) (Meets.here hX Meets.nil) ?_
        refine R_l (i := 15) (v := .int .i64 a) 99 _ List.mem_cons_self rfl (yieldsIf_load_cell rfl rfl rfl (fun w' hS => rc hS 1 rfl) Tryd.underlying3 rfl) (Meets.here hX Meets.nil) ?_
        refine R_now 16 fun K hK => ?_
        go_simp
        refine (within_val hC _).mono ?_
        rintro e w16 ⟨rfl, hb16⟩
        replace hX := (hb16.block _ (Array.getElem?_eq_some_iff.1 hX).1).trans hX
        replace hB := below_call hB hB.size hb16
        clear hb16
        refine hK.out _ _ (Meets.here hX Meets.nil) (fun hMeets => ?_)
        clear hK K hMeets
        refine lay_R ?_
        refine R_p (i := 17) (v := .bool false) (Meets.here hX Meets.nil) ?_
        refine R_p (i := 18) (v := .bool false) (Meets.here hX Meets.nil) ?_
        refine R_s (i := 19) (Meets.here hX Meets.nil) ?_
        refine R_s (i := 20) (Meets.here hX Meets.nil) ?_
        refine R_s (i := 21) (Meets.here hX Meets.nil) ?_
        refine R_s (i := 22) (Meets.here hX Meets.nil) ?_
        refine R_p (i := 23) (v := .bool false) (Meets.here hX Meets.nil) ?_
        refine R_p (i := 24) (v := .bool false) (Meets.here hX Meets.nil) ?_
        refine R_s (i := 25) (Meets.here hX Meets.nil) ?_
        refine R_s (i := 26) (Meets.here hX Meets.nil) ?_
        refine R_s (i := 27) (Meets.here hX Meets.nil) ?_
        refine R_p (i := 28) (v := .bool false) (Meets.here hX Meets.nil) ?_
        refine R_p (i := 29) (v := .bool false) (Meets.here hX Meets.nil) ?_
        refine R_s (i := 30) (Meets.here hX Meets.nil) ?_
        refine R_s (i := 31) (Meets.here hX Meets.nil) ?_
        refine R_s (i := 32) (Meets.here hX Meets.nil) ?_
        refine R_s (i := 33) (Meets.here hX Meets.nil) ?_
        refine R_p (i := 34) (v := .bool false) (Meets.here hX Meets.nil) ?_
        refine R_p (i := 35) (v := .bool false) (Meets.here hX Meets.nil) ?_
        refine R_done (by kernel_rfl) ?_ _
        go_wp2_with fail
        go_ret
        exact ⟨rfl, hB⟩
      | true =>
        cases vd with
        | false =>
          refine wp_region_R [(99, fun w' => w'.heap[X]? = some (.cells #[.int .i64 k, .int .i64 a, .int .i64 m, .int .i64 t, .int .u64 n, .int .u64 c, .bool ad, .string (bs b)] 46 (0, 0)))] (by kernel_rfl) ?_
          generalize (w.alloc (.cells #[.int .i64 k, .int .i64 a, .int .i64 m, .int .i64 t, .int .u64 n, .int .u64 c, .bool ad, .string (bs b)] 46)).drew = W at hX hB ⊢
          refine R_p (i := 0) (v := .pointer (some ⟨X, 0, none⟩)) (Meets.here hX Meets.nil) ?_
          refine R_l (i := 1) (v := .int .i64 k) 99 _ List.mem_cons_self rfl (yieldsIf_load_cell rfl rfl rfl (fun w' hS => rc hS 0 rfl) Tryd.underlying3 rfl) (Meets.here hX Meets.nil) ?_
          refine R_p (i := 2) (v := .int .i64 kk) (Meets.here hX Meets.nil) ?_
          refine R_now 3 fun K hK => ?_
          go_simp
          refine (words_any _).mono ?_
          rintro e w3 ⟨rfl, hb3⟩
          replace hX := (hb3.block _ (Array.getElem?_eq_some_iff.1 hX).1).trans hX
          replace hB := below_call hB hB.size hb3
          clear hb3
          refine hK.out _ _ (Meets.here hX Meets.nil) (fun hMeets => ?_)
          clear hK K hMeets
          refine lay_R ?_
          refine R_p (i := 4) (v := .int .i64 9) (Meets.here hX Meets.nil) ?_
          refine R_p (i := 5) (v := .int .i64 8) (Meets.here hX Meets.nil) ?_
          refine R_now 6 fun K hK => ?_
          go_simp
          refine (within_val hA _).mono ?_
          rintro e w6 ⟨rfl, hb6⟩
          replace hX := (hb6.block _ (Array.getElem?_eq_some_iff.1 hX).1).trans hX
          replace hB := below_call hB hB.size hb6
          clear hb6
          refine hK.out _ _ (Meets.here hX Meets.nil) (fun hMeets => ?_)
          clear hK K hMeets
          refine lay_R ?_
          refine R_p (i := 7) (v := .bool true) (Meets.here hX Meets.nil) ?_
          refine R_l (i := 8) (v := .agg #[.int .i64 k, .int .i64 a, .int .i64 m, .int .i64 t, .int .u64 n, .int .u64 c, .bool ad, .string (bs b)]) 99 _ List.mem_cons_self rfl (yieldsIf_load_row rfl rfl rfl (fun w' hS => hS) Tryd.underlying46 rfl infoDd) (Meets.here hX Meets.nil) ?_
          refine R_l (i := 9) (v := .agg #[.int .i64 k, .int .i64 a, .int .i64 m, .int .i64 t, .int .u64 n, .int .u64 c, .bool ad, .string (bs b)]) 99 _ List.mem_cons_self rfl (yieldsIf_load_row rfl rfl rfl (fun w' hS => hS) Tryd.underlying46 rfl infoDd) (Meets.here hX Meets.nil) ?_
          refine R_now 10 fun K hK => ?_
          go_simp
          refine (HP.out _).mono ?_
          rintro e w10 ⟨rfl, hb10⟩
          replace hX := (hb10.block _ (Array.getElem?_eq_some_iff.1 hX).1).trans hX
          replace hB := below_call hB hB.size hb10
          clear hb10
          refine hK.out _ _ (Meets.here hX Meets.nil) (fun hMeets => ?_)
          clear hK K hMeets
          refine lay_R ?_
          refine R_p (i := 11) (v := .bool true) (Meets.here hX Meets.nil) ?_ (hy := by intro w'; have h1 := HEQ.out w'; have h2 := HG.out w'; generalize Value.agg #[.int .i64 k, .int .i64 a, .int .i64 m, .int .i64 t, .int .u64 n, .int .u64 c, .bool ad, .string (bs b)] = V1 at h1 h2 ⊢; go_simp)
          refine R_p (i := 12) (v := .bool true) (Meets.here hX Meets.nil) ?_
          refine R_p (i := 13) (v := .bool true) (Meets.here hX Meets.nil) ?_
          refine R_p (i := 14) (v := .pointer (some ⟨X, 1, none⟩)) (Meets.here hX Meets.nil) ?_
          refine R_l (i := 15) (v := .int .i64 a) 99 _ List.mem_cons_self rfl (yieldsIf_load_cell rfl rfl rfl (fun w' hS => rc hS 1 rfl) Tryd.underlying3 rfl) (Meets.here hX Meets.nil) ?_
          refine R_now 16 fun K hK => ?_
          go_simp
          refine (within_val hC _).mono ?_
          rintro e w16 ⟨rfl, hb16⟩
          replace hX := (hb16.block _ (Array.getElem?_eq_some_iff.1 hX).1).trans hX
          replace hB := below_call hB hB.size hb16
          clear hb16
          refine hK.out _ _ (Meets.here hX Meets.nil) (fun hMeets => ?_)
          clear hK K hMeets
          refine lay_R ?_
          refine R_p (i := 17) (v := .bool true) (Meets.here hX Meets.nil) ?_
          refine R_p (i := 18) (v := .bool true) (Meets.here hX Meets.nil) ?_
          refine R_p (i := 19) (v := .pointer (some ⟨X, 2, none⟩)) (Meets.here hX Meets.nil) ?_
          refine R_l (i := 20) (v := .int .i64 m) 99 _ List.mem_cons_self rfl (yieldsIf_load_cell rfl rfl rfl (fun w' hS => rc hS 2 rfl) Tryd.underlying3 rfl) (Meets.here hX Meets.nil) ?_
          refine R_p (i := 21) (v := .int .i64 6) (Meets.here hX Meets.nil) ?_
          refine R_now 22 fun K hK => ?_
          go_simp
          refine (within_val hD _).mono ?_
          rintro e w22 ⟨rfl, hb22⟩
          replace hX := (hb22.block _ (Array.getElem?_eq_some_iff.1 hX).1).trans hX
          replace hB := below_call hB hB.size hb22
          clear hb22
          refine hK.out _ _ (Meets.here hX Meets.nil) (fun hMeets => ?_)
          clear hK K hMeets
          refine lay_R ?_
          refine R_p (i := 23) (v := .bool false) (Meets.here hX Meets.nil) ?_
          refine R_p (i := 24) (v := .bool false) (Meets.here hX Meets.nil) ?_
          refine R_s (i := 25) (Meets.here hX Meets.nil) ?_
          refine R_s (i := 26) (Meets.here hX Meets.nil) ?_
          refine R_s (i := 27) (Meets.here hX Meets.nil) ?_
          refine R_p (i := 28) (v := .bool false) (Meets.here hX Meets.nil) ?_
          refine R_p (i := 29) (v := .bool false) (Meets.here hX Meets.nil) ?_
          refine R_s (i := 30) (Meets.here hX Meets.nil) ?_
          refine R_s (i := 31) (Meets.here hX Meets.nil) ?_
          refine R_s (i := 32) (Meets.here hX Meets.nil) ?_
          refine R_s (i := 33) (Meets.here hX Meets.nil) ?_
          refine R_p (i := 34) (v := .bool false) (Meets.here hX Meets.nil) ?_
          refine R_p (i := 35) (v := .bool false) (Meets.here hX Meets.nil) ?_
          refine R_done (by kernel_rfl) ?_ _
          go_wp2_with fail
          go_ret
          exact ⟨rfl, hB⟩
        | true =>
          cases ve with
          | false =>
            refine wp_region_R [(99, fun w' => w'.heap[X]? = some (.cells #[.int .i64 k, .int .i64 a, .int .i64 m, .int .i64 t, .int .u64 n, .int .u64 c, .bool ad, .string (bs b)] 46 (0, 0)))] (by kernel_rfl) ?_
            generalize (w.alloc (.cells #[.int .i64 k, .int .i64 a, .int .i64 m, .int .i64 t, .int .u64 n, .int .u64 c, .bool ad, .string (bs b)] 46)).drew = W at hX hB ⊢
            refine R_p (i := 0) (v := .pointer (some ⟨X, 0, none⟩)) (Meets.here hX Meets.nil) ?_
            refine R_l (i := 1) (v := .int .i64 k) 99 _ List.mem_cons_self rfl (yieldsIf_load_cell rfl rfl rfl (fun w' hS => rc hS 0 rfl) Tryd.underlying3 rfl) (Meets.here hX Meets.nil) ?_
            refine R_p (i := 2) (v := .int .i64 kk) (Meets.here hX Meets.nil) ?_
            refine R_now 3 fun K hK => ?_
            go_simp
            refine (words_any _).mono ?_
            rintro e w3 ⟨rfl, hb3⟩
            replace hX := (hb3.block _ (Array.getElem?_eq_some_iff.1 hX).1).trans hX
            replace hB := below_call hB hB.size hb3
            clear hb3
            refine hK.out _ _ (Meets.here hX Meets.nil) (fun hMeets => ?_)
            clear hK K hMeets
            refine lay_R ?_
            refine R_p (i := 4) (v := .int .i64 9) (Meets.here hX Meets.nil) ?_
            refine R_p (i := 5) (v := .int .i64 8) (Meets.here hX Meets.nil) ?_
            refine R_now 6 fun K hK => ?_
            go_simp
            refine (within_val hA _).mono ?_
            rintro e w6 ⟨rfl, hb6⟩
            replace hX := (hb6.block _ (Array.getElem?_eq_some_iff.1 hX).1).trans hX
            replace hB := below_call hB hB.size hb6
            clear hb6
            refine hK.out _ _ (Meets.here hX Meets.nil) (fun hMeets => ?_)
            clear hK K hMeets
            refine lay_R ?_
            refine R_p (i := 7) (v := .bool true) (Meets.here hX Meets.nil) ?_
            refine R_l (i := 8) (v := .agg #[.int .i64 k, .int .i64 a, .int .i64 m, .int .i64 t, .int .u64 n, .int .u64 c, .bool ad, .string (bs b)]) 99 _ List.mem_cons_self rfl (yieldsIf_load_row rfl rfl rfl (fun w' hS => hS) Tryd.underlying46 rfl infoDd) (Meets.here hX Meets.nil) ?_
            refine R_l (i := 9) (v := .agg #[.int .i64 k, .int .i64 a, .int .i64 m, .int .i64 t, .int .u64 n, .int .u64 c, .bool ad, .string (bs b)]) 99 _ List.mem_cons_self rfl (yieldsIf_load_row rfl rfl rfl (fun w' hS => hS) Tryd.underlying46 rfl infoDd) (Meets.here hX Meets.nil) ?_
            refine R_now 10 fun K hK => ?_
            go_simp
            refine (HP.out _).mono ?_
            rintro e w10 ⟨rfl, hb10⟩
            replace hX := (hb10.block _ (Array.getElem?_eq_some_iff.1 hX).1).trans hX
            replace hB := below_call hB hB.size hb10
            clear hb10
            refine hK.out _ _ (Meets.here hX Meets.nil) (fun hMeets => ?_)
            clear hK K hMeets
            refine lay_R ?_
            refine R_p (i := 11) (v := .bool true) (Meets.here hX Meets.nil) ?_ (hy := by intro w'; have h1 := HEQ.out w'; have h2 := HG.out w'; generalize Value.agg #[.int .i64 k, .int .i64 a, .int .i64 m, .int .i64 t, .int .u64 n, .int .u64 c, .bool ad, .string (bs b)] = V1 at h1 h2 ⊢; go_simp)
            refine R_p (i := 12) (v := .bool true) (Meets.here hX Meets.nil) ?_
            refine R_p (i := 13) (v := .bool true) (Meets.here hX Meets.nil) ?_
            refine R_p (i := 14) (v := .pointer (some ⟨X, 1, none⟩)) (Meets.here hX Meets.nil) ?_
            refine R_l (i := 15) (v := .int .i64 a) 99 _ List.mem_cons_self rfl (yieldsIf_load_cell rfl rfl rfl (fun w' hS => rc hS 1 rfl) Tryd.underlying3 rfl) (Meets.here hX Meets.nil) ?_
            refine R_now 16 fun K hK => ?_
            go_simp
            refine (within_val hC _).mono ?_
            rintro e w16 ⟨rfl, hb16⟩
            replace hX := (hb16.block _ (Array.getElem?_eq_some_iff.1 hX).1).trans hX
            replace hB := below_call hB hB.size hb16
            clear hb16
            refine hK.out _ _ (Meets.here hX Meets.nil) (fun hMeets => ?_)
            clear hK K hMeets
            refine lay_R ?_
            refine R_p (i := 17) (v := .bool true) (Meets.here hX Meets.nil) ?_
            refine R_p (i := 18) (v := .bool true) (Meets.here hX Meets.nil) ?_
            refine R_p (i := 19) (v := .pointer (some ⟨X, 2, none⟩)) (Meets.here hX Meets.nil) ?_
            refine R_l (i := 20) (v := .int .i64 m) 99 _ List.mem_cons_self rfl (yieldsIf_load_cell rfl rfl rfl (fun w' hS => rc hS 2 rfl) Tryd.underlying3 rfl) (Meets.here hX Meets.nil) ?_
            refine R_p (i := 21) (v := .int .i64 6) (Meets.here hX Meets.nil) ?_
            refine R_now 22 fun K hK => ?_
            go_simp
            refine (within_val hD _).mono ?_
            rintro e w22 ⟨rfl, hb22⟩
            replace hX := (hb22.block _ (Array.getElem?_eq_some_iff.1 hX).1).trans hX
            replace hB := below_call hB hB.size hb22
            clear hb22
            refine hK.out _ _ (Meets.here hX Meets.nil) (fun hMeets => ?_)
            clear hK K hMeets
            refine lay_R ?_
            refine R_p (i := 23) (v := .bool true) (Meets.here hX Meets.nil) ?_
            refine R_p (i := 24) (v := .bool true) (Meets.here hX Meets.nil) ?_
            refine R_p (i := 25) (v := .pointer (some ⟨X, 3, none⟩)) (Meets.here hX Meets.nil) ?_
            refine R_l (i := 26) (v := .int .i64 t) 99 _ List.mem_cons_self rfl (yieldsIf_load_cell rfl rfl rfl (fun w' hS => rc hS 3 rfl) Tryd.underlying3 rfl) (Meets.here hX Meets.nil) ?_
            refine R_now 27 fun K hK => ?_
            go_simp
            refine (within_val hE _).mono ?_
            rintro e w27 ⟨rfl, hb27⟩
            replace hX := (hb27.block _ (Array.getElem?_eq_some_iff.1 hX).1).trans hX
            replace hB := below_call hB hB.size hb27
            clear hb27
            refine hK.out _ _ (Meets.here hX Meets.nil) (fun hMeets => ?_)
            clear hK K hMeets
            refine lay_R ?_
            refine R_p (i := 28) (v := .bool false) (Meets.here hX Meets.nil) ?_
            refine R_p (i := 29) (v := .bool false) (Meets.here hX Meets.nil) ?_
            refine R_s (i := 30) (Meets.here hX Meets.nil) ?_
            refine R_s (i := 31) (Meets.here hX Meets.nil) ?_
            refine R_s (i := 32) (Meets.here hX Meets.nil) ?_
            refine R_s (i := 33) (Meets.here hX Meets.nil) ?_
            refine R_p (i := 34) (v := .bool false) (Meets.here hX Meets.nil) ?_
            refine R_p (i := 35) (v := .bool false) (Meets.here hX Meets.nil) ?_
            refine R_done (by kernel_rfl) ?_ _
            go_wp2_with fail
            go_ret
            exact ⟨rfl, hB⟩
          | true =>
            refine wp_region_R [(99, fun w' => w'.heap[X]? = some (.cells #[.int .i64 k, .int .i64 a, .int .i64 m, .int .i64 t, .int .u64 n, .int .u64 c, .bool ad, .string (bs b)] 46 (0, 0)))] (by kernel_rfl) ?_
            generalize (w.alloc (.cells #[.int .i64 k, .int .i64 a, .int .i64 m, .int .i64 t, .int .u64 n, .int .u64 c, .bool ad, .string (bs b)] 46)).drew = W at hX hB ⊢
            refine R_p (i := 0) (v := .pointer (some ⟨X, 0, none⟩)) (Meets.here hX Meets.nil) ?_
            refine R_l (i := 1) (v := .int .i64 k) 99 _ List.mem_cons_self rfl (yieldsIf_load_cell rfl rfl rfl (fun w' hS => rc hS 0 rfl) Tryd.underlying3 rfl) (Meets.here hX Meets.nil) ?_
            refine R_p (i := 2) (v := .int .i64 kk) (Meets.here hX Meets.nil) ?_
            refine R_now 3 fun K hK => ?_
            go_simp
            refine (words_any _).mono ?_
            rintro e w3 ⟨rfl, hb3⟩
            replace hX := (hb3.block _ (Array.getElem?_eq_some_iff.1 hX).1).trans hX
            replace hB := below_call hB hB.size hb3
            clear hb3
            refine hK.out _ _ (Meets.here hX Meets.nil) (fun hMeets => ?_)
            clear hK K hMeets
            refine lay_R ?_
            refine R_p (i := 4) (v := .int .i64 9) (Meets.here hX Meets.nil) ?_
            refine R_p (i := 5) (v := .int .i64 8) (Meets.here hX Meets.nil) ?_
            refine R_now 6 fun K hK => ?_
            go_simp
            refine (within_val hA _).mono ?_
            rintro e w6 ⟨rfl, hb6⟩
            replace hX := (hb6.block _ (Array.getElem?_eq_some_iff.1 hX).1).trans hX
            replace hB := below_call hB hB.size hb6
            clear hb6
            refine hK.out _ _ (Meets.here hX Meets.nil) (fun hMeets => ?_)
            clear hK K hMeets
            refine lay_R ?_
            refine R_p (i := 7) (v := .bool true) (Meets.here hX Meets.nil) ?_
            refine R_l (i := 8) (v := .agg #[.int .i64 k, .int .i64 a, .int .i64 m, .int .i64 t, .int .u64 n, .int .u64 c, .bool ad, .string (bs b)]) 99 _ List.mem_cons_self rfl (yieldsIf_load_row rfl rfl rfl (fun w' hS => hS) Tryd.underlying46 rfl infoDd) (Meets.here hX Meets.nil) ?_
            refine R_l (i := 9) (v := .agg #[.int .i64 k, .int .i64 a, .int .i64 m, .int .i64 t, .int .u64 n, .int .u64 c, .bool ad, .string (bs b)]) 99 _ List.mem_cons_self rfl (yieldsIf_load_row rfl rfl rfl (fun w' hS => hS) Tryd.underlying46 rfl infoDd) (Meets.here hX Meets.nil) ?_
            refine R_now 10 fun K hK => ?_
            go_simp
            refine (HP.out _).mono ?_
            rintro e w10 ⟨rfl, hb10⟩
            replace hX := (hb10.block _ (Array.getElem?_eq_some_iff.1 hX).1).trans hX
            replace hB := below_call hB hB.size hb10
            clear hb10
            refine hK.out _ _ (Meets.here hX Meets.nil) (fun hMeets => ?_)
            clear hK K hMeets
            refine lay_R ?_
            refine R_p (i := 11) (v := .bool true) (Meets.here hX Meets.nil) ?_ (hy := by intro w'; have h1 := HEQ.out w'; have h2 := HG.out w'; generalize Value.agg #[.int .i64 k, .int .i64 a, .int .i64 m, .int .i64 t, .int .u64 n, .int .u64 c, .bool ad, .string (bs b)] = V1 at h1 h2 ⊢; go_simp)
            refine R_p (i := 12) (v := .bool true) (Meets.here hX Meets.nil) ?_
            refine R_p (i := 13) (v := .bool true) (Meets.here hX Meets.nil) ?_
            refine R_p (i := 14) (v := .pointer (some ⟨X, 1, none⟩)) (Meets.here hX Meets.nil) ?_
            refine R_l (i := 15) (v := .int .i64 a) 99 _ List.mem_cons_self rfl (yieldsIf_load_cell rfl rfl rfl (fun w' hS => rc hS 1 rfl) Tryd.underlying3 rfl) (Meets.here hX Meets.nil) ?_
            refine R_now 16 fun K hK => ?_
            go_simp
            refine (within_val hC _).mono ?_
            rintro e w16 ⟨rfl, hb16⟩
            replace hX := (hb16.block _ (Array.getElem?_eq_some_iff.1 hX).1).trans hX
            replace hB := below_call hB hB.size hb16
            clear hb16
            refine hK.out _ _ (Meets.here hX Meets.nil) (fun hMeets => ?_)
            clear hK K hMeets
            refine lay_R ?_
            refine R_p (i := 17) (v := .bool true) (Meets.here hX Meets.nil) ?_
            refine R_p (i := 18) (v := .bool true) (Meets.here hX Meets.nil) ?_
            refine R_p (i := 19) (v := .pointer (some ⟨X, 2, none⟩)) (Meets.here hX Meets.nil) ?_
            refine R_l (i := 20) (v := .int .i64 m) 99 _ List.mem_cons_self rfl (yieldsIf_load_cell rfl rfl rfl (fun w' hS => rc hS 2 rfl) Tryd.underlying3 rfl) (Meets.here hX Meets.nil) ?_
            refine R_p (i := 21) (v := .int .i64 6) (Meets.here hX Meets.nil) ?_
            refine R_now 22 fun K hK => ?_
            go_simp
            refine (within_val hD _).mono ?_
            rintro e w22 ⟨rfl, hb22⟩
            replace hX := (hb22.block _ (Array.getElem?_eq_some_iff.1 hX).1).trans hX
            replace hB := below_call hB hB.size hb22
            clear hb22
            refine hK.out _ _ (Meets.here hX Meets.nil) (fun hMeets => ?_)
            clear hK K hMeets
            refine lay_R ?_
            refine R_p (i := 23) (v := .bool true) (Meets.here hX Meets.nil) ?_
            refine R_p (i := 24) (v := .bool true) (Meets.here hX Meets.nil) ?_
            refine R_p (i := 25) (v := .pointer (some ⟨X, 3, none⟩)) (Meets.here hX Meets.nil) ?_
            refine R_l (i := 26) (v := .int .i64 t) 99 _ List.mem_cons_self rfl (yieldsIf_load_cell rfl rfl rfl (fun w' hS => rc hS 3 rfl) Tryd.underlying3 rfl) (Meets.here hX Meets.nil) ?_
            refine R_now 27 fun K hK => ?_
            go_simp
            refine (within_val hE _).mono ?_
            rintro e w27 ⟨rfl, hb27⟩
            replace hX := (hb27.block _ (Array.getElem?_eq_some_iff.1 hX).1).trans hX
            replace hB := below_call hB hB.size hb27
            clear hb27
            refine hK.out _ _ (Meets.here hX Meets.nil) (fun hMeets => ?_)
            clear hK K hMeets
            refine lay_R ?_
            refine R_p (i := 28) (v := .bool true) (Meets.here hX Meets.nil) ?_
            refine R_p (i := 29) (v := .bool true) (Meets.here hX Meets.nil) ?_
            refine R_p (i := 30) (v := .pointer (some ⟨X, 7, none⟩)) (Meets.here hX Meets.nil) ?_
            refine R_l (i := 31) (v := .string (bs b)) 99 _ List.mem_cons_self rfl (yieldsIf_load_cell rfl rfl rfl (fun w' hS => rc hS 7 rfl) Tryd.underlying9 rfl) (Meets.here hX Meets.nil) ?_
            refine R_p (i := 32) (v := .int .i64 (b.length : Int)) (Meets.here hX Meets.nil) ?_
            refine R_p (i := 33) (v := .bool ff) (Meets.here hX Meets.nil) ?_
            refine R_p (i := 34) (v := .bool ff) (Meets.here hX Meets.nil) ?_
            refine R_p (i := 35) (v := .bool ff) (Meets.here hX Meets.nil) ?_
            refine R_done (by kernel_rfl) ?_ _
            go_wp2_with fail
            go_ret
            exact ⟨by simp, hB⟩

set_option maxRecDepth 100000 in
set_option maxHeartbeats 8000000 in
theorem right_other (k a m t n c : Int) (ad : Bool) (b : Bytes) (hb63 : b.length ≤ 9223372036854775807) (h7 : (k == 7) = false) (kk : Int) (hkk : IntKind.i64.wrap (k - 1) = kk) (va vb vc vd ve ff : Bool) (hA : decide (0 ≤ kk ∧ kk ≤ 8) = va) (hE0 : decide ((⟨k, a, m, t, n, c, ad, b⟩ : Dd) = plainD ⟨k, a, m, t, n, c, ad, b⟩) = vb)
    (hC : decide (0 ≤ a ∧ a ≤ 100000) = vc) (hD : decide (0 ≤ m ∧ m ≤ 100000) = vd) (hE : decide (0 ≤ t ∧ t ≤ 6) = ve) (hF : decide ((b.length : Int) ≤ 1000) = ff) (w : World) :
    Calls Tryd.prog 23 #[.agg #[.int .i64 k, .int .i64 a, .int .i64 m, .int .i64 t, .int .u64 n, .int .u64 c, .bool ad, .string (bs b)]] w fun e w' => e = .returned (.bool (va && (vb && (vc && (vd && (ve && ff)))))) ∧ Below w.heap.size w w' := by
  have hEQ := eqlDd ⟨k, a, m, t, n, c, ad, b⟩ (plainD ⟨k, a, m, t, n, c, ad, b⟩)
  have hP := plain_any ⟨k, a, m, t, n, c, ad, b⟩
  have hGG := fun w x y => run_eqGuard_agg (P := Tryd.prog) w .eql 46 x y (ddC ⟨k, a, m, t, n, c, ad, b⟩).toArray (ddC (plainD ⟨k, a, m, t, n, c, ad, b⟩)).toArray guardDd
  rw [hE0] at hEQ
  simp only [ddC_arr ⟨k, a, m, t, n, c, ad, b⟩] at hEQ hP hGG
  obtain ⟨PV, hPV⟩ : ∃ PV, Value.agg (ddC (plainD ⟨k, a, m, t, n, c, ad, b⟩)).toArray = PV := ⟨_, rfl⟩
  simp only [hPV] at hEQ hP hGG
  have hw8 : IntKind.i64.wrap 8 = 8 := by decide
  have HP := Lib.hid hP
  have HEQ := Lib.hid hEQ
  have HG := Lib.hid hGG
  have hbI : (b.length : Int) ≤ 9223372036854775807 := by omega
  obtain ⟨X, hXe⟩ : ∃ X, w.heap.size = X := ⟨_, rfl⟩
  have hX0 := heap_alloc_new w (.cells #[.int .i64 k, .int .i64 a, .int .i64 m, .int .i64 t, .int .u64 n, .int .u64 c, .bool ad, .string (bs b)] 46)
  rw [hXe] at hX0
  have HX0 := Lib.hid hX0
  have hB0 : Below w.heap.size w (w.alloc (.cells #[.int .i64 k, .int .i64 a, .int .i64 m, .int .i64 t, .int .u64 n, .int .u64 c, .bool ad, .string (bs b)] 46)) := (Below.refl _ _).alloc (Nat.le_refl _) _
  have HB0 := Lib.hid hB0
  clear hEQ hP hGG hPV hE0 hX0 hB0
  go_enter Tryd.func23, Tryd.ntmps23
  go_wp2_with fail
  try rw [hXe]
  have hX : (w.alloc (.cells #[.int .i64 k, .int .i64 a, .int .i64 m, .int .i64 t, .int .u64 n, .int .u64 c, .bool ad, .string (bs b)] 46)).drew.heap[X]? = some (.cells #[.int .i64 k, .int .i64 a, .int .i64 m, .int .i64 t, .int .u64 n, .int .u64 c, .bool ad, .string (bs b)] 46 (0, 0)) := HX0.out
  have hB : Below w.heap.size w (w.alloc (.cells #[.int .i64 k, .int .i64 a, .int .i64 m, .int .i64 t, .int .u64 n, .int .u64 c, .bool ad, .string (bs b)] 46)).drew := HB0.out.drew
  clear HX0 HB0
  cases va with
  | false =>
    refine wp_region_R [(99, fun w' => w'.heap[X]? = some (.cells #[.int .i64 k, .int .i64 a, .int .i64 m, .int .i64 t, .int .u64 n, .int .u64 c, .bool ad, .string (bs b)] 46 (0, 0)))] (by kernel_rfl) ?_
    generalize (w.alloc (.cells #[.int .i64 k, .int .i64 a, .int .i64 m, .int .i64 t, .int .u64 n, .int .u64 c, .bool ad, .string (bs b)] 46)).drew = W at hX hB ⊢
    refine R_p (i := 0) (v := .pointer (some ⟨X, 0, none⟩)) (Meets.here hX Meets.nil) ?_
    refine R_l (i := 1) (v := .int .i64 k) 99 _ List.mem_cons_self rfl (yieldsIf_load_cell rfl rfl rfl (fun w' hS => rc hS 0 rfl) Tryd.underlying3 rfl) (Meets.here hX Meets.nil) ?_
    refine R_p (i := 2) (v := .int .i64 kk) (Meets.here hX Meets.nil) ?_
    refine R_now 3 fun K hK => ?_
    go_simp
    refine (words_any _).mono ?_
    rintro e w3 ⟨rfl, hb3⟩
    replace hX := (hb3.block _ (Array.getElem?_eq_some_iff.1 hX).1).trans hX
    replace hB := below_call hB hB.size hb3
    clear hb3
    refine hK.out _ _ (Meets.here hX Meets.nil) (fun hMeets => ?_)
    clear hK K hMeets
    refine lay_R ?_
    refine R_p (i := 4) (v := .int .i64 9) (Meets.here hX Meets.nil) ?_
    refine R_p (i := 5) (v := .int .i64 8) (Meets.here hX Meets.nil) ?_
    refine R_now 6 fun K hK => ?_
    go_simp
    refine (within_val hA _).mono ?_
    rintro e w6 ⟨rfl, hb6⟩
    replace hX := (hb6.block _ (Array.getElem?_eq_some_iff.1 hX).1).trans hX
    replace hB := below_call hB hB.size hb6
    clear hb6
    refine hK.out _ _ (Meets.here hX Meets.nil) (fun hMeets => ?_)
    clear hK K hMeets
    refine lay_R ?_
    refine R_p (i := 7) (v := .bool false) (Meets.here hX Meets.nil) ?_
    refine R_s (i := 8) (Meets.here hX Meets.nil) ?_
    refine R_s (i := 9) (Meets.here hX Meets.nil) ?_
    refine R_s (i := 10) (Meets.here hX Meets.nil) ?_
    refine R_s (i := 11) (Meets.here hX Meets.nil) ?_
    refine R_p (i := 12) (v := .bool false) (Meets.here hX Meets.nil) ?_
    refine R_p (i := 13) (v := .bool false) (Meets.here hX Meets.nil) ?_
    refine R_s (i := 14) (Meets.here hX Meets.nil) ?_
    refine R_s (i := 15) (Meets.here hX Meets.nil) ?_
    refine R_s (i := 16) (Meets.here hX Meets.nil) ?_
    refine R_p (i := 17) (v := .bool false) (Meets.here hX Meets.nil) ?_
    refine R_p (i := 18) (v := .bool false) (Meets.here hX Meets.nil) ?_
    refine R_s (i := 19) (Meets.here hX Meets.nil) ?_
    refine R_s (i := 20) (Meets.here hX Meets.nil) ?_
    refine R_s (i := 21) (Meets.here hX Meets.nil) ?_
    refine R_s (i := 22) (Meets.here hX Meets.nil) ?_
    refine R_p (i := 23) (v := .bool false) (Meets.here hX Meets.nil) ?_
    refine R_p (i := 24) (v := .bool false) (Meets.here hX Meets.nil) ?_
    refine R_s (i := 25) (Meets.here hX Meets.nil) ?_
    refine R_s (i := 26) (Meets.here hX Meets.nil) ?_
    refine R_s (i := 27) (Meets.here hX Meets.nil) ?_
    refine R_p (i := 28) (v := .bool false) (Meets.here hX Meets.nil) ?_
    refine R_p (i := 29) (v := .bool false) (Meets.here hX Meets.nil) ?_
    refine R_s (i := 30) (Meets.here hX Meets.nil) ?_
    refine R_s (i := 31) (Meets.here hX Meets.nil) ?_
    refine R_s (i := 32) (Meets.here hX Meets.nil) ?_
    refine R_s (i := 33) (Meets.here hX Meets.nil) ?_
    refine R_p (i := 34) (v := .bool false) (Meets.here hX Meets.nil) ?_
    refine R_p (i := 35) (v := .bool false) (Meets.here hX Meets.nil) ?_
    refine R_done (by kernel_rfl) ?_ _
    go_wp2_with fail
    go_ret
    exact ⟨rfl, hB⟩
  | true =>
    cases vb with
    | false =>
      refine wp_region_R [(99, fun w' => w'.heap[X]? = some (.cells #[.int .i64 k, .int .i64 a, .int .i64 m, .int .i64 t, .int .u64 n, .int .u64 c, .bool ad, .string (bs b)] 46 (0, 0)))] (by kernel_rfl) ?_
      generalize (w.alloc (.cells #[.int .i64 k, .int .i64 a, .int .i64 m, .int .i64 t, .int .u64 n, .int .u64 c, .bool ad, .string (bs b)] 46)).drew = W at hX hB ⊢
      refine R_p (i := 0) (v := .pointer (some ⟨X, 0, none⟩)) (Meets.here hX Meets.nil) ?_
      refine R_l (i := 1) (v := .int .i64 k) 99 _ List.mem_cons_self rfl (yieldsIf_load_cell rfl rfl rfl (fun w' hS => rc hS 0 rfl) Tryd.underlying3 rfl) (Meets.here hX Meets.nil) ?_
      refine R_p (i := 2) (v := .int .i64 kk) (Meets.here hX Meets.nil) ?_
      refine R_now 3 fun K hK => ?_
      go_simp
      refine (words_any _).mono ?_
      rintro e w3 ⟨rfl, hb3⟩
      replace hX := (hb3.block _ (Array.getElem?_eq_some_iff.1 hX).1).trans hX
      replace hB := below_call hB hB.size hb3
      clear hb3
      refine hK.out _ _ (Meets.here hX Meets.nil) (fun hMeets => ?_)
      clear hK K hMeets
      refine lay_R ?_
      refine R_p (i := 4) (v := .int .i64 9) (Meets.here hX Meets.nil) ?_
      refine R_p (i := 5) (v := .int .i64 8) (Meets.here hX Meets.nil) ?_
      refine R_now 6 fun K hK => ?_
      go_simp
      refine (within_val hA _).mono ?_
      rintro e w6 ⟨rfl, hb6⟩
      replace hX := (hb6.block _ (Array.getElem?_eq_some_iff.1 hX).1).trans hX
      replace hB := below_call hB hB.size hb6
      clear hb6
      refine hK.out _ _ (Meets.here hX Meets.nil) (fun hMeets => ?_)
      clear hK K hMeets
      refine lay_R ?_
      refine R_p (i := 7) (v := .bool true) (Meets.here hX Meets.nil) ?_
      refine R_l (i := 8) (v := .agg #[.int .i64 k, .int .i64 a, .int .i64 m, .int .i64 t, .int .u64 n, .int .u64 c, .bool ad, .string (bs b)]) 99 _ List.mem_cons_self rfl (yieldsIf_load_row rfl rfl rfl (fun w' hS => hS) Tryd.underlying46 rfl infoDd) (Meets.here hX Meets.nil) ?_
      refine R_l (i := 9) (v := .agg #[.int .i64 k, .int .i64 a, .int .i64 m, .int .i64 t, .int .u64 n, .int .u64 c, .bool ad, .string (bs b)]) 99 _ List.mem_cons_self rfl (yieldsIf_load_row rfl rfl rfl (fun w' hS => hS) Tryd.underlying46 rfl infoDd) (Meets.here hX Meets.nil) ?_
      refine R_now 10 fun K hK => ?_
      go_simp
      refine (HP.out _).mono ?_
      rintro e w10 ⟨rfl, hb10⟩
      replace hX := (hb10.block _ (Array.getElem?_eq_some_iff.1 hX).1).trans hX
      replace hB := below_call hB hB.size hb10
      clear hb10
      refine hK.out _ _ (Meets.here hX Meets.nil) (fun hMeets => ?_)
      clear hK K hMeets
      refine lay_R ?_
      refine R_p (i := 11) (v := .bool false) (Meets.here hX Meets.nil) ?_ (hy := by intro w'; have h1 := HEQ.out w'; have h2 := HG.out w'; generalize Value.agg #[.int .i64 k, .int .i64 a, .int .i64 m, .int .i64 t, .int .u64 n, .int .u64 c, .bool ad, .string (bs b)] = V1 at h1 h2 ⊢; go_simp)
      refine R_p (i := 12) (v := .bool false) (Meets.here hX Meets.nil) ?_
      refine R_p (i := 13) (v := .bool false) (Meets.here hX Meets.nil) ?_
      refine R_s (i := 14) (Meets.here hX Meets.nil) ?_
      refine R_s (i := 15) (Meets.here hX Meets.nil) ?_
      refine R_s (i := 16) (Meets.here hX Meets.nil) ?_
      refine R_p (i := 17) (v := .bool false) (Meets.here hX Meets.nil) ?_
      refine R_p (i := 18) (v := .bool false) (Meets.here hX Meets.nil) ?_
      refine R_s (i := 19) (Meets.here hX Meets.nil) ?_
      refine R_s (i := 20) (Meets.here hX Meets.nil) ?_
      refine R_s (i := 21) (Meets.here hX Meets.nil) ?_
      refine R_s (i := 22) (Meets.here hX Meets.nil) ?_
      refine R_p (i := 23) (v := .bool false) (Meets.here hX Meets.nil) ?_
      refine R_p (i := 24) (v := .bool false) (Meets.here hX Meets.nil) ?_
      refine R_s (i := 25) (Meets.here hX Meets.nil) ?_
      refine R_s (i := 26) (Meets.here hX Meets.nil) ?_
      refine R_s (i := 27) (Meets.here hX Meets.nil) ?_
      refine R_p (i := 28) (v := .bool false) (Meets.here hX Meets.nil) ?_
      refine R_p (i := 29) (v := .bool false) (Meets.here hX Meets.nil) ?_
      refine R_s (i := 30) (Meets.here hX Meets.nil) ?_
      refine R_s (i := 31) (Meets.here hX Meets.nil) ?_
      refine R_s (i := 32) (Meets.here hX Meets.nil) ?_
      refine R_s (i := 33) (Meets.here hX Meets.nil) ?_
      refine R_p (i := 34) (v := .bool false) (Meets.here hX Meets.nil) ?_
      refine R_p (i := 35) (v := .bool false) (Meets.here hX Meets.nil) ?_
      refine R_done (by kernel_rfl) ?_ _
      go_wp2_with fail
      go_ret
      exact ⟨rfl, hB⟩
    | true =>
      cases vc with
      | false =>
        refine wp_region_R [(99, fun w' => w'.heap[X]? = some (.cells #[.int .i64 k, .int .i64 a, .int .i64 m, .int .i64 t, .int .u64 n, .int .u64 c, .bool ad, .string (bs b)] 46 (0, 0)))] (by kernel_rfl) ?_
        generalize (w.alloc (.cells #[.int .i64 k, .int .i64 a, .int .i64 m, .int .i64 t, .int .u64 n, .int .u64 c, .bool ad, .string (bs b)] 46)).drew = W at hX hB ⊢
        refine R_p (i := 0) (v := .pointer (some ⟨X, 0, none⟩)) (Meets.here hX Meets.nil) ?_
        refine R_l (i := 1) (v := .int .i64 k) 99 _ List.mem_cons_self rfl (yieldsIf_load_cell rfl rfl rfl (fun w' hS => rc hS 0 rfl) Tryd.underlying3 rfl) (Meets.here hX Meets.nil) ?_
        refine R_p (i := 2) (v := .int .i64 kk) (Meets.here hX Meets.nil) ?_
        refine R_now 3 fun K hK => ?_
        go_simp
        refine (words_any _).mono ?_
        rintro e w3 ⟨rfl, hb3⟩
        replace hX := (hb3.block _ (Array.getElem?_eq_some_iff.1 hX).1).trans hX
        replace hB := below_call hB hB.size hb3
        clear hb3
        refine hK.out _ _ (Meets.here hX Meets.nil) (fun hMeets => ?_)
        clear hK K hMeets
        refine lay_R ?_
        refine R_p (i := 4) (v := .int .i64 9) (Meets.here hX Meets.nil) ?_
        refine R_p (i := 5) (v := .int .i64 8) (Meets.here hX Meets.nil) ?_
        refine R_now 6 fun K hK => ?_
        go_simp
        refine (within_val hA _).mono ?_
        rintro e w6 ⟨rfl, hb6⟩
        replace hX := (hb6.block _ (Array.getElem?_eq_some_iff.1 hX).1).trans hX
        replace hB := below_call hB hB.size hb6
        clear hb6
        refine hK.out _ _ (Meets.here hX Meets.nil) (fun hMeets => ?_)
        clear hK K hMeets
        refine lay_R ?_
        refine R_p (i := 7) (v := .bool true) (Meets.here hX Meets.nil) ?_
        refine R_l (i := 8) (v := .agg #[.int .i64 k, .int .i64 a, .int .i64 m, .int .i64 t, .int .u64 n, .int .u64 c, .bool ad, .string (bs b)]) 99 _ List.mem_cons_self rfl (yieldsIf_load_row rfl rfl rfl (fun w' hS => hS) Tryd.underlying46 rfl infoDd) (Meets.here hX Meets.nil) ?_
        refine R_l (i := 9) (v := .agg #[.int .i64 k, .int .i64 a, .int .i64 m, .int .i64 t, .int .u64 n, .int .u64 c, .bool ad, .string (bs b)]) 99 _ List.mem_cons_self rfl (yieldsIf_load_row rfl rfl rfl (fun w' hS => hS) Tryd.underlying46 rfl infoDd) (Meets.here hX Meets.nil) ?_
        refine R_now 10 fun K hK => ?_
        go_simp
        refine (HP.out _).mono ?_
        rintro e w10 ⟨rfl, hb10⟩
        replace hX := (hb10.block _ (Array.getElem?_eq_some_iff.1 hX).1).trans hX
        replace hB := below_call hB hB.size hb10
        clear hb10
        refine hK.out _ _ (Meets.here hX Meets.nil) (fun hMeets => ?_)
        clear hK K hMeets
        refine lay_R ?_
        refine R_p (i := 11) (v := .bool true) (Meets.here hX Meets.nil) ?_ (hy := by intro w'; have h1 := HEQ.out w'; have h2 := HG.out w'; generalize Value.agg #[.int .i64 k, .int .i64 a, .int .i64 m, .int .i64 t, .int .u64 n, .int .u64 c, .bool ad, .string (bs b)] = V1 at h1 h2 ⊢; go_simp)
        refine R_p (i := 12) (v := .bool true) (Meets.here hX Meets.nil) ?_
        refine R_p (i := 13) (v := .bool true) (Meets.here hX Meets.nil) ?_
        refine R_p (i := 14) (v := .pointer (some ⟨X, 1, none⟩)) (Meets.here hX Meets.nil) ?_
        refine R_l (i := 15) (v := .int .i64 a) 99 _ List.mem_cons_self rfl (yieldsIf_load_cell rfl rfl rfl (fun w' hS => rc hS 1 rfl) Tryd.underlying3 rfl) (Meets.here hX Meets.nil) ?_
        refine R_now 16 fun K hK => ?_
        go_simp
        refine (within_val hC _).mono ?_
        rintro e w16 ⟨rfl, hb16⟩
        replace hX := (hb16.block _ (Array.getElem?_eq_some_iff.1 hX).1).trans hX
        replace hB := below_call hB hB.size hb16
        clear hb16
        refine hK.out _ _ (Meets.here hX Meets.nil) (fun hMeets => ?_)
        clear hK K hMeets
        refine lay_R ?_
        refine R_p (i := 17) (v := .bool false) (Meets.here hX Meets.nil) ?_
        refine R_p (i := 18) (v := .bool false) (Meets.here hX Meets.nil) ?_
        refine R_s (i := 19) (Meets.here hX Meets.nil) ?_
        refine R_s (i := 20) (Meets.here hX Meets.nil) ?_
        refine R_s (i := 21) (Meets.here hX Meets.nil) ?_
        refine R_s (i := 22) (Meets.here hX Meets.nil) ?_
        refine R_p (i := 23) (v := .bool false) (Meets.here hX Meets.nil) ?_
        refine R_p (i := 24) (v := .bool false) (Meets.here hX Meets.nil) ?_
        refine R_s (i := 25) (Meets.here hX Meets.nil) ?_
        refine R_s (i := 26) (Meets.here hX Meets.nil) ?_
        refine R_s (i := 27) (Meets.here hX Meets.nil) ?_
        refine R_p (i := 28) (v := .bool false) (Meets.here hX Meets.nil) ?_
        refine R_p (i := 29) (v := .bool false) (Meets.here hX Meets.nil) ?_
        refine R_s (i := 30) (Meets.here hX Meets.nil) ?_
        refine R_s (i := 31) (Meets.here hX Meets.nil) ?_
        refine R_s (i := 32) (Meets.here hX Meets.nil) ?_
        refine R_s (i := 33) (Meets.here hX Meets.nil) ?_
        refine R_p (i := 34) (v := .bool false) (Meets.here hX Meets.nil) ?_
        refine R_p (i := 35) (v := .bool false) (Meets.here hX Meets.nil) ?_
        refine R_done (by kernel_rfl) ?_ _
        go_wp2_with fail
        go_ret
        exact ⟨rfl, hB⟩
      | true =>
        cases vd with
        | false =>
          refine wp_region_R [(99, fun w' => w'.heap[X]? = some (.cells #[.int .i64 k, .int .i64 a, .int .i64 m, .int .i64 t, .int .u64 n, .int .u64 c, .bool ad, .string (bs b)] 46 (0, 0)))] (by kernel_rfl) ?_
          generalize (w.alloc (.cells #[.int .i64 k, .int .i64 a, .int .i64 m, .int .i64 t, .int .u64 n, .int .u64 c, .bool ad, .string (bs b)] 46)).drew = W at hX hB ⊢
          refine R_p (i := 0) (v := .pointer (some ⟨X, 0, none⟩)) (Meets.here hX Meets.nil) ?_
          refine R_l (i := 1) (v := .int .i64 k) 99 _ List.mem_cons_self rfl (yieldsIf_load_cell rfl rfl rfl (fun w' hS => rc hS 0 rfl) Tryd.underlying3 rfl) (Meets.here hX Meets.nil) ?_
          refine R_p (i := 2) (v := .int .i64 kk) (Meets.here hX Meets.nil) ?_
          refine R_now 3 fun K hK => ?_
          go_simp
          refine (words_any _).mono ?_
          rintro e w3 ⟨rfl, hb3⟩
          replace hX := (hb3.block _ (Array.getElem?_eq_some_iff.1 hX).1).trans hX
          replace hB := below_call hB hB.size hb3
          clear hb3
          refine hK.out _ _ (Meets.here hX Meets.nil) (fun hMeets => ?_)
          clear hK K hMeets
          refine lay_R ?_
          refine R_p (i := 4) (v := .int .i64 9) (Meets.here hX Meets.nil) ?_
          refine R_p (i := 5) (v := .int .i64 8) (Meets.here hX Meets.nil) ?_
          refine R_now 6 fun K hK => ?_
          go_simp
          refine (within_val hA _).mono ?_
          rintro e w6 ⟨rfl, hb6⟩
          replace hX := (hb6.block _ (Array.getElem?_eq_some_iff.1 hX).1).trans hX
          replace hB := below_call hB hB.size hb6
          clear hb6
          refine hK.out _ _ (Meets.here hX Meets.nil) (fun hMeets => ?_)
          clear hK K hMeets
          refine lay_R ?_
          refine R_p (i := 7) (v := .bool true) (Meets.here hX Meets.nil) ?_
          refine R_l (i := 8) (v := .agg #[.int .i64 k, .int .i64 a, .int .i64 m, .int .i64 t, .int .u64 n, .int .u64 c, .bool ad, .string (bs b)]) 99 _ List.mem_cons_self rfl (yieldsIf_load_row rfl rfl rfl (fun w' hS => hS) Tryd.underlying46 rfl infoDd) (Meets.here hX Meets.nil) ?_
          refine R_l (i := 9) (v := .agg #[.int .i64 k, .int .i64 a, .int .i64 m, .int .i64 t, .int .u64 n, .int .u64 c, .bool ad, .string (bs b)]) 99 _ List.mem_cons_self rfl (yieldsIf_load_row rfl rfl rfl (fun w' hS => hS) Tryd.underlying46 rfl infoDd) (Meets.here hX Meets.nil) ?_
          refine R_now 10 fun K hK => ?_
          go_simp
          refine (HP.out _).mono ?_
          rintro e w10 ⟨rfl, hb10⟩
          replace hX := (hb10.block _ (Array.getElem?_eq_some_iff.1 hX).1).trans hX
          replace hB := below_call hB hB.size hb10
          clear hb10
          refine hK.out _ _ (Meets.here hX Meets.nil) (fun hMeets => ?_)
          clear hK K hMeets
          refine lay_R ?_
          refine R_p (i := 11) (v := .bool true) (Meets.here hX Meets.nil) ?_ (hy := by intro w'; have h1 := HEQ.out w'; have h2 := HG.out w'; generalize Value.agg #[.int .i64 k, .int .i64 a, .int .i64 m, .int .i64 t, .int .u64 n, .int .u64 c, .bool ad, .string (bs b)] = V1 at h1 h2 ⊢; go_simp)
          refine R_p (i := 12) (v := .bool true) (Meets.here hX Meets.nil) ?_
          refine R_p (i := 13) (v := .bool true) (Meets.here hX Meets.nil) ?_
          refine R_p (i := 14) (v := .pointer (some ⟨X, 1, none⟩)) (Meets.here hX Meets.nil) ?_
          refine R_l (i := 15) (v := .int .i64 a) 99 _ List.mem_cons_self rfl (yieldsIf_load_cell rfl rfl rfl (fun w' hS => rc hS 1 rfl) Tryd.underlying3 rfl) (Meets.here hX Meets.nil) ?_
          refine R_now 16 fun K hK => ?_
          go_simp
          refine (within_val hC _).mono ?_
          rintro e w16 ⟨rfl, hb16⟩
          replace hX := (hb16.block _ (Array.getElem?_eq_some_iff.1 hX).1).trans hX
          replace hB := below_call hB hB.size hb16
          clear hb16
          refine hK.out _ _ (Meets.here hX Meets.nil) (fun hMeets => ?_)
          clear hK K hMeets
          refine lay_R ?_
          refine R_p (i := 17) (v := .bool true) (Meets.here hX Meets.nil) ?_
          refine R_p (i := 18) (v := .bool true) (Meets.here hX Meets.nil) ?_
          refine R_p (i := 19) (v := .pointer (some ⟨X, 2, none⟩)) (Meets.here hX Meets.nil) ?_
          refine R_l (i := 20) (v := .int .i64 m) 99 _ List.mem_cons_self rfl (yieldsIf_load_cell rfl rfl rfl (fun w' hS => rc hS 2 rfl) Tryd.underlying3 rfl) (Meets.here hX Meets.nil) ?_
          refine R_p (i := 21) (v := .int .i64 100000) (Meets.here hX Meets.nil) ?_
          refine R_now 22 fun K hK => ?_
          go_simp
          refine (within_val hD _).mono ?_
          rintro e w22 ⟨rfl, hb22⟩
          replace hX := (hb22.block _ (Array.getElem?_eq_some_iff.1 hX).1).trans hX
          replace hB := below_call hB hB.size hb22
          clear hb22
          refine hK.out _ _ (Meets.here hX Meets.nil) (fun hMeets => ?_)
          clear hK K hMeets
          refine lay_R ?_
          refine R_p (i := 23) (v := .bool false) (Meets.here hX Meets.nil) ?_
          refine R_p (i := 24) (v := .bool false) (Meets.here hX Meets.nil) ?_
          refine R_s (i := 25) (Meets.here hX Meets.nil) ?_
          refine R_s (i := 26) (Meets.here hX Meets.nil) ?_
          refine R_s (i := 27) (Meets.here hX Meets.nil) ?_
          refine R_p (i := 28) (v := .bool false) (Meets.here hX Meets.nil) ?_
          refine R_p (i := 29) (v := .bool false) (Meets.here hX Meets.nil) ?_
          refine R_s (i := 30) (Meets.here hX Meets.nil) ?_
          refine R_s (i := 31) (Meets.here hX Meets.nil) ?_
          refine R_s (i := 32) (Meets.here hX Meets.nil) ?_
          refine R_s (i := 33) (Meets.here hX Meets.nil) ?_
          refine R_p (i := 34) (v := .bool false) (Meets.here hX Meets.nil) ?_
          refine R_p (i := 35) (v := .bool false) (Meets.here hX Meets.nil) ?_
          refine R_done (by kernel_rfl) ?_ _
          go_wp2_with fail
          go_ret
          exact ⟨rfl, hB⟩
        | true =>
          cases ve with
          | false =>
            refine wp_region_R [(99, fun w' => w'.heap[X]? = some (.cells #[.int .i64 k, .int .i64 a, .int .i64 m, .int .i64 t, .int .u64 n, .int .u64 c, .bool ad, .string (bs b)] 46 (0, 0)))] (by kernel_rfl) ?_
            generalize (w.alloc (.cells #[.int .i64 k, .int .i64 a, .int .i64 m, .int .i64 t, .int .u64 n, .int .u64 c, .bool ad, .string (bs b)] 46)).drew = W at hX hB ⊢
            refine R_p (i := 0) (v := .pointer (some ⟨X, 0, none⟩)) (Meets.here hX Meets.nil) ?_
            refine R_l (i := 1) (v := .int .i64 k) 99 _ List.mem_cons_self rfl (yieldsIf_load_cell rfl rfl rfl (fun w' hS => rc hS 0 rfl) Tryd.underlying3 rfl) (Meets.here hX Meets.nil) ?_
            refine R_p (i := 2) (v := .int .i64 kk) (Meets.here hX Meets.nil) ?_
            refine R_now 3 fun K hK => ?_
            go_simp
            refine (words_any _).mono ?_
            rintro e w3 ⟨rfl, hb3⟩
            replace hX := (hb3.block _ (Array.getElem?_eq_some_iff.1 hX).1).trans hX
            replace hB := below_call hB hB.size hb3
            clear hb3
            refine hK.out _ _ (Meets.here hX Meets.nil) (fun hMeets => ?_)
            clear hK K hMeets
            refine lay_R ?_
            refine R_p (i := 4) (v := .int .i64 9) (Meets.here hX Meets.nil) ?_
            refine R_p (i := 5) (v := .int .i64 8) (Meets.here hX Meets.nil) ?_
            refine R_now 6 fun K hK => ?_
            go_simp
            refine (within_val hA _).mono ?_
            rintro e w6 ⟨rfl, hb6⟩
            replace hX := (hb6.block _ (Array.getElem?_eq_some_iff.1 hX).1).trans hX
            replace hB := below_call hB hB.size hb6
            clear hb6
            refine hK.out _ _ (Meets.here hX Meets.nil) (fun hMeets => ?_)
            clear hK K hMeets
            refine lay_R ?_
            refine R_p (i := 7) (v := .bool true) (Meets.here hX Meets.nil) ?_
            refine R_l (i := 8) (v := .agg #[.int .i64 k, .int .i64 a, .int .i64 m, .int .i64 t, .int .u64 n, .int .u64 c, .bool ad, .string (bs b)]) 99 _ List.mem_cons_self rfl (yieldsIf_load_row rfl rfl rfl (fun w' hS => hS) Tryd.underlying46 rfl infoDd) (Meets.here hX Meets.nil) ?_
            refine R_l (i := 9) (v := .agg #[.int .i64 k, .int .i64 a, .int .i64 m, .int .i64 t, .int .u64 n, .int .u64 c, .bool ad, .string (bs b)]) 99 _ List.mem_cons_self rfl (yieldsIf_load_row rfl rfl rfl (fun w' hS => hS) Tryd.underlying46 rfl infoDd) (Meets.here hX Meets.nil) ?_
            refine R_now 10 fun K hK => ?_
            go_simp
            refine (HP.out _).mono ?_
            rintro e w10 ⟨rfl, hb10⟩
            replace hX := (hb10.block _ (Array.getElem?_eq_some_iff.1 hX).1).trans hX
            replace hB := below_call hB hB.size hb10
            clear hb10
            refine hK.out _ _ (Meets.here hX Meets.nil) (fun hMeets => ?_)
            clear hK K hMeets
            refine lay_R ?_
            refine R_p (i := 11) (v := .bool true) (Meets.here hX Meets.nil) ?_ (hy := by intro w'; have h1 := HEQ.out w'; have h2 := HG.out w'; generalize Value.agg #[.int .i64 k, .int .i64 a, .int .i64 m, .int .i64 t, .int .u64 n, .int .u64 c, .bool ad, .string (bs b)] = V1 at h1 h2 ⊢; go_simp)
            refine R_p (i := 12) (v := .bool true) (Meets.here hX Meets.nil) ?_
            refine R_p (i := 13) (v := .bool true) (Meets.here hX Meets.nil) ?_
            refine R_p (i := 14) (v := .pointer (some ⟨X, 1, none⟩)) (Meets.here hX Meets.nil) ?_
            refine R_l (i := 15) (v := .int .i64 a) 99 _ List.mem_cons_self rfl (yieldsIf_load_cell rfl rfl rfl (fun w' hS => rc hS 1 rfl) Tryd.underlying3 rfl) (Meets.here hX Meets.nil) ?_
            refine R_now 16 fun K hK => ?_
            go_simp
            refine (within_val hC _).mono ?_
            rintro e w16 ⟨rfl, hb16⟩
            replace hX := (hb16.block _ (Array.getElem?_eq_some_iff.1 hX).1).trans hX
            replace hB := below_call hB hB.size hb16
            clear hb16
            refine hK.out _ _ (Meets.here hX Meets.nil) (fun hMeets => ?_)
            clear hK K hMeets
            refine lay_R ?_
            refine R_p (i := 17) (v := .bool true) (Meets.here hX Meets.nil) ?_
            refine R_p (i := 18) (v := .bool true) (Meets.here hX Meets.nil) ?_
            refine R_p (i := 19) (v := .pointer (some ⟨X, 2, none⟩)) (Meets.here hX Meets.nil) ?_
            refine R_l (i := 20) (v := .int .i64 m) 99 _ List.mem_cons_self rfl (yieldsIf_load_cell rfl rfl rfl (fun w' hS => rc hS 2 rfl) Tryd.underlying3 rfl) (Meets.here hX Meets.nil) ?_
            refine R_p (i := 21) (v := .int .i64 100000) (Meets.here hX Meets.nil) ?_
            refine R_now 22 fun K hK => ?_
            go_simp
            refine (within_val hD _).mono ?_
            rintro e w22 ⟨rfl, hb22⟩
            replace hX := (hb22.block _ (Array.getElem?_eq_some_iff.1 hX).1).trans hX
            replace hB := below_call hB hB.size hb22
            clear hb22
            refine hK.out _ _ (Meets.here hX Meets.nil) (fun hMeets => ?_)
            clear hK K hMeets
            refine lay_R ?_
            refine R_p (i := 23) (v := .bool true) (Meets.here hX Meets.nil) ?_
            refine R_p (i := 24) (v := .bool true) (Meets.here hX Meets.nil) ?_
            refine R_p (i := 25) (v := .pointer (some ⟨X, 3, none⟩)) (Meets.here hX Meets.nil) ?_
            refine R_l (i := 26) (v := .int .i64 t) 99 _ List.mem_cons_self rfl (yieldsIf_load_cell rfl rfl rfl (fun w' hS => rc hS 3 rfl) Tryd.underlying3 rfl) (Meets.here hX Meets.nil) ?_
            refine R_now 27 fun K hK => ?_
            go_simp
            refine (within_val hE _).mono ?_
            rintro e w27 ⟨rfl, hb27⟩
            replace hX := (hb27.block _ (Array.getElem?_eq_some_iff.1 hX).1).trans hX
            replace hB := below_call hB hB.size hb27
            clear hb27
            refine hK.out _ _ (Meets.here hX Meets.nil) (fun hMeets => ?_)
            clear hK K hMeets
            refine lay_R ?_
            refine R_p (i := 28) (v := .bool false) (Meets.here hX Meets.nil) ?_
            refine R_p (i := 29) (v := .bool false) (Meets.here hX Meets.nil) ?_
            refine R_s (i := 30) (Meets.here hX Meets.nil) ?_
            refine R_s (i := 31) (Meets.here hX Meets.nil) ?_
            refine R_s (i := 32) (Meets.here hX Meets.nil) ?_
            refine R_s (i := 33) (Meets.here hX Meets.nil) ?_
            refine R_p (i := 34) (v := .bool false) (Meets.here hX Meets.nil) ?_
            refine R_p (i := 35) (v := .bool false) (Meets.here hX Meets.nil) ?_
            refine R_done (by kernel_rfl) ?_ _
            go_wp2_with fail
            go_ret
            exact ⟨rfl, hB⟩
          | true =>
            refine wp_region_R [(99, fun w' => w'.heap[X]? = some (.cells #[.int .i64 k, .int .i64 a, .int .i64 m, .int .i64 t, .int .u64 n, .int .u64 c, .bool ad, .string (bs b)] 46 (0, 0)))] (by kernel_rfl) ?_
            generalize (w.alloc (.cells #[.int .i64 k, .int .i64 a, .int .i64 m, .int .i64 t, .int .u64 n, .int .u64 c, .bool ad, .string (bs b)] 46)).drew = W at hX hB ⊢
            refine R_p (i := 0) (v := .pointer (some ⟨X, 0, none⟩)) (Meets.here hX Meets.nil) ?_
            refine R_l (i := 1) (v := .int .i64 k) 99 _ List.mem_cons_self rfl (yieldsIf_load_cell rfl rfl rfl (fun w' hS => rc hS 0 rfl) Tryd.underlying3 rfl) (Meets.here hX Meets.nil) ?_
            refine R_p (i := 2) (v := .int .i64 kk) (Meets.here hX Meets.nil) ?_
            refine R_now 3 fun K hK => ?_
            go_simp
            refine (words_any _).mono ?_
            rintro e w3 ⟨rfl, hb3⟩
            replace hX := (hb3.block _ (Array.getElem?_eq_some_iff.1 hX).1).trans hX
            replace hB := below_call hB hB.size hb3
            clear hb3
            refine hK.out _ _ (Meets.here hX Meets.nil) (fun hMeets => ?_)
            clear hK K hMeets
            refine lay_R ?_
            refine R_p (i := 4) (v := .int .i64 9) (Meets.here hX Meets.nil) ?_
            refine R_p (i := 5) (v := .int .i64 8) (Meets.here hX Meets.nil) ?_
            refine R_now 6 fun K hK => ?_
            go_simp
            refine (within_val hA _).mono ?_
            rintro e w6 ⟨rfl, hb6⟩
            replace hX := (hb6.block _ (Array.getElem?_eq_some_iff.1 hX).1).trans hX
            replace hB := below_call hB hB.size hb6
            clear hb6
            refine hK.out _ _ (Meets.here hX Meets.nil) (fun hMeets => ?_)
            clear hK K hMeets
            refine lay_R ?_
            refine R_p (i := 7) (v := .bool true) (Meets.here hX Meets.nil) ?_
            refine R_l (i := 8) (v := .agg #[.int .i64 k, .int .i64 a, .int .i64 m, .int .i64 t, .int .u64 n, .int .u64 c, .bool ad, .string (bs b)]) 99 _ List.mem_cons_self rfl (yieldsIf_load_row rfl rfl rfl (fun w' hS => hS) Tryd.underlying46 rfl infoDd) (Meets.here hX Meets.nil) ?_
            refine R_l (i := 9) (v := .agg #[.int .i64 k, .int .i64 a, .int .i64 m, .int .i64 t, .int .u64 n, .int .u64 c, .bool ad, .string (bs b)]) 99 _ List.mem_cons_self rfl (yieldsIf_load_row rfl rfl rfl (fun w' hS => hS) Tryd.underlying46 rfl infoDd) (Meets.here hX Meets.nil) ?_
            refine R_now 10 fun K hK => ?_
            go_simp
            refine (HP.out _).mono ?_
            rintro e w10 ⟨rfl, hb10⟩
            replace hX := (hb10.block _ (Array.getElem?_eq_some_iff.1 hX).1).trans hX
            replace hB := below_call hB hB.size hb10
            clear hb10
            refine hK.out _ _ (Meets.here hX Meets.nil) (fun hMeets => ?_)
            clear hK K hMeets
            refine lay_R ?_
            refine R_p (i := 11) (v := .bool true) (Meets.here hX Meets.nil) ?_ (hy := by intro w'; have h1 := HEQ.out w'; have h2 := HG.out w'; generalize Value.agg #[.int .i64 k, .int .i64 a, .int .i64 m, .int .i64 t, .int .u64 n, .int .u64 c, .bool ad, .string (bs b)] = V1 at h1 h2 ⊢; go_simp)
            refine R_p (i := 12) (v := .bool true) (Meets.here hX Meets.nil) ?_
            refine R_p (i := 13) (v := .bool true) (Meets.here hX Meets.nil) ?_
            refine R_p (i := 14) (v := .pointer (some ⟨X, 1, none⟩)) (Meets.here hX Meets.nil) ?_
            refine R_l (i := 15) (v := .int .i64 a) 99 _ List.mem_cons_self rfl (yieldsIf_load_cell rfl rfl rfl (fun w' hS => rc hS 1 rfl) Tryd.underlying3 rfl) (Meets.here hX Meets.nil) ?_
            refine R_now 16 fun K hK => ?_
            go_simp
            refine (within_val hC _).mono ?_
            rintro e w16 ⟨rfl, hb16⟩
            replace hX := (hb16.block _ (Array.getElem?_eq_some_iff.1 hX).1).trans hX
            replace hB := below_call hB hB.size hb16
            clear hb16
            refine hK.out _ _ (Meets.here hX Meets.nil) (fun hMeets => ?_)
            clear hK K hMeets
            refine lay_R ?_
            refine R_p (i := 17) (v := .bool true) (Meets.here hX Meets.nil) ?_
            refine R_p (i := 18) (v := .bool true) (Meets.here hX Meets.nil) ?_
            refine R_p (i := 19) (v := .pointer (some ⟨X, 2, none⟩)) (Meets.here hX Meets.nil) ?_
            refine R_l (i := 20) (v := .int .i64 m) 99 _ List.mem_cons_self rfl (yieldsIf_load_cell rfl rfl rfl (fun w' hS => rc hS 2 rfl) Tryd.underlying3 rfl) (Meets.here hX Meets.nil) ?_
            refine R_p (i := 21) (v := .int .i64 100000) (Meets.here hX Meets.nil) ?_
            refine R_now 22 fun K hK => ?_
            go_simp
            refine (within_val hD _).mono ?_
            rintro e w22 ⟨rfl, hb22⟩
            replace hX := (hb22.block _ (Array.getElem?_eq_some_iff.1 hX).1).trans hX
            replace hB := below_call hB hB.size hb22
            clear hb22
            refine hK.out _ _ (Meets.here hX Meets.nil) (fun hMeets => ?_)
            clear hK K hMeets
            refine lay_R ?_
            refine R_p (i := 23) (v := .bool true) (Meets.here hX Meets.nil) ?_
            refine R_p (i := 24) (v := .bool true) (Meets.here hX Meets.nil) ?_
            refine R_p (i := 25) (v := .pointer (some ⟨X, 3, none⟩)) (Meets.here hX Meets.nil) ?_
            refine R_l (i := 26) (v := .int .i64 t) 99 _ List.mem_cons_self rfl (yieldsIf_load_cell rfl rfl rfl (fun w' hS => rc hS 3 rfl) Tryd.underlying3 rfl) (Meets.here hX Meets.nil) ?_
            refine R_now 27 fun K hK => ?_
            go_simp
            refine (within_val hE _).mono ?_
            rintro e w27 ⟨rfl, hb27⟩
            replace hX := (hb27.block _ (Array.getElem?_eq_some_iff.1 hX).1).trans hX
            replace hB := below_call hB hB.size hb27
            clear hb27
            refine hK.out _ _ (Meets.here hX Meets.nil) (fun hMeets => ?_)
            clear hK K hMeets
            refine lay_R ?_
            refine R_p (i := 28) (v := .bool true) (Meets.here hX Meets.nil) ?_
            refine R_p (i := 29) (v := .bool true) (Meets.here hX Meets.nil) ?_
            refine R_p (i := 30) (v := .pointer (some ⟨X, 7, none⟩)) (Meets.here hX Meets.nil) ?_
            refine R_l (i := 31) (v := .string (bs b)) 99 _ List.mem_cons_self rfl (yieldsIf_load_cell rfl rfl rfl (fun w' hS => rc hS 7 rfl) Tryd.underlying9 rfl) (Meets.here hX Meets.nil) ?_
            refine R_p (i := 32) (v := .int .i64 (b.length : Int)) (Meets.here hX Meets.nil) ?_
            refine R_p (i := 33) (v := .bool ff) (Meets.here hX Meets.nil) ?_
            refine R_p (i := 34) (v := .bool ff) (Meets.here hX Meets.nil) ?_
            refine R_p (i := 35) (v := .bool ff) (Meets.here hX Meets.nil) ?_
            refine R_done (by kernel_rfl) ?_ _
            go_wp2_with fail
            go_ret
            exact ⟨by simp, hB⟩

theorem right_any (d : Dd) (hw : WfD d) (hb : d.b.length ≤ 9223372036854775807) (w : World) : Calls Tryd.prog 23 #[.agg (ddC d).toArray] w fun e w' => e = .returned (.bool (okD d)) ∧ Below w.heap.size w w' := by
  rw [okD_prog]
  obtain ⟨k, a, m, t, n, c, ad, b⟩ := d
  have hp := wrap_pred hw.k
  have hF : decide ((b.length : Int) ≤ 1000) = decide (b.length ≤ 1000) := by rw [Bool.eq_iff_iff]; simp; omega
  by_cases h7 : k = 7
  · have := right_seven k a m t n c ad b hb (beq_iff_eq.2 h7) _ rfl _ _ _ _ _ _ rfl rfl rfl rfl rfl hF w
    rw [hp] at this
    simp only [moreD, h7, if_true, Bool.and_assoc]
    simp only [h7] at this
    exact this
  · have := right_other k a m t n c ad b hb (beq_eq_false_iff_ne.2 h7) _ rfl _ _ _ _ _ _ rfl rfl rfl rfl rfl hF w
    rw [hp] at this
    simp only [moreD, if_neg h7, Bool.and_assoc]
    exact this
end Go.Proofs.YtggiicbjegmehaaDoor
