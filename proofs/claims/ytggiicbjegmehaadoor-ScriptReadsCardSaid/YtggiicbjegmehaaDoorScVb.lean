/- The walks of the document's IsDeed and Right at layer 27. -/
import Derived.Test.YtggiicbjegmehaaDoorScV
namespace Go.Proofs.YtggiicbjegmehaaDoor
set_option linter.unusedVariables false
set_option linter.unusedSimpArgs false
open Go.RowKit

theorem okD_iff (k a m t n c : Int) (ad : Bool) (b : Bytes) : okD ⟨k, a, m, t, n, c, ad, b⟩ = true ↔ (1 ≤ k ∧ k ≤ 9 ∧ 0 ≤ a ∧ a ≤ 100000 ∧ 0 ≤ t ∧ t ≤ 6 ∧ 0 ≤ m ∧ m ≤ 100000 ∧ (b.length : Int) ≤ 1000) ∧ (k = 7 → m ≤ 6) ∧ (k ≠ 5 → k ≠ 7 → m = 0) ∧ (k ≠ 7 → k ≠ 8 → t = 0) ∧ (k ≠ 7 → n = 0 ∧ c = 0) ∧ (k ≠ 8 → ad = false) ∧ (k ≠ 9 → b = []) := by
  unfold okD
  rw [Bool.and_eq_true, decide_eq_true_eq, decide_eq_true_eq]
  simp only []
  constructor
  · rintro ⟨h1, h2⟩; exact ⟨by omega, h2⟩
  · rintro ⟨h1, h2⟩; exact ⟨by omega, h2⟩

set_option maxRecDepth 100000 in
set_option maxHeartbeats 16000000 in
theorem risdeed_any (d : Dd) (hb63 : d.b.length ≤ 9223372036854775807) (w : World) :
    Calls Tryd.prog 31 #[.agg (ddC d).toArray] w fun e w' => e = .returned (.bool (okD d)) ∧ Below w.heap.size w w' := by
  rw [ddC_arr]
  obtain ⟨k, a, m, t, n, c, ad, b⟩ := d
  simp only [] at hb63 ⊢
  have hbI : (b.length : Int) ≤ 9223372036854775807 := by omega
  have hok := okD_iff k a m t n c ad b
  have HB := Lib.hid ((Below.refl w.heap.size w).alloc (Nat.le_refl _) (.cells #[.int .i64 k, .int .i64 a, .int .i64 m, .int .i64 t, .int .u64 n, .int .u64 c, .bool ad, .string (bs b)] 46))
  by_cases q0 : k < 1
  · skip
    have HD : Hid (okD ⟨k, a, m, t, n, c, ad, b⟩ = false) := Lib.hid (by exact Bool.eq_false_iff.2 fun h => by have r := hok.1 h; first | omega | (have := r.2.2.2.2.2.1; simp_all) | (have := r.2.2.2.2.2.2; simp_all))
    rw [HD.out]
    clear HD hok
    go_enter Tryd.func31, Tryd.ntmps31
    go_wp2_with fail
    go_ret
    exact ⟨rfl, HB.out⟩
  by_cases q1 : 9 < k
  · skip
    have HD : Hid (okD ⟨k, a, m, t, n, c, ad, b⟩ = false) := Lib.hid (by exact Bool.eq_false_iff.2 fun h => by have r := hok.1 h; first | omega | (have := r.2.2.2.2.2.1; simp_all) | (have := r.2.2.2.2.2.2; simp_all))
    rw [HD.out]
    clear HD hok
    go_enter Tryd.func31, Tryd.ntmps31
    go_wp2_with fail
    go_ret
    exact ⟨rfl, HB.out⟩
  by_cases q2 : a < 0
  · skip
    have HD : Hid (okD ⟨k, a, m, t, n, c, ad, b⟩ = false) := Lib.hid (by exact Bool.eq_false_iff.2 fun h => by have r := hok.1 h; first | omega | (have := r.2.2.2.2.2.1; simp_all) | (have := r.2.2.2.2.2.2; simp_all))
    rw [HD.out]
    clear HD hok
    go_enter Tryd.func31, Tryd.ntmps31
    go_wp2_with fail
    go_ret
    exact ⟨rfl, HB.out⟩
  by_cases q3 : 100000 < a
  · skip
    have HD : Hid (okD ⟨k, a, m, t, n, c, ad, b⟩ = false) := Lib.hid (by exact Bool.eq_false_iff.2 fun h => by have r := hok.1 h; first | omega | (have := r.2.2.2.2.2.1; simp_all) | (have := r.2.2.2.2.2.2; simp_all))
    rw [HD.out]
    clear HD hok
    go_enter Tryd.func31, Tryd.ntmps31
    go_wp2_with fail
    go_ret
    exact ⟨rfl, HB.out⟩
  by_cases q4 : t < 0
  · skip
    have HD : Hid (okD ⟨k, a, m, t, n, c, ad, b⟩ = false) := Lib.hid (by exact Bool.eq_false_iff.2 fun h => by have r := hok.1 h; first | omega | (have := r.2.2.2.2.2.1; simp_all) | (have := r.2.2.2.2.2.2; simp_all))
    rw [HD.out]
    clear HD hok
    go_enter Tryd.func31, Tryd.ntmps31
    go_wp2_with fail
    go_ret
    exact ⟨rfl, HB.out⟩
  by_cases q5 : 6 < t
  · skip
    have HD : Hid (okD ⟨k, a, m, t, n, c, ad, b⟩ = false) := Lib.hid (by exact Bool.eq_false_iff.2 fun h => by have r := hok.1 h; first | omega | (have := r.2.2.2.2.2.1; simp_all) | (have := r.2.2.2.2.2.2; simp_all))
    rw [HD.out]
    clear HD hok
    go_enter Tryd.func31, Tryd.ntmps31
    go_wp2_with fail
    go_ret
    exact ⟨rfl, HB.out⟩
  by_cases q6 : m < 0
  · skip
    have HD : Hid (okD ⟨k, a, m, t, n, c, ad, b⟩ = false) := Lib.hid (by exact Bool.eq_false_iff.2 fun h => by have r := hok.1 h; first | omega | (have := r.2.2.2.2.2.1; simp_all) | (have := r.2.2.2.2.2.2; simp_all))
    rw [HD.out]
    clear HD hok
    go_enter Tryd.func31, Tryd.ntmps31
    go_wp2_with fail
    go_ret
    exact ⟨rfl, HB.out⟩
  by_cases q7 : 100000 < m
  · skip
    have HD : Hid (okD ⟨k, a, m, t, n, c, ad, b⟩ = false) := Lib.hid (by exact Bool.eq_false_iff.2 fun h => by have r := hok.1 h; first | omega | (have := r.2.2.2.2.2.1; simp_all) | (have := r.2.2.2.2.2.2; simp_all))
    rw [HD.out]
    clear HD hok
    go_enter Tryd.func31, Tryd.ntmps31
    go_wp2_with fail
    go_ret
    exact ⟨rfl, HB.out⟩
  by_cases q8 : 1000 < (b.length : Int)
  · skip
    have HD : Hid (okD ⟨k, a, m, t, n, c, ad, b⟩ = false) := Lib.hid (by exact Bool.eq_false_iff.2 fun h => by have r := hok.1 h; first | omega | (have := r.2.2.2.2.2.1; simp_all) | (have := r.2.2.2.2.2.2; simp_all))
    rw [HD.out]
    clear HD hok
    go_enter Tryd.func31, Tryd.ntmps31
    go_wp2_with fail
    go_ret
    exact ⟨rfl, HB.out⟩
  by_cases k5 : k = 5
  · subst k5
    by_cases zt : t = 0
    case neg =>
      have zz : (t == 0) = false := beq_eq_false_iff_ne.2 zt
      have HD : Hid (okD ⟨5, a, m, t, n, c, ad, b⟩ = false) := Lib.hid (by exact Bool.eq_false_iff.2 fun h => by have r := hok.1 h; omega)
      rw [HD.out]
      clear HD hok
      go_enter Tryd.func31, Tryd.ntmps31
      go_wp2_with fail
      go_ret
      exact ⟨rfl, HB.out⟩
    subst zt
    by_cases zn : n = 0
    case neg =>
      have zz : (n == 0) = false := beq_eq_false_iff_ne.2 zn
      have HD : Hid (okD ⟨5, a, m, 0, n, c, ad, b⟩ = false) := Lib.hid (by exact Bool.eq_false_iff.2 fun h => by have r := hok.1 h; omega)
      rw [HD.out]
      clear HD hok
      go_enter Tryd.func31, Tryd.ntmps31
      go_wp2_with fail
      go_ret
      exact ⟨rfl, HB.out⟩
    subst zn
    by_cases zc : c = 0
    case neg =>
      have zz : (c == 0) = false := beq_eq_false_iff_ne.2 zc
      have HD : Hid (okD ⟨5, a, m, 0, 0, c, ad, b⟩ = false) := Lib.hid (by exact Bool.eq_false_iff.2 fun h => by have r := hok.1 h; omega)
      rw [HD.out]
      clear HD hok
      go_enter Tryd.func31, Tryd.ntmps31
      go_wp2_with fail
      go_ret
      exact ⟨rfl, HB.out⟩
    subst zc
    cases ad
    case true =>
      have HD : Hid (okD ⟨5, a, m, 0, 0, 0, true, b⟩ = false) := Lib.hid (by exact Bool.eq_false_iff.2 fun h => by have r := hok.1 h; cases r.2.2.2.2.2.1 (by omega))
      rw [HD.out]
      clear HD hok
      go_enter Tryd.func31, Tryd.ntmps31
      go_wp2_with fail
      go_ret
      exact ⟨rfl, HB.out⟩
    by_cases zb : b = []
    case neg =>
      have zz : (b == []) = false := beq_eq_false_iff_ne.2 zb
      have HD : Hid (okD ⟨5, a, m, 0, 0, 0, false, b⟩ = false) := Lib.hid (by exact Bool.eq_false_iff.2 fun h => by have r := hok.1 h; exact zb (r.2.2.2.2.2.2 (by omega)))
      rw [HD.out]
      clear HD hok
      go_enter Tryd.func31, Tryd.ntmps31
      go_wp2_with fail
      go_ret
      exact ⟨rfl, HB.out⟩
    subst zb
    have HD : Hid (okD ⟨5, a, m, 0, 0, 0, false, []⟩ = true) := Lib.hid (by exact hok.2 ⟨by omega, by omega, by omega, by omega, by intros; omega, by intros; first | rfl | omega, by intros; first | rfl | omega⟩)
    rw [HD.out]
    clear HD hok
    go_enter Tryd.func31, Tryd.ntmps31
    go_wp2_with fail
    go_ret
    exact ⟨rfl, HB.out⟩
  have kb5 : (k == 5) = false := beq_eq_false_iff_ne.2 k5
  by_cases k7 : k = 7
  · subst k7
    by_cases z6 : 6 < m
    · skip
      have HD : Hid (okD ⟨7, a, m, t, n, c, ad, b⟩ = false) := Lib.hid (by exact Bool.eq_false_iff.2 fun h => by have r := hok.1 h; omega)
      rw [HD.out]
      clear HD hok
      go_enter Tryd.func31, Tryd.ntmps31
      go_wp2_with fail
      go_ret
      exact ⟨rfl, HB.out⟩
    cases ad
    case true =>
      have HD : Hid (okD ⟨7, a, m, t, n, c, true, b⟩ = false) := Lib.hid (by exact Bool.eq_false_iff.2 fun h => by have r := hok.1 h; cases r.2.2.2.2.2.1 (by omega))
      rw [HD.out]
      clear HD hok
      go_enter Tryd.func31, Tryd.ntmps31
      go_wp2_with fail
      go_ret
      exact ⟨rfl, HB.out⟩
    by_cases zb : b = []
    case neg =>
      have zz : (b == []) = false := beq_eq_false_iff_ne.2 zb
      have HD : Hid (okD ⟨7, a, m, t, n, c, false, b⟩ = false) := Lib.hid (by exact Bool.eq_false_iff.2 fun h => by have r := hok.1 h; exact zb (r.2.2.2.2.2.2 (by omega)))
      rw [HD.out]
      clear HD hok
      go_enter Tryd.func31, Tryd.ntmps31
      go_wp2_with fail
      go_ret
      exact ⟨rfl, HB.out⟩
    subst zb
    have HD : Hid (okD ⟨7, a, m, t, n, c, false, []⟩ = true) := Lib.hid (by exact hok.2 ⟨by omega, by omega, by omega, by omega, by intros; omega, by intros; first | rfl | omega, by intros; first | rfl | omega⟩)
    rw [HD.out]
    clear HD hok
    go_enter Tryd.func31, Tryd.ntmps31
    go_wp2_with fail
    go_ret
    exact ⟨rfl, HB.out⟩
  have kb7 : (k == 7) = false := beq_eq_false_iff_ne.2 k7
  by_cases k8 : k = 8
  · subst k8
    by_cases zm : m = 0
    case neg =>
      have zz : (m == 0) = false := beq_eq_false_iff_ne.2 zm
      have HD : Hid (okD ⟨8, a, m, t, n, c, ad, b⟩ = false) := Lib.hid (by exact Bool.eq_false_iff.2 fun h => by have r := hok.1 h; omega)
      rw [HD.out]
      clear HD hok
      go_enter Tryd.func31, Tryd.ntmps31
      go_wp2_with fail
      go_ret
      exact ⟨rfl, HB.out⟩
    subst zm
    by_cases zn : n = 0
    case neg =>
      have zz : (n == 0) = false := beq_eq_false_iff_ne.2 zn
      have HD : Hid (okD ⟨8, a, 0, t, n, c, ad, b⟩ = false) := Lib.hid (by exact Bool.eq_false_iff.2 fun h => by have r := hok.1 h; omega)
      rw [HD.out]
      clear HD hok
      go_enter Tryd.func31, Tryd.ntmps31
      go_wp2_with fail
      go_ret
      exact ⟨rfl, HB.out⟩
    subst zn
    by_cases zc : c = 0
    case neg =>
      have zz : (c == 0) = false := beq_eq_false_iff_ne.2 zc
      have HD : Hid (okD ⟨8, a, 0, t, 0, c, ad, b⟩ = false) := Lib.hid (by exact Bool.eq_false_iff.2 fun h => by have r := hok.1 h; omega)
      rw [HD.out]
      clear HD hok
      go_enter Tryd.func31, Tryd.ntmps31
      go_wp2_with fail
      go_ret
      exact ⟨rfl, HB.out⟩
    subst zc
    by_cases zb : b = []
    case neg =>
      have zz : (b == []) = false := beq_eq_false_iff_ne.2 zb
      have HD : Hid (okD ⟨8, a, 0, t, 0, 0, ad, b⟩ = false) := Lib.hid (by exact Bool.eq_false_iff.2 fun h => by have r := hok.1 h; exact zb (r.2.2.2.2.2.2 (by omega)))
      rw [HD.out]
      clear HD hok
      go_enter Tryd.func31, Tryd.ntmps31
      go_wp2_with fail
      go_ret
      exact ⟨rfl, HB.out⟩
    subst zb
    have HD : Hid (okD ⟨8, a, 0, t, 0, 0, ad, []⟩ = true) := Lib.hid (by exact hok.2 ⟨by omega, by omega, by omega, by omega, by intros; omega, by intros; first | rfl | omega, by intros; first | rfl | omega⟩)
    rw [HD.out]
    clear HD hok
    go_enter Tryd.func31, Tryd.ntmps31
    go_wp2_with fail
    go_ret
    exact ⟨rfl, HB.out⟩
  have kb8 : (k == 8) = false := beq_eq_false_iff_ne.2 k8
  by_cases k9 : k = 9
  · subst k9
    by_cases zm : m = 0
    case neg =>
      have zz : (m == 0) = false := beq_eq_false_iff_ne.2 zm
      have HD : Hid (okD ⟨9, a, m, t, n, c, ad, b⟩ = false) := Lib.hid (by exact Bool.eq_false_iff.2 fun h => by have r := hok.1 h; omega)
      rw [HD.out]
      clear HD hok
      go_enter Tryd.func31, Tryd.ntmps31
      go_wp2_with fail
      go_ret
      exact ⟨rfl, HB.out⟩
    subst zm
    by_cases zt : t = 0
    case neg =>
      have zz : (t == 0) = false := beq_eq_false_iff_ne.2 zt
      have HD : Hid (okD ⟨9, a, 0, t, n, c, ad, b⟩ = false) := Lib.hid (by exact Bool.eq_false_iff.2 fun h => by have r := hok.1 h; omega)
      rw [HD.out]
      clear HD hok
      go_enter Tryd.func31, Tryd.ntmps31
      go_wp2_with fail
      go_ret
      exact ⟨rfl, HB.out⟩
    subst zt
    by_cases zn : n = 0
    case neg =>
      have zz : (n == 0) = false := beq_eq_false_iff_ne.2 zn
      have HD : Hid (okD ⟨9, a, 0, 0, n, c, ad, b⟩ = false) := Lib.hid (by exact Bool.eq_false_iff.2 fun h => by have r := hok.1 h; omega)
      rw [HD.out]
      clear HD hok
      go_enter Tryd.func31, Tryd.ntmps31
      go_wp2_with fail
      go_ret
      exact ⟨rfl, HB.out⟩
    subst zn
    by_cases zc : c = 0
    case neg =>
      have zz : (c == 0) = false := beq_eq_false_iff_ne.2 zc
      have HD : Hid (okD ⟨9, a, 0, 0, 0, c, ad, b⟩ = false) := Lib.hid (by exact Bool.eq_false_iff.2 fun h => by have r := hok.1 h; omega)
      rw [HD.out]
      clear HD hok
      go_enter Tryd.func31, Tryd.ntmps31
      go_wp2_with fail
      go_ret
      exact ⟨rfl, HB.out⟩
    subst zc
    cases ad
    case true =>
      have HD : Hid (okD ⟨9, a, 0, 0, 0, 0, true, b⟩ = false) := Lib.hid (by exact Bool.eq_false_iff.2 fun h => by have r := hok.1 h; cases r.2.2.2.2.2.1 (by omega))
      rw [HD.out]
      clear HD hok
      go_enter Tryd.func31, Tryd.ntmps31
      go_wp2_with fail
      go_ret
      exact ⟨rfl, HB.out⟩
    have HD : Hid (okD ⟨9, a, 0, 0, 0, 0, false, b⟩ = true) := Lib.hid (by exact hok.2 ⟨by omega, by omega, by omega, by omega, by intros; omega, by intros; first | rfl | omega, by intros; first | rfl | omega⟩)
    rw [HD.out]
    clear HD hok
    go_enter Tryd.func31, Tryd.ntmps31
    go_wp2_with fail
    go_ret
    exact ⟨rfl, HB.out⟩
  have kb9 : (k == 9) = false := beq_eq_false_iff_ne.2 k9
  by_cases k1 : k = 1
  · subst k1
    by_cases zm : m = 0
    case neg =>
      have zz : (m == 0) = false := beq_eq_false_iff_ne.2 zm
      have HD : Hid (okD ⟨1, a, m, t, n, c, ad, b⟩ = false) := Lib.hid (by exact Bool.eq_false_iff.2 fun h => by have r := hok.1 h; omega)
      rw [HD.out]
      clear HD hok
      go_enter Tryd.func31, Tryd.ntmps31
      go_wp2_with fail
      go_ret
      exact ⟨rfl, HB.out⟩
    subst zm
    by_cases zt : t = 0
    case neg =>
      have zz : (t == 0) = false := beq_eq_false_iff_ne.2 zt
      have HD : Hid (okD ⟨1, a, 0, t, n, c, ad, b⟩ = false) := Lib.hid (by exact Bool.eq_false_iff.2 fun h => by have r := hok.1 h; omega)
      rw [HD.out]
      clear HD hok
      go_enter Tryd.func31, Tryd.ntmps31
      go_wp2_with fail
      go_ret
      exact ⟨rfl, HB.out⟩
    subst zt
    by_cases zn : n = 0
    case neg =>
      have zz : (n == 0) = false := beq_eq_false_iff_ne.2 zn
      have HD : Hid (okD ⟨1, a, 0, 0, n, c, ad, b⟩ = false) := Lib.hid (by exact Bool.eq_false_iff.2 fun h => by have r := hok.1 h; omega)
      rw [HD.out]
      clear HD hok
      go_enter Tryd.func31, Tryd.ntmps31
      go_wp2_with fail
      go_ret
      exact ⟨rfl, HB.out⟩
    subst zn
    by_cases zc : c = 0
    case neg =>
      have zz : (c == 0) = false := beq_eq_false_iff_ne.2 zc
      have HD : Hid (okD ⟨1, a, 0, 0, 0, c, ad, b⟩ = false) := Lib.hid (by exact Bool.eq_false_iff.2 fun h => by have r := hok.1 h; omega)
      rw [HD.out]
      clear HD hok
      go_enter Tryd.func31, Tryd.ntmps31
      go_wp2_with fail
      go_ret
      exact ⟨rfl, HB.out⟩
    subst zc
    cases ad
    case true =>
      have HD : Hid (okD ⟨1, a, 0, 0, 0, 0, true, b⟩ = false) := Lib.hid (by exact Bool.eq_false_iff.2 fun h => by have r := hok.1 h; cases r.2.2.2.2.2.1 (by omega))
      rw [HD.out]
      clear HD hok
      go_enter Tryd.func31, Tryd.ntmps31
      go_wp2_with fail
      go_ret
      exact ⟨rfl, HB.out⟩
    by_cases zb : b = []
    case neg =>
      have zz : (b == []) = false := beq_eq_false_iff_ne.2 zb
      have HD : Hid (okD ⟨1, a, 0, 0, 0, 0, false, b⟩ = false) := Lib.hid (by exact Bool.eq_false_iff.2 fun h => by have r := hok.1 h; exact zb (r.2.2.2.2.2.2 (by omega)))
      rw [HD.out]
      clear HD hok
      go_enter Tryd.func31, Tryd.ntmps31
      go_wp2_with fail
      go_ret
      exact ⟨rfl, HB.out⟩
    subst zb
    have HD : Hid (okD ⟨1, a, 0, 0, 0, 0, false, []⟩ = true) := Lib.hid (by exact hok.2 ⟨by omega, by omega, by omega, by omega, by intros; omega, by intros; first | rfl | omega, by intros; first | rfl | omega⟩)
    rw [HD.out]
    clear HD hok
    go_enter Tryd.func31, Tryd.ntmps31
    go_wp2_with fail
    go_ret
    exact ⟨rfl, HB.out⟩
  have kb1 : (k == 1) = false := beq_eq_false_iff_ne.2 k1
  by_cases k2 : k = 2
  · subst k2
    by_cases zm : m = 0
    case neg =>
      have zz : (m == 0) = false := beq_eq_false_iff_ne.2 zm
      have HD : Hid (okD ⟨2, a, m, t, n, c, ad, b⟩ = false) := Lib.hid (by exact Bool.eq_false_iff.2 fun h => by have r := hok.1 h; omega)
      rw [HD.out]
      clear HD hok
      go_enter Tryd.func31, Tryd.ntmps31
      go_wp2_with fail
      go_ret
      exact ⟨rfl, HB.out⟩
    subst zm
    by_cases zt : t = 0
    case neg =>
      have zz : (t == 0) = false := beq_eq_false_iff_ne.2 zt
      have HD : Hid (okD ⟨2, a, 0, t, n, c, ad, b⟩ = false) := Lib.hid (by exact Bool.eq_false_iff.2 fun h => by have r := hok.1 h; omega)
      rw [HD.out]
      clear HD hok
      go_enter Tryd.func31, Tryd.ntmps31
      go_wp2_with fail
      go_ret
      exact ⟨rfl, HB.out⟩
    subst zt
    by_cases zn : n = 0
    case neg =>
      have zz : (n == 0) = false := beq_eq_false_iff_ne.2 zn
      have HD : Hid (okD ⟨2, a, 0, 0, n, c, ad, b⟩ = false) := Lib.hid (by exact Bool.eq_false_iff.2 fun h => by have r := hok.1 h; omega)
      rw [HD.out]
      clear HD hok
      go_enter Tryd.func31, Tryd.ntmps31
      go_wp2_with fail
      go_ret
      exact ⟨rfl, HB.out⟩
    subst zn
    by_cases zc : c = 0
    case neg =>
      have zz : (c == 0) = false := beq_eq_false_iff_ne.2 zc
      have HD : Hid (okD ⟨2, a, 0, 0, 0, c, ad, b⟩ = false) := Lib.hid (by exact Bool.eq_false_iff.2 fun h => by have r := hok.1 h; omega)
      rw [HD.out]
      clear HD hok
      go_enter Tryd.func31, Tryd.ntmps31
      go_wp2_with fail
      go_ret
      exact ⟨rfl, HB.out⟩
    subst zc
    cases ad
    case true =>
      have HD : Hid (okD ⟨2, a, 0, 0, 0, 0, true, b⟩ = false) := Lib.hid (by exact Bool.eq_false_iff.2 fun h => by have r := hok.1 h; cases r.2.2.2.2.2.1 (by omega))
      rw [HD.out]
      clear HD hok
      go_enter Tryd.func31, Tryd.ntmps31
      go_wp2_with fail
      go_ret
      exact ⟨rfl, HB.out⟩
    by_cases zb : b = []
    case neg =>
      have zz : (b == []) = false := beq_eq_false_iff_ne.2 zb
      have HD : Hid (okD ⟨2, a, 0, 0, 0, 0, false, b⟩ = false) := Lib.hid (by exact Bool.eq_false_iff.2 fun h => by have r := hok.1 h; exact zb (r.2.2.2.2.2.2 (by omega)))
      rw [HD.out]
      clear HD hok
      go_enter Tryd.func31, Tryd.ntmps31
      go_wp2_with fail
      go_ret
      exact ⟨rfl, HB.out⟩
    subst zb
    have HD : Hid (okD ⟨2, a, 0, 0, 0, 0, false, []⟩ = true) := Lib.hid (by exact hok.2 ⟨by omega, by omega, by omega, by omega, by intros; omega, by intros; first | rfl | omega, by intros; first | rfl | omega⟩)
    rw [HD.out]
    clear HD hok
    go_enter Tryd.func31, Tryd.ntmps31
    go_wp2_with fail
    go_ret
    exact ⟨rfl, HB.out⟩
  have kb2 : (k == 2) = false := beq_eq_false_iff_ne.2 k2
  by_cases k3 : k = 3
  · subst k3
    by_cases zm : m = 0
    case neg =>
      have zz : (m == 0) = false := beq_eq_false_iff_ne.2 zm
      have HD : Hid (okD ⟨3, a, m, t, n, c, ad, b⟩ = false) := Lib.hid (by exact Bool.eq_false_iff.2 fun h => by have r := hok.1 h; omega)
      rw [HD.out]
      clear HD hok
      go_enter Tryd.func31, Tryd.ntmps31
      go_wp2_with fail
      go_ret
      exact ⟨rfl, HB.out⟩
    subst zm
    by_cases zt : t = 0
    case neg =>
      have zz : (t == 0) = false := beq_eq_false_iff_ne.2 zt
      have HD : Hid (okD ⟨3, a, 0, t, n, c, ad, b⟩ = false) := Lib.hid (by exact Bool.eq_false_iff.2 fun h => by have r := hok.1 h; omega)
      rw [HD.out]
      clear HD hok
      go_enter Tryd.func31, Tryd.ntmps31
      go_wp2_with fail
      go_ret
      exact ⟨rfl, HB.out⟩
    subst zt
    by_cases zn : n = 0
    case neg =>
      have zz : (n == 0) = false := beq_eq_false_iff_ne.2 zn
      have HD : Hid (okD ⟨3, a, 0, 0, n, c, ad, b⟩ = false) := Lib.hid (by exact Bool.eq_false_iff.2 fun h => by have r := hok.1 h; omega)
      rw [HD.out]
      clear HD hok
      go_enter Tryd.func31, Tryd.ntmps31
      go_wp2_with fail
      go_ret
      exact ⟨rfl, HB.out⟩
    subst zn
    by_cases zc : c = 0
    case neg =>
      have zz : (c == 0) = false := beq_eq_false_iff_ne.2 zc
      have HD : Hid (okD ⟨3, a, 0, 0, 0, c, ad, b⟩ = false) := Lib.hid (by exact Bool.eq_false_iff.2 fun h => by have r := hok.1 h; omega)
      rw [HD.out]
      clear HD hok
      go_enter Tryd.func31, Tryd.ntmps31
      go_wp2_with fail
      go_ret
      exact ⟨rfl, HB.out⟩
    subst zc
    cases ad
    case true =>
      have HD : Hid (okD ⟨3, a, 0, 0, 0, 0, true, b⟩ = false) := Lib.hid (by exact Bool.eq_false_iff.2 fun h => by have r := hok.1 h; cases r.2.2.2.2.2.1 (by omega))
      rw [HD.out]
      clear HD hok
      go_enter Tryd.func31, Tryd.ntmps31
      go_wp2_with fail
      go_ret
      exact ⟨rfl, HB.out⟩
    by_cases zb : b = []
    case neg =>
      have zz : (b == []) = false := beq_eq_false_iff_ne.2 zb
      have HD : Hid (okD ⟨3, a, 0, 0, 0, 0, false, b⟩ = false) := Lib.hid (by exact Bool.eq_false_iff.2 fun h => by have r := hok.1 h; exact zb (r.2.2.2.2.2.2 (by omega)))
      rw [HD.out]
      clear HD hok
      go_enter Tryd.func31, Tryd.ntmps31
      go_wp2_with fail
      go_ret
      exact ⟨rfl, HB.out⟩
    subst zb
    have HD : Hid (okD ⟨3, a, 0, 0, 0, 0, false, []⟩ = true) := Lib.hid (by exact hok.2 ⟨by omega, by omega, by omega, by omega, by intros; omega, by intros; first | rfl | omega, by intros; first | rfl | omega⟩)
    rw [HD.out]
    clear HD hok
    go_enter Tryd.func31, Tryd.ntmps31
    go_wp2_with fail
    go_ret
    exact ⟨rfl, HB.out⟩
  have kb3 : (k == 3) = false := beq_eq_false_iff_ne.2 k3
  by_cases k4 : k = 4
  · subst k4
    by_cases zm : m = 0
    case neg =>
      have zz : (m == 0) = false := beq_eq_false_iff_ne.2 zm
      have HD : Hid (okD ⟨4, a, m, t, n, c, ad, b⟩ = false) := Lib.hid (by exact Bool.eq_false_iff.2 fun h => by have r := hok.1 h; omega)
      rw [HD.out]
      clear HD hok
      go_enter Tryd.func31, Tryd.ntmps31
      go_wp2_with fail
      go_ret
      exact ⟨rfl, HB.out⟩
    subst zm
    by_cases zt : t = 0
    case neg =>
      have zz : (t == 0) = false := beq_eq_false_iff_ne.2 zt
      have HD : Hid (okD ⟨4, a, 0, t, n, c, ad, b⟩ = false) := Lib.hid (by exact Bool.eq_false_iff.2 fun h => by have r := hok.1 h; omega)
      rw [HD.out]
      clear HD hok
      go_enter Tryd.func31, Tryd.ntmps31
      go_wp2_with fail
      go_ret
      exact ⟨rfl, HB.out⟩
    subst zt
    by_cases zn : n = 0
    case neg =>
      have zz : (n == 0) = false := beq_eq_false_iff_ne.2 zn
      have HD : Hid (okD ⟨4, a, 0, 0, n, c, ad, b⟩ = false) := Lib.hid (by exact Bool.eq_false_iff.2 fun h => by have r := hok.1 h; omega)
      rw [HD.out]
      clear HD hok
      go_enter Tryd.func31, Tryd.ntmps31
      go_wp2_with fail
      go_ret
      exact ⟨rfl, HB.out⟩
    subst zn
    by_cases zc : c = 0
    case neg =>
      have zz : (c == 0) = false := beq_eq_false_iff_ne.2 zc
      have HD : Hid (okD ⟨4, a, 0, 0, 0, c, ad, b⟩ = false) := Lib.hid (by exact Bool.eq_false_iff.2 fun h => by have r := hok.1 h; omega)
      rw [HD.out]
      clear HD hok
      go_enter Tryd.func31, Tryd.ntmps31
      go_wp2_with fail
      go_ret
      exact ⟨rfl, HB.out⟩
    subst zc
    cases ad
    case true =>
      have HD : Hid (okD ⟨4, a, 0, 0, 0, 0, true, b⟩ = false) := Lib.hid (by exact Bool.eq_false_iff.2 fun h => by have r := hok.1 h; cases r.2.2.2.2.2.1 (by omega))
      rw [HD.out]
      clear HD hok
      go_enter Tryd.func31, Tryd.ntmps31
      go_wp2_with fail
      go_ret
      exact ⟨rfl, HB.out⟩
    by_cases zb : b = []
    case neg =>
      have zz : (b == []) = false := beq_eq_false_iff_ne.2 zb
      have HD : Hid (okD ⟨4, a, 0, 0, 0, 0, false, b⟩ = false) := Lib.hid (by exact Bool.eq_false_iff.2 fun h => by have r := hok.1 h; exact zb (r.2.2.2.2.2.2 (by omega)))
      rw [HD.out]
      clear HD hok
      go_enter Tryd.func31, Tryd.ntmps31
      go_wp2_with fail
      go_ret
      exact ⟨rfl, HB.out⟩
    subst zb
    have HD : Hid (okD ⟨4, a, 0, 0, 0, 0, false, []⟩ = true) := Lib.hid (by exact hok.2 ⟨by omega, by omega, by omega, by omega, by intros; omega, by intros; first | rfl | omega, by intros; first | rfl | omega⟩)
    rw [HD.out]
    clear HD hok
    go_enter Tryd.func31, Tryd.ntmps31
    go_wp2_with fail
    go_ret
    exact ⟨rfl, HB.out⟩
  have kb4 : (k == 4) = false := beq_eq_false_iff_ne.2 k4
  by_cases k6 : k = 6
  · subst k6
    by_cases zm : m = 0
    case neg =>
      have zz : (m == 0) = false := beq_eq_false_iff_ne.2 zm
      have HD : Hid (okD ⟨6, a, m, t, n, c, ad, b⟩ = false) := Lib.hid (by exact Bool.eq_false_iff.2 fun h => by have r := hok.1 h; omega)
      rw [HD.out]
      clear HD hok
      go_enter Tryd.func31, Tryd.ntmps31
      go_wp2_with fail
      go_ret
      exact ⟨rfl, HB.out⟩
    subst zm
    by_cases zt : t = 0
    case neg =>
      have zz : (t == 0) = false := beq_eq_false_iff_ne.2 zt
      have HD : Hid (okD ⟨6, a, 0, t, n, c, ad, b⟩ = false) := Lib.hid (by exact Bool.eq_false_iff.2 fun h => by have r := hok.1 h; omega)
      rw [HD.out]
      clear HD hok
      go_enter Tryd.func31, Tryd.ntmps31
      go_wp2_with fail
      go_ret
      exact ⟨rfl, HB.out⟩
    subst zt
    by_cases zn : n = 0
    case neg =>
      have zz : (n == 0) = false := beq_eq_false_iff_ne.2 zn
      have HD : Hid (okD ⟨6, a, 0, 0, n, c, ad, b⟩ = false) := Lib.hid (by exact Bool.eq_false_iff.2 fun h => by have r := hok.1 h; omega)
      rw [HD.out]
      clear HD hok
      go_enter Tryd.func31, Tryd.ntmps31
      go_wp2_with fail
      go_ret
      exact ⟨rfl, HB.out⟩
    subst zn
    by_cases zc : c = 0
    case neg =>
      have zz : (c == 0) = false := beq_eq_false_iff_ne.2 zc
      have HD : Hid (okD ⟨6, a, 0, 0, 0, c, ad, b⟩ = false) := Lib.hid (by exact Bool.eq_false_iff.2 fun h => by have r := hok.1 h; omega)
      rw [HD.out]
      clear HD hok
      go_enter Tryd.func31, Tryd.ntmps31
      go_wp2_with fail
      go_ret
      exact ⟨rfl, HB.out⟩
    subst zc
    cases ad
    case true =>
      have HD : Hid (okD ⟨6, a, 0, 0, 0, 0, true, b⟩ = false) := Lib.hid (by exact Bool.eq_false_iff.2 fun h => by have r := hok.1 h; cases r.2.2.2.2.2.1 (by omega))
      rw [HD.out]
      clear HD hok
      go_enter Tryd.func31, Tryd.ntmps31
      go_wp2_with fail
      go_ret
      exact ⟨rfl, HB.out⟩
    by_cases zb : b = []
    case neg =>
      have zz : (b == []) = false := beq_eq_false_iff_ne.2 zb
      have HD : Hid (okD ⟨6, a, 0, 0, 0, 0, false, b⟩ = false) := Lib.hid (by exact Bool.eq_false_iff.2 fun h => by have r := hok.1 h; exact zb (r.2.2.2.2.2.2 (by omega)))
      rw [HD.out]
      clear HD hok
      go_enter Tryd.func31, Tryd.ntmps31
      go_wp2_with fail
      go_ret
      exact ⟨rfl, HB.out⟩
    subst zb
    have HD : Hid (okD ⟨6, a, 0, 0, 0, 0, false, []⟩ = true) := Lib.hid (by exact hok.2 ⟨by omega, by omega, by omega, by omega, by intros; omega, by intros; first | rfl | omega, by intros; first | rfl | omega⟩)
    rw [HD.out]
    clear HD hok
    go_enter Tryd.func31, Tryd.ntmps31
    go_wp2_with fail
    go_ret
    exact ⟨rfl, HB.out⟩
  have kb6 : (k == 6) = false := beq_eq_false_iff_ne.2 k6
  exfalso; omega
end Go.Proofs.YtggiicbjegmehaaDoor
