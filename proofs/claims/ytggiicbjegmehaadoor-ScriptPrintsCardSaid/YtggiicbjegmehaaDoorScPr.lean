/- A plan as an argument. -/
import Derived.Test.YtggiicbjegmehaaDoorScCd
import Derived.Test.YtggiicbjegmehaaDoorScD
namespace Go.Proofs.YtggiicbjegmehaaDoor
set_option linter.unusedVariables false
set_option linter.unusedSimpArgs false
open Go.ChangeShapes Go.WideShapes Go.ChangeAt Go.RowKit

theorem All3.cons_inv {H : Type} {Q : D → DataW H → Prop} {qs : List (D → DataW H → Prop)} {us : List D} {vs : List (DataW H)} (h : All3 (Q :: qs) us vs) : ∃ a us1 b vs1, us = a :: us1 ∧ vs = b :: vs1 ∧ Q a b ∧ All3 qs us1 vs1 := by
  cases h with | cons h1 h2 => exact ⟨_, _, _, _, rfl, rfl, h1, h2⟩
theorem All3.nil_inv {H : Type} {us : List D} {vs : List (DataW H)} (h : All3 [] us vs) : us = [] ∧ vs = [] := by
  cases h; exact ⟨rfl, rfl⟩
theorem i64_of {n : Int} (h : (Lit.int .i64 n).wf = true) : -9223372036854775808 ≤ n ∧ n ≤ 9223372036854775807 := by
  simpa [Lit.wf, IntKind.min, IntKind.max, IntKind.signed, IntKind.bits] using h
theorem u64_of {n : Int} (h : (Lit.int .u64 n).wf = true) : 0 ≤ n ∧ n ≤ 18446744073709551615 := by
  simpa [Lit.wf, IntKind.min, IntKind.max, IntKind.signed, IntKind.bits] using h
theorem dds_of {H : Type} : ∀ (es : List D) (xs : List (DataW H)), All2 (IsSt [IsInt .i64, IsInt .i64, IsInt .i64, IsInt .i64, IsInt .u64, IsInt .u64, IsBool, IsStr]) es xs → ∃ l : List Dd, es = l.map ddD ∧ ∀ d ∈ l, WfD d ∧ d.b.length ≤ maxLen
  | _, _, .nil => ⟨[], rfl, fun a h => (by cases h)⟩
  | _, _, .cons ⟨ds, xs, h1, h2, h3⟩ h => by
    obtain ⟨l, rfl, hl⟩ := dds_of _ _ h
    subst h1
    obtain ⟨x1, ds1, y1, xs1, rfl, rfl, ⟨n1, rfl, _, w1⟩, k1⟩ := h3.cons_inv
    obtain ⟨x2, ds2, y2, xs2, rfl, rfl, ⟨n2, rfl, _, w2⟩, k2⟩ := k1.cons_inv
    obtain ⟨x3, ds3, y3, xs3, rfl, rfl, ⟨n3, rfl, _, w3⟩, k3⟩ := k2.cons_inv
    obtain ⟨x4, ds4, y4, xs4, rfl, rfl, ⟨n4, rfl, _, w4⟩, k4⟩ := k3.cons_inv
    obtain ⟨x5, ds5, y5, xs5, rfl, rfl, ⟨n5, rfl, _, w5⟩, k5⟩ := k4.cons_inv
    obtain ⟨x6, ds6, y6, xs6, rfl, rfl, ⟨n6, rfl, _, w6⟩, k6⟩ := k5.cons_inv
    obtain ⟨x7, ds7, y7, xs7, rfl, rfl, ⟨b7, rfl, _⟩, k7⟩ := k6.cons_inv
    obtain ⟨x8, ds8, y8, xs8, rfl, rfl, ⟨s8, rfl, _, w8⟩, k8⟩ := k7.cons_inv
    obtain ⟨rfl, rfl⟩ := k8.nil_inv
    refine ⟨⟨n1, n2, n3, n4, n5, n6, b7, s8⟩ :: l, rfl, ?_⟩
    intro d hd
    rcases List.mem_cons.1 hd with rfl | hd
    · exact ⟨⟨i64_of w1, i64_of w2, i64_of w3, i64_of w4, u64_of w5, u64_of w6⟩, w8⟩
    · exact hl d hd
set_option maxRecDepth 100000 in
theorem reads_plan {H : Type} {enc : TypeId × Value → H} {W : World} : Reads enc Tryd.prog W 25 5 (IsSt [IsInt .i64, IsInt .i64, IsInt .u64, IsInt .u64, IsSl 8 (IsSt [IsInt .i64, IsInt .i64, IsInt .i64, IsInt .i64, IsInt .u64, IsInt .u64, IsBool, IsStr])]) :=
  reads_struct Tryd.underlying25 (by kernel_rfl)
    (.cons rfl (by kernel_rfl) (reads_int Tryd.underlying3) (.cons rfl (by kernel_rfl) (reads_int Tryd.underlying3) (.cons rfl (by kernel_rfl) (reads_int Tryd.underlying22) (.cons rfl (by kernel_rfl) (reads_int Tryd.underlying22)
      (.cons rfl (by kernel_rfl) (reads_slice Tryd.underlying23 (by kernel_rfl) (reads_struct Tryd.underlying46 (by kernel_rfl)
        (.cons rfl (by kernel_rfl) (reads_int Tryd.underlying3) (.cons rfl (by kernel_rfl) (reads_int Tryd.underlying3) (.cons rfl (by kernel_rfl) (reads_int Tryd.underlying3) (.cons rfl (by kernel_rfl) (reads_int Tryd.underlying3)
          (.cons rfl (by kernel_rfl) (reads_int Tryd.underlying22) (.cons rfl (by kernel_rfl) (reads_int Tryd.underlying22) (.cons rfl (by kernel_rfl) (reads_bool Tryd.underlying4) (.cons rfl (by kernel_rfl) (reads_str Tryd.underlying9) .nil))))))))))
        .nil)))))

set_option maxRecDepth 100000 in
theorem plan_arg {H : Type} {enc : TypeId × Value → H} {W : World} {base : Nat} {v : Value} {d : DataW H} {p : List MemPlace} (hval : Value.okWide Tryd.prog W .any base 25 v)
    (h : DataW.Trod enc Tryd.prog W 0 (fun _ => true) true 25 v d p) : ∃ (z : Pl) (A : Option Addr) (c : Nat), v = .agg (plC z A c).toArray ∧ WfP z ∧ (∀ d ∈ z.ds, d.b.length ≤ 9223372036854775807) ∧ DdsV Any W z.ds A c := by
  obtain ⟨cs, rfl, _⟩ := okWide_struct Tryd.underlying25 hval
  obtain ⟨fuel, h⟩ := h
  obtain ⟨_, d, hr, ds, xs, rfl, _, h3⟩ := reads_plan _ _ _ h
  obtain ⟨x1, ds1, y1, xs1, rfl, rfl, ⟨n1, rfl, _, w1⟩, k1⟩ := h3.cons_inv
  obtain ⟨x2, ds2, y2, xs2, rfl, rfl, ⟨n2, rfl, _, w2⟩, k2⟩ := k1.cons_inv
  obtain ⟨x3, ds3, y3, xs3, rfl, rfl, ⟨n3, rfl, _, w3⟩, k3⟩ := k2.cons_inv
  obtain ⟨x4, ds4, y4, xs4, rfl, rfl, ⟨n4, rfl, _, w4⟩, k4⟩ := k3.cons_inv
  obtain ⟨x5, ds5, y5, xs5, rfl, rfl, ⟨es, rfl, hq⟩, k5⟩ := k4.cons_inv
  obtain ⟨rfl, rfl⟩ := k5.nil_inv
  obtain ⟨l, rfl, hl⟩ : ∃ l : List Dd, es = l.map ddD ∧ ∀ d ∈ l, WfD d ∧ d.b.length ≤ maxLen := by
    rcases hq with ⟨rfl, _⟩ | ⟨xs, sp, _, h⟩
    · exact ⟨[], rfl, fun a h => (by cases h)⟩
    · exact dds_of _ _ h
  obtain ⟨c1, r1, e1, q1, hr1⟩ := hr.st_form.cons_form
  obtain ⟨c2, r2, e2, q2, hr2⟩ := hr1.cons_form
  obtain ⟨c3, r3, e3, q3, hr3⟩ := hr2.cons_form
  obtain ⟨c4, r4, e4, q4, hr4⟩ := hr3.cons_form
  obtain ⟨c5, r5, e5, q5, hr5⟩ := hr4.cons_form
  have e6 := hr5.nil_form
  have f1 := q1.v_form
  have f2 := q2.v_form
  have f3 := q3.v_form
  have f4 := q4.v_form
  obtain ⟨A, n, c, f5⟩ := q5.slice_form
  subst f5
  have hn := (Rep.slice_len q5).1
  rw [List.length_map] at hn
  subst hn
  refine ⟨⟨n1, n2, n3, n4, l⟩, A, c, ?_, ⟨i64_of w1, i64_of w2, u64_of w3, u64_of w4, fun d hd => (hl d hd).1⟩, fun d hd => ?_, q5⟩
  · congr 1
    apply Array.toList_inj.1
    show cs.toList = _
    have hcs : (Value.agg cs).cells.toList = cs.toList := rfl
    rw [← hcs, e1, e2, e3, e4, e5, e6, f1, f2, f3, f4]
    rfl
  · have := (hl d hd).2
    simp only [maxLen] at this
    exact Nat.le_trans this (by omega)
end Go.Proofs.YtggiicbjegmehaaDoor
