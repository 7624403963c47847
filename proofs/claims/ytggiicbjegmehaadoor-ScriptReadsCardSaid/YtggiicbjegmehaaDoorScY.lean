/- The walk of ecclesialaw27.ScriptLines. -/
import Derived.Test.YtggiicbjegmehaaDoorScX
namespace Go.Proofs.YtggiicbjegmehaaDoor
set_option linter.unusedVariables false
set_option linter.unusedSimpArgs false
open Go.RowKit

theorem cutD_wf {d : Dd} (h : WfD d) : WfD (cutD d) := ⟨h.k, h.a, h.m, h.t, h.n, h.c⟩
def fewP (p : Pl) : Pl := withDs p ((p.ds.take 410).map cutD)
theorem fewP_wf {p : Pl} (h : WfP p) : WfP (fewP p) := ⟨h.many, h.set, h.ep, h.has, fun d hd => by
  obtain ⟨b, hb, rfl⟩ := List.mem_map.1 hd
  exact cutD_wf (h.ds b (List.mem_of_mem_take hb))⟩
theorem fewP_len (p : Pl) : (fewP p).ds.length ≤ 410 := by simp [fewP, withDs]; omega
theorem fewP_ok {p : Pl} (h : WfP p) : DsOk (fewP p).ds := ⟨(fewP_wf h).ds, fun d hd => by
  obtain ⟨b, hb, rfl⟩ := List.mem_map.1 hd
  simp [cutD]; omega⟩
theorem text_len {p : Pl} (hw : WfP p) (hok : okP p = true) : (textP p).length ≤ 9000000 ∧ (firstP p).length ≤ 1000 := by
  obtain ⟨h1, h2⟩ := okP_parts hok
  have hhd := headOk_ranges h1
  have hall : ∀ d ∈ p.ds, okD d = true := fun d hd => List.all_eq_true.1 h2 d hd
  have hfl : (firstP p).length ≤ 1000 := by
    have h1 := decI_len (n := p.many) (by omega)
    have h2 := decI_len (n := p.set) (by omega)
    have h3 := decI_len (n := p.ep) (by omega)
    have h4 := decI_len (n := p.has) (by omega)
    have := join_len [32] 20 [110, 111, 100, 101, 115] [decI p.many, decI p.set, decI p.ep, decI p.has] (fun q hq => by
      simp only [List.mem_cons, List.mem_nil_iff, or_false] at hq
      rcases hq with rfl | rfl | rfl | rfl | rfl <;> first | assumption | simp)
    simp only [List.length_cons, List.length_nil] at this
    unfold firstP
    omega
  refine ⟨?_, hfl⟩
  have := join_len [10] 20000 (firstP p) (p.ds.map lineP) (fun q hq => by
    rcases List.mem_cons.1 hq with rfl | hq
    · omega
    · obtain ⟨d, hd, rfl⟩ := List.mem_map.1 hq
      exact lineP_len (hw.ds d hd) (hall d hd))
  rw [List.length_map] at this
  have e : p.ds.length * ([10].length + 20000) ≤ 400 * 20001 := Nat.mul_le_mul hhd.2.2.2.2.2.2.2 (by simp)
  unfold textP
  rw [List.length_append]
  simp only [List.length_cons, List.length_nil]
  omega
/-- the plan's block is laid anew -/
theorem box_set {B X : Nat} {w W : World} {a b c d e a' b' c' d' e' : Value} (h : W.heap[X]? = some (.cells #[a, b, c, d, e] 25 (0, 0))) (hB : Below B w W) (hX : B ≤ X) :
    (set5 W X a' b' c' d' e').heap[X]? = some (.cells #[a', b', c', d', e'] 25 (0, 0)) ∧ Below B w (set5 W X a' b' c' d' e') := ⟨set5_here h, set5_below hB hX⟩
theorem dds_set5 {B : Nat} {W : World} {l : List Dd} {A : Option Addr} {c X : Nat} {a' b' c' d' e' : Value} (h : DdsV (Fresh B) W l A c) (hX : X < B) : DdsV Any (set5 W X a' b' c' d' e') l A c :=
  h.mono fun b _ hs => ⟨trivial, set5_other (by have : B ≤ b := hs; omega)⟩
end Go.Proofs.YtggiicbjegmehaaDoor
