/- The walk of ecclesialaw27.ScriptPrints. -/
import Derived.Test.YtggiicbjegmehaaDoorScVd
namespace Go.Proofs.YtggiicbjegmehaaDoor
set_option linter.unusedVariables false
set_option linter.unusedSimpArgs false
open Go.RowKit

set_option maxRecDepth 100000 in
set_option maxHeartbeats 16000000 in
theorem scriptPrints_any (p : Pl) (hw : WfP p) (hp63 : ∀ d ∈ p.ds, d.b.length ≤ 9223372036854775807) (A : Option Addr) (c : Nat) (w : World) (he : Env w) (hv : DdsV Any w p.ds A c) :
    Calls Tryd.prog 4 #[.agg (plC p A c).toArray] w fun e w' => e = .returned (.bool true) ∧ Below w.heap.size w w' := by
  obtain ⟨many, set, ep, has, ds⟩ := p
  have hF : ∀ (W : World), DdsV Any W ds A c → Calls Tryd.prog 11 #[.agg #[.int .i64 many, .int .i64 set, .int .u64 ep, .int .u64 has, .slice A ds.length c]] W fun e w' => (∃ A2 c2, e = .returned (.agg (plC (fewP ⟨many, set, ep, has, ds⟩) A2 c2).toArray) ∧ DdsV (Fresh W.heap.size) w' (fewP ⟨many, set, ep, has, ds⟩).ds A2 c2) ∧ Below W.heap.size W w' := fun W h => few_any ⟨many, set, ep, has, ds⟩ hp63 A c W h
  have hqw := fewP_wf hw
  have hqo := fewP_ok hw
  have hql := fewP_len ⟨many, set, ep, has, ds⟩
  obtain ⟨q, hqe⟩ : ∃ q, fewP ⟨many, set, ep, has, ds⟩ = q := ⟨_, rfl⟩
  rw [hqe] at hF hqw hqo hql
  have hA := fun (W : World) (hb : Below w.heap.size w W) => alive_any W (he.keep hb)
  have hN := fun (h : okP q = false) A2 c2 (W : World) (hd : DdsV Any W q.ds A2 c2) => Print_no q hqw hqo h A2 c2 W hd
  have hY := fun (h : okP q = true) A2 c2 (W : World) (hb : Below w.heap.size w W) (hd : DdsV Any W q.ds A2 c2) => Print_any q hqw hqo h A2 c2 W (he.keep hb) hd
  have hR := fun A2 c2 (W : World) (hd : DdsV Any W q.ds A2 c2) => RightP_any q hqw hqo A2 c2 W hd
  have hRR := fun A2 c2 (W : World) (hd : DdsV Any W q.ds A2 c2) => rRight_any q hqo (by omega) A2 c2 W hd
  have hTT := fun (h : okP q = true) A2 c2 (W : World) (hb : Below w.heap.size w W) (hd : DdsV Any W q.ds A2 c2) => rText_any q hqw h A2 c2 W (he.keep hb) hd
  have hX := heap_alloc_new w (.cells #[.int .i64 many, .int .i64 set, .int .u64 ep, .int .u64 has, .slice A ds.length c] 25)
  have hB := (Below.refl w.heap.size w).alloc (Nat.le_refl _) (.cells #[.int .i64 many, .int .i64 set, .int .u64 ep, .int .u64 has, .slice A ds.length c] 25)
  have hv0 := Rep.keep hv hB
  have hXL : w.heap.size < (w.alloc (.cells #[.int .i64 many, .int .i64 set, .int .u64 ep, .int .u64 has, .slice A ds.length c] 25)).heap.size := by simp
  have HF := Lib.hid (hF _ hv0)
  have HN := Lib.hid hN
  have HY := Lib.hid hY
  have HA := Lib.hid hA
  have HR := Lib.hid hR
  have HRR := Lib.hid hRR
  have HTT := Lib.hid hTT
  have HX := Lib.hid hX
  have HB := Lib.hid hB
  have HXL := Lib.hid hXL
  clear hF hN hY hA hR hRR hTT hX hB hv0 hXL hqw hqo hqe he hv hp63 hw
  show Calls _ _ #[.agg #[.int .i64 many, .int .i64 set, .int .u64 ep, .int .u64 has, .slice A ds.length c]] _ _
  obtain ⟨qm, qs, qe, qh, L⟩ := q
  simp only [] at hql
  have hF1 : Calls Tryd.prog 11 #[.agg #[.int .i64 many, .int .i64 set, .int .u64 ep, .int .u64 has, .slice A ds.length c]] (w.alloc (.cells #[.int .i64 many, .int .i64 set, .int .u64 ep, .int .u64 has, .slice A ds.length c] 25)) fun e w' => (∃ A2 c2, e = .returned (.agg #[.int .i64 qm, .int .i64 qs, .int .u64 qe, .int .u64 qh, .slice A2 L.length c2]) ∧ DdsV (Fresh (w.alloc (.cells #[.int .i64 many, .int .i64 set, .int .u64 ep, .int .u64 has, .slice A ds.length c] 25)).heap.size) w' L A2 c2) ∧ Below (w.alloc (.cells #[.int .i64 many, .int .i64 set, .int .u64 ep, .int .u64 has, .slice A ds.length c] 25)).heap.size (w.alloc (.cells #[.int .i64 many, .int .i64 set, .int .u64 ep, .int .u64 has, .slice A ds.length c] 25)) w' := HF.out
  have HF := Lib.hid hF1
  clear hF1
  go_enter Tryd.func4, Tryd.ntmps4
  go_wp2_with fail
  refine HF.out.mono ?_
  rintro e w1 ⟨⟨A2, c2, rfl, hd⟩, hb1⟩
  have HX1 := Lib.hid ((hb1.block _ HXL.out).trans HX.out)
  have HB1 := Lib.hid (below_call HB.out HB.out.size hb1)
  have HBS := box_set (a' := .int .i64 qm) (b' := .int .i64 qs) (c' := .int .u64 qe) (d' := .int .u64 qh) (e' := .slice A2 L.length c2) HX1.out HB1.out (Nat.le_refl _)
  have HBX := Lib.hid HBS.1
  have HBB := Lib.hid HBS.2
  have HD := Lib.hid (dds_set5 (a' := .int .i64 qm) (b' := .int .i64 qs) (c' := .int .u64 qe) (d' := .int .u64 qh) (e' := .slice A2 L.length c2) hd HXL.out)
  clear HBS hd hb1 HF HX HB HXL
  have x0 := rc HX1.out 0 rfl
  have fx0 := rf HX1.out 0
  have x1 := rc HX1.out 1 rfl
  have fx1 := rf HX1.out 1
  have x2 := rc HX1.out 2 rfl
  have fx2 := rf HX1.out 2
  have x3 := rc HX1.out 3 rfl
  have fx3 := rf HX1.out 3
  have x4 := rc HX1.out 4 rfl
  have fx4 := rf HX1.out 4
  go_wp2_with fail
  show Calls _ _ _ (set5 w1 w.heap.size (.int .i64 qm) (.int .i64 qs) (.int .u64 qe) (.int .u64 qh) (.slice A2 L.length c2)) _
  generalize (set5 w1 w.heap.size (.int .i64 qm) (.int .i64 qs) (.int .u64 qe) (.int .u64 qh) (.slice A2 L.length c2)) = W1 at HBX HBB HD ⊢
  clear x0 x1 x2 x3 x4 fx0 fx1 fx2 fx3 fx4 HX1 HB1
  have hR1 : ∀ W, DdsV Any W L A2 c2 → Calls Tryd.prog 14 #[.agg #[.int .i64 qm, .int .i64 qs, .int .u64 qe, .int .u64 qh, .slice A2 L.length c2]] W fun e w' => e = .returned (.bool (okP ⟨qm, qs, qe, qh, L⟩)) ∧ Below W.heap.size W w' := fun W h => HR.out A2 c2 W h
  have hR2 : ∀ W, DdsV Any W L A2 c2 → Calls Tryd.prog 13 #[.agg #[.int .i64 qm, .int .i64 qs, .int .u64 qe, .int .u64 qh, .slice A2 L.length c2]] W fun e w' => e = .returned (.bool (okP ⟨qm, qs, qe, qh, L⟩)) ∧ Below W.heap.size W w' := fun W h => HRR.out A2 c2 W h
  clear HR HRR
  cases hok : okP ⟨qm, qs, qe, qh, L⟩ with
  | false =>
    rw [hok] at hR1 hR2
    have hN1 : Calls Tryd.prog 12 #[.agg #[.int .i64 qm, .int .i64 qs, .int .u64 qe, .int .u64 qh, .slice A2 L.length c2]] W1 fun e w' => e = .returned (.tuple #[.string (bs []), .int .i64 1]) ∧ Below W1.heap.size W1 w' := HN.out hok A2 c2 _ HD.out
    have HN1 := Lib.hid hN1
    have HR1 := Lib.hid hR1
    have HR2 := Lib.hid hR2
    clear hN1 HN HY HTT hok hR1 hR2
    refine HN1.out.mono ?_
    rintro e w2 ⟨rfl, hb2⟩
    have HX2 := Lib.hid ((hb2.block _ (Array.getElem?_eq_some_iff.1 HBX.out).1).trans HBX.out)
    have HB2 := Lib.hid (below_call HBB.out HBB.out.size hb2)
    have HD2 := Lib.hid (Rep.keep HD.out hb2)
    clear hb2 HBX HBB HD
    have x0 := rc HX2.out 0 rfl
    have x1 := rc HX2.out 1 rfl
    have x2 := rc HX2.out 2 rfl
    have x3 := rc HX2.out 3 rfl
    have x4 := rc HX2.out 4 rfl
    clear HN1
    go_wp2_with fail
    refine (HR2.out _ HD2.out).mono ?_
    rintro e w3 ⟨rfl, hb3⟩
    clear x0 x1 x2 x3 x4
    have HX3 := Lib.hid ((hb3.block _ (Array.getElem?_eq_some_iff.1 HX2.out).1).trans HX2.out)
    have HB3 := Lib.hid (below_call HB2.out HB2.out.size hb3)
    have HD3 := Lib.hid (Rep.keep HD2.out hb3)
    clear hb3 HX2 HB2 HD2
    clear HR2
    go_wp2_with fail
    refine (HA.out _ HB3.out).mono ?_
    rintro e w4 ⟨rfl, hb4⟩
    have HX4 := Lib.hid ((hb4.block _ (Array.getElem?_eq_some_iff.1 HX3.out).1).trans HX3.out)
    have HB4 := Lib.hid (below_call HB3.out HB3.out.size hb4)
    have HD4 := Lib.hid (Rep.keep HD3.out hb4)
    clear hb4 HX3 HB3 HD3
    have x0 := rc HX4.out 0 rfl
    have x1 := rc HX4.out 1 rfl
    have x2 := rc HX4.out 2 rfl
    have x3 := rc HX4.out 3 rfl
    have x4 := rc HX4.out 4 rfl
    clear HA
    go_wp2_with fail
    refine (HR1.out _ HD4.out).mono ?_
    rintro e w5 ⟨rfl, hb5⟩
    clear x0 x1 x2 x3 x4
    have HB5 := Lib.hid (below_call HB4.out HB4.out.size hb5)
    clear hb5 HR1
    go_wp2_with fail
    go_ret
    exact ⟨rfl, HB5.out⟩
  | true =>
    rw [hok] at hR1 hR2
    have hY1 : Calls Tryd.prog 12 #[.agg #[.int .i64 qm, .int .i64 qs, .int .u64 qe, .int .u64 qh, .slice A2 L.length c2]] W1 fun e w' => e = .returned (.tuple #[.string (bs (textP ⟨qm, qs, qe, qh, L⟩)), .int .i64 0]) ∧ Below W1.heap.size W1 w' := HY.out hok A2 c2 _ HBB.out HD.out
    have hT1 : ∀ W, Below w.heap.size w W → DdsV Any W L A2 c2 → Calls Tryd.prog 15 #[.agg #[.int .i64 qm, .int .i64 qs, .int .u64 qe, .int .u64 qh, .slice A2 L.length c2]] W fun e w' => e = .returned (.string (bs (textP ⟨qm, qs, qe, qh, L⟩))) ∧ Below W.heap.size W w' := fun W hb h => HTT.out hok A2 c2 W hb h
    obtain ⟨T, hT⟩ : ∃ T, textP ⟨qm, qs, qe, qh, L⟩ = T := ⟨_, rfl⟩
    rw [hT] at hY1 hT1
    have HY1 := Lib.hid hY1
    have HT1 := Lib.hid hT1
    have HR1 := Lib.hid hR1
    have HR2 := Lib.hid hR2
    clear hY1 hT1 HN HY HTT hok hR1 hR2 hT
    refine HY1.out.mono ?_
    rintro e w2 ⟨rfl, hb2⟩
    have HX2 := Lib.hid ((hb2.block _ (Array.getElem?_eq_some_iff.1 HBX.out).1).trans HBX.out)
    have HB2 := Lib.hid (below_call HBB.out HBB.out.size hb2)
    have HD2 := Lib.hid (Rep.keep HD.out hb2)
    clear hb2 HBX HBB HD
    have x0 := rc HX2.out 0 rfl
    have x1 := rc HX2.out 1 rfl
    have x2 := rc HX2.out 2 rfl
    have x3 := rc HX2.out 3 rfl
    have x4 := rc HX2.out 4 rfl
    clear HY1
    go_wp2_with fail
    refine (HR2.out _ HD2.out).mono ?_
    rintro e w3 ⟨rfl, hb3⟩
    clear x0 x1 x2 x3 x4
    have HX3 := Lib.hid ((hb3.block _ (Array.getElem?_eq_some_iff.1 HX2.out).1).trans HX2.out)
    have HB3 := Lib.hid (below_call HB2.out HB2.out.size hb3)
    have HD3 := Lib.hid (Rep.keep HD2.out hb3)
    clear hb3 HX2 HB2 HD2
    clear HR2
    go_wp2_with fail
    refine (HA.out _ HB3.out).mono ?_
    rintro e w4 ⟨rfl, hb4⟩
    have HX4 := Lib.hid ((hb4.block _ (Array.getElem?_eq_some_iff.1 HX3.out).1).trans HX3.out)
    have HB4 := Lib.hid (below_call HB3.out HB3.out.size hb4)
    have HD4 := Lib.hid (Rep.keep HD3.out hb4)
    clear hb4 HX3 HB3 HD3
    have x0 := rc HX4.out 0 rfl
    have x1 := rc HX4.out 1 rfl
    have x2 := rc HX4.out 2 rfl
    have x3 := rc HX4.out 3 rfl
    have x4 := rc HX4.out 4 rfl
    clear HA
    go_wp2_with fail
    refine (HR1.out _ HD4.out).mono ?_
    rintro e w5 ⟨rfl, hb5⟩
    clear x0 x1 x2 x3 x4
    have HX5 := Lib.hid ((hb5.block _ (Array.getElem?_eq_some_iff.1 HX4.out).1).trans HX4.out)
    have HB5 := Lib.hid (below_call HB4.out HB4.out.size hb5)
    have HD5 := Lib.hid (Rep.keep HD4.out hb5)
    clear hb5 HX4 HB4 HD4
    have x0 := rc HX5.out 0 rfl
    have x1 := rc HX5.out 1 rfl
    have x2 := rc HX5.out 2 rfl
    have x3 := rc HX5.out 3 rfl
    have x4 := rc HX5.out 4 rfl
    clear HR1
    go_wp2_with fail
    refine (HT1.out _ HB5.out HD5.out).mono ?_
    rintro e w6 ⟨rfl, hb6⟩
    clear x0 x1 x2 x3 x4
    have HB6 := Lib.hid (below_call HB5.out HB5.out.size hb6)
    clear hb6 HT1
    go_wp2_with fail
    go_ret
    exact ⟨by first | rfl | simp, HB6.out⟩
end Go.Proofs.YtggiicbjegmehaaDoor
