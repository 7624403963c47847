/- The walk of ecclesialaw27.ScriptLines. -/
import Derived.Test.YtggiicbjegmehaaDoorScY
namespace Go.Proofs.YtggiicbjegmehaaDoor
set_option linter.unusedVariables false
set_option linter.unusedSimpArgs false
open Go.RowKit

set_option maxRecDepth 100000 in
set_option maxHeartbeats 16000000 in
theorem scriptLines_any (p : Pl) (hw : WfP p) (hp63 : ∀ d ∈ p.ds, d.b.length ≤ 9223372036854775807) (A : Option Addr) (c : Nat) (w : World) (he : Env w) (hv : DdsV Any w p.ds A c) :
    Calls Tryd.prog 6 #[.agg (plC p A c).toArray] w fun e w' => e = .returned (.bool true) ∧ Below w.heap.size w w' := by
  obtain ⟨many, set, ep, has, ds⟩ := p
  have hF : ∀ (W : World), DdsV Any W ds A c → Calls Tryd.prog 11 #[.agg #[.int .i64 many, .int .i64 set, .int .u64 ep, .int .u64 has, .slice A ds.length c]] W fun e w' => (∃ A2 c2, e = .returned (.agg (plC (fewP ⟨many, set, ep, has, ds⟩) A2 c2).toArray) ∧ DdsV (Fresh W.heap.size) w' (fewP ⟨many, set, ep, has, ds⟩).ds A2 c2) ∧ Below W.heap.size W w' := fun W h => few_any ⟨many, set, ep, has, ds⟩ hp63 A c W h
  have hqw := fewP_wf hw
  have hqo := fewP_ok hw
  have hql := fewP_len ⟨many, set, ep, has, ds⟩
  obtain ⟨q, hqe⟩ : ∃ q, fewP ⟨many, set, ep, has, ds⟩ = q := ⟨_, rfl⟩
  rw [hqe] at hF hqw hqo hql
  have hN := fun (h : okP q = false) A2 c2 (W : World) (hd : DdsV Any W q.ds A2 c2) => Print_no q hqw hqo h A2 c2 W hd
  have hY := fun (h : okP q = true) A2 c2 (W : World) (hb : Below w.heap.size w W) (hd : DdsV Any W q.ds A2 c2) => Print_any q hqw hqo h A2 c2 W (he.keep hb) hd
  have hA := fun (W : World) (hb : Below w.heap.size w W) => alive_any W (he.keep hb)
  have hC := fun (s : Bytes) (hs : s.length ≤ 100000000) (W : World) (hb : Below w.heap.size w W) => cutS_any s hs W (he.keep hb)
  have hPA := fun (s : Bytes) (hs : s.length ≤ 10000000) (W : World) (hb : Below w.heap.size w W) => Parse_any s hs W (he.keep hb)
  have hX := heap_alloc_new w (.cells #[.int .i64 many, .int .i64 set, .int .u64 ep, .int .u64 has, .slice A ds.length c] 25)
  have hB := (Below.refl w.heap.size w).alloc (Nat.le_refl _) (.cells #[.int .i64 many, .int .i64 set, .int .u64 ep, .int .u64 has, .slice A ds.length c] 25)
  have hv0 := Rep.keep hv hB
  have hXL : w.heap.size < (w.alloc (.cells #[.int .i64 many, .int .i64 set, .int .u64 ep, .int .u64 has, .slice A ds.length c] 25)).heap.size := by simp
  have HF := Lib.hid (hF _ hv0)
  have HN := Lib.hid hN
  have HY := Lib.hid hY
  have HA := Lib.hid hA
  have HC := Lib.hid hC
  have HPA := Lib.hid hPA
  have HX := Lib.hid hX
  have HB := Lib.hid hB
  have HXL := Lib.hid hXL
  have HQW := Lib.hid hqw
  clear hF hN hY hA hC hPA hX hB hv0 hXL hqw hqo hqe he hv hp63 hw
  show Calls _ _ #[.agg #[.int .i64 many, .int .i64 set, .int .u64 ep, .int .u64 has, .slice A ds.length c]] _ _
  obtain ⟨qm, qs, qe, qh, L⟩ := q
  simp only [] at hql
  have hF1 : Calls Tryd.prog 11 #[.agg #[.int .i64 many, .int .i64 set, .int .u64 ep, .int .u64 has, .slice A ds.length c]] (w.alloc (.cells #[.int .i64 many, .int .i64 set, .int .u64 ep, .int .u64 has, .slice A ds.length c] 25)) fun e w' => (∃ A2 c2, e = .returned (.agg #[.int .i64 qm, .int .i64 qs, .int .u64 qe, .int .u64 qh, .slice A2 L.length c2]) ∧ DdsV (Fresh (w.alloc (.cells #[.int .i64 many, .int .i64 set, .int .u64 ep, .int .u64 has, .slice A ds.length c] 25)).heap.size) w' L A2 c2) ∧ Below (w.alloc (.cells #[.int .i64 many, .int .i64 set, .int .u64 ep, .int .u64 has, .slice A ds.length c] 25)).heap.size (w.alloc (.cells #[.int .i64 many, .int .i64 set, .int .u64 ep, .int .u64 has, .slice A ds.length c] 25)) w' := HF.out
  have HF := Lib.hid hF1
  clear hF1
  go_enter Tryd.func6, Tryd.ntmps6
  go_wp2_with fail
  refine HF.out.mono ?_
  rintro e w1 ⟨⟨A2, c2, rfl, hd⟩, hb1⟩
  have HX1 := Lib.hid ((hb1.block _ HXL.out).trans HX.out)
  have HB1 := Lib.hid (below_call HB.out HB.out.size hb1)
  have HBS := box_set (a' := .int .i64 qm) (b' := .int .i64 qs) (c' := .int .u64 qe) (d' := .int .u64 qh) (e' := .slice A2 L.length c2) HX1.out HB1.out (Nat.le_refl _)
  have HBX := Lib.hid HBS.1
  have HBB := Lib.hid HBS.2
  have HD := Lib.hid (dds_set5 (a' := .int .i64 qm) (b' := .int .i64 qs) (c' := .int .u64 qe) (d' := .int .u64 qh) (e' := .slice A2 L.length c2) hd HXL.out)
  clear HBS hd hb1 HF HX HB HXL
  have x0 := rc HX1.out 0 rfl
  have fx0 := rf HX1.out 0
  have x1 := rc HX1.out 1 rfl
  have fx1 := rf HX1.out 1
  have x2 := rc HX1.out 2 rfl
  have fx2 := rf HX1.out 2
  have x3 := rc HX1.out 3 rfl
  have fx3 := rf HX1.out 3
  have x4 := rc HX1.out 4 rfl
  have fx4 := rf HX1.out 4
  go_wp2_with fail
  show Calls _ _ _ (set5 w1 w.heap.size (.int .i64 qm) (.int .i64 qs) (.int .u64 qe) (.int .u64 qh) (.slice A2 L.length c2)) _
  generalize (set5 w1 w.heap.size (.int .i64 qm) (.int .i64 qs) (.int .u64 qe) (.int .u64 qh) (.slice A2 L.length c2)) = W1 at HBX HBB HD ⊢
  clear x0 x1 x2 x3 x4 fx0 fx1 fx2 fx3 fx4 HX1 HB1
  cases hok : okP ⟨qm, qs, qe, qh, L⟩ with
  | false =>
    have hN1 : Calls Tryd.prog 12 #[.agg #[.int .i64 qm, .int .i64 qs, .int .u64 qe, .int .u64 qh, .slice A2 L.length c2]] W1 fun e w' => e = .returned (.tuple #[.string (bs []), .int .i64 1]) ∧ Below W1.heap.size W1 w' := HN.out hok A2 c2 _ HD.out
    have HN1 := Lib.hid hN1
    clear hN1
    clear HN HY hok
    refine HN1.out.mono ?_
    rintro e w2 ⟨rfl, hb2⟩
    have HB2 := Lib.hid (below_call HBB.out HBB.out.size hb2)
    clear hb2 HN1
    go_wp2_with fail
    refine (HA.out _ HB2.out).mono ?_
    rintro e w3 ⟨rfl, hb3⟩
    have HB3 := Lib.hid (below_call HB2.out HB2.out.size hb3)
    clear hb3
    go_wp2_with fail
    go_ret
    exact ⟨rfl, HB3.out⟩
  | true =>
    have hY1 : Calls Tryd.prog 12 #[.agg #[.int .i64 qm, .int .i64 qs, .int .u64 qe, .int .u64 qh, .slice A2 L.length c2]] W1 fun e w' => e = .returned (.tuple #[.string (bs (textP ⟨qm, qs, qe, qh, L⟩)), .int .i64 0]) ∧ Below W1.heap.size W1 w' := HY.out hok A2 c2 _ HBB.out HD.out
    have HY1 := Lib.hid hY1
    clear hY1
    have htl := text_len HQW.out hok
    have hcut := text_cut ⟨qm, qs, qe, qh, L⟩
    have hpr := parse_rest hok
    have hpm := parse_more HQW.out hok
    have hcnt := text_count hok
    have htl2 : (linesP L).length ≤ (textP ⟨qm, qs, qe, qh, L⟩).length := by rw [textP_lines]; simp; omega
    obtain ⟨T, hT⟩ : ∃ T, textP ⟨qm, qs, qe, qh, L⟩ = T := ⟨_, rfl⟩
    obtain ⟨F, hFF⟩ : ∃ F, firstP ⟨qm, qs, qe, qh, L⟩ = F := ⟨_, rfl⟩
    obtain ⟨R, hR⟩ : ∃ R, linesP L = R := ⟨_, rfl⟩
    rw [hT] at htl hcut hpm hcnt htl2 HY1
    rw [hFF] at htl hcut hpm
    simp only [] at hcut hpr hpm hcnt
    rw [hR] at hcut hpr htl2
    have htl1 := htl.1
    have htl3 := htl.2
    have hCT := HC.out T (by omega)
    rw [hcut] at hCT
    have hPR := HPA.out R (by omega)
    rw [List.append_assoc] at hpm
    have hPM := HPA.out (T ++ (F ++ [10])) (by simp only [List.length_append, List.length_cons, List.length_nil]; omega)
    have hTI : (T.length : Int) ≤ 9000000 := by omega
    have hFI : (F.length : Int) ≤ 1000 := by omega
    have hcat : bs (T ++ F) ++ (⟨#[10]⟩ : ByteArray) = bs (T ++ F ++ [10]) := bs_append (T ++ F) [10]
    have hZ : ∀ (s : Bytes) (v : Value) (W : World) (n : Int), parseP s = (none, n) → ParseR s v W → v = .tuple #[.agg #[.int .i64 0, .int .i64 0, .int .u64 0, .int .u64 0, .slice none 0 0], .int .i64 250, .int .i64 n] := by
      intro s v W n hs hp
      obtain ⟨q, A, c, r, n', rfl, _, h⟩ := hp
      rw [hs] at h
      rcases h with ⟨h, _⟩ | ⟨h, rfl, rfl, rfl, rfl⟩
      · cases h
      · injection h with _ h
        subst h
        rfl
    have HCT := Lib.hid hCT
    have HPR := Lib.hid (fun W hb => (hPR W hb).mono (fun e w' h => by obtain ⟨⟨v, h1, h2⟩, h3⟩ := h; rw [hZ R v w' 1 hpr h2] at h1; exact (⟨h1, h3⟩ : e = .returned (.tuple #[.agg #[.int .i64 0, .int .i64 0, .int .u64 0, .int .u64 0, .slice none 0 0], .int .i64 250, .int .i64 1]) ∧ Below W.heap.size W w')))
    have HPM := Lib.hid (fun W hb => (hPM W hb).mono (fun e w' h => by obtain ⟨⟨v, h1, h2⟩, h3⟩ := h; rw [hZ _ v w' _ hpm h2] at h1; exact (⟨h1, h3⟩ : e = .returned (.tuple #[.agg #[.int .i64 0, .int .i64 0, .int .u64 0, .int .u64 0, .slice none 0 0], .int .i64 250, .int .i64 ((L.length : Int) + 2)]) ∧ Below W.heap.size W w')))
    have HCN : Hid (∀ W : World, Calls Tryd.prog 17 #[.string (bs T), .string ⟨#[10]⟩] W fun e w' => e = .returned (.int .i64 ((L.length : Int) + 1)) ∧ w' = W) := Lib.hid (fun W => by
      have h := strings_Count_one (bs T) 10 W
      have e : ((Lib.countByte (bs T).data.toList 10 : Nat) : Int) = (L.length : Int) + 1 := by
        show ((T.count 10 : Nat) : Int) = _
        rw [hcnt]; omega
      rw [e] at h
      exact h)
    have hw1 : IntKind.i64.wrap ((L.length : Int) + 1) = (L.length : Int) + 1 := IntWalk.i64_in _ (by omega)
    have hw2 : IntKind.i64.wrap ((L.length : Int) + 2) = (L.length : Int) + 2 := IntWalk.i64_in _ (by omega)
    clear HN HY hok hCT hPR hPM hcnt hpm hpr hcut htl htl1 htl2 htl3 hZ HPA HC hT hFF hR HQW
    have HTI := Lib.hid hTI
    have HFI := Lib.hid hFI
    have HCAT := Lib.hid hcat
    clear hTI hFI hcat
    refine HY1.out.mono ?_
    rintro e w2 ⟨rfl, hb2⟩
    have HX2 := Lib.hid ((hb2.block _ (Array.getElem?_eq_some_iff.1 HBX.out).1).trans HBX.out)
    have HB2 := Lib.hid (below_call HBB.out HBB.out.size hb2)
    clear hb2 HY1 HD HBX HBB
    go_wp2_with fail
    refine (HCT.out _ HB2.out).mono ?_
    rintro e w3 ⟨rfl, hb3⟩
    have HX3 := Lib.hid ((hb3.block _ (Array.getElem?_eq_some_iff.1 HX2.out).1).trans HX2.out)
    have HB3 := Lib.hid (below_call HB2.out HB2.out.size hb3)
    clear hb3 HCT HX2 HB2
    go_wp2_with fail
    refine (HPR.out _ HB3.out).mono ?_
    rintro e w4 ⟨rfl, hb4⟩
    have HX4 := Lib.hid ((heap_alloc_old w4 (.cells #[.int .i64 0, .int .i64 0, .int .u64 0, .int .u64 0, .slice none 0 0] 25) (by have := hb4.size; have := (Array.getElem?_eq_some_iff.1 HX3.out).1; omega)).trans ((hb4.block _ (Array.getElem?_eq_some_iff.1 HX3.out).1).trans HX3.out))
    have HB4 := Lib.hid ((below_call HB3.out HB3.out.size hb4).alloc (below_call HB3.out HB3.out.size hb4).size (.cells #[.int .i64 0, .int .i64 0, .int .u64 0, .int .u64 0, .slice none 0 0] 25))
    clear hb4 HPR HX3 HB3
    have hTI := HTI.out
    have hFI := HFI.out
    have hcat := HCAT.out
    go_wp2_with fail
    refine (HPM.out _ HB4.out).mono ?_
    rintro e w5 ⟨rfl, hb5⟩
    have hX := ((heap_alloc_old w5 (.cells #[.int .i64 0, .int .i64 0, .int .u64 0, .int .u64 0, .slice none 0 0] 25) (by have := hb5.size; have := (Array.getElem?_eq_some_iff.1 HX4.out).1; omega)).trans ((hb5.block _ (Array.getElem?_eq_some_iff.1 HX4.out).1).trans HX4.out))
    have hB := ((below_call HB4.out HB4.out.size hb5).alloc (below_call HB4.out HB4.out.size hb5).size (.cells #[.int .i64 0, .int .i64 0, .int .u64 0, .int .u64 0, .slice none 0 0] 25))
    have HXX := Lib.hid hX
    have HBX := Lib.hid hB
    clear hb5 HPM HX4 HB4 hX hB hTI hFI hcat
    go_wp2_with fail
    have hX := HXX.out
    have hB := HBX.out.drew
    replace hX : (w5.alloc (.cells #[.int .i64 0, .int .i64 0, .int .u64 0, .int .u64 0, .slice none 0 0] 25)).drew.heap[w.heap.size]? = _ := hX
    clear HXX HBX
    refine wp_region_R [(99, fun w' => w'.heap[w.heap.size]? = some (.cells #[.int .i64 qm, .int .i64 qs, .int .u64 qe, .int .u64 qh, .slice A2 L.length c2] 25 (0, 0)))] (by kernel_rfl) ?_
    generalize (w5.alloc (.cells #[.int .i64 0, .int .i64 0, .int .u64 0, .int .u64 0, .slice none 0 0] 25)).drew = W at hX hB ⊢
    refine R_now 0 fun K hK => ?_
    go_simp
    refine (HA.out _ hB).mono ?_
    rintro e w6 ⟨rfl, hb6⟩
    replace hX := (hb6.block _ (Array.getElem?_eq_some_iff.1 hX).1).trans hX
    replace hB := below_call hB hB.size hb6
    clear hb6
    refine hK.out _ _ (Meets.here hX Meets.nil) (fun hMeets => ?_)
    clear hK K hMeets
    refine lay_R ?_
    refine R_p (i := 1) (v := .bool true) (Meets.here hX Meets.nil) ?_
    refine R_p (i := 2) (v := .string (bs T)) (Meets.here hX Meets.nil) ?_
    refine R_p (i := 4) (v := .pointer (some ⟨w.heap.size, 4, none⟩)) (Meets.here hX Meets.nil) ?_
    refine R_l (i := 5) (v := .slice A2 L.length c2) 99 _ List.mem_cons_self rfl (yieldsIf_load_cell rfl rfl rfl (fun w' hS => rc hS 4 rfl) Tryd.underlying23 rfl) (Meets.here hX Meets.nil) ?_
    refine R_p (i := 6) (v := .int .i64 (L.length : Int)) (Meets.here hX Meets.nil) ?_
    refine R_p (i := 7) (v := .int .i64 ((L.length : Int) + 1)) (Meets.here hX Meets.nil) ?_
    refine R_now 3 fun K hK => ?_
    go_simp
    refine (HCN.out _).mono ?_
    rintro e w7 ⟨rfl, rfl⟩
    refine hK.out _ _ (Meets.here hX Meets.nil) (fun hMeets => ?_)
    clear hK K hMeets
    refine lay_R ?_
    refine R_p (i := 8) (v := .bool true) (Meets.here hX Meets.nil) ?_
    refine R_p (i := 9) (v := .bool true) (Meets.here hX Meets.nil) ?_
    refine R_p (i := 10) (v := .bool true) (Meets.here hX Meets.nil) ?_
    refine R_p (i := 11) (v := .int .i64 250) (Meets.here hX Meets.nil) ?_
    refine R_p (i := 12) (v := .bool true) (Meets.here hX Meets.nil) ?_
    refine R_p (i := 13) (v := .bool true) (Meets.here hX Meets.nil) ?_
    refine R_p (i := 14) (v := .bool true) (Meets.here hX Meets.nil) ?_
    refine R_p (i := 15) (v := .int .i64 1) (Meets.here hX Meets.nil) ?_
    refine R_p (i := 16) (v := .bool true) (Meets.here hX Meets.nil) ?_
    refine R_p (i := 17) (v := .bool true) (Meets.here hX Meets.nil) ?_
    refine R_p (i := 18) (v := .bool true) (Meets.here hX Meets.nil) ?_
    refine R_p (i := 19) (v := .int .i64 250) (Meets.here hX Meets.nil) ?_
    refine R_p (i := 20) (v := .bool true) (Meets.here hX Meets.nil) ?_
    refine R_p (i := 21) (v := .bool true) (Meets.here hX Meets.nil) ?_
    refine R_p (i := 22) (v := .bool true) (Meets.here hX Meets.nil) ?_
    refine R_p (i := 23) (v := .int .i64 ((L.length : Int) + 2)) (Meets.here hX Meets.nil) ?_
    refine R_p (i := 24) (v := .pointer (some ⟨w.heap.size, 4, none⟩)) (Meets.here hX Meets.nil) ?_
    refine R_l (i := 25) (v := .slice A2 L.length c2) 99 _ List.mem_cons_self rfl (yieldsIf_load_cell rfl rfl rfl (fun w' hS => rc hS 4 rfl) Tryd.underlying23 rfl) (Meets.here hX Meets.nil) ?_
    refine R_p (i := 26) (v := .int .i64 (L.length : Int)) (Meets.here hX Meets.nil) ?_
    refine R_p (i := 27) (v := .int .i64 ((L.length : Int) + 2)) (Meets.here hX Meets.nil) ?_
    refine R_p (i := 28) (v := .bool true) (Meets.here hX Meets.nil) ?_
    refine R_p (i := 29) (v := .bool true) (Meets.here hX Meets.nil) ?_
    refine R_p (i := 30) (v := .bool true) (Meets.here hX Meets.nil) ?_
    refine R_done (by kernel_rfl) ?_ _
    have HBE := Lib.hid hB
    clear hX hB
    go_wp2_with fail
    go_ret
    exact ⟨rfl, HBE.out⟩
end Go.Proofs.YtggiicbjegmehaaDoor
