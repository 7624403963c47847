/- The walks of Of at accounts, and of the reference's Total and Of. -/
import Derived.Test.YtggiicbjegmehaaGreatZ43
import Derived.Test.YtggiicbjegmehaaGreatZ44
import Derived.Test.YtggiicbjegmehaaGreatZ03
namespace Go.Proofs.YtggiicbjegmehaaGreat
set_option linter.unusedVariables false
set_option linter.unusedSimpArgs false
open Go.RowKit
set_option maxRecDepth 100000 in
set_option maxHeartbeats 2000000 in
theorem refTotal_any (l : List Ac) (hl : l.length ≤ 1000) (A : Option Addr) (c : Nat) (w : World) (hv : AcsV Any w l A c) :
    Calls Tryz.prog 10 #[.slice A l.length c] w fun e w' => e = .returned (.int .u64 (totalS l)) ∧ Below w.heap.size w w' := by
  have HV := Lib.hid (Rep.old hv)
  have hlI : (l.length : Int) ≤ 1000 := by omega
  clear hv
  go_enter Tryz.func10, Tryz.ntmps10
  go_wp2_with fail
  go_loopw [3, 8] (fun n a wr => ∃ i m : Nat, a = .int .i64 i ∧ n = .int .u64 m ∧ i ≤ l.length ∧ Hid (m = totalS (l.take i)) ∧ Below w.heap.size w wr) (fun _ a _ => l.length - (intOf a).toNat)
  case atStart => exact ⟨0, 0, rfl, rfl, Nat.zero_le _, Lib.hid rfl, Below.refl _ _⟩
  case round =>
    obtain ⟨i, m, rfl, rfl, hi, hm, hB⟩ := hrel
    have hBs := hB.size
    by_cases hlt : i < l.length
    · obtain ⟨a, ha⟩ := getElem_ex hlt
      obtain ⟨g, o, rfl, hgo, hc⟩ := acs_at HV.out ha
      have hltI : (i : Int) < l.length := by omega
      have q0 := (hB.cell (p := ⟨g, o + i * 3 + 0, none⟩) hgo).trans (hc 0 _ rfl)
      have q1 := (hB.cell (p := ⟨g, o + i * 3 + 1, none⟩) hgo).trans (hc 1 _ rfl)
      have q2 := (hB.cell (p := ⟨g, o + i * 3 + 2, none⟩) hgo).trans (hc 2 _ rfl)
      simp only [Nat.add_zero] at q0
      have HT := Lib.hid (total_step ha)
      have hw := wrap_u64 m a.bal
      have HB := Lib.hid hB
      clear ha hc hB
      go_wp2_with fail
      go_roundw
      case rel => exact ⟨i + 1, (m + a.bal) % 18446744073709551616, by go_num, by simp, by omega, Lib.hid (by rw [HT.out, hm.out]), HB.out.alloc hBs _⟩
      case measure => simp [intOf]; omega
    · obtain rfl : i = l.length := by omega
      have HM : Hid (m = totalS l) := Lib.hid (by rw [hm.out, List.take_length])
      go_wp2_with fail
      go_ret
      rw [← HM.out]
      exact ⟨rfl, hB⟩
set_option maxRecDepth 100000 in
set_option maxHeartbeats 2000000 in
theorem Of1_any (a : Ac) (k : Bytes) (T : Nat) (w : World) (hT : w.cell? ⟨T, 0, none⟩ = some (.string (bs k))) :
    Calls Tryz.prog 34 #[.agg (acC a).toArray, .pointer (some ⟨T, 0, none⟩)] w fun e w' => e = .returned (.bool (a.addr == k)) ∧ Below w.heap.size w w' := by
  obtain ⟨s, b, n⟩ := a
  show Calls _ _ #[.agg #[.string (bs s), .int .u64 (b : Int), .int .u64 (n : Int)], _] _ _
  have hT1 := ca hT (.cells #[.string (bs s), .int .u64 (b : Int), .int .u64 (n : Int)] 31)
  have hb := (Below.refl w.heap.size w).alloc (Nat.le_refl _) (.cells #[.string (bs s), .int .u64 (b : Int), .int .u64 (n : Int)] 31)
  go_enter Tryz.func34, Tryz.ntmps34
  go_wp2_with fail
  go_ret
  exact ⟨rfl, hb⟩
/-- where an address stands in a row, and its account -/
def IdxA (l : List Ac) (k : Bytes) (r : Int) : Prop := (r = -1 ∧ ofS l k = ⟨k, 0, 0⟩) ∨ ∃ i : Nat, r = i ∧ l[i]? = some (ofS l k)
set_option maxRecDepth 100000 in
set_option maxHeartbeats 4000000 in
theorem index15_any (l : List Ac) (hl : l.length ≤ 1000) (k : Bytes) (T : Nat) (A : Option Addr) (c : Nat) (w : World) (hv : AcsV Any w l A c) (hT : w.cell? ⟨T, 0, none⟩ = some (.string (bs k))) :
    Calls Tryz.prog 33 #[.slice A l.length c, .func (.func 34) #[] #[.pointer (some ⟨T, 0, none⟩)]] w fun e w' => (∃ r : Int, e = .returned (.int .i64 r) ∧ IdxA l k r) ∧ Below w.heap.size w w' := by
  have HV := Lib.hid (Rep.old hv)
  have hlI : (l.length : Int) ≤ 1000 := by omega
  have hTl := lt_of_cell hT
  have HT := Lib.hid hT
  clear hv hT
  go_enter Tryz.func33, Tryz.ntmps33
  go_wp2_with fail
  go_loopw [8] (fun a wr => ∃ i : Nat, a = .int .i64 i ∧ i ≤ l.length ∧ Hid (ofS l k = ofS (l.drop i) k) ∧ Below w.heap.size w wr) (fun a _ => l.length - (intOf a).toNat)
  case atStart => exact ⟨0, rfl, Nat.zero_le _, Lib.hid rfl, Below.refl _ _⟩
  case round =>
    obtain ⟨i, rfl, hi, hO, hB⟩ := hrel
    have hBs := hB.size
    by_cases hlt : i < l.length
    · obtain ⟨a, ha⟩ := getElem_ex hlt
      obtain ⟨g, o, rfl, hgo, hc⟩ := acs_at HV.out ha
      have hltI : (i : Int) < l.length := by omega
      have q0 := (hB.cell (p := ⟨g, o + i * 3 + 0, none⟩) hgo).trans (hc 0 _ rfl)
      have q1 := (hB.cell (p := ⟨g, o + i * 3 + 1, none⟩) hgo).trans (hc 1 _ rfl)
      have q2 := (hB.cell (p := ⟨g, o + i * 3 + 2, none⟩) hgo).trans (hc 2 _ rfl)
      simp only [Nat.add_zero] at q0
      have hst := of_step ha k
      rw [← hO.out] at hst
      have HC := Lib.hid (Of1_any a k T wr ((hB.cell (p := ⟨T, 0, none⟩) hTl).trans HT.out))
      have HA := Lib.hid ha
      have HS := Lib.hid hst
      have HB := Lib.hid hB
      clear ha hc hB hst
      go_wp2_with fail
      refine HC.out.mono ?_
      clear HC
      rintro e w1 ⟨rfl, hb1⟩
      have HB1 := Lib.hid (below_call HB.out hBs hb1)
      clear hb1 q0 q1 q2
      cases hk : (a.addr == k) with
      | true =>
        have HF : Hid (l[i]? = some (ofS l k)) := Lib.hid (by rw [HS.out, if_pos hk]; exact HA.out)
        clear hk
        go_wp2_with fail
        go_ret
        exact ⟨⟨_, rfl, .inr ⟨i, rfl, HF.out⟩⟩, HB1.out⟩
      | false =>
        have HF : Hid (ofS l k = ofS (l.drop (i + 1)) k) := Lib.hid (by rw [HS.out, if_neg (by rw [hk]; decide)])
        clear hk
        go_wp2_with fail
        go_roundw
        case rel => exact ⟨i + 1, by go_num, by omega, HF, HB1.out⟩
        case measure => simp [intOf]; omega
    · obtain rfl : i = l.length := by omega
      have HM : Hid (ofS l k = ⟨k, 0, 0⟩) := Lib.hid (by rw [hO.out, of_end])
      go_wp2_with fail
      go_ret
      exact ⟨⟨_, rfl, .inl ⟨rfl, HM.out⟩⟩, hB⟩
set_option maxRecDepth 100000 in
set_option maxHeartbeats 4000000 in
theorem Of15_any (l : List Ac) (hl : l.length ≤ 1000) (k : Bytes) (A : Option Addr) (c : Nat) (w : World) (hv : AcsV Any w l A c) :
    Calls Tryz.prog 11 #[.slice A l.length c, .string (bs k)] w fun e w' => e = .returned (.agg (acC (ofS l k)).toArray) ∧ Below w.heap.size w w' := by
  obtain ⟨W, hW⟩ : ∃ W, W = (w.alloc (.cells #[.string (bs k)] 9)).alloc (.cells #[.string ⟨#[]⟩, .int .u64 0, .int .u64 0] 31) := ⟨_, rfl⟩
  have hb : Below w.heap.size w W := by rw [hW]; exact ((Below.refl _ _).alloc (Nat.le_refl _) _).alloc (by simp) _
  have hT : W.cell? ⟨w.heap.size, 0, none⟩ = some (.string (bs k)) := by
    rw [hW]; exact ca (rc (heap_alloc_new w _) 0 rfl) _
  have hR : W.heap[w.heap.size + 1]? = some (.cells #[.string ⟨#[]⟩, .int .u64 0, .int .u64 0] 31 (0, 0)) := by
    rw [hW]
    have := heap_alloc_new (w.alloc (.cells #[.string (bs k)] 9)) (.cells #[.string ⟨#[]⟩, .int .u64 0, .int .u64 0] 31)
    rwa [World.size_alloc] at this
  have hC := index15_any l hl k w.heap.size A c W (hv.keep hb) hT
  have HT0 := Lib.hid hT
  rw [hW] at hb hR hC
  have HB := Lib.hid hb
  have HR := Lib.hid hR
  have HC := Lib.hid hC
  have HV := Lib.hid (Rep.old hv)
  rw [hW] at HT0
  have hlI : (l.length : Int) ≤ 1000 := by omega
  clear hW hb hR hC hT hv
  go_enter Tryz.func11, Tryz.ntmps11
  go_wp2_with fail
  refine HC.out.mono ?_
  clear HC
  rintro e w1 ⟨⟨r, rfl, hr⟩, hb1⟩
  have hR1 := (hb1.block _ (Array.getElem?_eq_some_iff.1 HR.out).1).trans HR.out
  have hT1 := (hb1.cell (p := ⟨w.heap.size, 0, none⟩) (lt_of_cell HT0.out)).trans HT0.out
  have hB1 := below_call HB.out HB.out.size hb1
  have c0 : w1.cell? ⟨w.heap.size + 1, 0, none⟩ = some (.string ⟨#[]⟩) := rc0 hR1
  have c1 : w1.cell? ⟨w.heap.size + 1, 1, none⟩ = some (.int .u64 0) := rc1 hR1
  have c2 : w1.cell? ⟨w.heap.size + 1, 2, none⟩ = some (.int .u64 0) := rc2 hR1
  have f0 := rf hR1 0
  have f1 := rf hR1 1
  have f2 := rf hR1 2
  have HR1 := Lib.hid hR1
  have HB1 := Lib.hid hB1
  clear hb1 hR1 hB1 HB HR HT0
  rcases hr with ⟨rfl, h0⟩ | ⟨i, rfl, hi⟩
  · have H0 := Lib.hid h0
    clear h0
    go_wp2_with fail
    have hfin := heap_setCell_here (heap_setCell_here (heap_setCell_here HR1.out (i := 0) (.string (bs k))) (i := 1) (.int .u64 0)) (i := 2) (.int .u64 0)
    exact bodyPost_ret (v := .agg #[.string (bs k), .int .u64 0, .int .u64 0]) (results_cell_row rfl _ _ (w.heap.size + 1) _ _ _ _ rfl hfin Tryz.underlying31 rfl infoA) rfl ⟨by rw [H0.out]; rfl, ((HB1.out.setCell (p := ⟨w.heap.size + 1, _, _⟩) (Nat.le_succ _) _).setCell (p := ⟨w.heap.size + 1, _, _⟩) (Nat.le_succ _) _).setCell (p := ⟨w.heap.size + 1, _, _⟩) (Nat.le_succ _) _⟩
  · obtain ⟨a, ha⟩ : ∃ a, ofS l k = a := ⟨_, rfl⟩
    rw [ha] at hi
    have HA := Lib.hid ha
    obtain ⟨g, o, rfl, hgo, hc⟩ := acs_at HV.out hi
    have hlt := (List.getElem?_eq_some_iff.1 hi).1
    have hltI : (i : Int) < l.length := by omega
    have hi0 : (0 : Int) ≤ i := by omega
    obtain ⟨s, b, n⟩ := a
    have q0 := (HB1.out.cell (p := ⟨g, o + i * 3 + 0, none⟩) hgo).trans (hc 0 _ rfl)
    have q1 := (HB1.out.cell (p := ⟨g, o + i * 3 + 1, none⟩) hgo).trans (hc 1 _ rfl)
    have q2 := (HB1.out.cell (p := ⟨g, o + i * 3 + 2, none⟩) hgo).trans (hc 2 _ rfl)
    simp only [Nat.add_zero] at q0 q1 q2
    clear ha hi hc HV
    go_wp2_with fail
    have hfin := heap_setCell_here (heap_setCell_here (heap_setCell_here HR1.out (i := 0) (.string (bs s))) (i := 1) (.int .u64 (b : Int))) (i := 2) (.int .u64 (n : Int))
    exact bodyPost_ret (v := .agg #[.string (bs s), .int .u64 (b : Int), .int .u64 (n : Int)]) (results_cell_row rfl _ _ (w.heap.size + 1) _ _ _ _ rfl hfin Tryz.underlying31 rfl infoA) rfl ⟨by rw [HA.out]; rfl, ((HB1.out.setCell (p := ⟨w.heap.size + 1, _, _⟩) (Nat.le_succ _) _).setCell (p := ⟨w.heap.size + 1, _, _⟩) (Nat.le_succ _) _).setCell (p := ⟨w.heap.size + 1, _, _⟩) (Nat.le_succ _) _⟩
set_option maxRecDepth 100000 in
set_option maxHeartbeats 4000000 in
theorem refOf15_any (l : List Ac) (hl : l.length ≤ 1000) (k : Bytes) (A : Option Addr) (c : Nat) (w : World) (hv : AcsV Any w l A c) :
    Calls Tryz.prog 12 #[.slice A l.length c, .string (bs k)] w fun e w' => e = .returned (.agg (acC (ofS l k)).toArray) ∧ Below w.heap.size w w' := by
  have HV := Lib.hid (Rep.old hv)
  have hlI : (l.length : Int) ≤ 1000 := by omega
  clear hv
  have hR := heap_alloc_new w (.cells #[.string ⟨#[]⟩, .int .u64 0, .int .u64 0] 31)
  have hb : Below w.heap.size w (w.alloc (.cells #[.string ⟨#[]⟩, .int .u64 0, .int .u64 0] 31)) := (Below.refl _ _).alloc (Nat.le_refl _) _
  go_enter Tryz.func12, Tryz.ntmps12
  go_wp2_with fail
  go_loopw [9] (fun a wr => ∃ i : Nat, a = .int .i64 i ∧ i ≤ l.length ∧ Hid (ofS l k = ofS (l.drop i) k) ∧ wr.heap[w.heap.size]? = some (.cells #[.string ⟨#[]⟩, .int .u64 0, .int .u64 0] 31 (0, 0)) ∧ Below w.heap.size w wr) (fun a _ => l.length - (intOf a).toNat)
  case atStart => exact ⟨0, rfl, Nat.zero_le _, Lib.hid rfl, hR, hb⟩
  case round =>
    clear hR hb
    obtain ⟨i, rfl, hi, hO, hR, hB⟩ := hrel
    have hBs := hB.size
    have hlR := (Array.getElem?_eq_some_iff.1 hR).1
    by_cases hlt : i < l.length
    · obtain ⟨a, ha⟩ := getElem_ex hlt
      obtain ⟨g, o, rfl, hgo, hc⟩ := acs_at HV.out ha
      have hltI : (i : Int) < l.length := by omega
      have q0 := (hB.cell (p := ⟨g, o + i * 3 + 0, none⟩) hgo).trans (hc 0 _ rfl)
      have q1 := (hB.cell (p := ⟨g, o + i * 3 + 1, none⟩) hgo).trans (hc 1 _ rfl)
      have q2 := (hB.cell (p := ⟨g, o + i * 3 + 2, none⟩) hgo).trans (hc 2 _ rfl)
      simp only [Nat.add_zero] at q0
      have hst := of_step ha k
      rw [← hO.out] at hst
      have HS := Lib.hid hst
      obtain ⟨s, b, n⟩ := a
      simp only [] at q0 q1 q2
      have hB1 := hB.alloc hBs (.cells #[.string (bs s), .int .u64 (b : Int), .int .u64 (n : Int)] 31)
      have HB1 := Lib.hid hB1
      have HR := Lib.hid hR
      have r1 := heap_setCell_here hR (i := 0) (.string (bs s))
      have r2 := heap_setCell_here r1 (i := 1) (.int .u64 (b : Int))
      have r3 := heap_setCell_here r2 (i := 2) (.int .u64 (n : Int))
      have c0 := ca (rc0 hR) (.cells #[.string (bs s), .int .u64 (b : Int), .int .u64 (n : Int)] 31)
      have f0 := fa hlR (rf hR 0) (.cells #[.string (bs s), .int .u64 (b : Int), .int .u64 (n : Int)] 31)
      have c1 := ca (rc1 r1) (.cells #[.string (bs s), .int .u64 (b : Int), .int .u64 (n : Int)] 31)
      have f1 := fa (by simp; omega) (rf r1 1) (.cells #[.string (bs s), .int .u64 (b : Int), .int .u64 (n : Int)] 31)
      have c2 := ca (rc2 r2) (.cells #[.string (bs s), .int .u64 (b : Int), .int .u64 (n : Int)] 31)
      have f2 := fa (by simp; omega) (rf r2 2) (.cells #[.string (bs s), .int .u64 (b : Int), .int .u64 (n : Int)] 31)
      have R3 := Lib.hid ((heap_alloc_old _ (.cells #[.string (bs s), .int .u64 (b : Int), .int .u64 (n : Int)] 31) (by simp; omega)).trans r3)
      have HB3 := Lib.hid ((((hB.setCell (p := ⟨w.heap.size, 0, none⟩) (Nat.le_refl _) (.string (bs s))).setCell (p := ⟨w.heap.size, 1, none⟩) (Nat.le_refl _) (.int .u64 (b : Int))).setCell (p := ⟨w.heap.size, 2, none⟩) (Nat.le_refl _) (.int .u64 (n : Int))).alloc (by simp; omega) (.cells #[.string (bs s), .int .u64 (b : Int), .int .u64 (n : Int)] 31))
      have HR1 := Lib.hid ((heap_alloc_old _ (.cells #[.string (bs s), .int .u64 (b : Int), .int .u64 (n : Int)] 31) hlR).trans hR)
      clear ha hc hB hst hB1 hR r1 r2 r3
      cases hk : (s == k) with
      | true =>
        have HF : Hid (ofS l k = ⟨s, b, n⟩) := Lib.hid (by rw [HS.out, if_pos hk])
        go_wp2_with fail
        exact bodyPost_ret (v := .agg #[.string (bs s), .int .u64 (b : Int), .int .u64 (n : Int)]) (results_cell_row rfl _ _ w.heap.size _ _ _ _ rfl R3.out Tryz.underlying31 rfl infoA) rfl ⟨by rw [HF.out]; rfl, HB3.out⟩
      | false =>
        have HF : Hid (ofS l k = ofS (l.drop (i + 1)) k) := Lib.hid (by rw [HS.out, if_neg (by rw [hk]; decide)])
        go_wp2_with fail
        go_roundw
        case rel => exact ⟨i + 1, by go_num, by omega, HF, HR1.out, HB1.out⟩
        case measure => simp [intOf]; omega
    · obtain rfl : i = l.length := by omega
      have HM : Hid (ofS l k = ⟨k, 0, 0⟩) := Lib.hid (by rw [hO.out, of_end])
      have c0 := rc0 hR
      have c1 := rc1 hR
      have c2 := rc2 hR
      have f0 := rf hR 0
      have f1 := rf hR 1
      have f2 := rf hR 2
      have HR := Lib.hid hR
      have HB := Lib.hid hB
      clear hR hB
      go_wp2_with fail
      have hfin := heap_setCell_here (heap_setCell_here (heap_setCell_here HR.out (i := 0) (.string (bs k))) (i := 1) (.int .u64 0)) (i := 2) (.int .u64 0)
      exact bodyPost_ret (v := .agg #[.string (bs k), .int .u64 0, .int .u64 0]) (results_cell_row rfl _ _ w.heap.size _ _ _ _ rfl hfin Tryz.underlying31 rfl infoA) rfl ⟨by rw [HM.out]; rfl, ((HB.out.setCell (p := ⟨w.heap.size, _, _⟩) (Nat.le_refl _) _).setCell (p := ⟨w.heap.size, _, _⟩) (Nat.le_refl _) _).setCell (p := ⟨w.heap.size, _, _⟩) (Nat.le_refl _) _⟩
end Go.Proofs.YtggiicbjegmehaaGreat
