/- The walks of script.Right and of what it calls over all deeds. -/
import Derived.Test.YtggiicbjegmehaaDoorScC
namespace Go.Proofs.YtggiicbjegmehaaDoor
set_option linter.unusedVariables false
set_option linter.unusedSimpArgs false
open Go.RowKit

/-- a row of deeds that may lie in memory -/
structure DsOk (l : List Dd) : Prop where
  wf : ∀ d ∈ l, WfD d
  len : ∀ d ∈ l, d.b.length ≤ 9223372036854775807

set_option maxRecDepth 100000 in
set_option maxHeartbeats 2000000 in
theorem Right1_any (d : Dd) (hw : WfD d) (hb : d.b.length ≤ 9223372036854775807) (w : World) :
    Calls Tryd.prog 35 #[.agg (ddC d).toArray] w fun e w' => e = .returned (.bool (!okD d)) ∧ Below w.heap.size w w' := by
  have h := fun W => right_any d hw hb W
  have hb := (Below.refl w.heap.size w).alloc (Nat.le_refl _) (.cells (ddC d).toArray 46)
  rw [ddC_arr] at h hb ⊢
  obtain ⟨ok, hok⟩ : ∃ ok, okD d = ok := ⟨_, rfl⟩
  rw [hok] at h ⊢
  obtain ⟨k, a, m, t, n, c, ad, b⟩ := d
  simp only [] at h hb ⊢
  have H := Lib.hid h
  have HB := Lib.hid hb
  clear h hb hok hw
  go_enter Tryd.func35, Tryd.ntmps35
  go_wp2_with fail
  refine (H.out _).mono ?_
  rintro e w1 ⟨rfl, hb1⟩
  have hb2 := below_call HB.out HB.out.size hb1
  go_wp2_with fail
  go_ret
  exact ⟨rfl, hb2⟩

/-- whether all deeds may be, as a place -/
def IdxD (l : List Dd) (r : Int) : Prop := (r = -1 ∧ l.all okD = true) ∨ (0 ≤ r ∧ l.all okD = false)
theorem all_step {l : List Dd} {i : Nat} {d : Dd} (h : l[i]? = some d) : (l.drop i).all okD = (okD d && (l.drop (i + 1)).all okD) := by
  rw [drop_cons h, List.all_cons]

set_option maxRecDepth 100000 in
set_option maxHeartbeats 4000000 in
theorem indexD_any (l : List Dd) (ho : DsOk l) (hl : l.length ≤ 1000) (A : Option Addr) (c : Nat) (w : World) (hv : DdsV Any w l A c) :
    Calls Tryd.prog 57 #[.slice A l.length c, .func (.func 35) #[] #[]] w fun e w' => (∃ r : Int, e = .returned (.int .i64 r) ∧ IdxD l r) ∧ Below w.heap.size w w' := by
  have HV := Lib.hid (Rep.old hv)
  have HO := Lib.hid ho
  have hlI : (l.length : Int) ≤ 1000 := by omega
  clear hv ho
  go_enter Tryd.func57, Tryd.ntmps57
  go_wp2_with fail
  go_loopw [8] (fun a wr => ∃ i : Nat, a = .int .i64 i ∧ i ≤ l.length ∧ Hid (l.all okD = (l.drop i).all okD) ∧ Below w.heap.size w wr) (fun a _ => l.length - (intOf a).toNat)
  case atStart => exact ⟨0, rfl, Nat.zero_le _, Lib.hid rfl, Below.refl _ _⟩
  case round =>
    obtain ⟨i, rfl, hi, hO, hB⟩ := hrel
    have hBs := hB.size
    by_cases hlt : i < l.length
    · obtain ⟨d, hd⟩ := getElem_ex hlt
      obtain ⟨g, o, rfl, hgo, hc⟩ := dds_at HV.out hd
      have hltI : (i : Int) < l.length := by omega
      have hst := all_step hd
      rw [← hO.out] at hst
      have hC := Right1_any d (HO.out.wf d (List.mem_of_getElem? hd)) (HO.out.len d (List.mem_of_getElem? hd)) wr
      obtain ⟨ok, hok⟩ : ∃ ok, okD d = ok := ⟨_, rfl⟩
      rw [hok] at hst hC
      rw [ddC_arr] at hC
      obtain ⟨k, a, m, t, n, c, ad, b⟩ := d
      have q0 := (hB.cell (p := ⟨g, o + i * 8 + 0, none⟩) hgo).trans (hc 0 _ rfl)
      have q1 := (hB.cell (p := ⟨g, o + i * 8 + 1, none⟩) hgo).trans (hc 1 _ rfl)
      have q2 := (hB.cell (p := ⟨g, o + i * 8 + 2, none⟩) hgo).trans (hc 2 _ rfl)
      have q3 := (hB.cell (p := ⟨g, o + i * 8 + 3, none⟩) hgo).trans (hc 3 _ rfl)
      have q4 := (hB.cell (p := ⟨g, o + i * 8 + 4, none⟩) hgo).trans (hc 4 _ rfl)
      have q5 := (hB.cell (p := ⟨g, o + i * 8 + 5, none⟩) hgo).trans (hc 5 _ rfl)
      have q6 := (hB.cell (p := ⟨g, o + i * 8 + 6, none⟩) hgo).trans (hc 6 _ rfl)
      have q7 := (hB.cell (p := ⟨g, o + i * 8 + 7, none⟩) hgo).trans (hc 7 _ rfl)
      simp only [Nat.add_zero] at q0 q1 q2 q3 q4 q5 q6 q7 hC
      have HS := Lib.hid hst
      have HC := Lib.hid hC
      have HB := Lib.hid hB
      clear hd hc hB hst hC hok
      go_wp2_with fail
      refine HC.out.mono ?_
      clear HC
      rintro e w1 ⟨rfl, hb1⟩
      have HB1 := Lib.hid (below_call HB.out hBs hb1)
      clear hb1 q0 q1 q2 q3 q4 q5 q6 q7
      cases ok with
      | false =>
        go_wp2_with fail
        go_ret
        exact ⟨⟨_, rfl, .inr ⟨Int.natCast_nonneg _, by rw [HS.out]; rfl⟩⟩, HB1.out⟩
      | true =>
        have HF : Hid (l.all okD = (l.drop (i + 1)).all okD) := Lib.hid (by rw [HS.out]; rfl)
        go_wp2_with fail
        go_roundw
        case rel => exact ⟨i + 1, by go_num, by omega, HF, HB1.out⟩
        case measure => simp [intOf]; omega
    · obtain rfl : i = l.length := by omega
      have HM : Hid (l.all okD = true) := Lib.hid (by rw [hO.out, List.drop_length]; rfl)
      go_wp2_with fail
      go_ret
      exact ⟨⟨_, rfl, .inl ⟨rfl, HM.out⟩⟩, hB⟩

set_option maxRecDepth 100000 in
set_option maxHeartbeats 2000000 in
theorem containsD_any (l : List Dd) (ho : DsOk l) (hl : l.length ≤ 1000) (A : Option Addr) (c : Nat) (w : World) (hv : DdsV Any w l A c) :
    Calls Tryd.prog 34 #[.slice A l.length c, .func (.func 35) #[] #[]] w fun e w' => e = .returned (.bool (!l.all okD)) ∧ Below w.heap.size w w' := by
  have H := Lib.hid (indexD_any l ho hl A c w hv)
  clear hv ho
  go_enter Tryd.func34, Tryd.ntmps34
  go_wp2_with fail
  refine H.out.mono ?_
  rintro e w1 ⟨⟨r, rfl, hr⟩, hb1⟩
  rcases hr with ⟨rfl, h0⟩ | ⟨h1, h0⟩
  · have H0 := Lib.hid h0
    clear h0
    go_wp2_with fail
    go_ret
    exact ⟨by rw [H0.out]; rfl, hb1⟩
  · have H0 := Lib.hid h0
    clear h0
    go_wp2_with fail
    go_ret
    exact ⟨by rw [H0.out]; rfl, hb1⟩

def plC (p : Pl) (A : Option Addr) (c : Nat) : List Value := [.int .i64 p.many, .int .i64 p.set, .int .u64 p.ep, .int .u64 p.has, .slice A p.ds.length c]
theorem infoPl : (Tryd.prog.info? 25).map (·.size) = some 5 := by kernel_rfl
set_option maxRecDepth 100000 in
set_option maxHeartbeats 4000000 in
theorem RightP_any (p : Pl) (hw : WfP p) (ho : DsOk p.ds) (A : Option Addr) (c : Nat) (w : World) (hv : DdsV Any w p.ds A c) :
    Calls Tryd.prog 14 #[.agg (plC p A c).toArray] w fun e w' => e = .returned (.bool (okP p)) ∧ Below w.heap.size w w' := by
  have hC := fun (h : p.ds.length ≤ 1000) (W : World) hb => containsD_any p.ds ho h A c W (Rep.keep hv hb)
  have hln := (Rep.slice_len hv).2
  have hl63 : (p.ds.length : Int) ≤ 9223372036854775807 := by simp only [maxLen] at hln; omega
  have hw3 := hw.ep
  have hw4 := hw.has
  have hb0 : Below w.heap.size w (w.alloc (.cells (plC p A c).toArray 25)) := (Below.refl _ _).alloc (Nat.le_refl _) _
  unfold okP headOk
  show Calls _ _ #[.agg #[.int .i64 p.many, .int .i64 p.set, .int .u64 p.ep, .int .u64 p.has, .slice A p.ds.length c]] _ _
  have hb0 : Below w.heap.size w (w.alloc (.cells #[.int .i64 p.many, .int .i64 p.set, .int .u64 p.ep, .int .u64 p.has, .slice A p.ds.length c] 25)) := hb0
  obtain ⟨all, hall⟩ : ∃ all, p.ds.all okD = all := ⟨_, rfl⟩
  obtain ⟨L, hL⟩ : ∃ L, p.ds.length = L := ⟨_, rfl⟩
  rw [hall] at hC ⊢
  rw [hL] at hC hl63 hb0 ⊢
  obtain ⟨many, set, ep, has, ds⟩ := p
  simp only [] at hw3 hw4 hb0 ⊢
  obtain ⟨R, hR⟩ : ∃ R, (decide (2 ≤ many ∧ many ≤ 7 ∧ 2 ≤ set ∧ set ≤ many ∧ 1 ≤ ep ∧ ep ≤ 1000 ∧ has ≤ 1000000000 ∧ L ≤ 400) && all) = R := ⟨_, rfl⟩
  rw [hR]
  have hRn : ¬ (2 ≤ many ∧ many ≤ 7 ∧ 2 ≤ set ∧ set ≤ many ∧ 1 ≤ ep ∧ ep ≤ 1000 ∧ has ≤ 1000000000 ∧ L ≤ 400) → R = false := fun h => by rw [← hR, decide_eq_false h]; rfl
  have hRy : (2 ≤ many ∧ many ≤ 7 ∧ 2 ≤ set ∧ set ≤ many ∧ 1 ≤ ep ∧ ep ≤ 1000 ∧ has ≤ 1000000000 ∧ L ≤ 400) → R = all := fun h => by rw [← hR, decide_eq_true h]; simp
  have HRN := Lib.hid hRn
  have HRY := Lib.hid hRy
  have HC := Lib.hid hC
  have HB := Lib.hid hb0
  clear hC hb0 hv hw ho hall hL hln hR hRn hRy
  by_cases h1 : many < 2
  · have HD := Lib.hid (HRN.out (by omega))
    clear HC
    go_enter Tryd.func14, Tryd.ntmps14
    go_wp2_with fail
    go_ret
    exact ⟨by rw [HD.out]; rfl, HB.out⟩
  by_cases h2 : 7 < many
  · have HD := Lib.hid (HRN.out (by omega))
    clear HC
    go_enter Tryd.func14, Tryd.ntmps14
    go_wp2_with fail
    go_ret
    exact ⟨by rw [HD.out]; rfl, HB.out⟩
  by_cases h3 : set < 2
  · have HD := Lib.hid (HRN.out (by omega))
    clear HC
    go_enter Tryd.func14, Tryd.ntmps14
    go_wp2_with fail
    go_ret
    exact ⟨by rw [HD.out]; rfl, HB.out⟩
  by_cases h4 : many < set
  · have HD := Lib.hid (HRN.out (by omega))
    clear HC
    go_enter Tryd.func14, Tryd.ntmps14
    go_wp2_with fail
    go_ret
    exact ⟨by rw [HD.out]; rfl, HB.out⟩
  by_cases h5 : ep < 1
  · have HD := Lib.hid (HRN.out (by omega))
    clear HC
    go_enter Tryd.func14, Tryd.ntmps14
    go_wp2_with fail
    go_ret
    exact ⟨by rw [HD.out]; rfl, HB.out⟩
  by_cases h6 : 1000 < ep
  · have HD := Lib.hid (HRN.out (by omega))
    clear HC
    go_enter Tryd.func14, Tryd.ntmps14
    go_wp2_with fail
    go_ret
    exact ⟨by rw [HD.out]; rfl, HB.out⟩
  by_cases h7 : 1000000000 < has
  · have HD := Lib.hid (HRN.out (by omega))
    clear HC
    go_enter Tryd.func14, Tryd.ntmps14
    go_wp2_with fail
    go_ret
    exact ⟨by rw [HD.out]; rfl, HB.out⟩
  by_cases h8 : 400 < (L : Int)
  · have HD := Lib.hid (HRN.out (by omega))
    clear HC
    go_enter Tryd.func14, Tryd.ntmps14
    go_wp2_with fail
    go_ret
    exact ⟨by rw [HD.out]; rfl, HB.out⟩
  have HD := Lib.hid (HRY.out (by omega))
  have hC := HC.out (by omega) _ HB.out
  have HC := Lib.hid hC
  clear hC
  go_enter Tryd.func14, Tryd.ntmps14
  go_wp2_with fail
  refine HC.out.mono ?_
  rintro e w1 ⟨rfl, hb1⟩
  have hb2 := below_call HB.out HB.out.size hb1
  go_wp2_with fail
  go_ret
  exact ⟨by rw [HD.out]; rfl, hb2⟩
end Go.Proofs.YtggiicbjegmehaaDoor
