/- The walks of the document's Deed at layer 27. -/
import Derived.Test.YtggiicbjegmehaaDoorScVa
import Derived.Test.YtggiicbjegmehaaDoorScR
namespace Go.Proofs.YtggiicbjegmehaaDoor
set_option linter.unusedVariables false
set_option linter.unusedSimpArgs false
open Go.RowKit

set_option maxRecDepth 100000 in
set_option maxHeartbeats 16000000 in
theorem rdeed_5 (s : Bytes) (hs : s.length ≤ 10000000) (k a1 a2 a3 n4 n5 : Int) (ll un : Bytes) (qq : Bool) (hq : (ll == [105, 110]) = qq) (hun : runP ll = un) (k5 : (k == 5) = true) (hk : kindP ((splitP s).getD 0 []) = k) (h1 : smallP (splitP s) 1 = a1) (h2 : smallP (splitP s) 2 = a2) (h3 : smallP (splitP s) 3 = a3) (h4 : getU (splitP s) 4 = n4) (h5 : getU (splitP s) 5 = n5) (hll : (splitP s).getD ((splitP s).length - 1) [] = ll) (w : World) :
    Calls Tryd.prog 30 #[.string (bs s)] w fun e w' => e = .returned (.agg #[.int .i64 k, .int .i64 a1, .int .i64 a2, .int .i64 0, .int .u64 0, .int .u64 0, .bool false, .string ⟨#[]⟩]) ∧ Below w.heap.size w w' := by
  have hSP := fun W => rsplit_any s hs W
  have hpos := splitP_pos s
  have hle := splitP_le s
  have hpl := fun p h => (Nat.le_trans (splitP_piece s p h) (by omega) : p.length ≤ 100000000)
  have hlm := last_mem s
  obtain ⟨ps, hps⟩ : ∃ ps, splitP s = ps := ⟨_, rfl⟩
  rw [hps] at hSP hk h1 h2 h3 h4 h5 hll hpos hle hpl hlm
  have hllen : ll.length ≤ 100000000 := by rw [← hll]; exact hpl _ hlm
  have hB0 : Below w.heap.size w (w.alloc (.cells #[.int .i64 0, .int .i64 0, .int .i64 0, .int .i64 0, .int .u64 0, .int .u64 0, .bool false, .string ⟨#[]⟩] 46)) := (Below.refl _ _).alloc (Nat.le_refl _) _
  have hX0 := heap_alloc_new w (.cells #[.int .i64 0, .int .i64 0, .int .i64 0, .int .i64 0, .int .u64 0, .int .u64 0, .bool false, .string ⟨#[]⟩] 46)
  have HSP := Lib.hid hSP
  have HB0 := Lib.hid hB0
  have HX0 := Lib.hid hX0
  have HK := Lib.hid hk
  have HA1 := Lib.hid h1
  have HA2 := Lib.hid h2
  have HA3 := Lib.hid h3
  have HA4 := Lib.hid h4
  have HA5 := Lib.hid h5
  have HLL := Lib.hid hll
  have HPL := Lib.hid hpl
  have HQ := Lib.hid hq
  have HUN := Lib.hid hun
  have HLE := Lib.hid hllen
  clear hSP hB0 hX0 hk h1 h2 h3 h4 h5 hll hpl hq hun hllen hlm hps
  go_enter Tryd.func30, Tryd.ntmps30
  go_wp2_with fail
  refine (HSP.out _).mono ?_
  rintro e w1 ⟨⟨A, cc, rfl, hv⟩, hb1⟩
  have HX := Lib.hid ((hb1.block _ (Array.getElem?_eq_some_iff.1 HX0.out).1).trans HX0.out)
  have HB1 := Lib.hid (below_call HB0.out HB0.out.size hb1)
  have HXL := Lib.hid (Array.getElem?_eq_some_iff.1 HX.out).1
  clear hb1 HB0 HSP HX0
  obtain ⟨g, o, rfl, _, _⟩ := hv.at_ (getElem_ex hpos).choose_spec
  have HV := Lib.hid hv
  have HC0 := Lib.hid (l0_cell hv hpos)
  have HCL := Lib.hid (l0_cell hv (i := ps.length - 1) (by omega))
  rw [HLL.out] at HCL
  have hs1 := fun W (hb : Below w1.heap.size w1 W) => rsmall_any ps (by omega) HPL.out 1 (by omega) _ cc W (StrV.keep hv hb)
  have hs2 := fun W (hb : Below w1.heap.size w1 W) => rsmall_any ps (by omega) HPL.out 2 (by omega) _ cc W (StrV.keep hv hb)
  have hs3 := fun W (hb : Below w1.heap.size w1 W) => rsmall_any ps (by omega) HPL.out 3 (by omega) _ cc W (StrV.keep hv hb)
  have hs4 := fun W (hb : Below w1.heap.size w1 W) => rvalue_any ps (by omega) HPL.out 4 (by omega) _ cc W (StrV.keep hv hb)
  have hs5 := fun W (hb : Below w1.heap.size w1 W) => rvalue_any ps (by omega) HPL.out 5 (by omega) _ cc W (StrV.keep hv hb)
  rw [HA1.out] at hs1
  rw [HA2.out] at hs2
  rw [HA3.out] at hs3
  rw [HA4.out] at hs4
  rw [HA5.out] at hs5
  obtain ⟨l0, hl0⟩ : ∃ l0, ps.getD 0 [] = l0 := ⟨_, rfl⟩
  rw [hl0] at HK HC0
  obtain ⟨L, hL⟩ : ∃ L, ps.length = L := ⟨_, rfl⟩
  rw [hL] at hpos hle HCL hs1 hs2 hs3 hs4 hs5 ⊢
  have hposI : (0 : Int) < L := by omega
  have hL0 : ¬ L = 0 := by omega
  have hwL : IntKind.i64.wrap ((L : Int) - 1) = (L : Int) - 1 := IntWalk.i64_in _ (by omega)
  have hlL : ¬ (L : Int) ≤ (L : Int) - 1 := by omega
  have h1L : (1 : Int) ≤ L := by omega
  have hleI : (L : Int) ≤ 10000001 := by omega
  have hL1 : ((L : Int) - 1).toNat = L - 1 := by omega
  have HS1 := Lib.hid hs1
  have HS2 := Lib.hid hs2
  have HS3 := Lib.hid hs3
  have HS4 := Lib.hid hs4
  have HS5 := Lib.hid hs5
  have hlk := lastP_kind l0
  rw [HK.out] at hlk
  have HLK := Lib.hid hlk
  clear hs1 hs2 hs3 hs4 hs5 hl0 hL hv HV hlk HPL hle hpos hs HA1 HA2 HA3 HA4 HA5 HLL HK
  go_wp2_with fail
  refine (HS1.out _ (Below.refl _ _)).mono ?_
  rintro e w1' ⟨rfl, rfl⟩
  clear HS1
  have hD0 := heap_alloc_new w1' (.cells #[.int .i64 0, .int .i64 a1, .int .i64 0, .int .i64 0, .int .u64 0, .int .u64 0, .bool false, .string ⟨#[]⟩] 46)
  obtain ⟨D, hDe⟩ : ∃ D, w1'.heap.size = D := ⟨_, rfl⟩
  have hBD := (Below.refl w1'.heap.size w1').alloc (Nat.le_refl _) (.cells #[.int .i64 0, .int .i64 a1, .int .i64 0, .int .i64 0, .int .u64 0, .int .u64 0, .bool false, .string ⟨#[]⟩] 46)
  rw [hDe] at hD0 HXL HS2 HS3 HS4 HS5 hBD
  have HD0 := Lib.hid hD0
  have HBD := Lib.hid hBD
  have HDS := Lib.hid (show (w1'.alloc (.cells #[.int .i64 0, .int .i64 a1, .int .i64 0, .int .i64 0, .int .u64 0, .int .u64 0, .bool false, .string ⟨#[]⟩] 46)).heap.size = D + 1 by simp [hDe])
  clear hD0 hBD
  go_wp2_with fail
  refine (rkinds_any _).mono ?_
  rintro e w2 ⟨rfl, hw2⟩
  have HK2 : Hid (w2.heap[D + 1]? = some (.cells kindsC.toArray 9 (0, 0))) := Lib.hid (by rw [hw2, ← HDS.out]; exact heap_alloc_new _ _)
  have HD2 : Hid (w2.heap[D]? = some (.cells #[.int .i64 0, .int .i64 a1, .int .i64 0, .int .i64 0, .int .u64 0, .int .u64 0, .bool false, .string ⟨#[]⟩] 46 (0, 0))) := Lib.hid (by rw [hw2]; exact (heap_alloc_old _ _ (Array.getElem?_eq_some_iff.1 HD0.out).1).trans HD0.out)
  have HB2 : Hid (Below D w1' w2) := Lib.hid (by rw [hw2]; exact HBD.out.alloc (by rw [HDS.out]; omega) _)
  rw [HDS.out]
  clear hw2 HD0 HBD HDS
  go_wp2_with fail
  go_loopw [17] (fun x wr => ∃ j : Nat, x = .int .i64 j ∧ j ≤ 10 ∧ Hid (wr.heap[D]? = some (.cells #[.int .i64 (lastP l0 j), .int .i64 a1, .int .i64 0, .int .i64 0, .int .u64 0, .int .u64 0, .bool false, .string ⟨#[]⟩] 46 (0, 0))) ∧ Hid (wr.heap[D + 1]? = some (.cells kindsC.toArray 9 (0, 0))) ∧ Hid (Below D w1' wr)) (fun x _ => 10 - (intOf x).toNat)
  case atStart => exact ⟨0, rfl, by omega, HD2, HK2, HB2⟩
  case round =>
    clear HD2 HK2 HB2
    obtain ⟨j, rfl, hj, HD, HKK, HB⟩ := hrel
    by_cases hlt : j < 10
    · have hltI : (j : Int) < 10 := by omega
      obtain ⟨kj, hkj⟩ : ∃ kj, kinds10[j]? = some kj := getElem_ex (show j < kinds10.length by show j < 10; exact hlt)
      have ck : wr.cell? ⟨D + 1, j, none⟩ = some (.string (bs kj)) := rc HKK.out j (by simpa [kindsC] using strC_get hkj)
      have c0 := (HB.out.cell (by rw [← hDe]; exact lt_of_cell HC0.out)).trans HC0.out
      simp only [Nat.add_zero] at c0
      have d0 : wr.cell? ⟨D, 0, none⟩ = some (.int .i64 (lastP l0 j)) := rc HD.out 0 rfl
      have f0 := rf HD.out 0
      have hst : lastP l0 (j + 1) = if 0 < j ∧ kinds10[j]? = some l0 then (j : Int) else lastP l0 j := rfl
      rw [hkj] at hst
      have HST := Lib.hid hst
      clear hst hkj
      by_cases hj0 : j = 0
      · subst hj0
        have HE : Hid (lastP l0 (0 + 1) = lastP l0 0) := Lib.hid (by rw [HST.out, if_neg (by omega)])
        clear HST
        go_wp2_with fail
        go_roundw
        case rel => exact ⟨0 + 1, by go_num, by omega, by rw [HE.out]; exact HD, HKK, HB⟩
        case measure => simp [intOf]
      · have hjI : (0 : Int) < j := by omega
        obtain ⟨q, hqe⟩ : ∃ q, (kj == l0) = q := ⟨_, rfl⟩
        cases q with
        | true =>
          have HE : Hid (lastP l0 (j + 1) = (j : Int)) := Lib.hid (by rw [HST.out, if_pos ⟨by omega, by rw [beq_iff_eq] at hqe; rw [hqe]⟩])
          clear HST
          go_wp2_with fail
          go_roundw
          case rel => exact ⟨j + 1, by go_num, by omega, Lib.hid (by rw [HE.out]; exact heap_setCell_here HD.out _), Lib.hid ((heap_set_ne (by omega) _).trans HKK.out), Lib.hid (HB.out.setCell (p := ⟨D, 0, none⟩) (Nat.le_refl _) _)⟩
          case measure => simp [intOf]; omega
        | false =>
          have HE : Hid (lastP l0 (j + 1) = lastP l0 j) := Lib.hid (by rw [HST.out, if_neg]; rintro ⟨_, h⟩; injection h with h; rw [h] at hqe; simp at hqe)
          clear HST
          go_wp2_with fail
          go_roundw
          case rel => exact ⟨j + 1, by go_num, by omega, by rw [HE.out]; exact HD, HKK, HB⟩
          case measure => simp [intOf]; omega
    · obtain rfl : j = 10 := by omega
      rw [HLK.out] at HD
      have hXD : ¬ w.heap.size = D := by have := HXL.out; omega
      have hDX : ¬ D = w.heap.size := fun e => hXD e.symm
      have cl := (HB.out.cell (by rw [← hDe]; exact lt_of_cell HCL.out)).trans HCL.out
      have hX := (HB.out.block w.heap.size HXL.out).trans HX.out
      have c0 : wr.cell? ⟨D, 0, none⟩ = some (.int .i64 k) := rc HD.out 0 rfl
      have c1 : wr.cell? ⟨D, 1, none⟩ = some (.int .i64 a1) := rc HD.out 1 rfl
      have c2 : wr.cell? ⟨D, 2, none⟩ = some (.int .i64 0) := rc HD.out 2 rfl
      have c3 : wr.cell? ⟨D, 3, none⟩ = some (.int .i64 0) := rc HD.out 3 rfl
      have c4 : wr.cell? ⟨D, 4, none⟩ = some (.int .u64 0) := rc HD.out 4 rfl
      have c5 : wr.cell? ⟨D, 5, none⟩ = some (.int .u64 0) := rc HD.out 5 rfl
      have c6 : wr.cell? ⟨D, 6, none⟩ = some (.bool false) := rc HD.out 6 rfl
      have c7 : wr.cell? ⟨D, 7, none⟩ = some (.string ⟨#[]⟩) := rc HD.out 7 rfl
      have e0 : wr.frozen? ⟨D, 0, none⟩ = false := rf HD.out 0
      have e1 : wr.frozen? ⟨D, 1, none⟩ = false := rf HD.out 1
      have e2 : wr.frozen? ⟨D, 2, none⟩ = false := rf HD.out 2
      have e3 : wr.frozen? ⟨D, 3, none⟩ = false := rf HD.out 3
      have e4 : wr.frozen? ⟨D, 4, none⟩ = false := rf HD.out 4
      have e5 : wr.frozen? ⟨D, 5, none⟩ = false := rf HD.out 5
      have e6 : wr.frozen? ⟨D, 6, none⟩ = false := rf HD.out 6
      have e7 : wr.frozen? ⟨D, 7, none⟩ = false := rf HD.out 7
      have d0 : wr.cell? ⟨w.heap.size, 0, none⟩ = some (.int .i64 0) := rc hX 0 rfl
      have f0 : wr.frozen? ⟨w.heap.size, 0, none⟩ = false := rf hX 0
      have d1 : wr.cell? ⟨w.heap.size, 1, none⟩ = some (.int .i64 0) := rc hX 1 rfl
      have f1 : wr.frozen? ⟨w.heap.size, 1, none⟩ = false := rf hX 1
      have d2 : wr.cell? ⟨w.heap.size, 2, none⟩ = some (.int .i64 0) := rc hX 2 rfl
      have f2 : wr.frozen? ⟨w.heap.size, 2, none⟩ = false := rf hX 2
      have d3 : wr.cell? ⟨w.heap.size, 3, none⟩ = some (.int .i64 0) := rc hX 3 rfl
      have f3 : wr.frozen? ⟨w.heap.size, 3, none⟩ = false := rf hX 3
      have d4 : wr.cell? ⟨w.heap.size, 4, none⟩ = some (.int .u64 0) := rc hX 4 rfl
      have f4 : wr.frozen? ⟨w.heap.size, 4, none⟩ = false := rf hX 4
      have d5 : wr.cell? ⟨w.heap.size, 5, none⟩ = some (.int .u64 0) := rc hX 5 rfl
      have f5 : wr.frozen? ⟨w.heap.size, 5, none⟩ = false := rf hX 5
      have d6 : wr.cell? ⟨w.heap.size, 6, none⟩ = some (.bool false) := rc hX 6 rfl
      have f6 : wr.frozen? ⟨w.heap.size, 6, none⟩ = false := rf hX 6
      have d7 : wr.cell? ⟨w.heap.size, 7, none⟩ = some (.string ⟨#[]⟩) := rc hX 7 rfl
      have f7 : wr.frozen? ⟨w.heap.size, 7, none⟩ = false := rf hX 7
      go_wp2_with fail
      refine (HS2.out _ HB.out).mono ?_
      rintro e w20 ⟨rfl, rfl⟩
      go_wp2_with fail
      have hfin := heap_setCell_here (heap_setCell_here (heap_setCell_here (heap_setCell_here (heap_setCell_here (heap_setCell_here (heap_setCell_here (heap_setCell_here ((heap_set_ne (b := D) (i := 2) hXD (.int .i64 a2)).trans (hX)) (i := 0) (.int .i64 k)) (i := 1) (.int .i64 a1)) (i := 2) (.int .i64 a2)) (i := 3) (.int .i64 0)) (i := 4) (.int .u64 0)) (i := 5) (.int .u64 0)) (i := 6) (.bool false)) (i := 7) (.string ⟨#[]⟩)
      exact bodyPost_ret (v := .agg #[.int .i64 k, .int .i64 a1, .int .i64 a2, .int .i64 0, .int .u64 0, .int .u64 0, .bool false, .string ⟨#[]⟩]) (results_cell_row rfl _ _ w.heap.size _ _ _ _ rfl hfin Tryd.underlying46 rfl infoDd) rfl ⟨rfl, (((((((((HB1.out.trans ((HB.out.setCell (p := ⟨D, _, _⟩) (Nat.le_refl _) _).mono (Nat.le_of_lt HXL.out))).setCell (p := ⟨w.heap.size, _, _⟩) (Nat.le_refl _) _).setCell (p := ⟨w.heap.size, _, _⟩) (Nat.le_refl _) _).setCell (p := ⟨w.heap.size, _, _⟩) (Nat.le_refl _) _).setCell (p := ⟨w.heap.size, _, _⟩) (Nat.le_refl _) _).setCell (p := ⟨w.heap.size, _, _⟩) (Nat.le_refl _) _).setCell (p := ⟨w.heap.size, _, _⟩) (Nat.le_refl _) _).setCell (p := ⟨w.heap.size, _, _⟩) (Nat.le_refl _) _).setCell (p := ⟨w.heap.size, _, _⟩) (Nat.le_refl _) _)⟩

set_option maxRecDepth 100000 in
set_option maxHeartbeats 16000000 in
theorem rdeed_7 (s : Bytes) (hs : s.length ≤ 10000000) (k a1 a2 a3 n4 n5 : Int) (ll un : Bytes) (qq : Bool) (hq : (ll == [105, 110]) = qq) (hun : runP ll = un) (k5 : (k == 5) = false) (k7 : (k == 7) = true) (hk : kindP ((splitP s).getD 0 []) = k) (h1 : smallP (splitP s) 1 = a1) (h2 : smallP (splitP s) 2 = a2) (h3 : smallP (splitP s) 3 = a3) (h4 : getU (splitP s) 4 = n4) (h5 : getU (splitP s) 5 = n5) (hll : (splitP s).getD ((splitP s).length - 1) [] = ll) (w : World) :
    Calls Tryd.prog 30 #[.string (bs s)] w fun e w' => e = .returned (.agg #[.int .i64 k, .int .i64 a1, .int .i64 a3, .int .i64 a2, .int .u64 n4, .int .u64 n5, .bool false, .string ⟨#[]⟩]) ∧ Below w.heap.size w w' := by
  have hSP := fun W => rsplit_any s hs W
  have hpos := splitP_pos s
  have hle := splitP_le s
  have hpl := fun p h => (Nat.le_trans (splitP_piece s p h) (by omega) : p.length ≤ 100000000)
  have hlm := last_mem s
  obtain ⟨ps, hps⟩ : ∃ ps, splitP s = ps := ⟨_, rfl⟩
  rw [hps] at hSP hk h1 h2 h3 h4 h5 hll hpos hle hpl hlm
  have hllen : ll.length ≤ 100000000 := by rw [← hll]; exact hpl _ hlm
  have hB0 : Below w.heap.size w (w.alloc (.cells #[.int .i64 0, .int .i64 0, .int .i64 0, .int .i64 0, .int .u64 0, .int .u64 0, .bool false, .string ⟨#[]⟩] 46)) := (Below.refl _ _).alloc (Nat.le_refl _) _
  have hX0 := heap_alloc_new w (.cells #[.int .i64 0, .int .i64 0, .int .i64 0, .int .i64 0, .int .u64 0, .int .u64 0, .bool false, .string ⟨#[]⟩] 46)
  have HSP := Lib.hid hSP
  have HB0 := Lib.hid hB0
  have HX0 := Lib.hid hX0
  have HK := Lib.hid hk
  have HA1 := Lib.hid h1
  have HA2 := Lib.hid h2
  have HA3 := Lib.hid h3
  have HA4 := Lib.hid h4
  have HA5 := Lib.hid h5
  have HLL := Lib.hid hll
  have HPL := Lib.hid hpl
  have HQ := Lib.hid hq
  have HUN := Lib.hid hun
  have HLE := Lib.hid hllen
  clear hSP hB0 hX0 hk h1 h2 h3 h4 h5 hll hpl hq hun hllen hlm hps
  go_enter Tryd.func30, Tryd.ntmps30
  go_wp2_with fail
  refine (HSP.out _).mono ?_
  rintro e w1 ⟨⟨A, cc, rfl, hv⟩, hb1⟩
  have HX := Lib.hid ((hb1.block _ (Array.getElem?_eq_some_iff.1 HX0.out).1).trans HX0.out)
  have HB1 := Lib.hid (below_call HB0.out HB0.out.size hb1)
  have HXL := Lib.hid (Array.getElem?_eq_some_iff.1 HX.out).1
  clear hb1 HB0 HSP HX0
  obtain ⟨g, o, rfl, _, _⟩ := hv.at_ (getElem_ex hpos).choose_spec
  have HV := Lib.hid hv
  have HC0 := Lib.hid (l0_cell hv hpos)
  have HCL := Lib.hid (l0_cell hv (i := ps.length - 1) (by omega))
  rw [HLL.out] at HCL
  have hs1 := fun W (hb : Below w1.heap.size w1 W) => rsmall_any ps (by omega) HPL.out 1 (by omega) _ cc W (StrV.keep hv hb)
  have hs2 := fun W (hb : Below w1.heap.size w1 W) => rsmall_any ps (by omega) HPL.out 2 (by omega) _ cc W (StrV.keep hv hb)
  have hs3 := fun W (hb : Below w1.heap.size w1 W) => rsmall_any ps (by omega) HPL.out 3 (by omega) _ cc W (StrV.keep hv hb)
  have hs4 := fun W (hb : Below w1.heap.size w1 W) => rvalue_any ps (by omega) HPL.out 4 (by omega) _ cc W (StrV.keep hv hb)
  have hs5 := fun W (hb : Below w1.heap.size w1 W) => rvalue_any ps (by omega) HPL.out 5 (by omega) _ cc W (StrV.keep hv hb)
  rw [HA1.out] at hs1
  rw [HA2.out] at hs2
  rw [HA3.out] at hs3
  rw [HA4.out] at hs4
  rw [HA5.out] at hs5
  obtain ⟨l0, hl0⟩ : ∃ l0, ps.getD 0 [] = l0 := ⟨_, rfl⟩
  rw [hl0] at HK HC0
  obtain ⟨L, hL⟩ : ∃ L, ps.length = L := ⟨_, rfl⟩
  rw [hL] at hpos hle HCL hs1 hs2 hs3 hs4 hs5 ⊢
  have hposI : (0 : Int) < L := by omega
  have hL0 : ¬ L = 0 := by omega
  have hwL : IntKind.i64.wrap ((L : Int) - 1) = (L : Int) - 1 := IntWalk.i64_in _ (by omega)
  have hlL : ¬ (L : Int) ≤ (L : Int) - 1 := by omega
  have h1L : (1 : Int) ≤ L := by omega
  have hleI : (L : Int) ≤ 10000001 := by omega
  have hL1 : ((L : Int) - 1).toNat = L - 1 := by omega
  have HS1 := Lib.hid hs1
  have HS2 := Lib.hid hs2
  have HS3 := Lib.hid hs3
  have HS4 := Lib.hid hs4
  have HS5 := Lib.hid hs5
  have hlk := lastP_kind l0
  rw [HK.out] at hlk
  have HLK := Lib.hid hlk
  clear hs1 hs2 hs3 hs4 hs5 hl0 hL hv HV hlk HPL hle hpos hs HA1 HA2 HA3 HA4 HA5 HLL HK
  go_wp2_with fail
  refine (HS1.out _ (Below.refl _ _)).mono ?_
  rintro e w1' ⟨rfl, rfl⟩
  clear HS1
  have hD0 := heap_alloc_new w1' (.cells #[.int .i64 0, .int .i64 a1, .int .i64 0, .int .i64 0, .int .u64 0, .int .u64 0, .bool false, .string ⟨#[]⟩] 46)
  obtain ⟨D, hDe⟩ : ∃ D, w1'.heap.size = D := ⟨_, rfl⟩
  have hBD := (Below.refl w1'.heap.size w1').alloc (Nat.le_refl _) (.cells #[.int .i64 0, .int .i64 a1, .int .i64 0, .int .i64 0, .int .u64 0, .int .u64 0, .bool false, .string ⟨#[]⟩] 46)
  rw [hDe] at hD0 HXL HS2 HS3 HS4 HS5 hBD
  have HD0 := Lib.hid hD0
  have HBD := Lib.hid hBD
  have HDS := Lib.hid (show (w1'.alloc (.cells #[.int .i64 0, .int .i64 a1, .int .i64 0, .int .i64 0, .int .u64 0, .int .u64 0, .bool false, .string ⟨#[]⟩] 46)).heap.size = D + 1 by simp [hDe])
  clear hD0 hBD
  go_wp2_with fail
  refine (rkinds_any _).mono ?_
  rintro e w2 ⟨rfl, hw2⟩
  have HK2 : Hid (w2.heap[D + 1]? = some (.cells kindsC.toArray 9 (0, 0))) := Lib.hid (by rw [hw2, ← HDS.out]; exact heap_alloc_new _ _)
  have HD2 : Hid (w2.heap[D]? = some (.cells #[.int .i64 0, .int .i64 a1, .int .i64 0, .int .i64 0, .int .u64 0, .int .u64 0, .bool false, .string ⟨#[]⟩] 46 (0, 0))) := Lib.hid (by rw [hw2]; exact (heap_alloc_old _ _ (Array.getElem?_eq_some_iff.1 HD0.out).1).trans HD0.out)
  have HB2 : Hid (Below D w1' w2) := Lib.hid (by rw [hw2]; exact HBD.out.alloc (by rw [HDS.out]; omega) _)
  rw [HDS.out]
  clear hw2 HD0 HBD HDS
  go_wp2_with fail
  go_loopw [17] (fun x wr => ∃ j : Nat, x = .int .i64 j ∧ j ≤ 10 ∧ Hid (wr.heap[D]? = some (.cells #[.int .i64 (lastP l0 j), .int .i64 a1, .int .i64 0, .int .i64 0, .int .u64 0, .int .u64 0, .bool false, .string ⟨#[]⟩] 46 (0, 0))) ∧ Hid (wr.heap[D + 1]? = some (.cells kindsC.toArray 9 (0, 0))) ∧ Hid (Below D w1' wr)) (fun x _ => 10 - (intOf x).toNat)
  case atStart => exact ⟨0, rfl, by omega, HD2, HK2, HB2⟩
  case round =>
    clear HD2 HK2 HB2
    obtain ⟨j, rfl, hj, HD, HKK, HB⟩ := hrel
    by_cases hlt : j < 10
    · have hltI : (j : Int) < 10 := by omega
      obtain ⟨kj, hkj⟩ : ∃ kj, kinds10[j]? = some kj := getElem_ex (show j < kinds10.length by show j < 10; exact hlt)
      have ck : wr.cell? ⟨D + 1, j, none⟩ = some (.string (bs kj)) := rc HKK.out j (by simpa [kindsC] using strC_get hkj)
      have c0 := (HB.out.cell (by rw [← hDe]; exact lt_of_cell HC0.out)).trans HC0.out
      simp only [Nat.add_zero] at c0
      have d0 : wr.cell? ⟨D, 0, none⟩ = some (.int .i64 (lastP l0 j)) := rc HD.out 0 rfl
      have f0 := rf HD.out 0
      have hst : lastP l0 (j + 1) = if 0 < j ∧ kinds10[j]? = some l0 then (j : Int) else lastP l0 j := rfl
      rw [hkj] at hst
      have HST := Lib.hid hst
      clear hst hkj
      by_cases hj0 : j = 0
      · subst hj0
        have HE : Hid (lastP l0 (0 + 1) = lastP l0 0) := Lib.hid (by rw [HST.out, if_neg (by omega)])
        clear HST
        go_wp2_with fail
        go_roundw
        case rel => exact ⟨0 + 1, by go_num, by omega, by rw [HE.out]; exact HD, HKK, HB⟩
        case measure => simp [intOf]
      · have hjI : (0 : Int) < j := by omega
        obtain ⟨q, hqe⟩ : ∃ q, (kj == l0) = q := ⟨_, rfl⟩
        cases q with
        | true =>
          have HE : Hid (lastP l0 (j + 1) = (j : Int)) := Lib.hid (by rw [HST.out, if_pos ⟨by omega, by rw [beq_iff_eq] at hqe; rw [hqe]⟩])
          clear HST
          go_wp2_with fail
          go_roundw
          case rel => exact ⟨j + 1, by go_num, by omega, Lib.hid (by rw [HE.out]; exact heap_setCell_here HD.out _), Lib.hid ((heap_set_ne (by omega) _).trans HKK.out), Lib.hid (HB.out.setCell (p := ⟨D, 0, none⟩) (Nat.le_refl _) _)⟩
          case measure => simp [intOf]; omega
        | false =>
          have HE : Hid (lastP l0 (j + 1) = lastP l0 j) := Lib.hid (by rw [HST.out, if_neg]; rintro ⟨_, h⟩; injection h with h; rw [h] at hqe; simp at hqe)
          clear HST
          go_wp2_with fail
          go_roundw
          case rel => exact ⟨j + 1, by go_num, by omega, by rw [HE.out]; exact HD, HKK, HB⟩
          case measure => simp [intOf]; omega
    · obtain rfl : j = 10 := by omega
      rw [HLK.out] at HD
      have hXD : ¬ w.heap.size = D := by have := HXL.out; omega
      have hDX : ¬ D = w.heap.size := fun e => hXD e.symm
      have cl := (HB.out.cell (by rw [← hDe]; exact lt_of_cell HCL.out)).trans HCL.out
      have hX := (HB.out.block w.heap.size HXL.out).trans HX.out
      have c0 : wr.cell? ⟨D, 0, none⟩ = some (.int .i64 k) := rc HD.out 0 rfl
      have c1 : wr.cell? ⟨D, 1, none⟩ = some (.int .i64 a1) := rc HD.out 1 rfl
      have c2 : wr.cell? ⟨D, 2, none⟩ = some (.int .i64 0) := rc HD.out 2 rfl
      have c3 : wr.cell? ⟨D, 3, none⟩ = some (.int .i64 0) := rc HD.out 3 rfl
      have c4 : wr.cell? ⟨D, 4, none⟩ = some (.int .u64 0) := rc HD.out 4 rfl
      have c5 : wr.cell? ⟨D, 5, none⟩ = some (.int .u64 0) := rc HD.out 5 rfl
      have c6 : wr.cell? ⟨D, 6, none⟩ = some (.bool false) := rc HD.out 6 rfl
      have c7 : wr.cell? ⟨D, 7, none⟩ = some (.string ⟨#[]⟩) := rc HD.out 7 rfl
      have e0 : wr.frozen? ⟨D, 0, none⟩ = false := rf HD.out 0
      have e1 : wr.frozen? ⟨D, 1, none⟩ = false := rf HD.out 1
      have e2 : wr.frozen? ⟨D, 2, none⟩ = false := rf HD.out 2
      have e3 : wr.frozen? ⟨D, 3, none⟩ = false := rf HD.out 3
      have e4 : wr.frozen? ⟨D, 4, none⟩ = false := rf HD.out 4
      have e5 : wr.frozen? ⟨D, 5, none⟩ = false := rf HD.out 5
      have e6 : wr.frozen? ⟨D, 6, none⟩ = false := rf HD.out 6
      have e7 : wr.frozen? ⟨D, 7, none⟩ = false := rf HD.out 7
      have d0 : wr.cell? ⟨w.heap.size, 0, none⟩ = some (.int .i64 0) := rc hX 0 rfl
      have f0 : wr.frozen? ⟨w.heap.size, 0, none⟩ = false := rf hX 0
      have d1 : wr.cell? ⟨w.heap.size, 1, none⟩ = some (.int .i64 0) := rc hX 1 rfl
      have f1 : wr.frozen? ⟨w.heap.size, 1, none⟩ = false := rf hX 1
      have d2 : wr.cell? ⟨w.heap.size, 2, none⟩ = some (.int .i64 0) := rc hX 2 rfl
      have f2 : wr.frozen? ⟨w.heap.size, 2, none⟩ = false := rf hX 2
      have d3 : wr.cell? ⟨w.heap.size, 3, none⟩ = some (.int .i64 0) := rc hX 3 rfl
      have f3 : wr.frozen? ⟨w.heap.size, 3, none⟩ = false := rf hX 3
      have d4 : wr.cell? ⟨w.heap.size, 4, none⟩ = some (.int .u64 0) := rc hX 4 rfl
      have f4 : wr.frozen? ⟨w.heap.size, 4, none⟩ = false := rf hX 4
      have d5 : wr.cell? ⟨w.heap.size, 5, none⟩ = some (.int .u64 0) := rc hX 5 rfl
      have f5 : wr.frozen? ⟨w.heap.size, 5, none⟩ = false := rf hX 5
      have d6 : wr.cell? ⟨w.heap.size, 6, none⟩ = some (.bool false) := rc hX 6 rfl
      have f6 : wr.frozen? ⟨w.heap.size, 6, none⟩ = false := rf hX 6
      have d7 : wr.cell? ⟨w.heap.size, 7, none⟩ = some (.string ⟨#[]⟩) := rc hX 7 rfl
      have f7 : wr.frozen? ⟨w.heap.size, 7, none⟩ = false := rf hX 7
      go_wp2_with fail
      refine (HS2.out _ HB.out).mono ?_
      rintro e w20 ⟨rfl, rfl⟩
      go_wp2_with fail
      refine (HS3.out _ (HB.out.setCell (p := ⟨D, 3, none⟩) (Nat.le_refl _) (.int .i64 a2))).mono ?_
      rintro e w20 ⟨rfl, rfl⟩
      go_wp2_with fail
      refine (HS4.out _ ((HB.out.setCell (p := ⟨D, 3, none⟩) (Nat.le_refl _) (.int .i64 a2)).setCell (p := ⟨D, 2, none⟩) (Nat.le_refl _) (.int .i64 a3))).mono ?_
      rintro e w20 ⟨rfl, rfl⟩
      go_wp2_with fail
      refine (HS5.out _ (((HB.out.setCell (p := ⟨D, 3, none⟩) (Nat.le_refl _) (.int .i64 a2)).setCell (p := ⟨D, 2, none⟩) (Nat.le_refl _) (.int .i64 a3)).setCell (p := ⟨D, 4, none⟩) (Nat.le_refl _) (.int .u64 n4))).mono ?_
      rintro e w20 ⟨rfl, rfl⟩
      go_wp2_with fail
      have hfin := heap_setCell_here (heap_setCell_here (heap_setCell_here (heap_setCell_here (heap_setCell_here (heap_setCell_here (heap_setCell_here (heap_setCell_here ((heap_set_ne (b := D) (i := 5) hXD (.int .u64 n5)).trans ((heap_set_ne (b := D) (i := 4) hXD (.int .u64 n4)).trans ((heap_set_ne (b := D) (i := 2) hXD (.int .i64 a3)).trans ((heap_set_ne (b := D) (i := 3) hXD (.int .i64 a2)).trans (hX))))) (i := 0) (.int .i64 k)) (i := 1) (.int .i64 a1)) (i := 2) (.int .i64 a3)) (i := 3) (.int .i64 a2)) (i := 4) (.int .u64 n4)) (i := 5) (.int .u64 n5)) (i := 6) (.bool false)) (i := 7) (.string ⟨#[]⟩)
      exact bodyPost_ret (v := .agg #[.int .i64 k, .int .i64 a1, .int .i64 a3, .int .i64 a2, .int .u64 n4, .int .u64 n5, .bool false, .string ⟨#[]⟩]) (results_cell_row rfl _ _ w.heap.size _ _ _ _ rfl hfin Tryd.underlying46 rfl infoDd) rfl ⟨rfl, (((((((((HB1.out.trans (((((HB.out.setCell (p := ⟨D, _, _⟩) (Nat.le_refl _) _).setCell (p := ⟨D, _, _⟩) (Nat.le_refl _) _).setCell (p := ⟨D, _, _⟩) (Nat.le_refl _) _).setCell (p := ⟨D, _, _⟩) (Nat.le_refl _) _).mono (Nat.le_of_lt HXL.out))).setCell (p := ⟨w.heap.size, _, _⟩) (Nat.le_refl _) _).setCell (p := ⟨w.heap.size, _, _⟩) (Nat.le_refl _) _).setCell (p := ⟨w.heap.size, _, _⟩) (Nat.le_refl _) _).setCell (p := ⟨w.heap.size, _, _⟩) (Nat.le_refl _) _).setCell (p := ⟨w.heap.size, _, _⟩) (Nat.le_refl _) _).setCell (p := ⟨w.heap.size, _, _⟩) (Nat.le_refl _) _).setCell (p := ⟨w.heap.size, _, _⟩) (Nat.le_refl _) _).setCell (p := ⟨w.heap.size, _, _⟩) (Nat.le_refl _) _)⟩

set_option maxRecDepth 100000 in
set_option maxHeartbeats 16000000 in
theorem rdeed_8 (s : Bytes) (hs : s.length ≤ 10000000) (k a1 a2 a3 n4 n5 : Int) (ll un : Bytes) (qq : Bool) (hq : (ll == [105, 110]) = qq) (hun : runP ll = un) (k5 : (k == 5) = false) (k7 : (k == 7) = false) (k8 : (k == 8) = true) (hk : kindP ((splitP s).getD 0 []) = k) (h1 : smallP (splitP s) 1 = a1) (h2 : smallP (splitP s) 2 = a2) (h3 : smallP (splitP s) 3 = a3) (h4 : getU (splitP s) 4 = n4) (h5 : getU (splitP s) 5 = n5) (hll : (splitP s).getD ((splitP s).length - 1) [] = ll) (w : World) :
    Calls Tryd.prog 30 #[.string (bs s)] w fun e w' => e = .returned (.agg #[.int .i64 k, .int .i64 a1, .int .i64 0, .int .i64 a2, .int .u64 0, .int .u64 0, .bool qq, .string ⟨#[]⟩]) ∧ Below w.heap.size w w' := by
  have hSP := fun W => rsplit_any s hs W
  have hpos := splitP_pos s
  have hle := splitP_le s
  have hpl := fun p h => (Nat.le_trans (splitP_piece s p h) (by omega) : p.length ≤ 100000000)
  have hlm := last_mem s
  obtain ⟨ps, hps⟩ : ∃ ps, splitP s = ps := ⟨_, rfl⟩
  rw [hps] at hSP hk h1 h2 h3 h4 h5 hll hpos hle hpl hlm
  have hllen : ll.length ≤ 100000000 := by rw [← hll]; exact hpl _ hlm
  have hB0 : Below w.heap.size w (w.alloc (.cells #[.int .i64 0, .int .i64 0, .int .i64 0, .int .i64 0, .int .u64 0, .int .u64 0, .bool false, .string ⟨#[]⟩] 46)) := (Below.refl _ _).alloc (Nat.le_refl _) _
  have hX0 := heap_alloc_new w (.cells #[.int .i64 0, .int .i64 0, .int .i64 0, .int .i64 0, .int .u64 0, .int .u64 0, .bool false, .string ⟨#[]⟩] 46)
  have HSP := Lib.hid hSP
  have HB0 := Lib.hid hB0
  have HX0 := Lib.hid hX0
  have HK := Lib.hid hk
  have HA1 := Lib.hid h1
  have HA2 := Lib.hid h2
  have HA3 := Lib.hid h3
  have HA4 := Lib.hid h4
  have HA5 := Lib.hid h5
  have HLL := Lib.hid hll
  have HPL := Lib.hid hpl
  have HQ := Lib.hid hq
  have HUN := Lib.hid hun
  have HLE := Lib.hid hllen
  clear hSP hB0 hX0 hk h1 h2 h3 h4 h5 hll hpl hq hun hllen hlm hps
  go_enter Tryd.func30, Tryd.ntmps30
  go_wp2_with fail
  refine (HSP.out _).mono ?_
  rintro e w1 ⟨⟨A, cc, rfl, hv⟩, hb1⟩
  have HX := Lib.hid ((hb1.block _ (Array.getElem?_eq_some_iff.1 HX0.out).1).trans HX0.out)
  have HB1 := Lib.hid (below_call HB0.out HB0.out.size hb1)
  have HXL := Lib.hid (Array.getElem?_eq_some_iff.1 HX.out).1
  clear hb1 HB0 HSP HX0
  obtain ⟨g, o, rfl, _, _⟩ := hv.at_ (getElem_ex hpos).choose_spec
  have HV := Lib.hid hv
  have HC0 := Lib.hid (l0_cell hv hpos)
  have HCL := Lib.hid (l0_cell hv (i := ps.length - 1) (by omega))
  rw [HLL.out] at HCL
  have hs1 := fun W (hb : Below w1.heap.size w1 W) => rsmall_any ps (by omega) HPL.out 1 (by omega) _ cc W (StrV.keep hv hb)
  have hs2 := fun W (hb : Below w1.heap.size w1 W) => rsmall_any ps (by omega) HPL.out 2 (by omega) _ cc W (StrV.keep hv hb)
  have hs3 := fun W (hb : Below w1.heap.size w1 W) => rsmall_any ps (by omega) HPL.out 3 (by omega) _ cc W (StrV.keep hv hb)
  have hs4 := fun W (hb : Below w1.heap.size w1 W) => rvalue_any ps (by omega) HPL.out 4 (by omega) _ cc W (StrV.keep hv hb)
  have hs5 := fun W (hb : Below w1.heap.size w1 W) => rvalue_any ps (by omega) HPL.out 5 (by omega) _ cc W (StrV.keep hv hb)
  rw [HA1.out] at hs1
  rw [HA2.out] at hs2
  rw [HA3.out] at hs3
  rw [HA4.out] at hs4
  rw [HA5.out] at hs5
  obtain ⟨l0, hl0⟩ : ∃ l0, ps.getD 0 [] = l0 := ⟨_, rfl⟩
  rw [hl0] at HK HC0
  obtain ⟨L, hL⟩ : ∃ L, ps.length = L := ⟨_, rfl⟩
  rw [hL] at hpos hle HCL hs1 hs2 hs3 hs4 hs5 ⊢
  have hposI : (0 : Int) < L := by omega
  have hL0 : ¬ L = 0 := by omega
  have hwL : IntKind.i64.wrap ((L : Int) - 1) = (L : Int) - 1 := IntWalk.i64_in _ (by omega)
  have hlL : ¬ (L : Int) ≤ (L : Int) - 1 := by omega
  have h1L : (1 : Int) ≤ L := by omega
  have hleI : (L : Int) ≤ 10000001 := by omega
  have hL1 : ((L : Int) - 1).toNat = L - 1 := by omega
  have HS1 := Lib.hid hs1
  have HS2 := Lib.hid hs2
  have HS3 := Lib.hid hs3
  have HS4 := Lib.hid hs4
  have HS5 := Lib.hid hs5
  have hlk := lastP_kind l0
  rw [HK.out] at hlk
  have HLK := Lib.hid hlk
  clear hs1 hs2 hs3 hs4 hs5 hl0 hL hv HV hlk HPL hle hpos hs HA1 HA2 HA3 HA4 HA5 HLL HK
  go_wp2_with fail
  refine (HS1.out _ (Below.refl _ _)).mono ?_
  rintro e w1' ⟨rfl, rfl⟩
  clear HS1
  have hD0 := heap_alloc_new w1' (.cells #[.int .i64 0, .int .i64 a1, .int .i64 0, .int .i64 0, .int .u64 0, .int .u64 0, .bool false, .string ⟨#[]⟩] 46)
  obtain ⟨D, hDe⟩ : ∃ D, w1'.heap.size = D := ⟨_, rfl⟩
  have hBD := (Below.refl w1'.heap.size w1').alloc (Nat.le_refl _) (.cells #[.int .i64 0, .int .i64 a1, .int .i64 0, .int .i64 0, .int .u64 0, .int .u64 0, .bool false, .string ⟨#[]⟩] 46)
  rw [hDe] at hD0 HXL HS2 HS3 HS4 HS5 hBD
  have HD0 := Lib.hid hD0
  have HBD := Lib.hid hBD
  have HDS := Lib.hid (show (w1'.alloc (.cells #[.int .i64 0, .int .i64 a1, .int .i64 0, .int .i64 0, .int .u64 0, .int .u64 0, .bool false, .string ⟨#[]⟩] 46)).heap.size = D + 1 by simp [hDe])
  clear hD0 hBD
  go_wp2_with fail
  refine (rkinds_any _).mono ?_
  rintro e w2 ⟨rfl, hw2⟩
  have HK2 : Hid (w2.heap[D + 1]? = some (.cells kindsC.toArray 9 (0, 0))) := Lib.hid (by rw [hw2, ← HDS.out]; exact heap_alloc_new _ _)
  have HD2 : Hid (w2.heap[D]? = some (.cells #[.int .i64 0, .int .i64 a1, .int .i64 0, .int .i64 0, .int .u64 0, .int .u64 0, .bool false, .string ⟨#[]⟩] 46 (0, 0))) := Lib.hid (by rw [hw2]; exact (heap_alloc_old _ _ (Array.getElem?_eq_some_iff.1 HD0.out).1).trans HD0.out)
  have HB2 : Hid (Below D w1' w2) := Lib.hid (by rw [hw2]; exact HBD.out.alloc (by rw [HDS.out]; omega) _)
  rw [HDS.out]
  clear hw2 HD0 HBD HDS
  go_wp2_with fail
  go_loopw [17] (fun x wr => ∃ j : Nat, x = .int .i64 j ∧ j ≤ 10 ∧ Hid (wr.heap[D]? = some (.cells #[.int .i64 (lastP l0 j), .int .i64 a1, .int .i64 0, .int .i64 0, .int .u64 0, .int .u64 0, .bool false, .string ⟨#[]⟩] 46 (0, 0))) ∧ Hid (wr.heap[D + 1]? = some (.cells kindsC.toArray 9 (0, 0))) ∧ Hid (Below D w1' wr)) (fun x _ => 10 - (intOf x).toNat)
  case atStart => exact ⟨0, rfl, by omega, HD2, HK2, HB2⟩
  case round =>
    clear HD2 HK2 HB2
    obtain ⟨j, rfl, hj, HD, HKK, HB⟩ := hrel
    by_cases hlt : j < 10
    · have hltI : (j : Int) < 10 := by omega
      obtain ⟨kj, hkj⟩ : ∃ kj, kinds10[j]? = some kj := getElem_ex (show j < kinds10.length by show j < 10; exact hlt)
      have ck : wr.cell? ⟨D + 1, j, none⟩ = some (.string (bs kj)) := rc HKK.out j (by simpa [kindsC] using strC_get hkj)
      have c0 := (HB.out.cell (by rw [← hDe]; exact lt_of_cell HC0.out)).trans HC0.out
      simp only [Nat.add_zero] at c0
      have d0 : wr.cell? ⟨D, 0, none⟩ = some (.int .i64 (lastP l0 j)) := rc HD.out 0 rfl
      have f0 := rf HD.out 0
      have hst : lastP l0 (j + 1) = if 0 < j ∧ kinds10[j]? = some l0 then (j : Int) else lastP l0 j := rfl
      rw [hkj] at hst
      have HST := Lib.hid hst
      clear hst hkj
      by_cases hj0 : j = 0
      · subst hj0
        have HE : Hid (lastP l0 (0 + 1) = lastP l0 0) := Lib.hid (by rw [HST.out, if_neg (by omega)])
        clear HST
        go_wp2_with fail
        go_roundw
        case rel => exact ⟨0 + 1, by go_num, by omega, by rw [HE.out]; exact HD, HKK, HB⟩
        case measure => simp [intOf]
      · have hjI : (0 : Int) < j := by omega
        obtain ⟨q, hqe⟩ : ∃ q, (kj == l0) = q := ⟨_, rfl⟩
        cases q with
        | true =>
          have HE : Hid (lastP l0 (j + 1) = (j : Int)) := Lib.hid (by rw [HST.out, if_pos ⟨by omega, by rw [beq_iff_eq] at hqe; rw [hqe]⟩])
          clear HST
          go_wp2_with fail
          go_roundw
          case rel => exact ⟨j + 1, by go_num, by omega, Lib.hid (by rw [HE.out]; exact heap_setCell_here HD.out _), Lib.hid ((heap_set_ne (by omega) _).trans HKK.out), Lib.hid (HB.out.setCell (p := ⟨D, 0, none⟩) (Nat.le_refl _) _)⟩
          case measure => simp [intOf]; omega
        | false =>
          have HE : Hid (lastP l0 (j + 1) = lastP l0 j) := Lib.hid (by rw [HST.out, if_neg]; rintro ⟨_, h⟩; injection h with h; rw [h] at hqe; simp at hqe)
          clear HST
          go_wp2_with fail
          go_roundw
          case rel => exact ⟨j + 1, by go_num, by omega, by rw [HE.out]; exact HD, HKK, HB⟩
          case measure => simp [intOf]; omega
    · obtain rfl : j = 10 := by omega
      rw [HLK.out] at HD
      have hXD : ¬ w.heap.size = D := by have := HXL.out; omega
      have hDX : ¬ D = w.heap.size := fun e => hXD e.symm
      have cl := (HB.out.cell (by rw [← hDe]; exact lt_of_cell HCL.out)).trans HCL.out
      have hX := (HB.out.block w.heap.size HXL.out).trans HX.out
      have c0 : wr.cell? ⟨D, 0, none⟩ = some (.int .i64 k) := rc HD.out 0 rfl
      have c1 : wr.cell? ⟨D, 1, none⟩ = some (.int .i64 a1) := rc HD.out 1 rfl
      have c2 : wr.cell? ⟨D, 2, none⟩ = some (.int .i64 0) := rc HD.out 2 rfl
      have c3 : wr.cell? ⟨D, 3, none⟩ = some (.int .i64 0) := rc HD.out 3 rfl
      have c4 : wr.cell? ⟨D, 4, none⟩ = some (.int .u64 0) := rc HD.out 4 rfl
      have c5 : wr.cell? ⟨D, 5, none⟩ = some (.int .u64 0) := rc HD.out 5 rfl
      have c6 : wr.cell? ⟨D, 6, none⟩ = some (.bool false) := rc HD.out 6 rfl
      have c7 : wr.cell? ⟨D, 7, none⟩ = some (.string ⟨#[]⟩) := rc HD.out 7 rfl
      have e0 : wr.frozen? ⟨D, 0, none⟩ = false := rf HD.out 0
      have e1 : wr.frozen? ⟨D, 1, none⟩ = false := rf HD.out 1
      have e2 : wr.frozen? ⟨D, 2, none⟩ = false := rf HD.out 2
      have e3 : wr.frozen? ⟨D, 3, none⟩ = false := rf HD.out 3
      have e4 : wr.frozen? ⟨D, 4, none⟩ = false := rf HD.out 4
      have e5 : wr.frozen? ⟨D, 5, none⟩ = false := rf HD.out 5
      have e6 : wr.frozen? ⟨D, 6, none⟩ = false := rf HD.out 6
      have e7 : wr.frozen? ⟨D, 7, none⟩ = false := rf HD.out 7
      have d0 : wr.cell? ⟨w.heap.size, 0, none⟩ = some (.int .i64 0) := rc hX 0 rfl
      have f0 : wr.frozen? ⟨w.heap.size, 0, none⟩ = false := rf hX 0
      have d1 : wr.cell? ⟨w.heap.size, 1, none⟩ = some (.int .i64 0) := rc hX 1 rfl
      have f1 : wr.frozen? ⟨w.heap.size, 1, none⟩ = false := rf hX 1
      have d2 : wr.cell? ⟨w.heap.size, 2, none⟩ = some (.int .i64 0) := rc hX 2 rfl
      have f2 : wr.frozen? ⟨w.heap.size, 2, none⟩ = false := rf hX 2
      have d3 : wr.cell? ⟨w.heap.size, 3, none⟩ = some (.int .i64 0) := rc hX 3 rfl
      have f3 : wr.frozen? ⟨w.heap.size, 3, none⟩ = false := rf hX 3
      have d4 : wr.cell? ⟨w.heap.size, 4, none⟩ = some (.int .u64 0) := rc hX 4 rfl
      have f4 : wr.frozen? ⟨w.heap.size, 4, none⟩ = false := rf hX 4
      have d5 : wr.cell? ⟨w.heap.size, 5, none⟩ = some (.int .u64 0) := rc hX 5 rfl
      have f5 : wr.frozen? ⟨w.heap.size, 5, none⟩ = false := rf hX 5
      have d6 : wr.cell? ⟨w.heap.size, 6, none⟩ = some (.bool false) := rc hX 6 rfl
      have f6 : wr.frozen? ⟨w.heap.size, 6, none⟩ = false := rf hX 6
      have d7 : wr.cell? ⟨w.heap.size, 7, none⟩ = some (.string ⟨#[]⟩) := rc hX 7 rfl
      have f7 : wr.frozen? ⟨w.heap.size, 7, none⟩ = false := rf hX 7
      go_wp2_with fail
      refine (HS2.out _ HB.out).mono ?_
      rintro e w20 ⟨rfl, rfl⟩
      have hqq := HQ.out
      go_wp2_with fail
      have hfin := heap_setCell_here (heap_setCell_here (heap_setCell_here (heap_setCell_here (heap_setCell_here (heap_setCell_here (heap_setCell_here (heap_setCell_here ((heap_set_ne (b := D) (i := 6) hXD (.bool qq)).trans ((heap_set_ne (b := D) (i := 3) hXD (.int .i64 a2)).trans (hX))) (i := 0) (.int .i64 k)) (i := 1) (.int .i64 a1)) (i := 2) (.int .i64 0)) (i := 3) (.int .i64 a2)) (i := 4) (.int .u64 0)) (i := 5) (.int .u64 0)) (i := 6) (.bool qq)) (i := 7) (.string ⟨#[]⟩)
      exact bodyPost_ret (v := .agg #[.int .i64 k, .int .i64 a1, .int .i64 0, .int .i64 a2, .int .u64 0, .int .u64 0, .bool qq, .string ⟨#[]⟩]) (results_cell_row rfl _ _ w.heap.size _ _ _ _ rfl hfin Tryd.underlying46 rfl infoDd) rfl ⟨rfl, (((((((((HB1.out.trans (((HB.out.setCell (p := ⟨D, _, _⟩) (Nat.le_refl _) _).setCell (p := ⟨D, _, _⟩) (Nat.le_refl _) _).mono (Nat.le_of_lt HXL.out))).setCell (p := ⟨w.heap.size, _, _⟩) (Nat.le_refl _) _).setCell (p := ⟨w.heap.size, _, _⟩) (Nat.le_refl _) _).setCell (p := ⟨w.heap.size, _, _⟩) (Nat.le_refl _) _).setCell (p := ⟨w.heap.size, _, _⟩) (Nat.le_refl _) _).setCell (p := ⟨w.heap.size, _, _⟩) (Nat.le_refl _) _).setCell (p := ⟨w.heap.size, _, _⟩) (Nat.le_refl _) _).setCell (p := ⟨w.heap.size, _, _⟩) (Nat.le_refl _) _).setCell (p := ⟨w.heap.size, _, _⟩) (Nat.le_refl _) _)⟩
end Go.Proofs.YtggiicbjegmehaaDoor
