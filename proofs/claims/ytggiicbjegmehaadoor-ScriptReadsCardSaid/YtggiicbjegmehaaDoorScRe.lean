/- The walk of script.deed, a kind of its own. -/
import Derived.Test.YtggiicbjegmehaaDoorScR
namespace Go.Proofs.YtggiicbjegmehaaDoor
set_option linter.unusedVariables false
set_option linter.unusedSimpArgs false
open Go.RowKit

set_option maxRecDepth 100000 in
set_option maxHeartbeats 8000000 in
theorem deed_9 (s : Bytes) (hs : s.length ≤ 50000000) (k a1 a2 a3 n4 n5 : Int) (ll un : Bytes) (qq : Bool) (hq : (ll == [105, 110]) = qq) (hun : unP ll [] = un) (k5 : (k == 5) = false) (k7 : (k == 7) = false) (k8 : (k == 8) = false) (k9 : (k == 9) = true) (hk : kindP ((splitP s).getD 0 []) = k) (h1 : getI (splitP s) 1 = a1) (h2 : getI (splitP s) 2 = a2) (h3 : getI (splitP s) 3 = a3) (h4 : getU (splitP s) 4 = n4) (h5 : getU (splitP s) 5 = n5) (hll : (splitP s).getD ((splitP s).length - 1) [] = ll) (w : World) (he : Env w) :
    Calls Tryd.prog 22 #[.string (bs s)] w fun e w' => e = .returned (.agg #[.int .i64 k, .int .i64 a1, .int .i64 0, .int .i64 0, .int .u64 0, .int .u64 0, .bool false, .string (bs un)]) ∧ Below w.heap.size w w' := by
  have hSP := fun W hb => split_any s (by omega) W (he.keep hb)
  have hWD := words_any
  have hpos := splitP_pos s
  have hle := splitP_le s
  have hpl := fun p h => (Nat.le_trans (splitP_piece s p h) (by omega) : p.length ≤ 100000000)
  obtain ⟨ps, hps⟩ : ∃ ps, splitP s = ps := ⟨_, rfl⟩
  rw [hps] at hSP hk h1 h2 h3 h4 h5 hll hpos hle hpl
  have hB0 : Below w.heap.size w (w.alloc (.cells #[.int .i64 0, .int .i64 0, .int .i64 0, .int .i64 0, .int .u64 0, .int .u64 0, .bool false, .string ⟨#[]⟩] 46)) := (Below.refl _ _).alloc (Nat.le_refl _) _
  have hX0 := heap_alloc_new w (.cells #[.int .i64 0, .int .i64 0, .int .i64 0, .int .i64 0, .int .u64 0, .int .u64 0, .bool false, .string ⟨#[]⟩] 46)
  have HSP := Lib.hid hSP
  have HWD := Lib.hid hWD
  have HB0 := Lib.hid hB0
  have HX0 := Lib.hid hX0
  have HK := Lib.hid hk
  have HA1 := Lib.hid h1
  have HA2 := Lib.hid h2
  have HA3 := Lib.hid h3
  have HA4 := Lib.hid h4
  have HA5 := Lib.hid h5
  have HLL := Lib.hid hll
  have HPL := Lib.hid hpl
  have HE := Lib.hid he
  clear hSP hWD hB0 hX0 hk h1 h2 h3 h4 h5 hll hpl he
  go_enter Tryd.func22, Tryd.ntmps22
  go_wp2_with fail
  refine (HSP.out _ HB0.out).mono ?_
  rintro e w1 ⟨⟨A, rfl, hv⟩, hb1⟩
  have HX1 := Lib.hid ((hb1.block _ (Array.getElem?_eq_some_iff.1 HX0.out).1).trans HX0.out)
  have HB1 := Lib.hid (below_call HB0.out HB0.out.size hb1)
  clear hb1 HB0 HSP HX0
  go_wp2_with fail
  refine (HWD.out _).mono ?_
  rintro e w2 ⟨rfl, hb2⟩
  have HX2 := Lib.hid ((hb2.block _ (Array.getElem?_eq_some_iff.1 HX1.out).1).trans HX1.out)
  have HB2 := Lib.hid (below_call HB1.out HB1.out.size hb2)
  have hv2 := (StrV.keep hv hb2).alloc (.cells wordsC.toArray 63)
  clear hv HB1 hb2 HX1 HWD
  have hst : (storeCells ⟨w2.heap.size, 0, none⟩ wordsC 0).run Tryd.prog (w2.alloc (.cells #[.string ⟨#[]⟩, .string ⟨#[]⟩, .string ⟨#[]⟩, .string ⟨#[]⟩, .string ⟨#[]⟩, .string ⟨#[]⟩, .string ⟨#[]⟩, .string ⟨#[]⟩, .string ⟨#[]⟩] 63)) = .ok () (w2.alloc (.cells wordsC.toArray 63)) := run_storeCells_new w2 _ #[.string ⟨#[]⟩, .string ⟨#[]⟩, .string ⟨#[]⟩, .string ⟨#[]⟩, .string ⟨#[]⟩, .string ⟨#[]⟩, .string ⟨#[]⟩, .string ⟨#[]⟩, .string ⟨#[]⟩] wordsC.toArray infoWords rfl (by kernel_rfl)
  go_wp2_with fail
  clear hst
  -- the world from which on blocks are the call's own
  have HBW := Lib.hid (HB2.out.alloc HB2.out.size (.cells wordsC.toArray 63))
  have HX := Lib.hid ((heap_alloc_old w2 (.cells wordsC.toArray 63) (Array.getElem?_eq_some_iff.1 HX2.out).1).trans HX2.out)
  have hG := heap_alloc_new w2 (.cells wordsC.toArray 63)
  obtain ⟨G, hGe⟩ : ∃ G, w2.heap.size = G := ⟨_, rfl⟩
  rw [hGe] at hG ⊢
  have HXw : Hid (w.heap.size ≤ w.heap.size) := Lib.hid (Nat.le_refl _)
  obtain ⟨W0, hW0⟩ : ∃ W0, w2.alloc (.cells wordsC.toArray 63) = W0 := ⟨_, rfl⟩
  rw [hW0] at HBW HX hG hv2 ⊢
  have HXL := Lib.hid (Array.getElem?_eq_some_iff.1 HX.out).1
  clear hGe hW0 HB2 HX2
  obtain ⟨X, hXe⟩ : ∃ X, w.heap.size = X := ⟨_, rfl⟩
  have HXw : Hid (w.heap.size ≤ X) := Lib.hid (by omega)
  rw [hXe] at HX HXL ⊢
  clear hXe
  -- what is called of it
  obtain ⟨g, o, rfl, _, _⟩ := hv2.at_ (getElem_ex hpos).choose_spec
  have HC0 := Lib.hid (l0_cell hv2 hpos)
  have HCL := Lib.hid (l0_cell hv2 (i := ps.length - 1) (by omega))
  rw [HLL.out] at HCL
  have HE0 := Lib.hid (HE.out.keep HBW.out)
  have HG1 := Lib.hid (fun W hb => getI_any ps (by omega) HPL.out 1 (by omega) _ ps.length W (HE0.out.keep hb) (StrV.keep hv2 hb))
  have HG2 := Lib.hid (fun W hb => getI_any ps (by omega) HPL.out 2 (by omega) _ ps.length W (HE0.out.keep hb) (StrV.keep hv2 hb))
  have HG3 := Lib.hid (fun W hb => getI_any ps (by omega) HPL.out 3 (by omega) _ ps.length W (HE0.out.keep hb) (StrV.keep hv2 hb))
  have HG4 := Lib.hid (fun W hb => getU_any ps (by omega) HPL.out 4 (by omega) _ ps.length W (HE0.out.keep hb) (StrV.keep hv2 hb))
  have HG5 := Lib.hid (fun W hb => getU_any ps (by omega) HPL.out 5 (by omega) _ ps.length W (HE0.out.keep hb) (StrV.keep hv2 hb))
  rw [HA1.out] at HG1
  rw [HA2.out] at HG2
  rw [HA3.out] at HG3
  rw [HA4.out] at HG4
  rw [HA5.out] at HG5
  have HUN := Lib.hid (fun W => unhexed_any ll (by rw [← HLL.out]; exact HPL.out _ (by rw [← hps]; exact last_mem s)) W)
  obtain ⟨l0, hl0⟩ : ∃ l0, ps.getD 0 [] = l0 := ⟨_, rfl⟩
  rw [hl0] at HK HC0
  have hkr := kindP_range l0
  rw [HK.out] at hkr
  have HIX : Hid (∀ W, Below W0.heap.size W0 W → Calls Tryd.prog 45 #[.slice (some ⟨G, 0, none⟩) 9 9, .string (bs l0)] W fun e w' => e = .returned (.int .i64 (k - 1)) ∧ Below W.heap.size W w') := Lib.hid (fun W hb => (slices_Index_string G 0 9 9 (wordsP.map bs) (bs l0) W (by decide) (by decide) (fun j hj => by
    have h9 : j < 9 := hj
    rw [Nat.zero_add]
    refine (hb.cell (p := ⟨G, j, none⟩) (Array.getElem?_eq_some_iff.1 hG).1).trans (rc hG j ?_)
    match j, h9 with
    | 0, _ => rfl | 1, _ => rfl | 2, _ => rfl | 3, _ => rfl | 4, _ => rfl | 5, _ => rfl | 6, _ => rfl | 7, _ => rfl | 8, _ => rfl)).mono (fun e w' hr => by
    obtain ⟨rfl, rfl⟩ := hr
    have e9 : Lib.idxOfS ((wordsP.map bs).take 9) (bs l0) = k - 1 := by rw [← HK.out]; show Lib.idxOfS (wordsP.map bs) (bs l0) = Lib.idxOfS (wordsP.map bs) (bs l0) + 1 - 1; omega
    rw [e9]
    exact ⟨rfl, Below.refl _ _⟩))
  have HSL : Hid (∀ W : World, (Instr.sliceAt 63 (.pointer (some ⟨G, 0, none⟩)) none none none).run Tryd.prog W = .ok (.slice (some ⟨G, 0, none⟩) 9 9) W) := Lib.hid (fun W => by
    have hal : Tryd.prog.arrayLen 63 = 9 := by kernel_rfl
    rw [run_sliceAt_array_all W 63 ⟨G, 0, none⟩ (by simp [Program.arrayLen, Program.elem, Tryd.underlying63])]
    rw [hal]
    go_simp)
  have HQE := Lib.hid hq
  obtain ⟨L, hL⟩ : ∃ L, ps.length = L := ⟨_, rfl⟩
  rw [hL] at hpos hle HCL HG1 HG2 HG3 HG4 HG5 ⊢
  have hposI : (0 : Int) < L := by omega
  have hL0 : ¬ L = 0 := by omega
  have hwL : IntKind.i64.wrap ((L : Int) - 1) = (L : Int) - 1 := IntWalk.i64_in _ (by omega)
  have hlL : ¬ (L : Int) ≤ (L : Int) - 1 := by omega
  have h1L : (1 : Int) ≤ L := by omega
  have hleI : (L : Int) ≤ 100000001 := by omega
  have hL1 : ((L : Int) - 1).toNat = L - 1 := by omega
  have hwk : k - 1 + 1 = k := by omega
  have hwk2 : IntKind.i64.wrap k = k := IntWalk.i64_in _ (by omega)
  rw [hun] at HUN
  have HU := Lib.hid hun
  have hC : Below W0.heap.size W0 W0.drew := (Below.refl _ _).drew
  clear hps HPL hv2 hl0 HK HE HE0 hG hq hL hun hle hpos hs
  have HR : Hid (True) := Lib.hid trivial
  refine wp_region_R [(99, fun w' => Below W0.heap.size W0 w')] (by kernel_rfl) ?_
  generalize W0.drew = W at hC ⊢
  refine R_p (i := 0) (v := .slice (some ⟨G, 0, none⟩) 9 9) (Meets.here hC Meets.nil) ?_ (hy := by intro w'; have h1 := HSL.out w'; go_simp)
  refine R_p (i := 1) (v := .slice (some ⟨g, o, none⟩) L L) (Meets.here hC Meets.nil) ?_
  refine R_p (i := 6) (v := .slice (some ⟨g, o, none⟩) L L) (Meets.here hC Meets.nil) ?_
  refine R_p (i := 2) (v := .pointer (some ⟨g, o, none⟩)) (Meets.here hC Meets.nil) ?_
  refine R_l (i := 3) (v := .string (bs l0)) 99 _ List.mem_cons_self rfl (yieldsIf_load_cell rfl rfl rfl (fun w' hS => (hS.cell (lt_of_cell HC0.out)).trans HC0.out) Tryd.underlying9 rfl) (Meets.here hC Meets.nil) ?_
  refine R_ready (rs := [4, 9]) (by kernel_rfl) (by simp) ?_
  refine AllReadyR.cons rfl (fun K hK => ?o4) (AllReadyR.cons rfl (fun K hK => ?o9) AllReadyR.nil)
  case' o4 =>
    go_simp
    refine (HIX.out _ hC).mono ?_
    rintro e w4 ⟨rfl, hb4⟩
    replace hC := below_call hC hC.size hb4
    clear hb4
    refine hK.out _ _ (Meets.here hC Meets.nil) (fun hMeets => ?_)
    clear hK K hMeets
    refine lay_R ?_
    refine R_p (i := 5) (v := .int .i64 k) (Meets.here hC Meets.nil) ?_
    refine R_ready (rs := [7, 9]) (by kernel_rfl) (by simp) ?_
    refine AllReadyR.cons rfl (fun K hK => ?o4_7) (AllReadyR.cons rfl (fun K hK => ?o4_9) AllReadyR.nil)
    case' o4_7 =>
      go_simp
      refine (HG1.out _ hC).mono ?_
      rintro e w7 ⟨rfl, hb7⟩
      replace hC := below_call hC hC.size hb7
      clear hb7
      refine hK.out _ _ (Meets.here hC Meets.nil) (fun hMeets => ?_)
      clear hK K hMeets
      refine lay_R ?_
      refine R_p (i := 8) (v := .agg #[.int .i64 k, .int .i64 a1, .int .i64 0, .int .i64 0, .int .u64 0, .int .u64 0, .bool false, .string ⟨#[]⟩]) (Meets.here hC Meets.nil) ?_
      refine R_now 9 fun K hK => ?_
      have hDW : W0.heap.size ≤ w7.heap.size := hC.size
      have hD := heap_alloc_new w7 (.cells #[.int .i64 0, .int .i64 0, .int .i64 0, .int .i64 0, .int .u64 0, .int .u64 0, .bool false, .string ⟨#[]⟩] 46)
      replace hC := hC.alloc hC.size (.cells #[.int .i64 0, .int .i64 0, .int .i64 0, .int .i64 0, .int .u64 0, .int .u64 0, .bool false, .string ⟨#[]⟩] 46)
      go_simp
      generalize hWn : w7.alloc (.cells #[.int .i64 0, .int .i64 0, .int .i64 0, .int .i64 0, .int .u64 0, .int .u64 0, .bool false, .string ⟨#[]⟩] 46) = w9 at *
      generalize w7.heap.size = D at *
      clear hWn
      refine hK.out _ _ (Meets.here hC Meets.nil) (fun hMeets => ?_)
      clear hK K hMeets
      refine lay_R ?_
      refine R_now 10 fun K hK => ?_
      refine wp_store_row _ _ _ rfl D #[.int .i64 k, .int .i64 a1, .int .i64 0, .int .i64 0, .int .u64 0, .int .u64 0, .bool false, .string ⟨#[]⟩] rfl rfl _ _ hD infoDd rfl (one_dd _ _ _ _ _ _ _ _) ?_
      replace hC := below_setRow hC hDW #[.int .i64 k, .int .i64 a1, .int .i64 0, .int .i64 0, .int .u64 0, .int .u64 0, .bool false, .string ⟨#[]⟩]
      replace hD := setRow_heap w9 D _ #[.int .i64 k, .int .i64 a1, .int .i64 0, .int .i64 0, .int .u64 0, .int .u64 0, .bool false, .string ⟨#[]⟩] _ _ hD
      generalize w9.setRow D #[.int .i64 k, .int .i64 a1, .int .i64 0, .int .i64 0, .int .u64 0, .int .u64 0, .bool false, .string ⟨#[]⟩] = w10 at *
      refine hK.out _ _ (Meets.here hC Meets.nil) (fun hMeets => ?_)
      clear hK K hMeets
      refine lay_R ?_
      refine R_done (by kernel_rfl) ?_ _
    case' o4_9 =>
      have hDW : W0.heap.size ≤ w4.heap.size := hC.size
      have hD := heap_alloc_new w4 (.cells #[.int .i64 0, .int .i64 0, .int .i64 0, .int .i64 0, .int .u64 0, .int .u64 0, .bool false, .string ⟨#[]⟩] 46)
      replace hC := hC.alloc hC.size (.cells #[.int .i64 0, .int .i64 0, .int .i64 0, .int .i64 0, .int .u64 0, .int .u64 0, .bool false, .string ⟨#[]⟩] 46)
      go_simp
      generalize hWn : w4.alloc (.cells #[.int .i64 0, .int .i64 0, .int .i64 0, .int .i64 0, .int .u64 0, .int .u64 0, .bool false, .string ⟨#[]⟩] 46) = w9 at *
      generalize w4.heap.size = D at *
      clear hWn
      refine hK.out _ _ (Meets.here hC Meets.nil) (fun hMeets => ?_)
      clear hK K hMeets
      refine lay_R ?_
      refine R_now 7 fun K hK => ?_
      go_simp
      refine (HG1.out _ hC).mono ?_
      rintro e w7 ⟨rfl, hb7⟩
      replace hC := below_call hC hC.size hb7
      replace hD := (hb7.block _ (Array.getElem?_eq_some_iff.1 hD).1).trans hD
      clear hb7
      refine hK.out _ _ (Meets.here hC Meets.nil) (fun hMeets => ?_)
      clear hK K hMeets
      refine lay_R ?_
      refine R_p (i := 8) (v := .agg #[.int .i64 k, .int .i64 a1, .int .i64 0, .int .i64 0, .int .u64 0, .int .u64 0, .bool false, .string ⟨#[]⟩]) (Meets.here hC Meets.nil) ?_
      refine R_now 10 fun K hK => ?_
      refine wp_store_row _ _ _ rfl D #[.int .i64 k, .int .i64 a1, .int .i64 0, .int .i64 0, .int .u64 0, .int .u64 0, .bool false, .string ⟨#[]⟩] rfl rfl _ _ hD infoDd rfl (one_dd _ _ _ _ _ _ _ _) ?_
      replace hC := below_setRow hC hDW #[.int .i64 k, .int .i64 a1, .int .i64 0, .int .i64 0, .int .u64 0, .int .u64 0, .bool false, .string ⟨#[]⟩]
      replace hD := setRow_heap w7 D _ #[.int .i64 k, .int .i64 a1, .int .i64 0, .int .i64 0, .int .u64 0, .int .u64 0, .bool false, .string ⟨#[]⟩] _ _ hD
      generalize w7.setRow D #[.int .i64 k, .int .i64 a1, .int .i64 0, .int .i64 0, .int .u64 0, .int .u64 0, .bool false, .string ⟨#[]⟩] = w10 at *
      refine hK.out _ _ (Meets.here hC Meets.nil) (fun hMeets => ?_)
      clear hK K hMeets
      refine lay_R ?_
      refine R_done (by kernel_rfl) ?_ _
  case' o9 =>
    have hDW : W0.heap.size ≤ W.heap.size := hC.size
    have hD := heap_alloc_new W (.cells #[.int .i64 0, .int .i64 0, .int .i64 0, .int .i64 0, .int .u64 0, .int .u64 0, .bool false, .string ⟨#[]⟩] 46)
    replace hC := hC.alloc hC.size (.cells #[.int .i64 0, .int .i64 0, .int .i64 0, .int .i64 0, .int .u64 0, .int .u64 0, .bool false, .string ⟨#[]⟩] 46)
    go_simp
    generalize hWn : W.alloc (.cells #[.int .i64 0, .int .i64 0, .int .i64 0, .int .i64 0, .int .u64 0, .int .u64 0, .bool false, .string ⟨#[]⟩] 46) = w9 at *
    generalize W.heap.size = D at *
    clear hWn
    refine hK.out _ _ (Meets.here hC Meets.nil) (fun hMeets => ?_)
    clear hK K hMeets
    refine lay_R ?_
    refine R_now 4 fun K hK => ?_
    go_simp
    refine (HIX.out _ hC).mono ?_
    rintro e w4 ⟨rfl, hb4⟩
    replace hC := below_call hC hC.size hb4
    replace hD := (hb4.block _ (Array.getElem?_eq_some_iff.1 hD).1).trans hD
    clear hb4
    refine hK.out _ _ (Meets.here hC Meets.nil) (fun hMeets => ?_)
    clear hK K hMeets
    refine lay_R ?_
    refine R_p (i := 5) (v := .int .i64 k) (Meets.here hC Meets.nil) ?_
    refine R_now 7 fun K hK => ?_
    go_simp
    refine (HG1.out _ hC).mono ?_
    rintro e w7 ⟨rfl, hb7⟩
    replace hC := below_call hC hC.size hb7
    replace hD := (hb7.block _ (Array.getElem?_eq_some_iff.1 hD).1).trans hD
    clear hb7
    refine hK.out _ _ (Meets.here hC Meets.nil) (fun hMeets => ?_)
    clear hK K hMeets
    refine lay_R ?_
    refine R_p (i := 8) (v := .agg #[.int .i64 k, .int .i64 a1, .int .i64 0, .int .i64 0, .int .u64 0, .int .u64 0, .bool false, .string ⟨#[]⟩]) (Meets.here hC Meets.nil) ?_
    refine R_now 10 fun K hK => ?_
    refine wp_store_row _ _ _ rfl D #[.int .i64 k, .int .i64 a1, .int .i64 0, .int .i64 0, .int .u64 0, .int .u64 0, .bool false, .string ⟨#[]⟩] rfl rfl _ _ hD infoDd rfl (one_dd _ _ _ _ _ _ _ _) ?_
    replace hC := below_setRow hC hDW #[.int .i64 k, .int .i64 a1, .int .i64 0, .int .i64 0, .int .u64 0, .int .u64 0, .bool false, .string ⟨#[]⟩]
    replace hD := setRow_heap w7 D _ #[.int .i64 k, .int .i64 a1, .int .i64 0, .int .i64 0, .int .u64 0, .int .u64 0, .bool false, .string ⟨#[]⟩] _ _ hD
    generalize w7.setRow D #[.int .i64 k, .int .i64 a1, .int .i64 0, .int .i64 0, .int .u64 0, .int .u64 0, .bool false, .string ⟨#[]⟩] = w10 at *
    refine hK.out _ _ (Meets.here hC Meets.nil) (fun hMeets => ?_)
    clear hK K hMeets
    refine lay_R ?_
    refine R_done (by kernel_rfl) ?_ _
  all_goals (
    have hDX : ¬ D = X := by have := HXL.out; omega
    have hXD : ¬ X = D := by have := HXL.out; omega
    have hX := (hC.block X HXL.out).trans HX.out
    have c0 : w10.cell? ⟨D, 0, none⟩ = some (.int .i64 k) := rc hD 0 rfl
    have c1 : w10.cell? ⟨D, 1, none⟩ = some (.int .i64 a1) := rc hD 1 rfl
    have c2 : w10.cell? ⟨D, 2, none⟩ = some (.int .i64 0) := rc hD 2 rfl
    have c3 : w10.cell? ⟨D, 3, none⟩ = some (.int .i64 0) := rc hD 3 rfl
    have c4 : w10.cell? ⟨D, 4, none⟩ = some (.int .u64 0) := rc hD 4 rfl
    have c5 : w10.cell? ⟨D, 5, none⟩ = some (.int .u64 0) := rc hD 5 rfl
    have c6 : w10.cell? ⟨D, 6, none⟩ = some (.bool false) := rc hD 6 rfl
    have c7 : w10.cell? ⟨D, 7, none⟩ = some (.string ⟨#[]⟩) := rc hD 7 rfl
    have d0 : w10.cell? ⟨X, 0, none⟩ = some (.int .i64 0) := rc hX 0 rfl
    have f0 : w10.frozen? ⟨X, 0, none⟩ = false := rf hX 0
    have d1 : w10.cell? ⟨X, 1, none⟩ = some (.int .i64 0) := rc hX 1 rfl
    have f1 : w10.frozen? ⟨X, 1, none⟩ = false := rf hX 1
    have d2 : w10.cell? ⟨X, 2, none⟩ = some (.int .i64 0) := rc hX 2 rfl
    have f2 : w10.frozen? ⟨X, 2, none⟩ = false := rf hX 2
    have d3 : w10.cell? ⟨X, 3, none⟩ = some (.int .i64 0) := rc hX 3 rfl
    have f3 : w10.frozen? ⟨X, 3, none⟩ = false := rf hX 3
    have d4 : w10.cell? ⟨X, 4, none⟩ = some (.int .u64 0) := rc hX 4 rfl
    have f4 : w10.frozen? ⟨X, 4, none⟩ = false := rf hX 4
    have d5 : w10.cell? ⟨X, 5, none⟩ = some (.int .u64 0) := rc hX 5 rfl
    have f5 : w10.frozen? ⟨X, 5, none⟩ = false := rf hX 5
    have d6 : w10.cell? ⟨X, 6, none⟩ = some (.bool false) := rc hX 6 rfl
    have f6 : w10.frozen? ⟨X, 6, none⟩ = false := rf hX 6
    have d7 : w10.cell? ⟨X, 7, none⟩ = some (.string ⟨#[]⟩) := rc hX 7 rfl
    have f7 : w10.frozen? ⟨X, 7, none⟩ = false := rf hX 7
    have cl := (hC.cell (lt_of_cell HCL.out)).trans HCL.out
    go_wp2_with fail
    clear cl
    refine (HUN.out _).mono ?_
    rintro e w20 ⟨⟨ub, rfl⟩, hb20⟩
    replace hC := below_call hC hC.size hb20
    replace hD := (hb20.block _ (Array.getElem?_eq_some_iff.1 hD).1).trans hD
    clear hb20
    clear hDX hXD hX c0 c1 c2 c3 c4 c5 c6 c7 d0 d1 d2 d3 d4 d5 d6 d7 f0 f1 f2 f3 f4 f5 f6 f7
    have hDX : ¬ D = X := by have := HXL.out; omega
    have hXD : ¬ X = D := by have := HXL.out; omega
    have hX := (hC.block X HXL.out).trans HX.out
    have c0 : w20.cell? ⟨D, 0, none⟩ = some (.int .i64 k) := rc hD 0 rfl
    have c1 : w20.cell? ⟨D, 1, none⟩ = some (.int .i64 a1) := rc hD 1 rfl
    have c2 : w20.cell? ⟨D, 2, none⟩ = some (.int .i64 0) := rc hD 2 rfl
    have c3 : w20.cell? ⟨D, 3, none⟩ = some (.int .i64 0) := rc hD 3 rfl
    have c4 : w20.cell? ⟨D, 4, none⟩ = some (.int .u64 0) := rc hD 4 rfl
    have c5 : w20.cell? ⟨D, 5, none⟩ = some (.int .u64 0) := rc hD 5 rfl
    have c6 : w20.cell? ⟨D, 6, none⟩ = some (.bool false) := rc hD 6 rfl
    have c7 : w20.cell? ⟨D, 7, none⟩ = some (.string ⟨#[]⟩) := rc hD 7 rfl
    have e7 : w20.frozen? ⟨D, 7, none⟩ = false := rf hD 7
    have d0 : w20.cell? ⟨X, 0, none⟩ = some (.int .i64 0) := rc hX 0 rfl
    have f0 : w20.frozen? ⟨X, 0, none⟩ = false := rf hX 0
    have d1 : w20.cell? ⟨X, 1, none⟩ = some (.int .i64 0) := rc hX 1 rfl
    have f1 : w20.frozen? ⟨X, 1, none⟩ = false := rf hX 1
    have d2 : w20.cell? ⟨X, 2, none⟩ = some (.int .i64 0) := rc hX 2 rfl
    have f2 : w20.frozen? ⟨X, 2, none⟩ = false := rf hX 2
    have d3 : w20.cell? ⟨X, 3, none⟩ = some (.int .i64 0) := rc hX 3 rfl
    have f3 : w20.frozen? ⟨X, 3, none⟩ = false := rf hX 3
    have d4 : w20.cell? ⟨X, 4, none⟩ = some (.int .u64 0) := rc hX 4 rfl
    have f4 : w20.frozen? ⟨X, 4, none⟩ = false := rf hX 4
    have d5 : w20.cell? ⟨X, 5, none⟩ = some (.int .u64 0) := rc hX 5 rfl
    have f5 : w20.frozen? ⟨X, 5, none⟩ = false := rf hX 5
    have d6 : w20.cell? ⟨X, 6, none⟩ = some (.bool false) := rc hX 6 rfl
    have f6 : w20.frozen? ⟨X, 6, none⟩ = false := rf hX 6
    have d7 : w20.cell? ⟨X, 7, none⟩ = some (.string ⟨#[]⟩) := rc hX 7 rfl
    have f7 : w20.frozen? ⟨X, 7, none⟩ = false := rf hX 7
    go_wp2_with fail
    have hfin := heap_setCell_here (heap_setCell_here (heap_setCell_here (heap_setCell_here (heap_setCell_here (heap_setCell_here (heap_setCell_here (heap_setCell_here ((heap_setCell_other _ ⟨D, 7, none⟩ X (.string (bs un)) (fun h => hXD (by simpa using h))).trans (hX)) (i := 0) (.int .i64 k)) (i := 1) (.int .i64 a1)) (i := 2) (.int .i64 0)) (i := 3) (.int .i64 0)) (i := 4) (.int .u64 0)) (i := 5) (.int .u64 0)) (i := 6) (.bool false)) (i := 7) (.string (bs un))
    exact bodyPost_ret (v := .agg #[.int .i64 k, .int .i64 a1, .int .i64 0, .int .i64 0, .int .u64 0, .int .u64 0, .bool false, .string (bs un)]) (results_cell_row rfl _ _ X _ _ _ _ rfl hfin Tryd.underlying46 rfl infoDd) rfl ⟨rfl, (((((((((HBW.out.trans ((hC.setCell (p := ⟨D, _, _⟩) hDW _).mono HBW.out.size)).setCell (p := ⟨X, _, _⟩) HXw.out _).setCell (p := ⟨X, _, _⟩) HXw.out _).setCell (p := ⟨X, _, _⟩) HXw.out _).setCell (p := ⟨X, _, _⟩) HXw.out _).setCell (p := ⟨X, _, _⟩) HXw.out _).setCell (p := ⟨X, _, _⟩) HXw.out _).setCell (p := ⟨X, _, _⟩) HXw.out _).setCell (p := ⟨X, _, _⟩) HXw.out _)⟩
  )
end Go.Proofs.YtggiicbjegmehaaDoor
