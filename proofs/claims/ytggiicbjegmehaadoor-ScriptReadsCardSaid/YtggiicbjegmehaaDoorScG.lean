/- The walk of script.first. -/
import Derived.Test.YtggiicbjegmehaaDoorScF
namespace Go.Proofs.YtggiicbjegmehaaDoor
set_option linter.unusedVariables false
set_option linter.unusedSimpArgs false
open Go.RowKit

theorem map_bs (ps : List Bytes) : (ps.map bs).map (·.data.toList) = ps := by
  rw [List.map_map]; conv => rhs; rw [← List.map_id ps]
  exact List.map_congr_left fun a _ => by simp [bs]
theorem join_any (ps : List Bytes) (hne : ps ≠ []) (hN : ps.length ≤ 100000) (sep : Bytes) (hlen : (Lib.join ps sep).length ≤ 140737488355328) (A : Option Addr) (c : Nat) (w : World) (hv : StrV Any w ps A c) :
    Calls Tryd.prog 33 #[.slice A ps.length c, .string (bs sep)] w fun e w' => e = .returned (.string (bs (Lib.join ps sep))) ∧ Below w.heap.size w w' := by
  have hc : ps.length ≤ c := hv.len.1
  obtain ⟨p, hp⟩ : ∃ p, ps[0]? = some p := by cases ps with | nil => exact absurd rfl hne | cons a l => exact ⟨a, rfl⟩
  obtain ⟨g, o, rfl, _, h0⟩ := hv.at_ hp
  have h := strings_Join g o c (ps.map bs) (bs sep) w (fun j x hj => by
    rw [List.getElem?_map, Option.map_eq_some_iff] at hj
    obtain ⟨y, hy, rfl⟩ := hj
    obtain ⟨g1, o1, h1, _, h2⟩ := hv.at_ hy
    injection h1 with h1
    injection h1 with h1 h3
    subst h1; subst h3
    exact h2) (lt_of_cell h0) (by rw [List.length_map]; omega) (by rw [List.length_map]; exact hc) (by rw [map_bs]; exact hlen)
  rw [map_bs, List.length_map] at h
  exact h
theorem decI_len {n : Int} (h : n ≤ 18446744073709551615) : (decI n).length ≤ 20 := by
  show (Lib.decDigits n.toNat).length ≤ 20
  rw [Lib.decDigits_length]
  exact Lib.nDigits_le20 _ (by omega)
theorem joinTail_len (sep : Bytes) (b : Nat) : ∀ (l : List Bytes), (∀ p ∈ l, p.length ≤ b) → (Lib.joinTail sep l).length ≤ l.length * (sep.length + b)
  | [], _ => by simp [Lib.joinTail]
  | p :: l, h => by
    have := joinTail_len sep b l (fun q hq => h q (List.mem_cons_of_mem _ hq))
    have h1 := h p (List.mem_cons_self ..)
    have e : Lib.joinTail sep (p :: l) = sep ++ p ++ Lib.joinTail sep l := by simp [Lib.joinTail]
    rw [e, List.length_append, List.length_append, List.length_cons, Nat.add_mul]
    omega
theorem join_len (sep : Bytes) (b : Nat) (p : Bytes) (l : List Bytes) (h : ∀ q ∈ p :: l, q.length ≤ b) : (Lib.join (p :: l) sep).length ≤ b + l.length * (sep.length + b) := by
  rw [Lib.join_cons, List.length_append]
  have := joinTail_len sep b l (fun q hq => h q (List.mem_cons_of_mem _ hq))
  have := h p (List.mem_cons_self ..)
  omega

set_option maxRecDepth 100000 in
set_option maxHeartbeats 8000000 in
theorem first_any (many set ep has : Int) (A : Option Addr) (L c : Nat) (hm : 0 ≤ many ∧ many ≤ 9223372036854775807) (hs : 0 ≤ set ∧ set ≤ 9223372036854775807) (hep : 0 ≤ ep ∧ ep ≤ 18446744073709551615) (hhas : 0 ≤ has ∧ has ≤ 18446744073709551615) (w : World) (he : Env w) :
    Calls Tryd.prog 21 #[.agg #[.int .i64 many, .int .i64 set, .int .u64 ep, .int .u64 has, .slice A L c]] w fun e w' => e = .returned (.string (bs (Lib.join [[110, 111, 100, 101, 115], decI many, decI set, decI ep, decI has] [32]))) ∧ Below w.heap.size w w' := by
  have hlen : (Lib.join [[110, 111, 100, 101, 115], decI many, decI set, decI ep, decI has] [32]).length ≤ 140737488355328 := by
    have h1 := decI_len (n := many) (by omega)
    have h2 := decI_len (n := set) (by omega)
    have h3 := decI_len (n := ep) (by omega)
    have h4 := decI_len (n := has) (by omega)
    have := join_len [32] 20 [110, 111, 100, 101, 115] [decI many, decI set, decI ep, decI has] (fun q hq => by
      simp only [List.mem_cons, List.mem_nil_iff, or_false] at hq
      rcases hq with rfl | rfl | rfl | rfl | rfl <;> first | assumption | simp)
    simp only [List.length_cons, List.length_nil] at this
    omega
  have hSI : ∀ (W : World) (b : Nat), Below w.heap.size w W → Lies Any W (some ⟨b, 0, none⟩) [.int .i64 many, .int .i64 set] → Calls Tryd.prog 42 #[.slice (some ⟨b, 0, none⟩) 2 2] W fun e w' => (∃ A1 c1, e = .returned (.slice A1 2 c1) ∧ StrV (Fresh W.heap.size) w' [decI many, decI set] A1 c1) ∧ Below W.heap.size W w' :=
    fun W b hb hl => showI_any [many, set] (fun n hn => by simp only [List.mem_cons, List.mem_nil_iff, or_false] at hn; rcases hn with rfl | rfl <;> omega) (by simp) _ 2 W (he.keep hb) hl
  have hSU : ∀ (W : World) (b : Nat), Below w.heap.size w W → Lies Any W (some ⟨b, 0, none⟩) [.int .u64 ep, .int .u64 has] → Calls Tryd.prog 43 #[.slice (some ⟨b, 0, none⟩) 2 2] W fun e w' => (∃ A1 c1, e = .returned (.slice A1 2 c1) ∧ StrV (Fresh W.heap.size) w' [decI ep, decI has] A1 c1) ∧ Below W.heap.size W w' :=
    fun W b hb hl => showU_any [ep, has] (fun n hn => by simp only [List.mem_cons, List.mem_nil_iff, or_false] at hn; rcases hn with rfl | rfl <;> omega) (by simp) _ 2 W (he.keep hb) hl
  have hJ : ∀ (A : Option Addr) (c : Nat) (W : World), StrV (Fresh (w.heap.size + 1)) W [[110, 111, 100, 101, 115], decI many, decI set, decI ep, decI has] A c → Calls Tryd.prog 33 #[.slice A 5 c, .string ⟨#[32]⟩] W fun e w' => e = .returned (.string (bs (Lib.join [[110, 111, 100, 101, 115], decI many, decI set, decI ep, decI has] [32]))) ∧ Below W.heap.size W w' :=
    fun A c W hv => join_any [[110, 111, 100, 101, 115], decI many, decI set, decI ep, decI has] (by simp) (by simp) [32] hlen A c W hv.any
  obtain ⟨FL, hFL⟩ : ∃ FL, Lib.join [[110, 111, 100, 101, 115], decI many, decI set, decI ep, decI has] [32] = FL := ⟨_, rfl⟩
  rw [hFL] at hJ ⊢
  have hX0 := heap_alloc_new w (.cells #[.int .i64 many, .int .i64 set, .int .u64 ep, .int .u64 has, .slice A L c] 25)
  have hB0 : Below w.heap.size w (w.alloc (.cells #[.int .i64 many, .int .i64 set, .int .u64 ep, .int .u64 has, .slice A L c] 25)) := (Below.refl _ _).alloc (Nat.le_refl _) _
  have hle0 : w.heap.size + 1 ≤ (w.alloc (.cells #[.int .i64 many, .int .i64 set, .int .u64 ep, .int .u64 has, .slice A L c] 25)).heap.size := by simp
  obtain ⟨X, hXe⟩ : ∃ X, w.heap.size = X := ⟨_, rfl⟩
  rw [hXe] at hX0 hJ hle0
  have hXw : w.heap.size ≤ X + 1 := by omega
  have HSI := Lib.hid hSI
  have HSU := Lib.hid hSU
  have HJ := Lib.hid hJ
  have HX0 := Lib.hid hX0
  have HB0 := Lib.hid hB0
  have HL0 := Lib.hid hle0
  clear hSI hSU hJ hX0 hB0 hle0 hlen hFL he
  go_enter Tryd.func21, Tryd.ntmps21
  go_wp2_with fail
  try rw [hXe]
  have hX : (w.alloc (.cells #[.int .i64 many, .int .i64 set, .int .u64 ep, .int .u64 has, .slice A L c] 25)).drew.heap[X]? = some (.cells #[.int .i64 many, .int .i64 set, .int .u64 ep, .int .u64 has, .slice A L c] 25 (0, 0)) := HX0.out
  have hB : Below w.heap.size w (w.alloc (.cells #[.int .i64 many, .int .i64 set, .int .u64 ep, .int .u64 has, .slice A L c] 25)).drew := HB0.out.drew
  have hle : X + 1 ≤ (w.alloc (.cells #[.int .i64 many, .int .i64 set, .int .u64 ep, .int .u64 has, .slice A L c] 25)).drew.heap.size := HL0.out
  clear HX0 HB0 HL0
  refine wp_region_R [(99, fun w' => w'.heap[X]? = some (.cells #[.int .i64 many, .int .i64 set, .int .u64 ep, .int .u64 has, .slice A L c] 25 (0, 0)))] (by kernel_rfl) ?_
  generalize (w.alloc (.cells #[.int .i64 many, .int .i64 set, .int .u64 ep, .int .u64 has, .slice A L c] 25)).drew = W at hX hB hle ⊢
  refine R_p (i := 1) (v := .pointer (some ⟨X, 0, none⟩)) (Meets.here hX Meets.nil) ?_
  refine R_p (i := 3) (v := .pointer (some ⟨X, 1, none⟩)) (Meets.here hX Meets.nil) ?_
  refine R_p (i := 8) (v := .pointer (some ⟨X, 2, none⟩)) (Meets.here hX Meets.nil) ?_
  refine R_p (i := 10) (v := .pointer (some ⟨X, 3, none⟩)) (Meets.here hX Meets.nil) ?_
  refine R_l (i := 2) (v := .int .i64 many) 99 _ List.mem_cons_self rfl (yieldsIf_load_cell rfl rfl rfl (fun w' hS => rc hS 0 rfl) Tryd.underlying3 rfl) (Meets.here hX Meets.nil) ?_
  refine R_l (i := 4) (v := .int .i64 set) 99 _ List.mem_cons_self rfl (yieldsIf_load_cell rfl rfl rfl (fun w' hS => rc hS 1 rfl) Tryd.underlying3 rfl) (Meets.here hX Meets.nil) ?_
  refine R_l (i := 9) (v := .int .u64 ep) 99 _ List.mem_cons_self rfl (yieldsIf_load_cell rfl rfl rfl (fun w' hS => rc hS 2 rfl) Tryd.underlying22 rfl) (Meets.here hX Meets.nil) ?_
  refine R_l (i := 11) (v := .int .u64 has) 99 _ List.mem_cons_self rfl (yieldsIf_load_cell rfl rfl rfl (fun w' hS => rc hS 3 rfl) Tryd.underlying22 rfl) (Meets.here hX Meets.nil) ?_
  refine R_ready (rs := [0, 5, 12]) (by kernel_rfl) (by simp) ?_
  refine AllReadyR.cons rfl (fun K hK => ?o0) (AllReadyR.cons rfl (fun K hK => ?o5) (AllReadyR.cons rfl (fun K hK => ?o12) AllReadyR.nil))
  case' o0 =>
    have hbb : Below W.heap.size W (W.alloc (.cells #[.string ⟨#[110, 111, 100, 101, 115]⟩] 9)) := (Below.refl _ _).alloc (Nat.le_refl _) _
    obtain ⟨b0, hb0⟩ : ∃ b0, W.heap.size = b0 := ⟨_, rfl⟩
    have hR0 := heap_alloc_new W (.cells #[.string ⟨#[110, 111, 100, 101, 115]⟩] 9)
    rw [hb0] at hR0
    have hown := World.ownsRow_lit (base := X + 1) (e := 9) (size := 1) W #[.string ⟨#[110, 111, 100, 101, 115]⟩] 1 hle (by simp [maxLen]) rfl
    rw [hb0] at hown
    replace hX := (hbb.block _ (Array.getElem?_eq_some_iff.1 hX).1).trans hX
    replace hB := below_call hB hB.size hbb
    replace hle := Nat.le_trans hle hbb.size
    go_simp
    generalize W.alloc (.cells #[.string ⟨#[110, 111, 100, 101, 115]⟩] 9) = w0 at *
    try rw [hb0]
    clear hbb hb0
    clear hR0
    refine hK.out _ _ (Meets.here hX Meets.nil) (fun hMeets => ?_)
    clear hK K hMeets
    refine lay_R ?_
    refine R_ready (rs := [5, 12]) (by kernel_rfl) (by simp) ?_
    refine AllReadyR.cons rfl (fun K hK => ?o0_5) (AllReadyR.cons rfl (fun K hK => ?o0_12) AllReadyR.nil)
    case' o0_5 =>
      have hbb : Below w0.heap.size w0 (w0.alloc (.cells #[.int .i64 many, .int .i64 set] 3)) := (Below.refl _ _).alloc (Nat.le_refl _) _
      obtain ⟨b5, hb5⟩ : ∃ b5, w0.heap.size = b5 := ⟨_, rfl⟩
      have hR5 := heap_alloc_new w0 (.cells #[.int .i64 many, .int .i64 set] 3)
      rw [hb5] at hR5
      have hNb5 : ∀ k, (Value.slice (some ⟨b0, 0, none⟩) 1 1).ownBlock = some k → b5 ≠ k := fun k e => by have := (hown.lt k e).2; omega
      replace hX := (hbb.block _ (Array.getElem?_eq_some_iff.1 hX).1).trans hX
      replace hB := below_call hB hB.size hbb
      replace hle := Nat.le_trans hle hbb.size
      replace hown := own_keep hown hbb
      go_simp
      generalize w0.alloc (.cells #[.int .i64 many, .int .i64 set] 3) = w5 at *
      try rw [hb5]
      clear hbb hb5
      refine hK.out _ _ (Meets.here hX Meets.nil) (fun hMeets => ?_)
      clear hK K hMeets
      refine lay_R ?_
      refine R_ready (rs := [6, 12]) (by kernel_rfl) (by simp) ?_
      refine AllReadyR.cons rfl (fun K hK => ?o0_5_6) (AllReadyR.cons rfl (fun K hK => ?o0_5_12) AllReadyR.nil)
      case' o0_5_6 =>
        go_simp
        refine (HSI.out _ b5 hB (lies_one hR5 (fun j u hj => by simpa using hj))).mono ?_
        rintro e w6 ⟨⟨A6, c6, rfl, hS6⟩, hb6⟩
        replace hX := (hb6.block _ (Array.getElem?_eq_some_iff.1 hX).1).trans hX
        replace hB := below_call hB hB.size hb6
        replace hle := Nat.le_trans hle hb6.size
        replace hR5 := (hb6.block _ (Array.getElem?_eq_some_iff.1 hR5).1).trans hR5
        replace hown := own_keep hown hb6
        clear hR5
        replace hS6 := StrV.any hS6
        clear hb6
        refine hK.out _ _ (Meets.here hX Meets.nil) (fun hMeets => ?_)
        clear hK K hMeets
        refine lay_R ?_
        refine R_ready (rs := [7, 12]) (by kernel_rfl) (by simp) ?_
        refine AllReadyR.cons rfl (fun K hK => ?o0_5_6_7) (AllReadyR.cons rfl (fun K hK => ?o0_5_6_12) AllReadyR.nil)
        case' o0_5_6_7 =>
          have hap := hown
          refine stl_append elStr rfl rfl (X + 1) hown rfl (m := 2) (strC [decI many, decI set]) rfl rfl hS6.lies ?_ ?_ ?_ hle ?_
          . exact (one_strC _)
          . simp only [maxLen]; omega
          . omega
          intro v1 w7 hown1 hg1 hat1
          obtain ⟨A7, c7, rfl⟩ := own_form hown1
          have hbp := below_app (Below.refl (X + 1) _) hown hg1 hle (Nat.le_refl _)
          replace hX := (hbp.block X (Nat.lt_succ_self X)).trans hX
          replace hB := hB.trans (hbp.mono hXw)
          replace hle := Nat.le_trans hle hbp.size
          clear hown hap
          have hown := hown1
          clear hown1 hg1 hat1 hbp
          clear hS6
          refine hK.out _ _ (Meets.here hX Meets.nil) (fun hMeets => ?_)
          clear hK K hMeets
          refine lay_R ?_
          refine R_now 12 fun K hK => ?_
          have hbb : Below w7.heap.size w7 (w7.alloc (.cells #[.int .u64 ep, .int .u64 has] 22)) := (Below.refl _ _).alloc (Nat.le_refl _) _
          obtain ⟨b12, hb12⟩ : ∃ b12, w7.heap.size = b12 := ⟨_, rfl⟩
          have hR12 := heap_alloc_new w7 (.cells #[.int .u64 ep, .int .u64 has] 22)
          rw [hb12] at hR12
          have hNb12 : ∀ k, (Value.slice A7 (1 + 2) c7).ownBlock = some k → b12 ≠ k := fun k e => by have := (hown.lt k e).2; omega
          replace hX := (hbb.block _ (Array.getElem?_eq_some_iff.1 hX).1).trans hX
          replace hB := below_call hB hB.size hbb
          replace hle := Nat.le_trans hle hbb.size
          replace hown := own_keep hown hbb
          go_simp
          generalize w7.alloc (.cells #[.int .u64 ep, .int .u64 has] 22) = w12 at *
          try rw [hb12]
          clear hbb hb12
          refine hK.out _ _ (Meets.here hX Meets.nil) (fun hMeets => ?_)
          clear hK K hMeets
          refine lay_R ?_
          refine R_now 13 fun K hK => ?_
          go_simp
          refine (HSU.out _ b12 hB (lies_one hR12 (fun j u hj => by simpa using hj))).mono ?_
          rintro e w13 ⟨⟨A13, c13, rfl, hS13⟩, hb13⟩
          replace hX := (hb13.block _ (Array.getElem?_eq_some_iff.1 hX).1).trans hX
          replace hB := below_call hB hB.size hb13
          replace hle := Nat.le_trans hle hb13.size
          replace hR12 := (hb13.block _ (Array.getElem?_eq_some_iff.1 hR12).1).trans hR12
          replace hown := own_keep hown hb13
          clear hR12
          replace hS13 := StrV.any hS13
          clear hb13
          refine hK.out _ _ (Meets.here hX Meets.nil) (fun hMeets => ?_)
          clear hK K hMeets
          refine lay_R ?_
          refine R_now 14 fun K hK => ?_
          have hap := hown
          refine stl_append elStr rfl rfl (X + 1) hown rfl (m := 2) (strC [decI ep, decI has]) rfl rfl hS13.lies ?_ ?_ ?_ hle ?_
          . exact (one_strC _)
          . simp only [maxLen]; omega
          . omega
          intro v1 w14 hown1 hg1 hat1
          obtain ⟨A14, c14, rfl⟩ := own_form hown1
          have hbp := below_app (Below.refl (X + 1) _) hown hg1 hle (Nat.le_refl _)
          replace hX := (hbp.block X (Nat.lt_succ_self X)).trans hX
          replace hB := hB.trans (hbp.mono hXw)
          replace hle := Nat.le_trans hle hbp.size
          clear hown hap
          have hown := hown1
          clear hown1 hg1 hat1 hbp
          clear hS13
          refine hK.out _ _ (Meets.here hX Meets.nil) (fun hMeets => ?_)
          clear hK K hMeets
          refine lay_R ?_
          refine R_now 15 fun K hK => ?_
          go_simp
          refine (HJ.out _ _ _ (own_strV' (ps := [[110, 111, 100, 101, 115], decI many, decI set, decI ep, decI has]) hown)).mono ?_
          rintro e w15 ⟨rfl, hb15⟩
          replace hX := (hb15.block _ (Array.getElem?_eq_some_iff.1 hX).1).trans hX
          replace hB := below_call hB hB.size hb15
          replace hle := Nat.le_trans hle hb15.size
          replace hown := own_keep hown hb15
          clear hb15
          refine hK.out _ _ (Meets.here hX Meets.nil) (fun hMeets => ?_)
          clear hK K hMeets
          refine lay_R ?_
          refine R_p (i := 16) (v := .string (bs FL)) (Meets.here hX Meets.nil) ?_
          refine R_done (by kernel_rfl) ?_ _
        case' o0_5_6_12 =>
          have hbb : Below w6.heap.size w6 (w6.alloc (.cells #[.int .u64 ep, .int .u64 has] 22)) := (Below.refl _ _).alloc (Nat.le_refl _) _
          obtain ⟨b12, hb12⟩ : ∃ b12, w6.heap.size = b12 := ⟨_, rfl⟩
          have hR12 := heap_alloc_new w6 (.cells #[.int .u64 ep, .int .u64 has] 22)
          rw [hb12] at hR12
          have hNb12 : ∀ k, (Value.slice (some ⟨b0, 0, none⟩) 1 1).ownBlock = some k → b12 ≠ k := fun k e => by have := (hown.lt k e).2; omega
          replace hX := (hbb.block _ (Array.getElem?_eq_some_iff.1 hX).1).trans hX
          replace hB := below_call hB hB.size hbb
          replace hle := Nat.le_trans hle hbb.size
          replace hS6 := StrV.keep hS6 hbb
          replace hown := own_keep hown hbb
          go_simp
          generalize w6.alloc (.cells #[.int .u64 ep, .int .u64 has] 22) = w12 at *
          try rw [hb12]
          clear hbb hb12
          refine hK.out _ _ (Meets.here hX Meets.nil) (fun hMeets => ?_)
          clear hK K hMeets
          refine lay_R ?_
          refine R_now 7 fun K hK => ?_
          have hap := hown
          refine stl_append elStr rfl rfl (X + 1) hown rfl (m := 2) (strC [decI many, decI set]) rfl rfl hS6.lies ?_ ?_ ?_ hle ?_
          . exact (one_strC _)
          . simp only [maxLen]; omega
          . omega
          intro v1 w7 hown1 hg1 hat1
          obtain ⟨A7, c7, rfl⟩ := own_form hown1
          have hbp := below_app (Below.refl (X + 1) _) hown hg1 hle (Nat.le_refl _)
          replace hR12 := (hg1.block b12 (Array.getElem?_eq_some_iff.1 hR12).1 (fun e => hNb12 _ e.symm rfl)).trans hR12
          replace hX := (hbp.block X (Nat.lt_succ_self X)).trans hX
          replace hB := hB.trans (hbp.mono hXw)
          replace hle := Nat.le_trans hle hbp.size
          clear hown hap
          have hown := hown1
          clear hown1 hg1 hat1 hbp
          clear hS6
          refine hK.out _ _ (Meets.here hX Meets.nil) (fun hMeets => ?_)
          clear hK K hMeets
          refine lay_R ?_
          refine R_now 13 fun K hK => ?_
          go_simp
          refine (HSU.out _ b12 hB (lies_one hR12 (fun j u hj => by simpa using hj))).mono ?_
          rintro e w13 ⟨⟨A13, c13, rfl, hS13⟩, hb13⟩
          replace hX := (hb13.block _ (Array.getElem?_eq_some_iff.1 hX).1).trans hX
          replace hB := below_call hB hB.size hb13
          replace hle := Nat.le_trans hle hb13.size
          replace hR12 := (hb13.block _ (Array.getElem?_eq_some_iff.1 hR12).1).trans hR12
          replace hown := own_keep hown hb13
          clear hR12
          replace hS13 := StrV.any hS13
          clear hb13
          refine hK.out _ _ (Meets.here hX Meets.nil) (fun hMeets => ?_)
          clear hK K hMeets
          refine lay_R ?_
          refine R_now 14 fun K hK => ?_
          have hap := hown
          refine stl_append elStr rfl rfl (X + 1) hown rfl (m := 2) (strC [decI ep, decI has]) rfl rfl hS13.lies ?_ ?_ ?_ hle ?_
          . exact (one_strC _)
          . simp only [maxLen]; omega
          . omega
          intro v1 w14 hown1 hg1 hat1
          obtain ⟨A14, c14, rfl⟩ := own_form hown1
          have hbp := below_app (Below.refl (X + 1) _) hown hg1 hle (Nat.le_refl _)
          replace hX := (hbp.block X (Nat.lt_succ_self X)).trans hX
          replace hB := hB.trans (hbp.mono hXw)
          replace hle := Nat.le_trans hle hbp.size
          clear hown hap
          have hown := hown1
          clear hown1 hg1 hat1 hbp
          clear hS13
          refine hK.out _ _ (Meets.here hX Meets.nil) (fun hMeets => ?_)
          clear hK K hMeets
          refine lay_R ?_
          refine R_now 15 fun K hK => ?_
          go_simp
          refine (HJ.out _ _ _ (own_strV' (ps := [[110, 111, 100, 101, 115], decI many, decI set, decI ep, decI has]) hown)).mono ?_
          rintro e w15 ⟨rfl, hb15⟩
          replace hX := (hb15.block _ (Array.getElem?_eq_some_iff.1 hX).1).trans hX
          replace hB := below_call hB hB.size hb15
          replace hle := Nat.le_trans hle hb15.size
          replace hown := own_keep hown hb15
          clear hb15
          refine hK.out _ _ (Meets.here hX Meets.nil) (fun hMeets => ?_)
          clear hK K hMeets
          refine lay_R ?_
          refine R_p (i := 16) (v := .string (bs FL)) (Meets.here hX Meets.nil) ?_
          refine R_done (by kernel_rfl) ?_ _
      case' o0_5_12 =>
        have hbb : Below w5.heap.size w5 (w5.alloc (.cells #[.int .u64 ep, .int .u64 has] 22)) := (Below.refl _ _).alloc (Nat.le_refl _) _
        obtain ⟨b12, hb12⟩ : ∃ b12, w5.heap.size = b12 := ⟨_, rfl⟩
        have hR12 := heap_alloc_new w5 (.cells #[.int .u64 ep, .int .u64 has] 22)
        rw [hb12] at hR12
        have hNb12 : ∀ k, (Value.slice (some ⟨b0, 0, none⟩) 1 1).ownBlock = some k → b12 ≠ k := fun k e => by have := (hown.lt k e).2; omega
        replace hX := (hbb.block _ (Array.getElem?_eq_some_iff.1 hX).1).trans hX
        replace hB := below_call hB hB.size hbb
        replace hle := Nat.le_trans hle hbb.size
        replace hR5 := (hbb.block _ (Array.getElem?_eq_some_iff.1 hR5).1).trans hR5
        replace hown := own_keep hown hbb
        go_simp
        generalize w5.alloc (.cells #[.int .u64 ep, .int .u64 has] 22) = w12 at *
        try rw [hb12]
        clear hbb hb12
        refine hK.out _ _ (Meets.here hX Meets.nil) (fun hMeets => ?_)
        clear hK K hMeets
        refine lay_R ?_
        refine R_now 6 fun K hK => ?_
        go_simp
        refine (HSI.out _ b5 hB (lies_one hR5 (fun j u hj => by simpa using hj))).mono ?_
        rintro e w6 ⟨⟨A6, c6, rfl, hS6⟩, hb6⟩
        replace hX := (hb6.block _ (Array.getElem?_eq_some_iff.1 hX).1).trans hX
        replace hB := below_call hB hB.size hb6
        replace hle := Nat.le_trans hle hb6.size
        replace hR5 := (hb6.block _ (Array.getElem?_eq_some_iff.1 hR5).1).trans hR5
        replace hR12 := (hb6.block _ (Array.getElem?_eq_some_iff.1 hR12).1).trans hR12
        replace hown := own_keep hown hb6
        clear hR5
        replace hS6 := StrV.any hS6
        clear hb6
        refine hK.out _ _ (Meets.here hX Meets.nil) (fun hMeets => ?_)
        clear hK K hMeets
        refine lay_R ?_
        refine R_now 7 fun K hK => ?_
        have hap := hown
        refine stl_append elStr rfl rfl (X + 1) hown rfl (m := 2) (strC [decI many, decI set]) rfl rfl hS6.lies ?_ ?_ ?_ hle ?_
        . exact (one_strC _)
        . simp only [maxLen]; omega
        . omega
        intro v1 w7 hown1 hg1 hat1
        obtain ⟨A7, c7, rfl⟩ := own_form hown1
        have hbp := below_app (Below.refl (X + 1) _) hown hg1 hle (Nat.le_refl _)
        replace hR12 := (hg1.block b12 (Array.getElem?_eq_some_iff.1 hR12).1 (fun e => hNb12 _ e.symm rfl)).trans hR12
        replace hX := (hbp.block X (Nat.lt_succ_self X)).trans hX
        replace hB := hB.trans (hbp.mono hXw)
        replace hle := Nat.le_trans hle hbp.size
        clear hown hap
        have hown := hown1
        clear hown1 hg1 hat1 hbp
        clear hS6
        refine hK.out _ _ (Meets.here hX Meets.nil) (fun hMeets => ?_)
        clear hK K hMeets
        refine lay_R ?_
        refine R_now 13 fun K hK => ?_
        go_simp
        refine (HSU.out _ b12 hB (lies_one hR12 (fun j u hj => by simpa using hj))).mono ?_
        rintro e w13 ⟨⟨A13, c13, rfl, hS13⟩, hb13⟩
        replace hX := (hb13.block _ (Array.getElem?_eq_some_iff.1 hX).1).trans hX
        replace hB := below_call hB hB.size hb13
        replace hle := Nat.le_trans hle hb13.size
        replace hR12 := (hb13.block _ (Array.getElem?_eq_some_iff.1 hR12).1).trans hR12
        replace hown := own_keep hown hb13
        clear hR12
        replace hS13 := StrV.any hS13
        clear hb13
        refine hK.out _ _ (Meets.here hX Meets.nil) (fun hMeets => ?_)
        clear hK K hMeets
        refine lay_R ?_
        refine R_now 14 fun K hK => ?_
        have hap := hown
        refine stl_append elStr rfl rfl (X + 1) hown rfl (m := 2) (strC [decI ep, decI has]) rfl rfl hS13.lies ?_ ?_ ?_ hle ?_
        . exact (one_strC _)
        . simp only [maxLen]; omega
        . omega
        intro v1 w14 hown1 hg1 hat1
        obtain ⟨A14, c14, rfl⟩ := own_form hown1
        have hbp := below_app (Below.refl (X + 1) _) hown hg1 hle (Nat.le_refl _)
        replace hX := (hbp.block X (Nat.lt_succ_self X)).trans hX
        replace hB := hB.trans (hbp.mono hXw)
        replace hle := Nat.le_trans hle hbp.size
        clear hown hap
        have hown := hown1
        clear hown1 hg1 hat1 hbp
        clear hS13
        refine hK.out _ _ (Meets.here hX Meets.nil) (fun hMeets => ?_)
        clear hK K hMeets
        refine lay_R ?_
        refine R_now 15 fun K hK => ?_
        go_simp
        refine (HJ.out _ _ _ (own_strV' (ps := [[110, 111, 100, 101, 115], decI many, decI set, decI ep, decI has]) hown)).mono ?_
        rintro e w15 ⟨rfl, hb15⟩
        replace hX := (hb15.block _ (Array.getElem?_eq_some_iff.1 hX).1).trans hX
        replace hB := below_call hB hB.size hb15
        replace hle := Nat.le_trans hle hb15.size
        replace hown := own_keep hown hb15
        clear hb15
        refine hK.out _ _ (Meets.here hX Meets.nil) (fun hMeets => ?_)
        clear hK K hMeets
        refine lay_R ?_
        refine R_p (i := 16) (v := .string (bs FL)) (Meets.here hX Meets.nil) ?_
        refine R_done (by kernel_rfl) ?_ _
    case' o0_12 =>
      have hbb : Below w0.heap.size w0 (w0.alloc (.cells #[.int .u64 ep, .int .u64 has] 22)) := (Below.refl _ _).alloc (Nat.le_refl _) _
      obtain ⟨b12, hb12⟩ : ∃ b12, w0.heap.size = b12 := ⟨_, rfl⟩
      have hR12 := heap_alloc_new w0 (.cells #[.int .u64 ep, .int .u64 has] 22)
      rw [hb12] at hR12
      have hNb12 : ∀ k, (Value.slice (some ⟨b0, 0, none⟩) 1 1).ownBlock = some k → b12 ≠ k := fun k e => by have := (hown.lt k e).2; omega
      replace hX := (hbb.block _ (Array.getElem?_eq_some_iff.1 hX).1).trans hX
      replace hB := below_call hB hB.size hbb
      replace hle := Nat.le_trans hle hbb.size
      replace hown := own_keep hown hbb
      go_simp
      generalize w0.alloc (.cells #[.int .u64 ep, .int .u64 has] 22) = w12 at *
      try rw [hb12]
      clear hbb hb12
      refine hK.out _ _ (Meets.here hX Meets.nil) (fun hMeets => ?_)
      clear hK K hMeets
      refine lay_R ?_
      refine R_now 5 fun K hK => ?_
      have hbb : Below w12.heap.size w12 (w12.alloc (.cells #[.int .i64 many, .int .i64 set] 3)) := (Below.refl _ _).alloc (Nat.le_refl _) _
      obtain ⟨b5, hb5⟩ : ∃ b5, w12.heap.size = b5 := ⟨_, rfl⟩
      have hR5 := heap_alloc_new w12 (.cells #[.int .i64 many, .int .i64 set] 3)
      rw [hb5] at hR5
      have hNb5 : ∀ k, (Value.slice (some ⟨b0, 0, none⟩) 1 1).ownBlock = some k → b5 ≠ k := fun k e => by have := (hown.lt k e).2; omega
      replace hX := (hbb.block _ (Array.getElem?_eq_some_iff.1 hX).1).trans hX
      replace hB := below_call hB hB.size hbb
      replace hle := Nat.le_trans hle hbb.size
      replace hR12 := (hbb.block _ (Array.getElem?_eq_some_iff.1 hR12).1).trans hR12
      replace hown := own_keep hown hbb
      go_simp
      generalize w12.alloc (.cells #[.int .i64 many, .int .i64 set] 3) = w5 at *
      try rw [hb5]
      clear hbb hb5
      refine hK.out _ _ (Meets.here hX Meets.nil) (fun hMeets => ?_)
      clear hK K hMeets
      refine lay_R ?_
      refine R_now 6 fun K hK => ?_
      go_simp
      refine (HSI.out _ b5 hB (lies_one hR5 (fun j u hj => by simpa using hj))).mono ?_
      rintro e w6 ⟨⟨A6, c6, rfl, hS6⟩, hb6⟩
      replace hX := (hb6.block _ (Array.getElem?_eq_some_iff.1 hX).1).trans hX
      replace hB := below_call hB hB.size hb6
      replace hle := Nat.le_trans hle hb6.size
      replace hR12 := (hb6.block _ (Array.getElem?_eq_some_iff.1 hR12).1).trans hR12
      replace hR5 := (hb6.block _ (Array.getElem?_eq_some_iff.1 hR5).1).trans hR5
      replace hown := own_keep hown hb6
      clear hR5
      replace hS6 := StrV.any hS6
      clear hb6
      refine hK.out _ _ (Meets.here hX Meets.nil) (fun hMeets => ?_)
      clear hK K hMeets
      refine lay_R ?_
      refine R_now 7 fun K hK => ?_
      have hap := hown
      refine stl_append elStr rfl rfl (X + 1) hown rfl (m := 2) (strC [decI many, decI set]) rfl rfl hS6.lies ?_ ?_ ?_ hle ?_
      . exact (one_strC _)
      . simp only [maxLen]; omega
      . omega
      intro v1 w7 hown1 hg1 hat1
      obtain ⟨A7, c7, rfl⟩ := own_form hown1
      have hbp := below_app (Below.refl (X + 1) _) hown hg1 hle (Nat.le_refl _)
      replace hR12 := (hg1.block b12 (Array.getElem?_eq_some_iff.1 hR12).1 (fun e => hNb12 _ e.symm rfl)).trans hR12
      replace hX := (hbp.block X (Nat.lt_succ_self X)).trans hX
      replace hB := hB.trans (hbp.mono hXw)
      replace hle := Nat.le_trans hle hbp.size
      clear hown hap
      have hown := hown1
      clear hown1 hg1 hat1 hbp
      clear hS6
      refine hK.out _ _ (Meets.here hX Meets.nil) (fun hMeets => ?_)
      clear hK K hMeets
      refine lay_R ?_
      refine R_now 13 fun K hK => ?_
      go_simp
      refine (HSU.out _ b12 hB (lies_one hR12 (fun j u hj => by simpa using hj))).mono ?_
      rintro e w13 ⟨⟨A13, c13, rfl, hS13⟩, hb13⟩
      replace hX := (hb13.block _ (Array.getElem?_eq_some_iff.1 hX).1).trans hX
      replace hB := below_call hB hB.size hb13
      replace hle := Nat.le_trans hle hb13.size
      replace hR12 := (hb13.block _ (Array.getElem?_eq_some_iff.1 hR12).1).trans hR12
      replace hown := own_keep hown hb13
      clear hR12
      replace hS13 := StrV.any hS13
      clear hb13
      refine hK.out _ _ (Meets.here hX Meets.nil) (fun hMeets => ?_)
      clear hK K hMeets
      refine lay_R ?_
      refine R_now 14 fun K hK => ?_
      have hap := hown
      refine stl_append elStr rfl rfl (X + 1) hown rfl (m := 2) (strC [decI ep, decI has]) rfl rfl hS13.lies ?_ ?_ ?_ hle ?_
      . exact (one_strC _)
      . simp only [maxLen]; omega
      . omega
      intro v1 w14 hown1 hg1 hat1
      obtain ⟨A14, c14, rfl⟩ := own_form hown1
      have hbp := below_app (Below.refl (X + 1) _) hown hg1 hle (Nat.le_refl _)
      replace hX := (hbp.block X (Nat.lt_succ_self X)).trans hX
      replace hB := hB.trans (hbp.mono hXw)
      replace hle := Nat.le_trans hle hbp.size
      clear hown hap
      have hown := hown1
      clear hown1 hg1 hat1 hbp
      clear hS13
      refine hK.out _ _ (Meets.here hX Meets.nil) (fun hMeets => ?_)
      clear hK K hMeets
      refine lay_R ?_
      refine R_now 15 fun K hK => ?_
      go_simp
      refine (HJ.out _ _ _ (own_strV' (ps := [[110, 111, 100, 101, 115], decI many, decI set, decI ep, decI has]) hown)).mono ?_
      rintro e w15 ⟨rfl, hb15⟩
      replace hX := (hb15.block _ (Array.getElem?_eq_some_iff.1 hX).1).trans hX
      replace hB := below_call hB hB.size hb15
      replace hle := Nat.le_trans hle hb15.size
      replace hown := own_keep hown hb15
      clear hb15
      refine hK.out _ _ (Meets.here hX Meets.nil) (fun hMeets => ?_)
      clear hK K hMeets
      refine lay_R ?_
      refine R_p (i := 16) (v := .string (bs FL)) (Meets.here hX Meets.nil) ?_
      refine R_done (by kernel_rfl) ?_ _
  case' o5 =>
    have hbb : Below W.heap.size W (W.alloc (.cells #[.int .i64 many, .int .i64 set] 3)) := (Below.refl _ _).alloc (Nat.le_refl _) _
    obtain ⟨b5, hb5⟩ : ∃ b5, W.heap.size = b5 := ⟨_, rfl⟩
    have hR5 := heap_alloc_new W (.cells #[.int .i64 many, .int .i64 set] 3)
    rw [hb5] at hR5
    replace hX := (hbb.block _ (Array.getElem?_eq_some_iff.1 hX).1).trans hX
    replace hB := below_call hB hB.size hbb
    replace hle := Nat.le_trans hle hbb.size
    go_simp
    generalize W.alloc (.cells #[.int .i64 many, .int .i64 set] 3) = w5 at *
    try rw [hb5]
    clear hbb hb5
    refine hK.out _ _ (Meets.here hX Meets.nil) (fun hMeets => ?_)
    clear hK K hMeets
    refine lay_R ?_
    refine R_ready (rs := [0, 6, 12]) (by kernel_rfl) (by simp) ?_
    refine AllReadyR.cons rfl (fun K hK => ?o5_0) (AllReadyR.cons rfl (fun K hK => ?o5_6) (AllReadyR.cons rfl (fun K hK => ?o5_12) AllReadyR.nil))
    case' o5_0 =>
      have hbb : Below w5.heap.size w5 (w5.alloc (.cells #[.string ⟨#[110, 111, 100, 101, 115]⟩] 9)) := (Below.refl _ _).alloc (Nat.le_refl _) _
      obtain ⟨b0, hb0⟩ : ∃ b0, w5.heap.size = b0 := ⟨_, rfl⟩
      have hR0 := heap_alloc_new w5 (.cells #[.string ⟨#[110, 111, 100, 101, 115]⟩] 9)
      rw [hb0] at hR0
      have hown := World.ownsRow_lit (base := X + 1) (e := 9) (size := 1) w5 #[.string ⟨#[110, 111, 100, 101, 115]⟩] 1 hle (by simp [maxLen]) rfl
      rw [hb0] at hown
      have hNb5 : ∀ k, (Value.slice (some ⟨b0, 0, none⟩) 1 1).ownBlock = some k → b5 ≠ k := fun k e => by injection e with e; have e : b0 = k := e; have := (Array.getElem?_eq_some_iff.1 hR5).1; omega
      replace hX := (hbb.block _ (Array.getElem?_eq_some_iff.1 hX).1).trans hX
      replace hB := below_call hB hB.size hbb
      replace hle := Nat.le_trans hle hbb.size
      replace hR5 := (hbb.block _ (Array.getElem?_eq_some_iff.1 hR5).1).trans hR5
      go_simp
      generalize w5.alloc (.cells #[.string ⟨#[110, 111, 100, 101, 115]⟩] 9) = w0 at *
      try rw [hb0]
      clear hbb hb0
      clear hR0
      refine hK.out _ _ (Meets.here hX Meets.nil) (fun hMeets => ?_)
      clear hK K hMeets
      refine lay_R ?_
      refine R_ready (rs := [6, 12]) (by kernel_rfl) (by simp) ?_
      refine AllReadyR.cons rfl (fun K hK => ?o5_0_6) (AllReadyR.cons rfl (fun K hK => ?o5_0_12) AllReadyR.nil)
      case' o5_0_6 =>
        go_simp
        refine (HSI.out _ b5 hB (lies_one hR5 (fun j u hj => by simpa using hj))).mono ?_
        rintro e w6 ⟨⟨A6, c6, rfl, hS6⟩, hb6⟩
        replace hX := (hb6.block _ (Array.getElem?_eq_some_iff.1 hX).1).trans hX
        replace hB := below_call hB hB.size hb6
        replace hle := Nat.le_trans hle hb6.size
        replace hR5 := (hb6.block _ (Array.getElem?_eq_some_iff.1 hR5).1).trans hR5
        replace hown := own_keep hown hb6
        clear hR5
        replace hS6 := StrV.any hS6
        clear hb6
        refine hK.out _ _ (Meets.here hX Meets.nil) (fun hMeets => ?_)
        clear hK K hMeets
        refine lay_R ?_
        refine R_ready (rs := [7, 12]) (by kernel_rfl) (by simp) ?_
        refine AllReadyR.cons rfl (fun K hK => ?o5_0_6_7) (AllReadyR.cons rfl (fun K hK => ?o5_0_6_12) AllReadyR.nil)
        case' o5_0_6_7 =>
          have hap := hown
          refine stl_append elStr rfl rfl (X + 1) hown rfl (m := 2) (strC [decI many, decI set]) rfl rfl hS6.lies ?_ ?_ ?_ hle ?_
          . exact (one_strC _)
          . simp only [maxLen]; omega
          . omega
          intro v1 w7 hown1 hg1 hat1
          obtain ⟨A7, c7, rfl⟩ := own_form hown1
          have hbp := below_app (Below.refl (X + 1) _) hown hg1 hle (Nat.le_refl _)
          replace hX := (hbp.block X (Nat.lt_succ_self X)).trans hX
          replace hB := hB.trans (hbp.mono hXw)
          replace hle := Nat.le_trans hle hbp.size
          clear hown hap
          have hown := hown1
          clear hown1 hg1 hat1 hbp
          clear hS6
          refine hK.out _ _ (Meets.here hX Meets.nil) (fun hMeets => ?_)
          clear hK K hMeets
          refine lay_R ?_
          refine R_now 12 fun K hK => ?_
          have hbb : Below w7.heap.size w7 (w7.alloc (.cells #[.int .u64 ep, .int .u64 has] 22)) := (Below.refl _ _).alloc (Nat.le_refl _) _
          obtain ⟨b12, hb12⟩ : ∃ b12, w7.heap.size = b12 := ⟨_, rfl⟩
          have hR12 := heap_alloc_new w7 (.cells #[.int .u64 ep, .int .u64 has] 22)
          rw [hb12] at hR12
          have hNb12 : ∀ k, (Value.slice A7 (1 + 2) c7).ownBlock = some k → b12 ≠ k := fun k e => by have := (hown.lt k e).2; omega
          replace hX := (hbb.block _ (Array.getElem?_eq_some_iff.1 hX).1).trans hX
          replace hB := below_call hB hB.size hbb
          replace hle := Nat.le_trans hle hbb.size
          replace hown := own_keep hown hbb
          go_simp
          generalize w7.alloc (.cells #[.int .u64 ep, .int .u64 has] 22) = w12 at *
          try rw [hb12]
          clear hbb hb12
          refine hK.out _ _ (Meets.here hX Meets.nil) (fun hMeets => ?_)
          clear hK K hMeets
          refine lay_R ?_
          refine R_now 13 fun K hK => ?_
          go_simp
          refine (HSU.out _ b12 hB (lies_one hR12 (fun j u hj => by simpa using hj))).mono ?_
          rintro e w13 ⟨⟨A13, c13, rfl, hS13⟩, hb13⟩
          replace hX := (hb13.block _ (Array.getElem?_eq_some_iff.1 hX).1).trans hX
          replace hB := below_call hB hB.size hb13
          replace hle := Nat.le_trans hle hb13.size
          replace hR12 := (hb13.block _ (Array.getElem?_eq_some_iff.1 hR12).1).trans hR12
          replace hown := own_keep hown hb13
          clear hR12
          replace hS13 := StrV.any hS13
          clear hb13
          refine hK.out _ _ (Meets.here hX Meets.nil) (fun hMeets => ?_)
          clear hK K hMeets
          refine lay_R ?_
          refine R_now 14 fun K hK => ?_
          have hap := hown
          refine stl_append elStr rfl rfl (X + 1) hown rfl (m := 2) (strC [decI ep, decI has]) rfl rfl hS13.lies ?_ ?_ ?_ hle ?_
          . exact (one_strC _)
          . simp only [maxLen]; omega
          . omega
          intro v1 w14 hown1 hg1 hat1
          obtain ⟨A14, c14, rfl⟩ := own_form hown1
          have hbp := below_app (Below.refl (X + 1) _) hown hg1 hle (Nat.le_refl _)
          replace hX := (hbp.block X (Nat.lt_succ_self X)).trans hX
          replace hB := hB.trans (hbp.mono hXw)
          replace hle := Nat.le_trans hle hbp.size
          clear hown hap
          have hown := hown1
          clear hown1 hg1 hat1 hbp
          clear hS13
          refine hK.out _ _ (Meets.here hX Meets.nil) (fun hMeets => ?_)
          clear hK K hMeets
          refine lay_R ?_
          refine R_now 15 fun K hK => ?_
          go_simp
          refine (HJ.out _ _ _ (own_strV' (ps := [[110, 111, 100, 101, 115], decI many, decI set, decI ep, decI has]) hown)).mono ?_
          rintro e w15 ⟨rfl, hb15⟩
          replace hX := (hb15.block _ (Array.getElem?_eq_some_iff.1 hX).1).trans hX
          replace hB := below_call hB hB.size hb15
          replace hle := Nat.le_trans hle hb15.size
          replace hown := own_keep hown hb15
          clear hb15
          refine hK.out _ _ (Meets.here hX Meets.nil) (fun hMeets => ?_)
          clear hK K hMeets
          refine lay_R ?_
          refine R_p (i := 16) (v := .string (bs FL)) (Meets.here hX Meets.nil) ?_
          refine R_done (by kernel_rfl) ?_ _
        case' o5_0_6_12 =>
          have hbb : Below w6.heap.size w6 (w6.alloc (.cells #[.int .u64 ep, .int .u64 has] 22)) := (Below.refl _ _).alloc (Nat.le_refl _) _
          obtain ⟨b12, hb12⟩ : ∃ b12, w6.heap.size = b12 := ⟨_, rfl⟩
          have hR12 := heap_alloc_new w6 (.cells #[.int .u64 ep, .int .u64 has] 22)
          rw [hb12] at hR12
          have hNb12 : ∀ k, (Value.slice (some ⟨b0, 0, none⟩) 1 1).ownBlock = some k → b12 ≠ k := fun k e => by have := (hown.lt k e).2; omega
          replace hX := (hbb.block _ (Array.getElem?_eq_some_iff.1 hX).1).trans hX
          replace hB := below_call hB hB.size hbb
          replace hle := Nat.le_trans hle hbb.size
          replace hS6 := StrV.keep hS6 hbb
          replace hown := own_keep hown hbb
          go_simp
          generalize w6.alloc (.cells #[.int .u64 ep, .int .u64 has] 22) = w12 at *
          try rw [hb12]
          clear hbb hb12
          refine hK.out _ _ (Meets.here hX Meets.nil) (fun hMeets => ?_)
          clear hK K hMeets
          refine lay_R ?_
          refine R_now 7 fun K hK => ?_
          have hap := hown
          refine stl_append elStr rfl rfl (X + 1) hown rfl (m := 2) (strC [decI many, decI set]) rfl rfl hS6.lies ?_ ?_ ?_ hle ?_
          . exact (one_strC _)
          . simp only [maxLen]; omega
          . omega
          intro v1 w7 hown1 hg1 hat1
          obtain ⟨A7, c7, rfl⟩ := own_form hown1
          have hbp := below_app (Below.refl (X + 1) _) hown hg1 hle (Nat.le_refl _)
          replace hR12 := (hg1.block b12 (Array.getElem?_eq_some_iff.1 hR12).1 (fun e => hNb12 _ e.symm rfl)).trans hR12
          replace hX := (hbp.block X (Nat.lt_succ_self X)).trans hX
          replace hB := hB.trans (hbp.mono hXw)
          replace hle := Nat.le_trans hle hbp.size
          clear hown hap
          have hown := hown1
          clear hown1 hg1 hat1 hbp
          clear hS6
          refine hK.out _ _ (Meets.here hX Meets.nil) (fun hMeets => ?_)
          clear hK K hMeets
          refine lay_R ?_
          refine R_now 13 fun K hK => ?_
          go_simp
          refine (HSU.out _ b12 hB (lies_one hR12 (fun j u hj => by simpa using hj))).mono ?_
          rintro e w13 ⟨⟨A13, c13, rfl, hS13⟩, hb13⟩
          replace hX := (hb13.block _ (Array.getElem?_eq_some_iff.1 hX).1).trans hX
          replace hB := below_call hB hB.size hb13
          replace hle := Nat.le_trans hle hb13.size
          replace hR12 := (hb13.block _ (Array.getElem?_eq_some_iff.1 hR12).1).trans hR12
          replace hown := own_keep hown hb13
          clear hR12
          replace hS13 := StrV.any hS13
          clear hb13
          refine hK.out _ _ (Meets.here hX Meets.nil) (fun hMeets => ?_)
          clear hK K hMeets
          refine lay_R ?_
          refine R_now 14 fun K hK => ?_
          have hap := hown
          refine stl_append elStr rfl rfl (X + 1) hown rfl (m := 2) (strC [decI ep, decI has]) rfl rfl hS13.lies ?_ ?_ ?_ hle ?_
          . exact (one_strC _)
          . simp only [maxLen]; omega
          . omega
          intro v1 w14 hown1 hg1 hat1
          obtain ⟨A14, c14, rfl⟩ := own_form hown1
          have hbp := below_app (Below.refl (X + 1) _) hown hg1 hle (Nat.le_refl _)
          replace hX := (hbp.block X (Nat.lt_succ_self X)).trans hX
          replace hB := hB.trans (hbp.mono hXw)
          replace hle := Nat.le_trans hle hbp.size
          clear hown hap
          have hown := hown1
          clear hown1 hg1 hat1 hbp
          clear hS13
          refine hK.out _ _ (Meets.here hX Meets.nil) (fun hMeets => ?_)
          clear hK K hMeets
          refine lay_R ?_
          refine R_now 15 fun K hK => ?_
          go_simp
          refine (HJ.out _ _ _ (own_strV' (ps := [[110, 111, 100, 101, 115], decI many, decI set, decI ep, decI has]) hown)).mono ?_
          rintro e w15 ⟨rfl, hb15⟩
          replace hX := (hb15.block _ (Array.getElem?_eq_some_iff.1 hX).1).trans hX
          replace hB := below_call hB hB.size hb15
          replace hle := Nat.le_trans hle hb15.size
          replace hown := own_keep hown hb15
          clear hb15
          refine hK.out _ _ (Meets.here hX Meets.nil) (fun hMeets => ?_)
          clear hK K hMeets
          refine lay_R ?_
          refine R_p (i := 16) (v := .string (bs FL)) (Meets.here hX Meets.nil) ?_
          refine R_done (by kernel_rfl) ?_ _
      case' o5_0_12 =>
        have hbb : Below w0.heap.size w0 (w0.alloc (.cells #[.int .u64 ep, .int .u64 has] 22)) := (Below.refl _ _).alloc (Nat.le_refl _) _
        obtain ⟨b12, hb12⟩ : ∃ b12, w0.heap.size = b12 := ⟨_, rfl⟩
        have hR12 := heap_alloc_new w0 (.cells #[.int .u64 ep, .int .u64 has] 22)
        rw [hb12] at hR12
        have hNb12 : ∀ k, (Value.slice (some ⟨b0, 0, none⟩) 1 1).ownBlock = some k → b12 ≠ k := fun k e => by have := (hown.lt k e).2; omega
        replace hX := (hbb.block _ (Array.getElem?_eq_some_iff.1 hX).1).trans hX
        replace hB := below_call hB hB.size hbb
        replace hle := Nat.le_trans hle hbb.size
        replace hR5 := (hbb.block _ (Array.getElem?_eq_some_iff.1 hR5).1).trans hR5
        replace hown := own_keep hown hbb
        go_simp
        generalize w0.alloc (.cells #[.int .u64 ep, .int .u64 has] 22) = w12 at *
        try rw [hb12]
        clear hbb hb12
        refine hK.out _ _ (Meets.here hX Meets.nil) (fun hMeets => ?_)
        clear hK K hMeets
        refine lay_R ?_
        refine R_now 6 fun K hK => ?_
        go_simp
        refine (HSI.out _ b5 hB (lies_one hR5 (fun j u hj => by simpa using hj))).mono ?_
        rintro e w6 ⟨⟨A6, c6, rfl, hS6⟩, hb6⟩
        replace hX := (hb6.block _ (Array.getElem?_eq_some_iff.1 hX).1).trans hX
        replace hB := below_call hB hB.size hb6
        replace hle := Nat.le_trans hle hb6.size
        replace hR5 := (hb6.block _ (Array.getElem?_eq_some_iff.1 hR5).1).trans hR5
        replace hR12 := (hb6.block _ (Array.getElem?_eq_some_iff.1 hR12).1).trans hR12
        replace hown := own_keep hown hb6
        clear hR5
        replace hS6 := StrV.any hS6
        clear hb6
        refine hK.out _ _ (Meets.here hX Meets.nil) (fun hMeets => ?_)
        clear hK K hMeets
        refine lay_R ?_
        refine R_now 7 fun K hK => ?_
        have hap := hown
        refine stl_append elStr rfl rfl (X + 1) hown rfl (m := 2) (strC [decI many, decI set]) rfl rfl hS6.lies ?_ ?_ ?_ hle ?_
        . exact (one_strC _)
        . simp only [maxLen]; omega
        . omega
        intro v1 w7 hown1 hg1 hat1
        obtain ⟨A7, c7, rfl⟩ := own_form hown1
        have hbp := below_app (Below.refl (X + 1) _) hown hg1 hle (Nat.le_refl _)
        replace hR12 := (hg1.block b12 (Array.getElem?_eq_some_iff.1 hR12).1 (fun e => hNb12 _ e.symm rfl)).trans hR12
        replace hX := (hbp.block X (Nat.lt_succ_self X)).trans hX
        replace hB := hB.trans (hbp.mono hXw)
        replace hle := Nat.le_trans hle hbp.size
        clear hown hap
        have hown := hown1
        clear hown1 hg1 hat1 hbp
        clear hS6
        refine hK.out _ _ (Meets.here hX Meets.nil) (fun hMeets => ?_)
        clear hK K hMeets
        refine lay_R ?_
        refine R_now 13 fun K hK => ?_
        go_simp
        refine (HSU.out _ b12 hB (lies_one hR12 (fun j u hj => by simpa using hj))).mono ?_
        rintro e w13 ⟨⟨A13, c13, rfl, hS13⟩, hb13⟩
        replace hX := (hb13.block _ (Array.getElem?_eq_some_iff.1 hX).1).trans hX
        replace hB := below_call hB hB.size hb13
        replace hle := Nat.le_trans hle hb13.size
        replace hR12 := (hb13.block _ (Array.getElem?_eq_some_iff.1 hR12).1).trans hR12
        replace hown := own_keep hown hb13
        clear hR12
        replace hS13 := StrV.any hS13
        clear hb13
        refine hK.out _ _ (Meets.here hX Meets.nil) (fun hMeets => ?_)
        clear hK K hMeets
        refine lay_R ?_
        refine R_now 14 fun K hK => ?_
        have hap := hown
        refine stl_append elStr rfl rfl (X + 1) hown rfl (m := 2) (strC [decI ep, decI has]) rfl rfl hS13.lies ?_ ?_ ?_ hle ?_
        . exact (one_strC _)
        . simp only [maxLen]; omega
        . omega
        intro v1 w14 hown1 hg1 hat1
        obtain ⟨A14, c14, rfl⟩ := own_form hown1
        have hbp := below_app (Below.refl (X + 1) _) hown hg1 hle (Nat.le_refl _)
        replace hX := (hbp.block X (Nat.lt_succ_self X)).trans hX
        replace hB := hB.trans (hbp.mono hXw)
        replace hle := Nat.le_trans hle hbp.size
        clear hown hap
        have hown := hown1
        clear hown1 hg1 hat1 hbp
        clear hS13
        refine hK.out _ _ (Meets.here hX Meets.nil) (fun hMeets => ?_)
        clear hK K hMeets
        refine lay_R ?_
        refine R_now 15 fun K hK => ?_
        go_simp
        refine (HJ.out _ _ _ (own_strV' (ps := [[110, 111, 100, 101, 115], decI many, decI set, decI ep, decI has]) hown)).mono ?_
        rintro e w15 ⟨rfl, hb15⟩
        replace hX := (hb15.block _ (Array.getElem?_eq_some_iff.1 hX).1).trans hX
        replace hB := below_call hB hB.size hb15
        replace hle := Nat.le_trans hle hb15.size
        replace hown := own_keep hown hb15
        clear hb15
        refine hK.out _ _ (Meets.here hX Meets.nil) (fun hMeets => ?_)
        clear hK K hMeets
        refine lay_R ?_
        refine R_p (i := 16) (v := .string (bs FL)) (Meets.here hX Meets.nil) ?_
        refine R_done (by kernel_rfl) ?_ _
    case' o5_6 =>
      go_simp
      refine (HSI.out _ b5 hB (lies_one hR5 (fun j u hj => by simpa using hj))).mono ?_
      rintro e w6 ⟨⟨A6, c6, rfl, hS6⟩, hb6⟩
      replace hX := (hb6.block _ (Array.getElem?_eq_some_iff.1 hX).1).trans hX
      replace hB := below_call hB hB.size hb6
      replace hle := Nat.le_trans hle hb6.size
      replace hR5 := (hb6.block _ (Array.getElem?_eq_some_iff.1 hR5).1).trans hR5
      clear hR5
      replace hS6 := StrV.any hS6
      clear hb6
      refine hK.out _ _ (Meets.here hX Meets.nil) (fun hMeets => ?_)
      clear hK K hMeets
      refine lay_R ?_
      refine R_ready (rs := [0, 12]) (by kernel_rfl) (by simp) ?_
      refine AllReadyR.cons rfl (fun K hK => ?o5_6_0) (AllReadyR.cons rfl (fun K hK => ?o5_6_12) AllReadyR.nil)
      case' o5_6_0 =>
        have hbb : Below w6.heap.size w6 (w6.alloc (.cells #[.string ⟨#[110, 111, 100, 101, 115]⟩] 9)) := (Below.refl _ _).alloc (Nat.le_refl _) _
        obtain ⟨b0, hb0⟩ : ∃ b0, w6.heap.size = b0 := ⟨_, rfl⟩
        have hR0 := heap_alloc_new w6 (.cells #[.string ⟨#[110, 111, 100, 101, 115]⟩] 9)
        rw [hb0] at hR0
        have hown := World.ownsRow_lit (base := X + 1) (e := 9) (size := 1) w6 #[.string ⟨#[110, 111, 100, 101, 115]⟩] 1 hle (by simp [maxLen]) rfl
        rw [hb0] at hown
        replace hX := (hbb.block _ (Array.getElem?_eq_some_iff.1 hX).1).trans hX
        replace hB := below_call hB hB.size hbb
        replace hle := Nat.le_trans hle hbb.size
        replace hS6 := StrV.keep hS6 hbb
        go_simp
        generalize w6.alloc (.cells #[.string ⟨#[110, 111, 100, 101, 115]⟩] 9) = w0 at *
        try rw [hb0]
        clear hbb hb0
        clear hR0
        refine hK.out _ _ (Meets.here hX Meets.nil) (fun hMeets => ?_)
        clear hK K hMeets
        refine lay_R ?_
        refine R_ready (rs := [7, 12]) (by kernel_rfl) (by simp) ?_
        refine AllReadyR.cons rfl (fun K hK => ?o5_6_0_7) (AllReadyR.cons rfl (fun K hK => ?o5_6_0_12) AllReadyR.nil)
        case' o5_6_0_7 =>
          have hap := hown
          refine stl_append elStr rfl rfl (X + 1) hown rfl (m := 2) (strC [decI many, decI set]) rfl rfl hS6.lies ?_ ?_ ?_ hle ?_
          . exact (one_strC _)
          . simp only [maxLen]; omega
          . omega
          intro v1 w7 hown1 hg1 hat1
          obtain ⟨A7, c7, rfl⟩ := own_form hown1
          have hbp := below_app (Below.refl (X + 1) _) hown hg1 hle (Nat.le_refl _)
          replace hX := (hbp.block X (Nat.lt_succ_self X)).trans hX
          replace hB := hB.trans (hbp.mono hXw)
          replace hle := Nat.le_trans hle hbp.size
          clear hown hap
          have hown := hown1
          clear hown1 hg1 hat1 hbp
          clear hS6
          refine hK.out _ _ (Meets.here hX Meets.nil) (fun hMeets => ?_)
          clear hK K hMeets
          refine lay_R ?_
          refine R_now 12 fun K hK => ?_
          have hbb : Below w7.heap.size w7 (w7.alloc (.cells #[.int .u64 ep, .int .u64 has] 22)) := (Below.refl _ _).alloc (Nat.le_refl _) _
          obtain ⟨b12, hb12⟩ : ∃ b12, w7.heap.size = b12 := ⟨_, rfl⟩
          have hR12 := heap_alloc_new w7 (.cells #[.int .u64 ep, .int .u64 has] 22)
          rw [hb12] at hR12
          have hNb12 : ∀ k, (Value.slice A7 (1 + 2) c7).ownBlock = some k → b12 ≠ k := fun k e => by have := (hown.lt k e).2; omega
          replace hX := (hbb.block _ (Array.getElem?_eq_some_iff.1 hX).1).trans hX
          replace hB := below_call hB hB.size hbb
          replace hle := Nat.le_trans hle hbb.size
          replace hown := own_keep hown hbb
          go_simp
          generalize w7.alloc (.cells #[.int .u64 ep, .int .u64 has] 22) = w12 at *
          try rw [hb12]
          clear hbb hb12
          refine hK.out _ _ (Meets.here hX Meets.nil) (fun hMeets => ?_)
          clear hK K hMeets
          refine lay_R ?_
          refine R_now 13 fun K hK => ?_
          go_simp
          refine (HSU.out _ b12 hB (lies_one hR12 (fun j u hj => by simpa using hj))).mono ?_
          rintro e w13 ⟨⟨A13, c13, rfl, hS13⟩, hb13⟩
          replace hX := (hb13.block _ (Array.getElem?_eq_some_iff.1 hX).1).trans hX
          replace hB := below_call hB hB.size hb13
          replace hle := Nat.le_trans hle hb13.size
          replace hR12 := (hb13.block _ (Array.getElem?_eq_some_iff.1 hR12).1).trans hR12
          replace hown := own_keep hown hb13
          clear hR12
          replace hS13 := StrV.any hS13
          clear hb13
          refine hK.out _ _ (Meets.here hX Meets.nil) (fun hMeets => ?_)
          clear hK K hMeets
          refine lay_R ?_
          refine R_now 14 fun K hK => ?_
          have hap := hown
          refine stl_append elStr rfl rfl (X + 1) hown rfl (m := 2) (strC [decI ep, decI has]) rfl rfl hS13.lies ?_ ?_ ?_ hle ?_
          . exact (one_strC _)
          . simp only [maxLen]; omega
          . omega
          intro v1 w14 hown1 hg1 hat1
          obtain ⟨A14, c14, rfl⟩ := own_form hown1
          have hbp := below_app (Below.refl (X + 1) _) hown hg1 hle (Nat.le_refl _)
          replace hX := (hbp.block X (Nat.lt_succ_self X)).trans hX
          replace hB := hB.trans (hbp.mono hXw)
          replace hle := Nat.le_trans hle hbp.size
          clear hown hap
          have hown := hown1
          clear hown1 hg1 hat1 hbp
          clear hS13
          refine hK.out _ _ (Meets.here hX Meets.nil) (fun hMeets => ?_)
          clear hK K hMeets
          refine lay_R ?_
          refine R_now 15 fun K hK => ?_
          go_simp
          refine (HJ.out _ _ _ (own_strV' (ps := [[110, 111, 100, 101, 115], decI many, decI set, decI ep, decI has]) hown)).mono ?_
          rintro e w15 ⟨rfl, hb15⟩
          replace hX := (hb15.block _ (Array.getElem?_eq_some_iff.1 hX).1).trans hX
          replace hB := below_call hB hB.size hb15
          replace hle := Nat.le_trans hle hb15.size
          replace hown := own_keep hown hb15
          clear hb15
          refine hK.out _ _ (Meets.here hX Meets.nil) (fun hMeets => ?_)
          clear hK K hMeets
          refine lay_R ?_
          refine R_p (i := 16) (v := .string (bs FL)) (Meets.here hX Meets.nil) ?_
          refine R_done (by kernel_rfl) ?_ _
        case' o5_6_0_12 =>
          have hbb : Below w0.heap.size w0 (w0.alloc (.cells #[.int .u64 ep, .int .u64 has] 22)) := (Below.refl _ _).alloc (Nat.le_refl _) _
          obtain ⟨b12, hb12⟩ : ∃ b12, w0.heap.size = b12 := ⟨_, rfl⟩
          have hR12 := heap_alloc_new w0 (.cells #[.int .u64 ep, .int .u64 has] 22)
          rw [hb12] at hR12
          have hNb12 : ∀ k, (Value.slice (some ⟨b0, 0, none⟩) 1 1).ownBlock = some k → b12 ≠ k := fun k e => by have := (hown.lt k e).2; omega
          replace hX := (hbb.block _ (Array.getElem?_eq_some_iff.1 hX).1).trans hX
          replace hB := below_call hB hB.size hbb
          replace hle := Nat.le_trans hle hbb.size
          replace hS6 := StrV.keep hS6 hbb
          replace hown := own_keep hown hbb
          go_simp
          generalize w0.alloc (.cells #[.int .u64 ep, .int .u64 has] 22) = w12 at *
          try rw [hb12]
          clear hbb hb12
          refine hK.out _ _ (Meets.here hX Meets.nil) (fun hMeets => ?_)
          clear hK K hMeets
          refine lay_R ?_
          refine R_now 7 fun K hK => ?_
          have hap := hown
          refine stl_append elStr rfl rfl (X + 1) hown rfl (m := 2) (strC [decI many, decI set]) rfl rfl hS6.lies ?_ ?_ ?_ hle ?_
          . exact (one_strC _)
          . simp only [maxLen]; omega
          . omega
          intro v1 w7 hown1 hg1 hat1
          obtain ⟨A7, c7, rfl⟩ := own_form hown1
          have hbp := below_app (Below.refl (X + 1) _) hown hg1 hle (Nat.le_refl _)
          replace hR12 := (hg1.block b12 (Array.getElem?_eq_some_iff.1 hR12).1 (fun e => hNb12 _ e.symm rfl)).trans hR12
          replace hX := (hbp.block X (Nat.lt_succ_self X)).trans hX
          replace hB := hB.trans (hbp.mono hXw)
          replace hle := Nat.le_trans hle hbp.size
          clear hown hap
          have hown := hown1
          clear hown1 hg1 hat1 hbp
          clear hS6
          refine hK.out _ _ (Meets.here hX Meets.nil) (fun hMeets => ?_)
          clear hK K hMeets
          refine lay_R ?_
          refine R_now 13 fun K hK => ?_
          go_simp
          refine (HSU.out _ b12 hB (lies_one hR12 (fun j u hj => by simpa using hj))).mono ?_
          rintro e w13 ⟨⟨A13, c13, rfl, hS13⟩, hb13⟩
          replace hX := (hb13.block _ (Array.getElem?_eq_some_iff.1 hX).1).trans hX
          replace hB := below_call hB hB.size hb13
          replace hle := Nat.le_trans hle hb13.size
          replace hR12 := (hb13.block _ (Array.getElem?_eq_some_iff.1 hR12).1).trans hR12
          replace hown := own_keep hown hb13
          clear hR12
          replace hS13 := StrV.any hS13
          clear hb13
          refine hK.out _ _ (Meets.here hX Meets.nil) (fun hMeets => ?_)
          clear hK K hMeets
          refine lay_R ?_
          refine R_now 14 fun K hK => ?_
          have hap := hown
          refine stl_append elStr rfl rfl (X + 1) hown rfl (m := 2) (strC [decI ep, decI has]) rfl rfl hS13.lies ?_ ?_ ?_ hle ?_
          . exact (one_strC _)
          . simp only [maxLen]; omega
          . omega
          intro v1 w14 hown1 hg1 hat1
          obtain ⟨A14, c14, rfl⟩ := own_form hown1
          have hbp := below_app (Below.refl (X + 1) _) hown hg1 hle (Nat.le_refl _)
          replace hX := (hbp.block X (Nat.lt_succ_self X)).trans hX
          replace hB := hB.trans (hbp.mono hXw)
          replace hle := Nat.le_trans hle hbp.size
          clear hown hap
          have hown := hown1
          clear hown1 hg1 hat1 hbp
          clear hS13
          refine hK.out _ _ (Meets.here hX Meets.nil) (fun hMeets => ?_)
          clear hK K hMeets
          refine lay_R ?_
          refine R_now 15 fun K hK => ?_
          go_simp
          refine (HJ.out _ _ _ (own_strV' (ps := [[110, 111, 100, 101, 115], decI many, decI set, decI ep, decI has]) hown)).mono ?_
          rintro e w15 ⟨rfl, hb15⟩
          replace hX := (hb15.block _ (Array.getElem?_eq_some_iff.1 hX).1).trans hX
          replace hB := below_call hB hB.size hb15
          replace hle := Nat.le_trans hle hb15.size
          replace hown := own_keep hown hb15
          clear hb15
          refine hK.out _ _ (Meets.here hX Meets.nil) (fun hMeets => ?_)
          clear hK K hMeets
          refine lay_R ?_
          refine R_p (i := 16) (v := .string (bs FL)) (Meets.here hX Meets.nil) ?_
          refine R_done (by kernel_rfl) ?_ _
      case' o5_6_12 =>
        have hbb : Below w6.heap.size w6 (w6.alloc (.cells #[.int .u64 ep, .int .u64 has] 22)) := (Below.refl _ _).alloc (Nat.le_refl _) _
        obtain ⟨b12, hb12⟩ : ∃ b12, w6.heap.size = b12 := ⟨_, rfl⟩
        have hR12 := heap_alloc_new w6 (.cells #[.int .u64 ep, .int .u64 has] 22)
        rw [hb12] at hR12
        replace hX := (hbb.block _ (Array.getElem?_eq_some_iff.1 hX).1).trans hX
        replace hB := below_call hB hB.size hbb
        replace hle := Nat.le_trans hle hbb.size
        replace hS6 := StrV.keep hS6 hbb
        go_simp
        generalize w6.alloc (.cells #[.int .u64 ep, .int .u64 has] 22) = w12 at *
        try rw [hb12]
        clear hbb hb12
        refine hK.out _ _ (Meets.here hX Meets.nil) (fun hMeets => ?_)
        clear hK K hMeets
        refine lay_R ?_
        refine R_now 0 fun K hK => ?_
        have hbb : Below w12.heap.size w12 (w12.alloc (.cells #[.string ⟨#[110, 111, 100, 101, 115]⟩] 9)) := (Below.refl _ _).alloc (Nat.le_refl _) _
        obtain ⟨b0, hb0⟩ : ∃ b0, w12.heap.size = b0 := ⟨_, rfl⟩
        have hR0 := heap_alloc_new w12 (.cells #[.string ⟨#[110, 111, 100, 101, 115]⟩] 9)
        rw [hb0] at hR0
        have hown := World.ownsRow_lit (base := X + 1) (e := 9) (size := 1) w12 #[.string ⟨#[110, 111, 100, 101, 115]⟩] 1 hle (by simp [maxLen]) rfl
        rw [hb0] at hown
        have hNb12 : ∀ k, (Value.slice (some ⟨b0, 0, none⟩) 1 1).ownBlock = some k → b12 ≠ k := fun k e => by injection e with e; have e : b0 = k := e; have := (Array.getElem?_eq_some_iff.1 hR12).1; omega
        replace hX := (hbb.block _ (Array.getElem?_eq_some_iff.1 hX).1).trans hX
        replace hB := below_call hB hB.size hbb
        replace hle := Nat.le_trans hle hbb.size
        replace hS6 := StrV.keep hS6 hbb
        replace hR12 := (hbb.block _ (Array.getElem?_eq_some_iff.1 hR12).1).trans hR12
        go_simp
        generalize w12.alloc (.cells #[.string ⟨#[110, 111, 100, 101, 115]⟩] 9) = w0 at *
        try rw [hb0]
        clear hbb hb0
        clear hR0
        refine hK.out _ _ (Meets.here hX Meets.nil) (fun hMeets => ?_)
        clear hK K hMeets
        refine lay_R ?_
        refine R_now 7 fun K hK => ?_
        have hap := hown
        refine stl_append elStr rfl rfl (X + 1) hown rfl (m := 2) (strC [decI many, decI set]) rfl rfl hS6.lies ?_ ?_ ?_ hle ?_
        . exact (one_strC _)
        . simp only [maxLen]; omega
        . omega
        intro v1 w7 hown1 hg1 hat1
        obtain ⟨A7, c7, rfl⟩ := own_form hown1
        have hbp := below_app (Below.refl (X + 1) _) hown hg1 hle (Nat.le_refl _)
        replace hR12 := (hg1.block b12 (Array.getElem?_eq_some_iff.1 hR12).1 (fun e => hNb12 _ e.symm rfl)).trans hR12
        replace hX := (hbp.block X (Nat.lt_succ_self X)).trans hX
        replace hB := hB.trans (hbp.mono hXw)
        replace hle := Nat.le_trans hle hbp.size
        clear hown hap
        have hown := hown1
        clear hown1 hg1 hat1 hbp
        clear hS6
        refine hK.out _ _ (Meets.here hX Meets.nil) (fun hMeets => ?_)
        clear hK K hMeets
        refine lay_R ?_
        refine R_now 13 fun K hK => ?_
        go_simp
        refine (HSU.out _ b12 hB (lies_one hR12 (fun j u hj => by simpa using hj))).mono ?_
        rintro e w13 ⟨⟨A13, c13, rfl, hS13⟩, hb13⟩
        replace hX := (hb13.block _ (Array.getElem?_eq_some_iff.1 hX).1).trans hX
        replace hB := below_call hB hB.size hb13
        replace hle := Nat.le_trans hle hb13.size
        replace hR12 := (hb13.block _ (Array.getElem?_eq_some_iff.1 hR12).1).trans hR12
        replace hown := own_keep hown hb13
        clear hR12
        replace hS13 := StrV.any hS13
        clear hb13
        refine hK.out _ _ (Meets.here hX Meets.nil) (fun hMeets => ?_)
        clear hK K hMeets
        refine lay_R ?_
        refine R_now 14 fun K hK => ?_
        have hap := hown
        refine stl_append elStr rfl rfl (X + 1) hown rfl (m := 2) (strC [decI ep, decI has]) rfl rfl hS13.lies ?_ ?_ ?_ hle ?_
        . exact (one_strC _)
        . simp only [maxLen]; omega
        . omega
        intro v1 w14 hown1 hg1 hat1
        obtain ⟨A14, c14, rfl⟩ := own_form hown1
        have hbp := below_app (Below.refl (X + 1) _) hown hg1 hle (Nat.le_refl _)
        replace hX := (hbp.block X (Nat.lt_succ_self X)).trans hX
        replace hB := hB.trans (hbp.mono hXw)
        replace hle := Nat.le_trans hle hbp.size
        clear hown hap
        have hown := hown1
        clear hown1 hg1 hat1 hbp
        clear hS13
        refine hK.out _ _ (Meets.here hX Meets.nil) (fun hMeets => ?_)
        clear hK K hMeets
        refine lay_R ?_
        refine R_now 15 fun K hK => ?_
        go_simp
        refine (HJ.out _ _ _ (own_strV' (ps := [[110, 111, 100, 101, 115], decI many, decI set, decI ep, decI has]) hown)).mono ?_
        rintro e w15 ⟨rfl, hb15⟩
        replace hX := (hb15.block _ (Array.getElem?_eq_some_iff.1 hX).1).trans hX
        replace hB := below_call hB hB.size hb15
        replace hle := Nat.le_trans hle hb15.size
        replace hown := own_keep hown hb15
        clear hb15
        refine hK.out _ _ (Meets.here hX Meets.nil) (fun hMeets => ?_)
        clear hK K hMeets
        refine lay_R ?_
        refine R_p (i := 16) (v := .string (bs FL)) (Meets.here hX Meets.nil) ?_
        refine R_done (by kernel_rfl) ?_ _
    case' o5_12 =>
      have hbb : Below w5.heap.size w5 (w5.alloc (.cells #[.int .u64 ep, .int .u64 has] 22)) := (Below.refl _ _).alloc (Nat.le_refl _) _
      obtain ⟨b12, hb12⟩ : ∃ b12, w5.heap.size = b12 := ⟨_, rfl⟩
      have hR12 := heap_alloc_new w5 (.cells #[.int .u64 ep, .int .u64 has] 22)
      rw [hb12] at hR12
      replace hX := (hbb.block _ (Array.getElem?_eq_some_iff.1 hX).1).trans hX
      replace hB := below_call hB hB.size hbb
      replace hle := Nat.le_trans hle hbb.size
      replace hR5 := (hbb.block _ (Array.getElem?_eq_some_iff.1 hR5).1).trans hR5
      go_simp
      generalize w5.alloc (.cells #[.int .u64 ep, .int .u64 has] 22) = w12 at *
      try rw [hb12]
      clear hbb hb12
      refine hK.out _ _ (Meets.here hX Meets.nil) (fun hMeets => ?_)
      clear hK K hMeets
      refine lay_R ?_
      refine R_ready (rs := [0, 6]) (by kernel_rfl) (by simp) ?_
      refine AllReadyR.cons rfl (fun K hK => ?o5_12_0) (AllReadyR.cons rfl (fun K hK => ?o5_12_6) AllReadyR.nil)
      case' o5_12_0 =>
        have hbb : Below w12.heap.size w12 (w12.alloc (.cells #[.string ⟨#[110, 111, 100, 101, 115]⟩] 9)) := (Below.refl _ _).alloc (Nat.le_refl _) _
        obtain ⟨b0, hb0⟩ : ∃ b0, w12.heap.size = b0 := ⟨_, rfl⟩
        have hR0 := heap_alloc_new w12 (.cells #[.string ⟨#[110, 111, 100, 101, 115]⟩] 9)
        rw [hb0] at hR0
        have hown := World.ownsRow_lit (base := X + 1) (e := 9) (size := 1) w12 #[.string ⟨#[110, 111, 100, 101, 115]⟩] 1 hle (by simp [maxLen]) rfl
        rw [hb0] at hown
        have hNb5 : ∀ k, (Value.slice (some ⟨b0, 0, none⟩) 1 1).ownBlock = some k → b5 ≠ k := fun k e => by injection e with e; have e : b0 = k := e; have := (Array.getElem?_eq_some_iff.1 hR5).1; omega
        have hNb12 : ∀ k, (Value.slice (some ⟨b0, 0, none⟩) 1 1).ownBlock = some k → b12 ≠ k := fun k e => by injection e with e; have e : b0 = k := e; have := (Array.getElem?_eq_some_iff.1 hR12).1; omega
        replace hX := (hbb.block _ (Array.getElem?_eq_some_iff.1 hX).1).trans hX
        replace hB := below_call hB hB.size hbb
        replace hle := Nat.le_trans hle hbb.size
        replace hR5 := (hbb.block _ (Array.getElem?_eq_some_iff.1 hR5).1).trans hR5
        replace hR12 := (hbb.block _ (Array.getElem?_eq_some_iff.1 hR12).1).trans hR12
        go_simp
        generalize w12.alloc (.cells #[.string ⟨#[110, 111, 100, 101, 115]⟩] 9) = w0 at *
        try rw [hb0]
        clear hbb hb0
        clear hR0
        refine hK.out _ _ (Meets.here hX Meets.nil) (fun hMeets => ?_)
        clear hK K hMeets
        refine lay_R ?_
        refine R_now 6 fun K hK => ?_
        go_simp
        refine (HSI.out _ b5 hB (lies_one hR5 (fun j u hj => by simpa using hj))).mono ?_
        rintro e w6 ⟨⟨A6, c6, rfl, hS6⟩, hb6⟩
        replace hX := (hb6.block _ (Array.getElem?_eq_some_iff.1 hX).1).trans hX
        replace hB := below_call hB hB.size hb6
        replace hle := Nat.le_trans hle hb6.size
        replace hR5 := (hb6.block _ (Array.getElem?_eq_some_iff.1 hR5).1).trans hR5
        replace hR12 := (hb6.block _ (Array.getElem?_eq_some_iff.1 hR12).1).trans hR12
        replace hown := own_keep hown hb6
        clear hR5
        replace hS6 := StrV.any hS6
        clear hb6
        refine hK.out _ _ (Meets.here hX Meets.nil) (fun hMeets => ?_)
        clear hK K hMeets
        refine lay_R ?_
        refine R_now 7 fun K hK => ?_
        have hap := hown
        refine stl_append elStr rfl rfl (X + 1) hown rfl (m := 2) (strC [decI many, decI set]) rfl rfl hS6.lies ?_ ?_ ?_ hle ?_
        . exact (one_strC _)
        . simp only [maxLen]; omega
        . omega
        intro v1 w7 hown1 hg1 hat1
        obtain ⟨A7, c7, rfl⟩ := own_form hown1
        have hbp := below_app (Below.refl (X + 1) _) hown hg1 hle (Nat.le_refl _)
        replace hR12 := (hg1.block b12 (Array.getElem?_eq_some_iff.1 hR12).1 (fun e => hNb12 _ e.symm rfl)).trans hR12
        replace hX := (hbp.block X (Nat.lt_succ_self X)).trans hX
        replace hB := hB.trans (hbp.mono hXw)
        replace hle := Nat.le_trans hle hbp.size
        clear hown hap
        have hown := hown1
        clear hown1 hg1 hat1 hbp
        clear hS6
        refine hK.out _ _ (Meets.here hX Meets.nil) (fun hMeets => ?_)
        clear hK K hMeets
        refine lay_R ?_
        refine R_now 13 fun K hK => ?_
        go_simp
        refine (HSU.out _ b12 hB (lies_one hR12 (fun j u hj => by simpa using hj))).mono ?_
        rintro e w13 ⟨⟨A13, c13, rfl, hS13⟩, hb13⟩
        replace hX := (hb13.block _ (Array.getElem?_eq_some_iff.1 hX).1).trans hX
        replace hB := below_call hB hB.size hb13
        replace hle := Nat.le_trans hle hb13.size
        replace hR12 := (hb13.block _ (Array.getElem?_eq_some_iff.1 hR12).1).trans hR12
        replace hown := own_keep hown hb13
        clear hR12
        replace hS13 := StrV.any hS13
        clear hb13
        refine hK.out _ _ (Meets.here hX Meets.nil) (fun hMeets => ?_)
        clear hK K hMeets
        refine lay_R ?_
        refine R_now 14 fun K hK => ?_
        have hap := hown
        refine stl_append elStr rfl rfl (X + 1) hown rfl (m := 2) (strC [decI ep, decI has]) rfl rfl hS13.lies ?_ ?_ ?_ hle ?_
        . exact (one_strC _)
        . simp only [maxLen]; omega
        . omega
        intro v1 w14 hown1 hg1 hat1
        obtain ⟨A14, c14, rfl⟩ := own_form hown1
        have hbp := below_app (Below.refl (X + 1) _) hown hg1 hle (Nat.le_refl _)
        replace hX := (hbp.block X (Nat.lt_succ_self X)).trans hX
        replace hB := hB.trans (hbp.mono hXw)
        replace hle := Nat.le_trans hle hbp.size
        clear hown hap
        have hown := hown1
        clear hown1 hg1 hat1 hbp
        clear hS13
        refine hK.out _ _ (Meets.here hX Meets.nil) (fun hMeets => ?_)
        clear hK K hMeets
        refine lay_R ?_
        refine R_now 15 fun K hK => ?_
        go_simp
        refine (HJ.out _ _ _ (own_strV' (ps := [[110, 111, 100, 101, 115], decI many, decI set, decI ep, decI has]) hown)).mono ?_
        rintro e w15 ⟨rfl, hb15⟩
        replace hX := (hb15.block _ (Array.getElem?_eq_some_iff.1 hX).1).trans hX
        replace hB := below_call hB hB.size hb15
        replace hle := Nat.le_trans hle hb15.size
        replace hown := own_keep hown hb15
        clear hb15
        refine hK.out _ _ (Meets.here hX Meets.nil) (fun hMeets => ?_)
        clear hK K hMeets
        refine lay_R ?_
        refine R_p (i := 16) (v := .string (bs FL)) (Meets.here hX Meets.nil) ?_
        refine R_done (by kernel_rfl) ?_ _
      case' o5_12_6 =>
        go_simp
        refine (HSI.out _ b5 hB (lies_one hR5 (fun j u hj => by simpa using hj))).mono ?_
        rintro e w6 ⟨⟨A6, c6, rfl, hS6⟩, hb6⟩
        replace hX := (hb6.block _ (Array.getElem?_eq_some_iff.1 hX).1).trans hX
        replace hB := below_call hB hB.size hb6
        replace hle := Nat.le_trans hle hb6.size
        replace hR5 := (hb6.block _ (Array.getElem?_eq_some_iff.1 hR5).1).trans hR5
        replace hR12 := (hb6.block _ (Array.getElem?_eq_some_iff.1 hR12).1).trans hR12
        clear hR5
        replace hS6 := StrV.any hS6
        clear hb6
        refine hK.out _ _ (Meets.here hX Meets.nil) (fun hMeets => ?_)
        clear hK K hMeets
        refine lay_R ?_
        refine R_now 0 fun K hK => ?_
        have hbb : Below w6.heap.size w6 (w6.alloc (.cells #[.string ⟨#[110, 111, 100, 101, 115]⟩] 9)) := (Below.refl _ _).alloc (Nat.le_refl _) _
        obtain ⟨b0, hb0⟩ : ∃ b0, w6.heap.size = b0 := ⟨_, rfl⟩
        have hR0 := heap_alloc_new w6 (.cells #[.string ⟨#[110, 111, 100, 101, 115]⟩] 9)
        rw [hb0] at hR0
        have hown := World.ownsRow_lit (base := X + 1) (e := 9) (size := 1) w6 #[.string ⟨#[110, 111, 100, 101, 115]⟩] 1 hle (by simp [maxLen]) rfl
        rw [hb0] at hown
        have hNb12 : ∀ k, (Value.slice (some ⟨b0, 0, none⟩) 1 1).ownBlock = some k → b12 ≠ k := fun k e => by injection e with e; have e : b0 = k := e; have := (Array.getElem?_eq_some_iff.1 hR12).1; omega
        replace hX := (hbb.block _ (Array.getElem?_eq_some_iff.1 hX).1).trans hX
        replace hB := below_call hB hB.size hbb
        replace hle := Nat.le_trans hle hbb.size
        replace hS6 := StrV.keep hS6 hbb
        replace hR12 := (hbb.block _ (Array.getElem?_eq_some_iff.1 hR12).1).trans hR12
        go_simp
        generalize w6.alloc (.cells #[.string ⟨#[110, 111, 100, 101, 115]⟩] 9) = w0 at *
        try rw [hb0]
        clear hbb hb0
        clear hR0
        refine hK.out _ _ (Meets.here hX Meets.nil) (fun hMeets => ?_)
        clear hK K hMeets
        refine lay_R ?_
        refine R_now 7 fun K hK => ?_
        have hap := hown
        refine stl_append elStr rfl rfl (X + 1) hown rfl (m := 2) (strC [decI many, decI set]) rfl rfl hS6.lies ?_ ?_ ?_ hle ?_
        . exact (one_strC _)
        . simp only [maxLen]; omega
        . omega
        intro v1 w7 hown1 hg1 hat1
        obtain ⟨A7, c7, rfl⟩ := own_form hown1
        have hbp := below_app (Below.refl (X + 1) _) hown hg1 hle (Nat.le_refl _)
        replace hR12 := (hg1.block b12 (Array.getElem?_eq_some_iff.1 hR12).1 (fun e => hNb12 _ e.symm rfl)).trans hR12
        replace hX := (hbp.block X (Nat.lt_succ_self X)).trans hX
        replace hB := hB.trans (hbp.mono hXw)
        replace hle := Nat.le_trans hle hbp.size
        clear hown hap
        have hown := hown1
        clear hown1 hg1 hat1 hbp
        clear hS6
        refine hK.out _ _ (Meets.here hX Meets.nil) (fun hMeets => ?_)
        clear hK K hMeets
        refine lay_R ?_
        refine R_now 13 fun K hK => ?_
        go_simp
        refine (HSU.out _ b12 hB (lies_one hR12 (fun j u hj => by simpa using hj))).mono ?_
        rintro e w13 ⟨⟨A13, c13, rfl, hS13⟩, hb13⟩
        replace hX := (hb13.block _ (Array.getElem?_eq_some_iff.1 hX).1).trans hX
        replace hB := below_call hB hB.size hb13
        replace hle := Nat.le_trans hle hb13.size
        replace hR12 := (hb13.block _ (Array.getElem?_eq_some_iff.1 hR12).1).trans hR12
        replace hown := own_keep hown hb13
        clear hR12
        replace hS13 := StrV.any hS13
        clear hb13
        refine hK.out _ _ (Meets.here hX Meets.nil) (fun hMeets => ?_)
        clear hK K hMeets
        refine lay_R ?_
        refine R_now 14 fun K hK => ?_
        have hap := hown
        refine stl_append elStr rfl rfl (X + 1) hown rfl (m := 2) (strC [decI ep, decI has]) rfl rfl hS13.lies ?_ ?_ ?_ hle ?_
        . exact (one_strC _)
        . simp only [maxLen]; omega
        . omega
        intro v1 w14 hown1 hg1 hat1
        obtain ⟨A14, c14, rfl⟩ := own_form hown1
        have hbp := below_app (Below.refl (X + 1) _) hown hg1 hle (Nat.le_refl _)
        replace hX := (hbp.block X (Nat.lt_succ_self X)).trans hX
        replace hB := hB.trans (hbp.mono hXw)
        replace hle := Nat.le_trans hle hbp.size
        clear hown hap
        have hown := hown1
        clear hown1 hg1 hat1 hbp
        clear hS13
        refine hK.out _ _ (Meets.here hX Meets.nil) (fun hMeets => ?_)
        clear hK K hMeets
        refine lay_R ?_
        refine R_now 15 fun K hK => ?_
        go_simp
        refine (HJ.out _ _ _ (own_strV' (ps := [[110, 111, 100, 101, 115], decI many, decI set, decI ep, decI has]) hown)).mono ?_
        rintro e w15 ⟨rfl, hb15⟩
        replace hX := (hb15.block _ (Array.getElem?_eq_some_iff.1 hX).1).trans hX
        replace hB := below_call hB hB.size hb15
        replace hle := Nat.le_trans hle hb15.size
        replace hown := own_keep hown hb15
        clear hb15
        refine hK.out _ _ (Meets.here hX Meets.nil) (fun hMeets => ?_)
        clear hK K hMeets
        refine lay_R ?_
        refine R_p (i := 16) (v := .string (bs FL)) (Meets.here hX Meets.nil) ?_
        refine R_done (by kernel_rfl) ?_ _
  case' o12 =>
    have hbb : Below W.heap.size W (W.alloc (.cells #[.int .u64 ep, .int .u64 has] 22)) := (Below.refl _ _).alloc (Nat.le_refl _) _
    obtain ⟨b12, hb12⟩ : ∃ b12, W.heap.size = b12 := ⟨_, rfl⟩
    have hR12 := heap_alloc_new W (.cells #[.int .u64 ep, .int .u64 has] 22)
    rw [hb12] at hR12
    replace hX := (hbb.block _ (Array.getElem?_eq_some_iff.1 hX).1).trans hX
    replace hB := below_call hB hB.size hbb
    replace hle := Nat.le_trans hle hbb.size
    go_simp
    generalize W.alloc (.cells #[.int .u64 ep, .int .u64 has] 22) = w12 at *
    try rw [hb12]
    clear hbb hb12
    refine hK.out _ _ (Meets.here hX Meets.nil) (fun hMeets => ?_)
    clear hK K hMeets
    refine lay_R ?_
    refine R_ready (rs := [0, 5]) (by kernel_rfl) (by simp) ?_
    refine AllReadyR.cons rfl (fun K hK => ?o12_0) (AllReadyR.cons rfl (fun K hK => ?o12_5) AllReadyR.nil)
    case' o12_0 =>
      have hbb : Below w12.heap.size w12 (w12.alloc (.cells #[.string ⟨#[110, 111, 100, 101, 115]⟩] 9)) := (Below.refl _ _).alloc (Nat.le_refl _) _
      obtain ⟨b0, hb0⟩ : ∃ b0, w12.heap.size = b0 := ⟨_, rfl⟩
      have hR0 := heap_alloc_new w12 (.cells #[.string ⟨#[110, 111, 100, 101, 115]⟩] 9)
      rw [hb0] at hR0
      have hown := World.ownsRow_lit (base := X + 1) (e := 9) (size := 1) w12 #[.string ⟨#[110, 111, 100, 101, 115]⟩] 1 hle (by simp [maxLen]) rfl
      rw [hb0] at hown
      have hNb12 : ∀ k, (Value.slice (some ⟨b0, 0, none⟩) 1 1).ownBlock = some k → b12 ≠ k := fun k e => by injection e with e; have e : b0 = k := e; have := (Array.getElem?_eq_some_iff.1 hR12).1; omega
      replace hX := (hbb.block _ (Array.getElem?_eq_some_iff.1 hX).1).trans hX
      replace hB := below_call hB hB.size hbb
      replace hle := Nat.le_trans hle hbb.size
      replace hR12 := (hbb.block _ (Array.getElem?_eq_some_iff.1 hR12).1).trans hR12
      go_simp
      generalize w12.alloc (.cells #[.string ⟨#[110, 111, 100, 101, 115]⟩] 9) = w0 at *
      try rw [hb0]
      clear hbb hb0
      clear hR0
      refine hK.out _ _ (Meets.here hX Meets.nil) (fun hMeets => ?_)
      clear hK K hMeets
      refine lay_R ?_
      refine R_now 5 fun K hK => ?_
      have hbb : Below w0.heap.size w0 (w0.alloc (.cells #[.int .i64 many, .int .i64 set] 3)) := (Below.refl _ _).alloc (Nat.le_refl _) _
      obtain ⟨b5, hb5⟩ : ∃ b5, w0.heap.size = b5 := ⟨_, rfl⟩
      have hR5 := heap_alloc_new w0 (.cells #[.int .i64 many, .int .i64 set] 3)
      rw [hb5] at hR5
      have hNb5 : ∀ k, (Value.slice (some ⟨b0, 0, none⟩) 1 1).ownBlock = some k → b5 ≠ k := fun k e => by have := (hown.lt k e).2; omega
      replace hX := (hbb.block _ (Array.getElem?_eq_some_iff.1 hX).1).trans hX
      replace hB := below_call hB hB.size hbb
      replace hle := Nat.le_trans hle hbb.size
      replace hR12 := (hbb.block _ (Array.getElem?_eq_some_iff.1 hR12).1).trans hR12
      replace hown := own_keep hown hbb
      go_simp
      generalize w0.alloc (.cells #[.int .i64 many, .int .i64 set] 3) = w5 at *
      try rw [hb5]
      clear hbb hb5
      refine hK.out _ _ (Meets.here hX Meets.nil) (fun hMeets => ?_)
      clear hK K hMeets
      refine lay_R ?_
      refine R_now 6 fun K hK => ?_
      go_simp
      refine (HSI.out _ b5 hB (lies_one hR5 (fun j u hj => by simpa using hj))).mono ?_
      rintro e w6 ⟨⟨A6, c6, rfl, hS6⟩, hb6⟩
      replace hX := (hb6.block _ (Array.getElem?_eq_some_iff.1 hX).1).trans hX
      replace hB := below_call hB hB.size hb6
      replace hle := Nat.le_trans hle hb6.size
      replace hR12 := (hb6.block _ (Array.getElem?_eq_some_iff.1 hR12).1).trans hR12
      replace hR5 := (hb6.block _ (Array.getElem?_eq_some_iff.1 hR5).1).trans hR5
      replace hown := own_keep hown hb6
      clear hR5
      replace hS6 := StrV.any hS6
      clear hb6
      refine hK.out _ _ (Meets.here hX Meets.nil) (fun hMeets => ?_)
      clear hK K hMeets
      refine lay_R ?_
      refine R_now 7 fun K hK => ?_
      have hap := hown
      refine stl_append elStr rfl rfl (X + 1) hown rfl (m := 2) (strC [decI many, decI set]) rfl rfl hS6.lies ?_ ?_ ?_ hle ?_
      . exact (one_strC _)
      . simp only [maxLen]; omega
      . omega
      intro v1 w7 hown1 hg1 hat1
      obtain ⟨A7, c7, rfl⟩ := own_form hown1
      have hbp := below_app (Below.refl (X + 1) _) hown hg1 hle (Nat.le_refl _)
      replace hR12 := (hg1.block b12 (Array.getElem?_eq_some_iff.1 hR12).1 (fun e => hNb12 _ e.symm rfl)).trans hR12
      replace hX := (hbp.block X (Nat.lt_succ_self X)).trans hX
      replace hB := hB.trans (hbp.mono hXw)
      replace hle := Nat.le_trans hle hbp.size
      clear hown hap
      have hown := hown1
      clear hown1 hg1 hat1 hbp
      clear hS6
      refine hK.out _ _ (Meets.here hX Meets.nil) (fun hMeets => ?_)
      clear hK K hMeets
      refine lay_R ?_
      refine R_now 13 fun K hK => ?_
      go_simp
      refine (HSU.out _ b12 hB (lies_one hR12 (fun j u hj => by simpa using hj))).mono ?_
      rintro e w13 ⟨⟨A13, c13, rfl, hS13⟩, hb13⟩
      replace hX := (hb13.block _ (Array.getElem?_eq_some_iff.1 hX).1).trans hX
      replace hB := below_call hB hB.size hb13
      replace hle := Nat.le_trans hle hb13.size
      replace hR12 := (hb13.block _ (Array.getElem?_eq_some_iff.1 hR12).1).trans hR12
      replace hown := own_keep hown hb13
      clear hR12
      replace hS13 := StrV.any hS13
      clear hb13
      refine hK.out _ _ (Meets.here hX Meets.nil) (fun hMeets => ?_)
      clear hK K hMeets
      refine lay_R ?_
      refine R_now 14 fun K hK => ?_
      have hap := hown
      refine stl_append elStr rfl rfl (X + 1) hown rfl (m := 2) (strC [decI ep, decI has]) rfl rfl hS13.lies ?_ ?_ ?_ hle ?_
      . exact (one_strC _)
      . simp only [maxLen]; omega
      . omega
      intro v1 w14 hown1 hg1 hat1
      obtain ⟨A14, c14, rfl⟩ := own_form hown1
      have hbp := below_app (Below.refl (X + 1) _) hown hg1 hle (Nat.le_refl _)
      replace hX := (hbp.block X (Nat.lt_succ_self X)).trans hX
      replace hB := hB.trans (hbp.mono hXw)
      replace hle := Nat.le_trans hle hbp.size
      clear hown hap
      have hown := hown1
      clear hown1 hg1 hat1 hbp
      clear hS13
      refine hK.out _ _ (Meets.here hX Meets.nil) (fun hMeets => ?_)
      clear hK K hMeets
      refine lay_R ?_
      refine R_now 15 fun K hK => ?_
      go_simp
      refine (HJ.out _ _ _ (own_strV' (ps := [[110, 111, 100, 101, 115], decI many, decI set, decI ep, decI has]) hown)).mono ?_
      rintro e w15 ⟨rfl, hb15⟩
      replace hX := (hb15.block _ (Array.getElem?_eq_some_iff.1 hX).1).trans hX
      replace hB := below_call hB hB.size hb15
      replace hle := Nat.le_trans hle hb15.size
      replace hown := own_keep hown hb15
      clear hb15
      refine hK.out _ _ (Meets.here hX Meets.nil) (fun hMeets => ?_)
      clear hK K hMeets
      refine lay_R ?_
      refine R_p (i := 16) (v := .string (bs FL)) (Meets.here hX Meets.nil) ?_
      refine R_done (by kernel_rfl) ?_ _
    case' o12_5 =>
      have hbb : Below w12.heap.size w12 (w12.alloc (.cells #[.int .i64 many, .int .i64 set] 3)) := (Below.refl _ _).alloc (Nat.le_refl _) _
      obtain ⟨b5, hb5⟩ : ∃ b5, w12.heap.size = b5 := ⟨_, rfl⟩
      have hR5 := heap_alloc_new w12 (.cells #[.int .i64 many, .int .i64 set] 3)
      rw [hb5] at hR5
      replace hX := (hbb.block _ (Array.getElem?_eq_some_iff.1 hX).1).trans hX
      replace hB := below_call hB hB.size hbb
      replace hle := Nat.le_trans hle hbb.size
      replace hR12 := (hbb.block _ (Array.getElem?_eq_some_iff.1 hR12).1).trans hR12
      go_simp
      generalize w12.alloc (.cells #[.int .i64 many, .int .i64 set] 3) = w5 at *
      try rw [hb5]
      clear hbb hb5
      refine hK.out _ _ (Meets.here hX Meets.nil) (fun hMeets => ?_)
      clear hK K hMeets
      refine lay_R ?_
      refine R_ready (rs := [0, 6]) (by kernel_rfl) (by simp) ?_
      refine AllReadyR.cons rfl (fun K hK => ?o12_5_0) (AllReadyR.cons rfl (fun K hK => ?o12_5_6) AllReadyR.nil)
      case' o12_5_0 =>
        have hbb : Below w5.heap.size w5 (w5.alloc (.cells #[.string ⟨#[110, 111, 100, 101, 115]⟩] 9)) := (Below.refl _ _).alloc (Nat.le_refl _) _
        obtain ⟨b0, hb0⟩ : ∃ b0, w5.heap.size = b0 := ⟨_, rfl⟩
        have hR0 := heap_alloc_new w5 (.cells #[.string ⟨#[110, 111, 100, 101, 115]⟩] 9)
        rw [hb0] at hR0
        have hown := World.ownsRow_lit (base := X + 1) (e := 9) (size := 1) w5 #[.string ⟨#[110, 111, 100, 101, 115]⟩] 1 hle (by simp [maxLen]) rfl
        rw [hb0] at hown
        have hNb12 : ∀ k, (Value.slice (some ⟨b0, 0, none⟩) 1 1).ownBlock = some k → b12 ≠ k := fun k e => by injection e with e; have e : b0 = k := e; have := (Array.getElem?_eq_some_iff.1 hR12).1; omega
        have hNb5 : ∀ k, (Value.slice (some ⟨b0, 0, none⟩) 1 1).ownBlock = some k → b5 ≠ k := fun k e => by injection e with e; have e : b0 = k := e; have := (Array.getElem?_eq_some_iff.1 hR5).1; omega
        replace hX := (hbb.block _ (Array.getElem?_eq_some_iff.1 hX).1).trans hX
        replace hB := below_call hB hB.size hbb
        replace hle := Nat.le_trans hle hbb.size
        replace hR12 := (hbb.block _ (Array.getElem?_eq_some_iff.1 hR12).1).trans hR12
        replace hR5 := (hbb.block _ (Array.getElem?_eq_some_iff.1 hR5).1).trans hR5
        go_simp
        generalize w5.alloc (.cells #[.string ⟨#[110, 111, 100, 101, 115]⟩] 9) = w0 at *
        try rw [hb0]
        clear hbb hb0
        clear hR0
        refine hK.out _ _ (Meets.here hX Meets.nil) (fun hMeets => ?_)
        clear hK K hMeets
        refine lay_R ?_
        refine R_now 6 fun K hK => ?_
        go_simp
        refine (HSI.out _ b5 hB (lies_one hR5 (fun j u hj => by simpa using hj))).mono ?_
        rintro e w6 ⟨⟨A6, c6, rfl, hS6⟩, hb6⟩
        replace hX := (hb6.block _ (Array.getElem?_eq_some_iff.1 hX).1).trans hX
        replace hB := below_call hB hB.size hb6
        replace hle := Nat.le_trans hle hb6.size
        replace hR12 := (hb6.block _ (Array.getElem?_eq_some_iff.1 hR12).1).trans hR12
        replace hR5 := (hb6.block _ (Array.getElem?_eq_some_iff.1 hR5).1).trans hR5
        replace hown := own_keep hown hb6
        clear hR5
        replace hS6 := StrV.any hS6
        clear hb6
        refine hK.out _ _ (Meets.here hX Meets.nil) (fun hMeets => ?_)
        clear hK K hMeets
        refine lay_R ?_
        refine R_now 7 fun K hK => ?_
        have hap := hown
        refine stl_append elStr rfl rfl (X + 1) hown rfl (m := 2) (strC [decI many, decI set]) rfl rfl hS6.lies ?_ ?_ ?_ hle ?_
        . exact (one_strC _)
        . simp only [maxLen]; omega
        . omega
        intro v1 w7 hown1 hg1 hat1
        obtain ⟨A7, c7, rfl⟩ := own_form hown1
        have hbp := below_app (Below.refl (X + 1) _) hown hg1 hle (Nat.le_refl _)
        replace hR12 := (hg1.block b12 (Array.getElem?_eq_some_iff.1 hR12).1 (fun e => hNb12 _ e.symm rfl)).trans hR12
        replace hX := (hbp.block X (Nat.lt_succ_self X)).trans hX
        replace hB := hB.trans (hbp.mono hXw)
        replace hle := Nat.le_trans hle hbp.size
        clear hown hap
        have hown := hown1
        clear hown1 hg1 hat1 hbp
        clear hS6
        refine hK.out _ _ (Meets.here hX Meets.nil) (fun hMeets => ?_)
        clear hK K hMeets
        refine lay_R ?_
        refine R_now 13 fun K hK => ?_
        go_simp
        refine (HSU.out _ b12 hB (lies_one hR12 (fun j u hj => by simpa using hj))).mono ?_
        rintro e w13 ⟨⟨A13, c13, rfl, hS13⟩, hb13⟩
        replace hX := (hb13.block _ (Array.getElem?_eq_some_iff.1 hX).1).trans hX
        replace hB := below_call hB hB.size hb13
        replace hle := Nat.le_trans hle hb13.size
        replace hR12 := (hb13.block _ (Array.getElem?_eq_some_iff.1 hR12).1).trans hR12
        replace hown := own_keep hown hb13
        clear hR12
        replace hS13 := StrV.any hS13
        clear hb13
        refine hK.out _ _ (Meets.here hX Meets.nil) (fun hMeets => ?_)
        clear hK K hMeets
        refine lay_R ?_
        refine R_now 14 fun K hK => ?_
        have hap := hown
        refine stl_append elStr rfl rfl (X + 1) hown rfl (m := 2) (strC [decI ep, decI has]) rfl rfl hS13.lies ?_ ?_ ?_ hle ?_
        . exact (one_strC _)
        . simp only [maxLen]; omega
        . omega
        intro v1 w14 hown1 hg1 hat1
        obtain ⟨A14, c14, rfl⟩ := own_form hown1
        have hbp := below_app (Below.refl (X + 1) _) hown hg1 hle (Nat.le_refl _)
        replace hX := (hbp.block X (Nat.lt_succ_self X)).trans hX
        replace hB := hB.trans (hbp.mono hXw)
        replace hle := Nat.le_trans hle hbp.size
        clear hown hap
        have hown := hown1
        clear hown1 hg1 hat1 hbp
        clear hS13
        refine hK.out _ _ (Meets.here hX Meets.nil) (fun hMeets => ?_)
        clear hK K hMeets
        refine lay_R ?_
        refine R_now 15 fun K hK => ?_
        go_simp
        refine (HJ.out _ _ _ (own_strV' (ps := [[110, 111, 100, 101, 115], decI many, decI set, decI ep, decI has]) hown)).mono ?_
        rintro e w15 ⟨rfl, hb15⟩
        replace hX := (hb15.block _ (Array.getElem?_eq_some_iff.1 hX).1).trans hX
        replace hB := below_call hB hB.size hb15
        replace hle := Nat.le_trans hle hb15.size
        replace hown := own_keep hown hb15
        clear hb15
        refine hK.out _ _ (Meets.here hX Meets.nil) (fun hMeets => ?_)
        clear hK K hMeets
        refine lay_R ?_
        refine R_p (i := 16) (v := .string (bs FL)) (Meets.here hX Meets.nil) ?_
        refine R_done (by kernel_rfl) ?_ _
      case' o12_5_6 =>
        go_simp
        refine (HSI.out _ b5 hB (lies_one hR5 (fun j u hj => by simpa using hj))).mono ?_
        rintro e w6 ⟨⟨A6, c6, rfl, hS6⟩, hb6⟩
        replace hX := (hb6.block _ (Array.getElem?_eq_some_iff.1 hX).1).trans hX
        replace hB := below_call hB hB.size hb6
        replace hle := Nat.le_trans hle hb6.size
        replace hR12 := (hb6.block _ (Array.getElem?_eq_some_iff.1 hR12).1).trans hR12
        replace hR5 := (hb6.block _ (Array.getElem?_eq_some_iff.1 hR5).1).trans hR5
        clear hR5
        replace hS6 := StrV.any hS6
        clear hb6
        refine hK.out _ _ (Meets.here hX Meets.nil) (fun hMeets => ?_)
        clear hK K hMeets
        refine lay_R ?_
        refine R_now 0 fun K hK => ?_
        have hbb : Below w6.heap.size w6 (w6.alloc (.cells #[.string ⟨#[110, 111, 100, 101, 115]⟩] 9)) := (Below.refl _ _).alloc (Nat.le_refl _) _
        obtain ⟨b0, hb0⟩ : ∃ b0, w6.heap.size = b0 := ⟨_, rfl⟩
        have hR0 := heap_alloc_new w6 (.cells #[.string ⟨#[110, 111, 100, 101, 115]⟩] 9)
        rw [hb0] at hR0
        have hown := World.ownsRow_lit (base := X + 1) (e := 9) (size := 1) w6 #[.string ⟨#[110, 111, 100, 101, 115]⟩] 1 hle (by simp [maxLen]) rfl
        rw [hb0] at hown
        have hNb12 : ∀ k, (Value.slice (some ⟨b0, 0, none⟩) 1 1).ownBlock = some k → b12 ≠ k := fun k e => by injection e with e; have e : b0 = k := e; have := (Array.getElem?_eq_some_iff.1 hR12).1; omega
        replace hX := (hbb.block _ (Array.getElem?_eq_some_iff.1 hX).1).trans hX
        replace hB := below_call hB hB.size hbb
        replace hle := Nat.le_trans hle hbb.size
        replace hS6 := StrV.keep hS6 hbb
        replace hR12 := (hbb.block _ (Array.getElem?_eq_some_iff.1 hR12).1).trans hR12
        go_simp
        generalize w6.alloc (.cells #[.string ⟨#[110, 111, 100, 101, 115]⟩] 9) = w0 at *
        try rw [hb0]
        clear hbb hb0
        clear hR0
        refine hK.out _ _ (Meets.here hX Meets.nil) (fun hMeets => ?_)
        clear hK K hMeets
        refine lay_R ?_
        refine R_now 7 fun K hK => ?_
        have hap := hown
        refine stl_append elStr rfl rfl (X + 1) hown rfl (m := 2) (strC [decI many, decI set]) rfl rfl hS6.lies ?_ ?_ ?_ hle ?_
        . exact (one_strC _)
        . simp only [maxLen]; omega
        . omega
        intro v1 w7 hown1 hg1 hat1
        obtain ⟨A7, c7, rfl⟩ := own_form hown1
        have hbp := below_app (Below.refl (X + 1) _) hown hg1 hle (Nat.le_refl _)
        replace hR12 := (hg1.block b12 (Array.getElem?_eq_some_iff.1 hR12).1 (fun e => hNb12 _ e.symm rfl)).trans hR12
        replace hX := (hbp.block X (Nat.lt_succ_self X)).trans hX
        replace hB := hB.trans (hbp.mono hXw)
        replace hle := Nat.le_trans hle hbp.size
        clear hown hap
        have hown := hown1
        clear hown1 hg1 hat1 hbp
        clear hS6
        refine hK.out _ _ (Meets.here hX Meets.nil) (fun hMeets => ?_)
        clear hK K hMeets
        refine lay_R ?_
        refine R_now 13 fun K hK => ?_
        go_simp
        refine (HSU.out _ b12 hB (lies_one hR12 (fun j u hj => by simpa using hj))).mono ?_
        rintro e w13 ⟨⟨A13, c13, rfl, hS13⟩, hb13⟩
        replace hX := (hb13.block _ (Array.getElem?_eq_some_iff.1 hX).1).trans hX
        replace hB := below_call hB hB.size hb13
        replace hle := Nat.le_trans hle hb13.size
        replace hR12 := (hb13.block _ (Array.getElem?_eq_some_iff.1 hR12).1).trans hR12
        replace hown := own_keep hown hb13
        clear hR12
        replace hS13 := StrV.any hS13
        clear hb13
        refine hK.out _ _ (Meets.here hX Meets.nil) (fun hMeets => ?_)
        clear hK K hMeets
        refine lay_R ?_
        refine R_now 14 fun K hK => ?_
        have hap := hown
        refine stl_append elStr rfl rfl (X + 1) hown rfl (m := 2) (strC [decI ep, decI has]) rfl rfl hS13.lies ?_ ?_ ?_ hle ?_
        . exact (one_strC _)
        . simp only [maxLen]; omega
        . omega
        intro v1 w14 hown1 hg1 hat1
        obtain ⟨A14, c14, rfl⟩ := own_form hown1
        have hbp := below_app (Below.refl (X + 1) _) hown hg1 hle (Nat.le_refl _)
        replace hX := (hbp.block X (Nat.lt_succ_self X)).trans hX
        replace hB := hB.trans (hbp.mono hXw)
        replace hle := Nat.le_trans hle hbp.size
        clear hown hap
        have hown := hown1
        clear hown1 hg1 hat1 hbp
        clear hS13
        refine hK.out _ _ (Meets.here hX Meets.nil) (fun hMeets => ?_)
        clear hK K hMeets
        refine lay_R ?_
        refine R_now 15 fun K hK => ?_
        go_simp
        refine (HJ.out _ _ _ (own_strV' (ps := [[110, 111, 100, 101, 115], decI many, decI set, decI ep, decI has]) hown)).mono ?_
        rintro e w15 ⟨rfl, hb15⟩
        replace hX := (hb15.block _ (Array.getElem?_eq_some_iff.1 hX).1).trans hX
        replace hB := below_call hB hB.size hb15
        replace hle := Nat.le_trans hle hb15.size
        replace hown := own_keep hown hb15
        clear hb15
        refine hK.out _ _ (Meets.here hX Meets.nil) (fun hMeets => ?_)
        clear hK K hMeets
        refine lay_R ?_
        refine R_p (i := 16) (v := .string (bs FL)) (Meets.here hX Meets.nil) ?_
        refine R_done (by kernel_rfl) ?_ _
  all_goals go_wp2_with fail
  all_goals go_ret
  all_goals exact ⟨rfl, by rw [← hXe]; exact hB⟩
end Go.Proofs.YtggiicbjegmehaaDoor
