/- The walks of script.line. -/
import Derived.Test.YtggiicbjegmehaaDoorScH
namespace Go.Proofs.YtggiicbjegmehaaDoor
set_option linter.unusedVariables false
set_option linter.unusedSimpArgs false
open Go.RowKit


set_option maxRecDepth 100000 in
set_option maxHeartbeats 8000000 in
theorem line_8t (k a m t n c : Int) (ad : Bool) (b : Bytes) (h5 : (k == 5) = false) (h7 : (k == 7) = false) (h8 : (k == 8) = true) (km : Nat) (hkm : IntKind.i64.wrap (k - 1) = (km : Int)) (wd : Bytes) (hwd : wordsC[km]? = some (.string (bs wd))) (hwl : wd.length ≤ 20) (ha : 0 ≤ a ∧ a ≤ 9223372036854775807) (hm : 0 ≤ m ∧ m ≤ 9223372036854775807) (ht : 0 ≤ t ∧ t ≤ 9223372036854775807) (hn : 0 ≤ n ∧ n ≤ 18446744073709551615) (hc : 0 ≤ c ∧ c ≤ 18446744073709551615) (hbl : b.length ≤ 1000) (w : World) (he : Env w) :
    Calls Tryd.prog 24 #[.agg #[.int .i64 k, .int .i64 a, .int .i64 m, .int .i64 t, .int .u64 n, .int .u64 c, .bool true, .string (bs b)]] w fun e w' => e = .returned (.string (bs (Lib.join [wd, decI a, decI t, [105, 110]] [32]))) ∧ Below w.heap.size w w' := by
  have hlen : (Lib.join [wd, decI a, decI t, [105, 110]] [32]).length ≤ 140737488355328 := by
    have h1 := decI_len (n := a) (by omega)
    have h2 := decI_len (n := m) (by omega)
    have h3 := decI_len (n := t) (by omega)
    have h4 := decI_len (n := n) (by omega)
    have h5 := decI_len (n := c) (by omega)
    have h6 := bytesP_len b
    have := join_len [32] 3000 wd ([wd, decI a, decI t, [105, 110]].tail) (fun q hq => by
      simp only [List.tail_cons, List.mem_cons, List.mem_nil_iff, or_false] at hq
      rcases hq with rfl | rfl | rfl | rfl <;> (first | omega | (simp; done)))
    simp only [List.tail_cons, List.length_cons, List.length_nil] at this
    omega
  have hS1 : ∀ (W : World) (b : Nat) (v : Int), Below w.heap.size w W → Lies Any W (some ⟨b, 0, none⟩) [.int .i64 v] → 0 ≤ v ∧ v ≤ 9223372036854775807 → Calls Tryd.prog 42 #[.slice (some ⟨b, 0, none⟩) 1 1] W fun e w' => (∃ A1 c1, e = .returned (.slice A1 1 c1) ∧ StrV (Fresh W.heap.size) w' [decI v] A1 c1) ∧ Below W.heap.size W w' :=
    fun W b v hb hl hv => showI_any [v] (fun n hn => by rw [List.mem_singleton] at hn; subst hn; exact hv) (by simp) _ 1 W (he.keep hb) hl
  have hS2 : ∀ (W : World) (b : Nat), Below w.heap.size w W → Lies Any W (some ⟨b, 0, none⟩) [.int .i64 t, .int .i64 m] → Calls Tryd.prog 42 #[.slice (some ⟨b, 0, none⟩) 2 2] W fun e w' => (∃ A1 c1, e = .returned (.slice A1 2 c1) ∧ StrV (Fresh W.heap.size) w' [decI t, decI m] A1 c1) ∧ Below W.heap.size W w' :=
    fun W b hb hl => showI_any [t, m] (fun n hn => by simp only [List.mem_cons, List.mem_nil_iff, or_false] at hn; rcases hn with rfl | rfl <;> omega) (by simp) _ 2 W (he.keep hb) hl
  have hSU : ∀ (W : World) (b : Nat), Below w.heap.size w W → Lies Any W (some ⟨b, 0, none⟩) [.int .u64 n, .int .u64 c] → Calls Tryd.prog 43 #[.slice (some ⟨b, 0, none⟩) 2 2] W fun e w' => (∃ A1 c1, e = .returned (.slice A1 2 c1) ∧ StrV (Fresh W.heap.size) w' [decI n, decI c] A1 c1) ∧ Below W.heap.size W w' :=
    fun W b hb hl => showU_any [n, c] (fun n hn => by simp only [List.mem_cons, List.mem_nil_iff, or_false] at hn; rcases hn with rfl | rfl <;> omega) (by simp) _ 2 W (he.keep hb) hl
  have hBy := fun W => bytes_any b (by omega) W
  obtain ⟨bb, hbb⟩ : ∃ bb, bytesP b = bb := ⟨_, rfl⟩
  have hJ : ∀ (A : Option Addr) (cc : Nat) (W : World), StrV (Fresh (w.heap.size + 1)) W [wd, decI a, decI t, [105, 110]] A cc → Calls Tryd.prog 33 #[.slice A [wd, decI a, decI t, [105, 110]].length cc, .string ⟨#[32]⟩] W fun e w' => e = .returned (.string (bs (Lib.join [wd, decI a, decI t, [105, 110]] [32]))) ∧ Below W.heap.size W w' :=
    fun A cc W hv => join_any [wd, decI a, decI t, [105, 110]] (by simp) (by simp) [32] hlen A cc W hv.any
  obtain ⟨FL, hFL⟩ : ∃ FL, Lib.join [wd, decI a, decI t, [105, 110]] [32] = FL := ⟨_, rfl⟩
  rw [hFL] at hJ ⊢
  have hWD := words_any
  have hIX := fun W => run_index_str (P := Tryd.prog) Tryd.underlying63 Tryd.underlying9 (by kernel_rfl) wordsC.toArray km (by have := (List.getElem?_eq_some_iff.1 hwd).1; simpa [wordsC, wordsP] using this) (.string (bs wd)) (by simpa using hwd) W
  obtain ⟨AV, hAV⟩ : ∃ AV, Value.agg wordsC.toArray = AV := ⟨_, rfl⟩
  simp only [hAV] at hWD hIX
  have hX0 := heap_alloc_new w (.cells #[.int .i64 k, .int .i64 a, .int .i64 m, .int .i64 t, .int .u64 n, .int .u64 c, .bool true, .string (bs b)] 46)
  have hB0 : Below w.heap.size w (w.alloc (.cells #[.int .i64 k, .int .i64 a, .int .i64 m, .int .i64 t, .int .u64 n, .int .u64 c, .bool true, .string (bs b)] 46)) := (Below.refl _ _).alloc (Nat.le_refl _) _
  have hle0 : w.heap.size + 1 ≤ (w.alloc (.cells #[.int .i64 k, .int .i64 a, .int .i64 m, .int .i64 t, .int .u64 n, .int .u64 c, .bool true, .string (bs b)] 46)).heap.size := by simp
  obtain ⟨X, hXe⟩ : ∃ X, w.heap.size = X := ⟨_, rfl⟩
  rw [hXe] at hX0 hJ hle0
  have hXw : w.heap.size ≤ X + 1 := by omega
  have HS1 := Lib.hid hS1
  have HS2 := Lib.hid hS2
  have HSU := Lib.hid hSU
  have HBY := Lib.hid hBy
  have HJ := Lib.hid hJ
  have HWD := Lib.hid hWD
  have HIX := Lib.hid hIX
  have HX0 := Lib.hid hX0
  have HB0 := Lib.hid hB0
  have HL0 := Lib.hid hle0
  have HBB0 := Lib.hid hbb
  clear hS1 hS2 hSU hJ hX0 hB0 hle0 hlen hFL he hWD hIX hAV hwd hBy hbb hwl
  go_enter Tryd.func24, Tryd.ntmps24
  go_wp2_with fail
  try rw [hXe]
  have hX : (w.alloc (.cells #[.int .i64 k, .int .i64 a, .int .i64 m, .int .i64 t, .int .u64 n, .int .u64 c, .bool true, .string (bs b)] 46)).drew.heap[X]? = some (.cells #[.int .i64 k, .int .i64 a, .int .i64 m, .int .i64 t, .int .u64 n, .int .u64 c, .bool true, .string (bs b)] 46 (0, 0)) := HX0.out
  have hB : Below w.heap.size w (w.alloc (.cells #[.int .i64 k, .int .i64 a, .int .i64 m, .int .i64 t, .int .u64 n, .int .u64 c, .bool true, .string (bs b)] 46)).drew := HB0.out.drew
  have hle : X + 1 ≤ (w.alloc (.cells #[.int .i64 k, .int .i64 a, .int .i64 m, .int .i64 t, .int .u64 n, .int .u64 c, .bool true, .string (bs b)] 46)).drew.heap.size := HL0.out
  clear HX0 HB0 HL0
  refine wp_region_R [(99, fun w' => w'.heap[X]? = some (.cells #[.int .i64 k, .int .i64 a, .int .i64 m, .int .i64 t, .int .u64 n, .int .u64 c, .bool true, .string (bs b)] 46 (0, 0)))] (by kernel_rfl) ?_
  generalize (w.alloc (.cells #[.int .i64 k, .int .i64 a, .int .i64 m, .int .i64 t, .int .u64 n, .int .u64 c, .bool true, .string (bs b)] 46)).drew = W at hX hB hle ⊢
  refine R_p (i := 1) (v := .pointer (some ⟨X, 0, none⟩)) (Meets.here hX Meets.nil) ?_
  refine R_p (i := 6) (v := .pointer (some ⟨X, 1, none⟩)) (Meets.here hX Meets.nil) ?_
  refine R_l (i := 2) (v := .int .i64 k) 99 _ List.mem_cons_self rfl (yieldsIf_load_cell rfl rfl rfl (fun w' hS => rc hS 0 rfl) Tryd.underlying3 rfl) (Meets.here hX Meets.nil) ?_
  refine R_l (i := 7) (v := .int .i64 a) 99 _ List.mem_cons_self rfl (yieldsIf_load_cell rfl rfl rfl (fun w' hS => rc hS 1 rfl) Tryd.underlying3 rfl) (Meets.here hX Meets.nil) ?_
  refine R_p (i := 3) (v := .int .i64 (km : Int)) (Meets.here hX Meets.nil) ?_
  refine R_ready (rs := [0, 8]) (by kernel_rfl) (by simp) ?_
  refine AllReadyR.cons rfl (fun K hK => ?o0) (AllReadyR.cons rfl (fun K hK => ?o8) AllReadyR.nil)
  case' o0 =>
    go_simp
    refine (HWD.out _).mono ?_
    rintro e w0 ⟨rfl, hb0⟩
    replace hX := (hb0.block _ (Array.getElem?_eq_some_iff.1 hX).1).trans hX
    replace hB := below_call hB hB.size hb0
    replace hle := Nat.le_trans hle hb0.size
    clear hb0
    refine hK.out _ _ (Meets.here hX Meets.nil) (fun hMeets => ?_)
    clear hK K hMeets
    refine lay_R ?_
    refine R_p (i := 4) (v := .string (bs wd)) (Meets.here hX Meets.nil) ?_ (hy := by intro w'; have h1 := HIX.out w'; go_simp)
    refine R_ready (rs := [5, 8]) (by kernel_rfl) (by simp) ?_
    refine AllReadyR.cons rfl (fun K hK => ?o0_5) (AllReadyR.cons rfl (fun K hK => ?o0_8) AllReadyR.nil)
    case' o0_5 =>
      have hbb : Below w0.heap.size w0 (w0.alloc (.cells #[.string (bs wd)] 9)) := (Below.refl _ _).alloc (Nat.le_refl _) _
      obtain ⟨b5, hb5⟩ : ∃ b5, w0.heap.size = b5 := ⟨_, rfl⟩
      have hR5 := heap_alloc_new w0 (.cells #[.string (bs wd)] 9)
      rw [hb5] at hR5
      have hown := World.ownsRow_lit (base := X + 1) (e := 9) (size := 1) w0 #[.string (bs wd)] 1 hle (by simp [maxLen]) rfl
      rw [hb5] at hown
      replace hX := (hbb.block _ (Array.getElem?_eq_some_iff.1 hX).1).trans hX
      replace hB := below_call hB hB.size hbb
      replace hle := Nat.le_trans hle hbb.size
      go_simp
      generalize w0.alloc (.cells #[.string (bs wd)] 9) = w5 at *
      try rw [hb5]
      clear hbb hb5
      clear hR5
      refine hK.out _ _ (Meets.here hX Meets.nil) (fun hMeets => ?_)
      clear hK K hMeets
      refine lay_R ?_
      refine R_now 8 fun K hK => ?_
      have hbb : Below w5.heap.size w5 (w5.alloc (.cells #[.int .i64 a] 3)) := (Below.refl _ _).alloc (Nat.le_refl _) _
      obtain ⟨b8, hb8⟩ : ∃ b8, w5.heap.size = b8 := ⟨_, rfl⟩
      have hR8 := heap_alloc_new w5 (.cells #[.int .i64 a] 3)
      rw [hb8] at hR8
      have hNb8 : ∀ k, (Value.slice (some ⟨b5, 0, none⟩) 1 1).ownBlock = some k → b8 ≠ k := fun k e => by have := (hown.lt k e).2; omega
      replace hX := (hbb.block _ (Array.getElem?_eq_some_iff.1 hX).1).trans hX
      replace hB := below_call hB hB.size hbb
      replace hle := Nat.le_trans hle hbb.size
      replace hown := own_keep hown hbb
      go_simp
      generalize w5.alloc (.cells #[.int .i64 a] 3) = w8 at *
      try rw [hb8]
      clear hbb hb8
      refine hK.out _ _ (Meets.here hX Meets.nil) (fun hMeets => ?_)
      clear hK K hMeets
      refine lay_R ?_
      refine R_now 9 fun K hK => ?_
      go_simp
      refine (HS1.out _ b8 a hB (lies_one hR8 (fun j u hj => by simpa using hj)) ha).mono ?_
      rintro e w9 ⟨⟨A9, c9, rfl, hS9⟩, hb9⟩
      replace hX := (hb9.block _ (Array.getElem?_eq_some_iff.1 hX).1).trans hX
      replace hB := below_call hB hB.size hb9
      replace hle := Nat.le_trans hle hb9.size
      replace hR8 := (hb9.block _ (Array.getElem?_eq_some_iff.1 hR8).1).trans hR8
      replace hown := own_keep hown hb9
      clear hR8
      replace hS9 := StrV.any hS9
      clear hb9
      refine hK.out _ _ (Meets.here hX Meets.nil) (fun hMeets => ?_)
      clear hK K hMeets
      refine lay_R ?_
      refine R_now 10 fun K hK => ?_
      have hap := hown
      refine stl_append elStr rfl rfl (X + 1) hown rfl (m := 1) (strC [decI a]) rfl rfl hS9.lies ?_ ?_ ?_ hle ?_
      . exact (one_strC _)
      . simp only [maxLen]; omega
      . omega
      intro v1 w10 hown1 hg1 hat1
      obtain ⟨A10, c10, rfl⟩ := own_form hown1
      have hbp := below_app (Below.refl (X + 1) _) hown hg1 hle (Nat.le_refl _)
      replace hX := (hbp.block X (Nat.lt_succ_self X)).trans hX
      replace hB := hB.trans (hbp.mono hXw)
      replace hle := Nat.le_trans hle hbp.size
      clear hown hap
      have hown := hown1
      clear hown1 hg1 hat1 hbp
      clear hS9
      refine hK.out _ _ (Meets.here hX Meets.nil) (fun hMeets => ?_)
      clear hK K hMeets
      refine lay_R ?_
      refine R_p (i := 11) (v := .slice A10 (1 + 1) c10) (Meets.here hX Meets.nil) ?_
      refine R_done (by kernel_rfl) ?_ _
    case' o0_8 =>
      have hbb : Below w0.heap.size w0 (w0.alloc (.cells #[.int .i64 a] 3)) := (Below.refl _ _).alloc (Nat.le_refl _) _
      obtain ⟨b8, hb8⟩ : ∃ b8, w0.heap.size = b8 := ⟨_, rfl⟩
      have hR8 := heap_alloc_new w0 (.cells #[.int .i64 a] 3)
      rw [hb8] at hR8
      replace hX := (hbb.block _ (Array.getElem?_eq_some_iff.1 hX).1).trans hX
      replace hB := below_call hB hB.size hbb
      replace hle := Nat.le_trans hle hbb.size
      go_simp
      generalize w0.alloc (.cells #[.int .i64 a] 3) = w8 at *
      try rw [hb8]
      clear hbb hb8
      refine hK.out _ _ (Meets.here hX Meets.nil) (fun hMeets => ?_)
      clear hK K hMeets
      refine lay_R ?_
      refine R_ready (rs := [5, 9]) (by kernel_rfl) (by simp) ?_
      refine AllReadyR.cons rfl (fun K hK => ?o0_8_5) (AllReadyR.cons rfl (fun K hK => ?o0_8_9) AllReadyR.nil)
      case' o0_8_5 =>
        have hbb : Below w8.heap.size w8 (w8.alloc (.cells #[.string (bs wd)] 9)) := (Below.refl _ _).alloc (Nat.le_refl _) _
        obtain ⟨b5, hb5⟩ : ∃ b5, w8.heap.size = b5 := ⟨_, rfl⟩
        have hR5 := heap_alloc_new w8 (.cells #[.string (bs wd)] 9)
        rw [hb5] at hR5
        have hown := World.ownsRow_lit (base := X + 1) (e := 9) (size := 1) w8 #[.string (bs wd)] 1 hle (by simp [maxLen]) rfl
        rw [hb5] at hown
        have hNb8 : ∀ k, (Value.slice (some ⟨b5, 0, none⟩) 1 1).ownBlock = some k → b8 ≠ k := fun k e => by injection e with e; have e : b5 = k := e; have := (Array.getElem?_eq_some_iff.1 hR8).1; omega
        replace hX := (hbb.block _ (Array.getElem?_eq_some_iff.1 hX).1).trans hX
        replace hB := below_call hB hB.size hbb
        replace hle := Nat.le_trans hle hbb.size
        replace hR8 := (hbb.block _ (Array.getElem?_eq_some_iff.1 hR8).1).trans hR8
        go_simp
        generalize w8.alloc (.cells #[.string (bs wd)] 9) = w5 at *
        try rw [hb5]
        clear hbb hb5
        clear hR5
        refine hK.out _ _ (Meets.here hX Meets.nil) (fun hMeets => ?_)
        clear hK K hMeets
        refine lay_R ?_
        refine R_now 9 fun K hK => ?_
        go_simp
        refine (HS1.out _ b8 a hB (lies_one hR8 (fun j u hj => by simpa using hj)) ha).mono ?_
        rintro e w9 ⟨⟨A9, c9, rfl, hS9⟩, hb9⟩
        replace hX := (hb9.block _ (Array.getElem?_eq_some_iff.1 hX).1).trans hX
        replace hB := below_call hB hB.size hb9
        replace hle := Nat.le_trans hle hb9.size
        replace hR8 := (hb9.block _ (Array.getElem?_eq_some_iff.1 hR8).1).trans hR8
        replace hown := own_keep hown hb9
        clear hR8
        replace hS9 := StrV.any hS9
        clear hb9
        refine hK.out _ _ (Meets.here hX Meets.nil) (fun hMeets => ?_)
        clear hK K hMeets
        refine lay_R ?_
        refine R_now 10 fun K hK => ?_
        have hap := hown
        refine stl_append elStr rfl rfl (X + 1) hown rfl (m := 1) (strC [decI a]) rfl rfl hS9.lies ?_ ?_ ?_ hle ?_
        . exact (one_strC _)
        . simp only [maxLen]; omega
        . omega
        intro v1 w10 hown1 hg1 hat1
        obtain ⟨A10, c10, rfl⟩ := own_form hown1
        have hbp := below_app (Below.refl (X + 1) _) hown hg1 hle (Nat.le_refl _)
        replace hX := (hbp.block X (Nat.lt_succ_self X)).trans hX
        replace hB := hB.trans (hbp.mono hXw)
        replace hle := Nat.le_trans hle hbp.size
        clear hown hap
        have hown := hown1
        clear hown1 hg1 hat1 hbp
        clear hS9
        refine hK.out _ _ (Meets.here hX Meets.nil) (fun hMeets => ?_)
        clear hK K hMeets
        refine lay_R ?_
        refine R_p (i := 11) (v := .slice A10 (1 + 1) c10) (Meets.here hX Meets.nil) ?_
        refine R_done (by kernel_rfl) ?_ _
      case' o0_8_9 =>
        go_simp
        refine (HS1.out _ b8 a hB (lies_one hR8 (fun j u hj => by simpa using hj)) ha).mono ?_
        rintro e w9 ⟨⟨A9, c9, rfl, hS9⟩, hb9⟩
        replace hX := (hb9.block _ (Array.getElem?_eq_some_iff.1 hX).1).trans hX
        replace hB := below_call hB hB.size hb9
        replace hle := Nat.le_trans hle hb9.size
        replace hR8 := (hb9.block _ (Array.getElem?_eq_some_iff.1 hR8).1).trans hR8
        clear hR8
        replace hS9 := StrV.any hS9
        clear hb9
        refine hK.out _ _ (Meets.here hX Meets.nil) (fun hMeets => ?_)
        clear hK K hMeets
        refine lay_R ?_
        refine R_now 5 fun K hK => ?_
        have hbb : Below w9.heap.size w9 (w9.alloc (.cells #[.string (bs wd)] 9)) := (Below.refl _ _).alloc (Nat.le_refl _) _
        obtain ⟨b5, hb5⟩ : ∃ b5, w9.heap.size = b5 := ⟨_, rfl⟩
        have hR5 := heap_alloc_new w9 (.cells #[.string (bs wd)] 9)
        rw [hb5] at hR5
        have hown := World.ownsRow_lit (base := X + 1) (e := 9) (size := 1) w9 #[.string (bs wd)] 1 hle (by simp [maxLen]) rfl
        rw [hb5] at hown
        replace hX := (hbb.block _ (Array.getElem?_eq_some_iff.1 hX).1).trans hX
        replace hB := below_call hB hB.size hbb
        replace hle := Nat.le_trans hle hbb.size
        replace hS9 := StrV.keep hS9 hbb
        go_simp
        generalize w9.alloc (.cells #[.string (bs wd)] 9) = w5 at *
        try rw [hb5]
        clear hbb hb5
        clear hR5
        refine hK.out _ _ (Meets.here hX Meets.nil) (fun hMeets => ?_)
        clear hK K hMeets
        refine lay_R ?_
        refine R_now 10 fun K hK => ?_
        have hap := hown
        refine stl_append elStr rfl rfl (X + 1) hown rfl (m := 1) (strC [decI a]) rfl rfl hS9.lies ?_ ?_ ?_ hle ?_
        . exact (one_strC _)
        . simp only [maxLen]; omega
        . omega
        intro v1 w10 hown1 hg1 hat1
        obtain ⟨A10, c10, rfl⟩ := own_form hown1
        have hbp := below_app (Below.refl (X + 1) _) hown hg1 hle (Nat.le_refl _)
        replace hX := (hbp.block X (Nat.lt_succ_self X)).trans hX
        replace hB := hB.trans (hbp.mono hXw)
        replace hle := Nat.le_trans hle hbp.size
        clear hown hap
        have hown := hown1
        clear hown1 hg1 hat1 hbp
        clear hS9
        refine hK.out _ _ (Meets.here hX Meets.nil) (fun hMeets => ?_)
        clear hK K hMeets
        refine lay_R ?_
        refine R_p (i := 11) (v := .slice A10 (1 + 1) c10) (Meets.here hX Meets.nil) ?_
        refine R_done (by kernel_rfl) ?_ _
  case' o8 =>
    have hbb : Below W.heap.size W (W.alloc (.cells #[.int .i64 a] 3)) := (Below.refl _ _).alloc (Nat.le_refl _) _
    obtain ⟨b8, hb8⟩ : ∃ b8, W.heap.size = b8 := ⟨_, rfl⟩
    have hR8 := heap_alloc_new W (.cells #[.int .i64 a] 3)
    rw [hb8] at hR8
    replace hX := (hbb.block _ (Array.getElem?_eq_some_iff.1 hX).1).trans hX
    replace hB := below_call hB hB.size hbb
    replace hle := Nat.le_trans hle hbb.size
    go_simp
    generalize W.alloc (.cells #[.int .i64 a] 3) = w8 at *
    try rw [hb8]
    clear hbb hb8
    refine hK.out _ _ (Meets.here hX Meets.nil) (fun hMeets => ?_)
    clear hK K hMeets
    refine lay_R ?_
    refine R_now 0 fun K hK => ?_
    go_simp
    refine (HWD.out _).mono ?_
    rintro e w0 ⟨rfl, hb0⟩
    replace hX := (hb0.block _ (Array.getElem?_eq_some_iff.1 hX).1).trans hX
    replace hB := below_call hB hB.size hb0
    replace hle := Nat.le_trans hle hb0.size
    replace hR8 := (hb0.block _ (Array.getElem?_eq_some_iff.1 hR8).1).trans hR8
    clear hb0
    refine hK.out _ _ (Meets.here hX Meets.nil) (fun hMeets => ?_)
    clear hK K hMeets
    refine lay_R ?_
    refine R_p (i := 4) (v := .string (bs wd)) (Meets.here hX Meets.nil) ?_ (hy := by intro w'; have h1 := HIX.out w'; go_simp)
    refine R_ready (rs := [5, 9]) (by kernel_rfl) (by simp) ?_
    refine AllReadyR.cons rfl (fun K hK => ?o8_5) (AllReadyR.cons rfl (fun K hK => ?o8_9) AllReadyR.nil)
    case' o8_5 =>
      have hbb : Below w0.heap.size w0 (w0.alloc (.cells #[.string (bs wd)] 9)) := (Below.refl _ _).alloc (Nat.le_refl _) _
      obtain ⟨b5, hb5⟩ : ∃ b5, w0.heap.size = b5 := ⟨_, rfl⟩
      have hR5 := heap_alloc_new w0 (.cells #[.string (bs wd)] 9)
      rw [hb5] at hR5
      have hown := World.ownsRow_lit (base := X + 1) (e := 9) (size := 1) w0 #[.string (bs wd)] 1 hle (by simp [maxLen]) rfl
      rw [hb5] at hown
      have hNb8 : ∀ k, (Value.slice (some ⟨b5, 0, none⟩) 1 1).ownBlock = some k → b8 ≠ k := fun k e => by injection e with e; have e : b5 = k := e; have := (Array.getElem?_eq_some_iff.1 hR8).1; omega
      replace hX := (hbb.block _ (Array.getElem?_eq_some_iff.1 hX).1).trans hX
      replace hB := below_call hB hB.size hbb
      replace hle := Nat.le_trans hle hbb.size
      replace hR8 := (hbb.block _ (Array.getElem?_eq_some_iff.1 hR8).1).trans hR8
      go_simp
      generalize w0.alloc (.cells #[.string (bs wd)] 9) = w5 at *
      try rw [hb5]
      clear hbb hb5
      clear hR5
      refine hK.out _ _ (Meets.here hX Meets.nil) (fun hMeets => ?_)
      clear hK K hMeets
      refine lay_R ?_
      refine R_now 9 fun K hK => ?_
      go_simp
      refine (HS1.out _ b8 a hB (lies_one hR8 (fun j u hj => by simpa using hj)) ha).mono ?_
      rintro e w9 ⟨⟨A9, c9, rfl, hS9⟩, hb9⟩
      replace hX := (hb9.block _ (Array.getElem?_eq_some_iff.1 hX).1).trans hX
      replace hB := below_call hB hB.size hb9
      replace hle := Nat.le_trans hle hb9.size
      replace hR8 := (hb9.block _ (Array.getElem?_eq_some_iff.1 hR8).1).trans hR8
      replace hown := own_keep hown hb9
      clear hR8
      replace hS9 := StrV.any hS9
      clear hb9
      refine hK.out _ _ (Meets.here hX Meets.nil) (fun hMeets => ?_)
      clear hK K hMeets
      refine lay_R ?_
      refine R_now 10 fun K hK => ?_
      have hap := hown
      refine stl_append elStr rfl rfl (X + 1) hown rfl (m := 1) (strC [decI a]) rfl rfl hS9.lies ?_ ?_ ?_ hle ?_
      . exact (one_strC _)
      . simp only [maxLen]; omega
      . omega
      intro v1 w10 hown1 hg1 hat1
      obtain ⟨A10, c10, rfl⟩ := own_form hown1
      have hbp := below_app (Below.refl (X + 1) _) hown hg1 hle (Nat.le_refl _)
      replace hX := (hbp.block X (Nat.lt_succ_self X)).trans hX
      replace hB := hB.trans (hbp.mono hXw)
      replace hle := Nat.le_trans hle hbp.size
      clear hown hap
      have hown := hown1
      clear hown1 hg1 hat1 hbp
      clear hS9
      refine hK.out _ _ (Meets.here hX Meets.nil) (fun hMeets => ?_)
      clear hK K hMeets
      refine lay_R ?_
      refine R_p (i := 11) (v := .slice A10 (1 + 1) c10) (Meets.here hX Meets.nil) ?_
      refine R_done (by kernel_rfl) ?_ _
    case' o8_9 =>
      go_simp
      refine (HS1.out _ b8 a hB (lies_one hR8 (fun j u hj => by simpa using hj)) ha).mono ?_
      rintro e w9 ⟨⟨A9, c9, rfl, hS9⟩, hb9⟩
      replace hX := (hb9.block _ (Array.getElem?_eq_some_iff.1 hX).1).trans hX
      replace hB := below_call hB hB.size hb9
      replace hle := Nat.le_trans hle hb9.size
      replace hR8 := (hb9.block _ (Array.getElem?_eq_some_iff.1 hR8).1).trans hR8
      clear hR8
      replace hS9 := StrV.any hS9
      clear hb9
      refine hK.out _ _ (Meets.here hX Meets.nil) (fun hMeets => ?_)
      clear hK K hMeets
      refine lay_R ?_
      refine R_now 5 fun K hK => ?_
      have hbb : Below w9.heap.size w9 (w9.alloc (.cells #[.string (bs wd)] 9)) := (Below.refl _ _).alloc (Nat.le_refl _) _
      obtain ⟨b5, hb5⟩ : ∃ b5, w9.heap.size = b5 := ⟨_, rfl⟩
      have hR5 := heap_alloc_new w9 (.cells #[.string (bs wd)] 9)
      rw [hb5] at hR5
      have hown := World.ownsRow_lit (base := X + 1) (e := 9) (size := 1) w9 #[.string (bs wd)] 1 hle (by simp [maxLen]) rfl
      rw [hb5] at hown
      replace hX := (hbb.block _ (Array.getElem?_eq_some_iff.1 hX).1).trans hX
      replace hB := below_call hB hB.size hbb
      replace hle := Nat.le_trans hle hbb.size
      replace hS9 := StrV.keep hS9 hbb
      go_simp
      generalize w9.alloc (.cells #[.string (bs wd)] 9) = w5 at *
      try rw [hb5]
      clear hbb hb5
      clear hR5
      refine hK.out _ _ (Meets.here hX Meets.nil) (fun hMeets => ?_)
      clear hK K hMeets
      refine lay_R ?_
      refine R_now 10 fun K hK => ?_
      have hap := hown
      refine stl_append elStr rfl rfl (X + 1) hown rfl (m := 1) (strC [decI a]) rfl rfl hS9.lies ?_ ?_ ?_ hle ?_
      . exact (one_strC _)
      . simp only [maxLen]; omega
      . omega
      intro v1 w10 hown1 hg1 hat1
      obtain ⟨A10, c10, rfl⟩ := own_form hown1
      have hbp := below_app (Below.refl (X + 1) _) hown hg1 hle (Nat.le_refl _)
      replace hX := (hbp.block X (Nat.lt_succ_self X)).trans hX
      replace hB := hB.trans (hbp.mono hXw)
      replace hle := Nat.le_trans hle hbp.size
      clear hown hap
      have hown := hown1
      clear hown1 hg1 hat1 hbp
      clear hS9
      refine hK.out _ _ (Meets.here hX Meets.nil) (fun hMeets => ?_)
      clear hK K hMeets
      refine lay_R ?_
      refine R_p (i := 11) (v := .slice A10 (1 + 1) c10) (Meets.here hX Meets.nil) ?_
      refine R_done (by kernel_rfl) ?_ _
  all_goals (
    have c0 : _ = some (Value.int .i64 k) := rc hX 0 rfl
    have c2 : _ = some (Value.int .i64 m) := rc hX 2 rfl
    have c3 : _ = some (Value.int .i64 t) := rc hX 3 rfl
    have c6 : _ = some (Value.bool true) := rc hX 6 rfl
    have c7 : _ = some (Value.string (bs b)) := rc hX 7 rfl
    go_wp2_with fail)
  all_goals (
    refine (HS1.out _ w10.heap.size t (hB.alloc hB.size _) (lies_new w10 #[.int .i64 t] _) (by omega)).mono ?_
    rintro e w21 ⟨⟨A21, c21, rfl, hS21⟩, hb21⟩
    have hb0 : Below w10.heap.size w10 (w10.alloc (.cells #[.int .i64 t] 3)) := (Below.refl _ _).alloc (Nat.le_refl _) _
    replace hX := (hb21.block X (by have := (Array.getElem?_eq_some_iff.1 hX).1; simp; omega)).trans ((hb0.block X (Array.getElem?_eq_some_iff.1 hX).1).trans hX)
    replace hB := below_call (below_call hB hB.size hb0) (by have := hB.size; simp; omega) hb21
    replace hown := own_keep (own_keep hown hb0) hb21
    replace hle := Nat.le_trans hle (Nat.le_trans hb0.size hb21.size)
    replace hS21 := (StrV.any hS21).lies
    clear hb0 hb21 c0 c2 c3 c6 c7
    have c6 : _ = some (Value.bool true) := rc hX 6 rfl
    have tok : True := trivial
    go_wp2_with (first | (at_builtin; have _t := tok; refine wpl_append elStr rfl rfl (X + 1) hown rfl (m := 1) (strC [decI t]) rfl rfl hS21 (one_strC _) (by simp only [maxLen]; omega) (by omega) hle ?_; intro v1 w22 hown1 hg1 hat1; obtain ⟨A22, c22, rfl⟩ := own_form hown1; have hB2 := hB.trans ((below_app (Below.refl (X + 1) _) hown hg1 hle (Nat.le_refl _)).mono hXw); have hle2 := Nat.le_trans hle (below_app (Below.refl (X + 1) _) hown hg1 hle (Nat.le_refl _)).size; have hown2 := hown1; clear hown1 hg1 hat1 hown hS21 tok _t) | (at_builtin; refine wpl_append elStr rfl rfl (X + 1) (hown2.alloc _) rfl (m := 1) [.string ⟨#[105, 110]⟩] rfl rfl (lies_new' _ _ rfl #[.string ⟨#[105, 110]⟩] _) (by intro u hu; rw [List.mem_singleton] at hu; subst hu; rfl) (by simp only [maxLen]; omega) (by omega) (by simp; omega) ?_; intro v1 w23 hown1 hg1 hat1; obtain ⟨A23, c23, rfl⟩ := own_form hown1))
    have hba : Below (X + 1) w22 (w22.alloc (.cells #[.string ⟨#[105, 110]⟩] 9)) := (Below.refl _ _).alloc hle2 _
    have hB := (hB2.trans (hba.mono hXw)).trans ((below_app (Below.refl (X + 1) _) (hown2.alloc _) hg1 (by simp; omega) (Nat.le_refl _)).mono hXw)
    have hown := hown1)
  all_goals (
    refine (HJ.out _ _ _ (own_strV' (ps := [wd, decI a, decI t, [105, 110]]) hown)).mono ?_
    rintro e w30 ⟨rfl, hb30⟩
    have HBB := below_call hB hB.size hb30
    go_wp2_with fail
    go_ret
    exact ⟨rfl, by first | exact HBB | (rw [← hXe]; exact HBB)⟩)

set_option maxRecDepth 100000 in
set_option maxHeartbeats 8000000 in
theorem line_8f (k a m t n c : Int) (ad : Bool) (b : Bytes) (h5 : (k == 5) = false) (h7 : (k == 7) = false) (h8 : (k == 8) = true) (km : Nat) (hkm : IntKind.i64.wrap (k - 1) = (km : Int)) (wd : Bytes) (hwd : wordsC[km]? = some (.string (bs wd))) (hwl : wd.length ≤ 20) (ha : 0 ≤ a ∧ a ≤ 9223372036854775807) (hm : 0 ≤ m ∧ m ≤ 9223372036854775807) (ht : 0 ≤ t ∧ t ≤ 9223372036854775807) (hn : 0 ≤ n ∧ n ≤ 18446744073709551615) (hc : 0 ≤ c ∧ c ≤ 18446744073709551615) (hbl : b.length ≤ 1000) (w : World) (he : Env w) :
    Calls Tryd.prog 24 #[.agg #[.int .i64 k, .int .i64 a, .int .i64 m, .int .i64 t, .int .u64 n, .int .u64 c, .bool false, .string (bs b)]] w fun e w' => e = .returned (.string (bs (Lib.join [wd, decI a, decI t, [111, 117, 116]] [32]))) ∧ Below w.heap.size w w' := by
  have hlen : (Lib.join [wd, decI a, decI t, [111, 117, 116]] [32]).length ≤ 140737488355328 := by
    have h1 := decI_len (n := a) (by omega)
    have h2 := decI_len (n := m) (by omega)
    have h3 := decI_len (n := t) (by omega)
    have h4 := decI_len (n := n) (by omega)
    have h5 := decI_len (n := c) (by omega)
    have h6 := bytesP_len b
    have := join_len [32] 3000 wd ([wd, decI a, decI t, [111, 117, 116]].tail) (fun q hq => by
      simp only [List.tail_cons, List.mem_cons, List.mem_nil_iff, or_false] at hq
      rcases hq with rfl | rfl | rfl | rfl <;> (first | omega | (simp; done)))
    simp only [List.tail_cons, List.length_cons, List.length_nil] at this
    omega
  have hS1 : ∀ (W : World) (b : Nat) (v : Int), Below w.heap.size w W → Lies Any W (some ⟨b, 0, none⟩) [.int .i64 v] → 0 ≤ v ∧ v ≤ 9223372036854775807 → Calls Tryd.prog 42 #[.slice (some ⟨b, 0, none⟩) 1 1] W fun e w' => (∃ A1 c1, e = .returned (.slice A1 1 c1) ∧ StrV (Fresh W.heap.size) w' [decI v] A1 c1) ∧ Below W.heap.size W w' :=
    fun W b v hb hl hv => showI_any [v] (fun n hn => by rw [List.mem_singleton] at hn; subst hn; exact hv) (by simp) _ 1 W (he.keep hb) hl
  have hS2 : ∀ (W : World) (b : Nat), Below w.heap.size w W → Lies Any W (some ⟨b, 0, none⟩) [.int .i64 t, .int .i64 m] → Calls Tryd.prog 42 #[.slice (some ⟨b, 0, none⟩) 2 2] W fun e w' => (∃ A1 c1, e = .returned (.slice A1 2 c1) ∧ StrV (Fresh W.heap.size) w' [decI t, decI m] A1 c1) ∧ Below W.heap.size W w' :=
    fun W b hb hl => showI_any [t, m] (fun n hn => by simp only [List.mem_cons, List.mem_nil_iff, or_false] at hn; rcases hn with rfl | rfl <;> omega) (by simp) _ 2 W (he.keep hb) hl
  have hSU : ∀ (W : World) (b : Nat), Below w.heap.size w W → Lies Any W (some ⟨b, 0, none⟩) [.int .u64 n, .int .u64 c] → Calls Tryd.prog 43 #[.slice (some ⟨b, 0, none⟩) 2 2] W fun e w' => (∃ A1 c1, e = .returned (.slice A1 2 c1) ∧ StrV (Fresh W.heap.size) w' [decI n, decI c] A1 c1) ∧ Below W.heap.size W w' :=
    fun W b hb hl => showU_any [n, c] (fun n hn => by simp only [List.mem_cons, List.mem_nil_iff, or_false] at hn; rcases hn with rfl | rfl <;> omega) (by simp) _ 2 W (he.keep hb) hl
  have hBy := fun W => bytes_any b (by omega) W
  obtain ⟨bb, hbb⟩ : ∃ bb, bytesP b = bb := ⟨_, rfl⟩
  have hJ : ∀ (A : Option Addr) (cc : Nat) (W : World), StrV (Fresh (w.heap.size + 1)) W [wd, decI a, decI t, [111, 117, 116]] A cc → Calls Tryd.prog 33 #[.slice A [wd, decI a, decI t, [111, 117, 116]].length cc, .string ⟨#[32]⟩] W fun e w' => e = .returned (.string (bs (Lib.join [wd, decI a, decI t, [111, 117, 116]] [32]))) ∧ Below W.heap.size W w' :=
    fun A cc W hv => join_any [wd, decI a, decI t, [111, 117, 116]] (by simp) (by simp) [32] hlen A cc W hv.any
  obtain ⟨FL, hFL⟩ : ∃ FL, Lib.join [wd, decI a, decI t, [111, 117, 116]] [32] = FL := ⟨_, rfl⟩
  rw [hFL] at hJ ⊢
  have hWD := words_any
  have hIX := fun W => run_index_str (P := Tryd.prog) Tryd.underlying63 Tryd.underlying9 (by kernel_rfl) wordsC.toArray km (by have := (List.getElem?_eq_some_iff.1 hwd).1; simpa [wordsC, wordsP] using this) (.string (bs wd)) (by simpa using hwd) W
  obtain ⟨AV, hAV⟩ : ∃ AV, Value.agg wordsC.toArray = AV := ⟨_, rfl⟩
  simp only [hAV] at hWD hIX
  have hX0 := heap_alloc_new w (.cells #[.int .i64 k, .int .i64 a, .int .i64 m, .int .i64 t, .int .u64 n, .int .u64 c, .bool false, .string (bs b)] 46)
  have hB0 : Below w.heap.size w (w.alloc (.cells #[.int .i64 k, .int .i64 a, .int .i64 m, .int .i64 t, .int .u64 n, .int .u64 c, .bool false, .string (bs b)] 46)) := (Below.refl _ _).alloc (Nat.le_refl _) _
  have hle0 : w.heap.size + 1 ≤ (w.alloc (.cells #[.int .i64 k, .int .i64 a, .int .i64 m, .int .i64 t, .int .u64 n, .int .u64 c, .bool false, .string (bs b)] 46)).heap.size := by simp
  obtain ⟨X, hXe⟩ : ∃ X, w.heap.size = X := ⟨_, rfl⟩
  rw [hXe] at hX0 hJ hle0
  have hXw : w.heap.size ≤ X + 1 := by omega
  have HS1 := Lib.hid hS1
  have HS2 := Lib.hid hS2
  have HSU := Lib.hid hSU
  have HBY := Lib.hid hBy
  have HJ := Lib.hid hJ
  have HWD := Lib.hid hWD
  have HIX := Lib.hid hIX
  have HX0 := Lib.hid hX0
  have HB0 := Lib.hid hB0
  have HL0 := Lib.hid hle0
  have HBB0 := Lib.hid hbb
  clear hS1 hS2 hSU hJ hX0 hB0 hle0 hlen hFL he hWD hIX hAV hwd hBy hbb hwl
  go_enter Tryd.func24, Tryd.ntmps24
  go_wp2_with fail
  try rw [hXe]
  have hX : (w.alloc (.cells #[.int .i64 k, .int .i64 a, .int .i64 m, .int .i64 t, .int .u64 n, .int .u64 c, .bool false, .string (bs b)] 46)).drew.heap[X]? = some (.cells #[.int .i64 k, .int .i64 a, .int .i64 m, .int .i64 t, .int .u64 n, .int .u64 c, .bool false, .string (bs b)] 46 (0, 0)) := HX0.out
  have hB : Below w.heap.size w (w.alloc (.cells #[.int .i64 k, .int .i64 a, .int .i64 m, .int .i64 t, .int .u64 n, .int .u64 c, .bool false, .string (bs b)] 46)).drew := HB0.out.drew
  have hle : X + 1 ≤ (w.alloc (.cells #[.int .i64 k, .int .i64 a, .int .i64 m, .int .i64 t, .int .u64 n, .int .u64 c, .bool false, .string (bs b)] 46)).drew.heap.size := HL0.out
  clear HX0 HB0 HL0
  refine wp_region_R [(99, fun w' => w'.heap[X]? = some (.cells #[.int .i64 k, .int .i64 a, .int .i64 m, .int .i64 t, .int .u64 n, .int .u64 c, .bool false, .string (bs b)] 46 (0, 0)))] (by kernel_rfl) ?_
  generalize (w.alloc (.cells #[.int .i64 k, .int .i64 a, .int .i64 m, .int .i64 t, .int .u64 n, .int .u64 c, .bool false, .string (bs b)] 46)).drew = W at hX hB hle ⊢
  refine R_p (i := 1) (v := .pointer (some ⟨X, 0, none⟩)) (Meets.here hX Meets.nil) ?_
  refine R_p (i := 6) (v := .pointer (some ⟨X, 1, none⟩)) (Meets.here hX Meets.nil) ?_
  refine R_l (i := 2) (v := .int .i64 k) 99 _ List.mem_cons_self rfl (yieldsIf_load_cell rfl rfl rfl (fun w' hS => rc hS 0 rfl) Tryd.underlying3 rfl) (Meets.here hX Meets.nil) ?_
  refine R_l (i := 7) (v := .int .i64 a) 99 _ List.mem_cons_self rfl (yieldsIf_load_cell rfl rfl rfl (fun w' hS => rc hS 1 rfl) Tryd.underlying3 rfl) (Meets.here hX Meets.nil) ?_
  refine R_p (i := 3) (v := .int .i64 (km : Int)) (Meets.here hX Meets.nil) ?_
  refine R_ready (rs := [0, 8]) (by kernel_rfl) (by simp) ?_
  refine AllReadyR.cons rfl (fun K hK => ?o0) (AllReadyR.cons rfl (fun K hK => ?o8) AllReadyR.nil)
  case' o0 =>
    go_simp
    refine (HWD.out _).mono ?_
    rintro e w0 ⟨rfl, hb0⟩
    replace hX := (hb0.block _ (Array.getElem?_eq_some_iff.1 hX).1).trans hX
    replace hB := below_call hB hB.size hb0
    replace hle := Nat.le_trans hle hb0.size
    clear hb0
    refine hK.out _ _ (Meets.here hX Meets.nil) (fun hMeets => ?_)
    clear hK K hMeets
    refine lay_R ?_
    refine R_p (i := 4) (v := .string (bs wd)) (Meets.here hX Meets.nil) ?_ (hy := by intro w'; have h1 := HIX.out w'; go_simp)
    refine R_ready (rs := [5, 8]) (by kernel_rfl) (by simp) ?_
    refine AllReadyR.cons rfl (fun K hK => ?o0_5) (AllReadyR.cons rfl (fun K hK => ?o0_8) AllReadyR.nil)
    case' o0_5 =>
      have hbb : Below w0.heap.size w0 (w0.alloc (.cells #[.string (bs wd)] 9)) := (Below.refl _ _).alloc (Nat.le_refl _) _
      obtain ⟨b5, hb5⟩ : ∃ b5, w0.heap.size = b5 := ⟨_, rfl⟩
      have hR5 := heap_alloc_new w0 (.cells #[.string (bs wd)] 9)
      rw [hb5] at hR5
      have hown := World.ownsRow_lit (base := X + 1) (e := 9) (size := 1) w0 #[.string (bs wd)] 1 hle (by simp [maxLen]) rfl
      rw [hb5] at hown
      replace hX := (hbb.block _ (Array.getElem?_eq_some_iff.1 hX).1).trans hX
      replace hB := below_call hB hB.size hbb
      replace hle := Nat.le_trans hle hbb.size
      go_simp
      generalize w0.alloc (.cells #[.string (bs wd)] 9) = w5 at *
      try rw [hb5]
      clear hbb hb5
      clear hR5
      refine hK.out _ _ (Meets.here hX Meets.nil) (fun hMeets => ?_)
      clear hK K hMeets
      refine lay_R ?_
      refine R_now 8 fun K hK => ?_
      have hbb : Below w5.heap.size w5 (w5.alloc (.cells #[.int .i64 a] 3)) := (Below.refl _ _).alloc (Nat.le_refl _) _
      obtain ⟨b8, hb8⟩ : ∃ b8, w5.heap.size = b8 := ⟨_, rfl⟩
      have hR8 := heap_alloc_new w5 (.cells #[.int .i64 a] 3)
      rw [hb8] at hR8
      have hNb8 : ∀ k, (Value.slice (some ⟨b5, 0, none⟩) 1 1).ownBlock = some k → b8 ≠ k := fun k e => by have := (hown.lt k e).2; omega
      replace hX := (hbb.block _ (Array.getElem?_eq_some_iff.1 hX).1).trans hX
      replace hB := below_call hB hB.size hbb
      replace hle := Nat.le_trans hle hbb.size
      replace hown := own_keep hown hbb
      go_simp
      generalize w5.alloc (.cells #[.int .i64 a] 3) = w8 at *
      try rw [hb8]
      clear hbb hb8
      refine hK.out _ _ (Meets.here hX Meets.nil) (fun hMeets => ?_)
      clear hK K hMeets
      refine lay_R ?_
      refine R_now 9 fun K hK => ?_
      go_simp
      refine (HS1.out _ b8 a hB (lies_one hR8 (fun j u hj => by simpa using hj)) ha).mono ?_
      rintro e w9 ⟨⟨A9, c9, rfl, hS9⟩, hb9⟩
      replace hX := (hb9.block _ (Array.getElem?_eq_some_iff.1 hX).1).trans hX
      replace hB := below_call hB hB.size hb9
      replace hle := Nat.le_trans hle hb9.size
      replace hR8 := (hb9.block _ (Array.getElem?_eq_some_iff.1 hR8).1).trans hR8
      replace hown := own_keep hown hb9
      clear hR8
      replace hS9 := StrV.any hS9
      clear hb9
      refine hK.out _ _ (Meets.here hX Meets.nil) (fun hMeets => ?_)
      clear hK K hMeets
      refine lay_R ?_
      refine R_now 10 fun K hK => ?_
      have hap := hown
      refine stl_append elStr rfl rfl (X + 1) hown rfl (m := 1) (strC [decI a]) rfl rfl hS9.lies ?_ ?_ ?_ hle ?_
      . exact (one_strC _)
      . simp only [maxLen]; omega
      . omega
      intro v1 w10 hown1 hg1 hat1
      obtain ⟨A10, c10, rfl⟩ := own_form hown1
      have hbp := below_app (Below.refl (X + 1) _) hown hg1 hle (Nat.le_refl _)
      replace hX := (hbp.block X (Nat.lt_succ_self X)).trans hX
      replace hB := hB.trans (hbp.mono hXw)
      replace hle := Nat.le_trans hle hbp.size
      clear hown hap
      have hown := hown1
      clear hown1 hg1 hat1 hbp
      clear hS9
      refine hK.out _ _ (Meets.here hX Meets.nil) (fun hMeets => ?_)
      clear hK K hMeets
      refine lay_R ?_
      refine R_p (i := 11) (v := .slice A10 (1 + 1) c10) (Meets.here hX Meets.nil) ?_
      refine R_done (by kernel_rfl) ?_ _
    case' o0_8 =>
      have hbb : Below w0.heap.size w0 (w0.alloc (.cells #[.int .i64 a] 3)) := (Below.refl _ _).alloc (Nat.le_refl _) _
      obtain ⟨b8, hb8⟩ : ∃ b8, w0.heap.size = b8 := ⟨_, rfl⟩
      have hR8 := heap_alloc_new w0 (.cells #[.int .i64 a] 3)
      rw [hb8] at hR8
      replace hX := (hbb.block _ (Array.getElem?_eq_some_iff.1 hX).1).trans hX
      replace hB := below_call hB hB.size hbb
      replace hle := Nat.le_trans hle hbb.size
      go_simp
      generalize w0.alloc (.cells #[.int .i64 a] 3) = w8 at *
      try rw [hb8]
      clear hbb hb8
      refine hK.out _ _ (Meets.here hX Meets.nil) (fun hMeets => ?_)
      clear hK K hMeets
      refine lay_R ?_
      refine R_ready (rs := [5, 9]) (by kernel_rfl) (by simp) ?_
      refine AllReadyR.cons rfl (fun K hK => ?o0_8_5) (AllReadyR.cons rfl (fun K hK => ?o0_8_9) AllReadyR.nil)
      case' o0_8_5 =>
        have hbb : Below w8.heap.size w8 (w8.alloc (.cells #[.string (bs wd)] 9)) := (Below.refl _ _).alloc (Nat.le_refl _) _
        obtain ⟨b5, hb5⟩ : ∃ b5, w8.heap.size = b5 := ⟨_, rfl⟩
        have hR5 := heap_alloc_new w8 (.cells #[.string (bs wd)] 9)
        rw [hb5] at hR5
        have hown := World.ownsRow_lit (base := X + 1) (e := 9) (size := 1) w8 #[.string (bs wd)] 1 hle (by simp [maxLen]) rfl
        rw [hb5] at hown
        have hNb8 : ∀ k, (Value.slice (some ⟨b5, 0, none⟩) 1 1).ownBlock = some k → b8 ≠ k := fun k e => by injection e with e; have e : b5 = k := e; have := (Array.getElem?_eq_some_iff.1 hR8).1; omega
        replace hX := (hbb.block _ (Array.getElem?_eq_some_iff.1 hX).1).trans hX
        replace hB := below_call hB hB.size hbb
        replace hle := Nat.le_trans hle hbb.size
        replace hR8 := (hbb.block _ (Array.getElem?_eq_some_iff.1 hR8).1).trans hR8
        go_simp
        generalize w8.alloc (.cells #[.string (bs wd)] 9) = w5 at *
        try rw [hb5]
        clear hbb hb5
        clear hR5
        refine hK.out _ _ (Meets.here hX Meets.nil) (fun hMeets => ?_)
        clear hK K hMeets
        refine lay_R ?_
        refine R_now 9 fun K hK => ?_
        go_simp
        refine (HS1.out _ b8 a hB (lies_one hR8 (fun j u hj => by simpa using hj)) ha).mono ?_
        rintro e w9 ⟨⟨A9, c9, rfl, hS9⟩, hb9⟩
        replace hX := (hb9.block _ (Array.getElem?_eq_some_iff.1 hX).1).trans hX
        replace hB := below_call hB hB.size hb9
        replace hle := Nat.le_trans hle hb9.size
        replace hR8 := (hb9.block _ (Array.getElem?_eq_some_iff.1 hR8).1).trans hR8
        replace hown := own_keep hown hb9
        clear hR8
        replace hS9 := StrV.any hS9
        clear hb9
        refine hK.out _ _ (Meets.here hX Meets.nil) (fun hMeets => ?_)
        clear hK K hMeets
        refine lay_R ?_
        refine R_now 10 fun K hK => ?_
        have hap := hown
        refine stl_append elStr rfl rfl (X + 1) hown rfl (m := 1) (strC [decI a]) rfl rfl hS9.lies ?_ ?_ ?_ hle ?_
        . exact (one_strC _)
        . simp only [maxLen]; omega
        . omega
        intro v1 w10 hown1 hg1 hat1
        obtain ⟨A10, c10, rfl⟩ := own_form hown1
        have hbp := below_app (Below.refl (X + 1) _) hown hg1 hle (Nat.le_refl _)
        replace hX := (hbp.block X (Nat.lt_succ_self X)).trans hX
        replace hB := hB.trans (hbp.mono hXw)
        replace hle := Nat.le_trans hle hbp.size
        clear hown hap
        have hown := hown1
        clear hown1 hg1 hat1 hbp
        clear hS9
        refine hK.out _ _ (Meets.here hX Meets.nil) (fun hMeets => ?_)
        clear hK K hMeets
        refine lay_R ?_
        refine R_p (i := 11) (v := .slice A10 (1 + 1) c10) (Meets.here hX Meets.nil) ?_
        refine R_done (by kernel_rfl) ?_ _
      case' o0_8_9 =>
        go_simp
        refine (HS1.out _ b8 a hB (lies_one hR8 (fun j u hj => by simpa using hj)) ha).mono ?_
        rintro e w9 ⟨⟨A9, c9, rfl, hS9⟩, hb9⟩
        replace hX := (hb9.block _ (Array.getElem?_eq_some_iff.1 hX).1).trans hX
        replace hB := below_call hB hB.size hb9
        replace hle := Nat.le_trans hle hb9.size
        replace hR8 := (hb9.block _ (Array.getElem?_eq_some_iff.1 hR8).1).trans hR8
        clear hR8
        replace hS9 := StrV.any hS9
        clear hb9
        refine hK.out _ _ (Meets.here hX Meets.nil) (fun hMeets => ?_)
        clear hK K hMeets
        refine lay_R ?_
        refine R_now 5 fun K hK => ?_
        have hbb : Below w9.heap.size w9 (w9.alloc (.cells #[.string (bs wd)] 9)) := (Below.refl _ _).alloc (Nat.le_refl _) _
        obtain ⟨b5, hb5⟩ : ∃ b5, w9.heap.size = b5 := ⟨_, rfl⟩
        have hR5 := heap_alloc_new w9 (.cells #[.string (bs wd)] 9)
        rw [hb5] at hR5
        have hown := World.ownsRow_lit (base := X + 1) (e := 9) (size := 1) w9 #[.string (bs wd)] 1 hle (by simp [maxLen]) rfl
        rw [hb5] at hown
        replace hX := (hbb.block _ (Array.getElem?_eq_some_iff.1 hX).1).trans hX
        replace hB := below_call hB hB.size hbb
        replace hle := Nat.le_trans hle hbb.size
        replace hS9 := StrV.keep hS9 hbb
        go_simp
        generalize w9.alloc (.cells #[.string (bs wd)] 9) = w5 at *
        try rw [hb5]
        clear hbb hb5
        clear hR5
        refine hK.out _ _ (Meets.here hX Meets.nil) (fun hMeets => ?_)
        clear hK K hMeets
        refine lay_R ?_
        refine R_now 10 fun K hK => ?_
        have hap := hown
        refine stl_append elStr rfl rfl (X + 1) hown rfl (m := 1) (strC [decI a]) rfl rfl hS9.lies ?_ ?_ ?_ hle ?_
        . exact (one_strC _)
        . simp only [maxLen]; omega
        . omega
        intro v1 w10 hown1 hg1 hat1
        obtain ⟨A10, c10, rfl⟩ := own_form hown1
        have hbp := below_app (Below.refl (X + 1) _) hown hg1 hle (Nat.le_refl _)
        replace hX := (hbp.block X (Nat.lt_succ_self X)).trans hX
        replace hB := hB.trans (hbp.mono hXw)
        replace hle := Nat.le_trans hle hbp.size
        clear hown hap
        have hown := hown1
        clear hown1 hg1 hat1 hbp
        clear hS9
        refine hK.out _ _ (Meets.here hX Meets.nil) (fun hMeets => ?_)
        clear hK K hMeets
        refine lay_R ?_
        refine R_p (i := 11) (v := .slice A10 (1 + 1) c10) (Meets.here hX Meets.nil) ?_
        refine R_done (by kernel_rfl) ?_ _
  case' o8 =>
    have hbb : Below W.heap.size W (W.alloc (.cells #[.int .i64 a] 3)) := (Below.refl _ _).alloc (Nat.le_refl _) _
    obtain ⟨b8, hb8⟩ : ∃ b8, W.heap.size = b8 := ⟨_, rfl⟩
    have hR8 := heap_alloc_new W (.cells #[.int .i64 a] 3)
    rw [hb8] at hR8
    replace hX := (hbb.block _ (Array.getElem?_eq_some_iff.1 hX).1).trans hX
    replace hB := below_call hB hB.size hbb
    replace hle := Nat.le_trans hle hbb.size
    go_simp
    generalize W.alloc (.cells #[.int .i64 a] 3) = w8 at *
    try rw [hb8]
    clear hbb hb8
    refine hK.out _ _ (Meets.here hX Meets.nil) (fun hMeets => ?_)
    clear hK K hMeets
    refine lay_R ?_
    refine R_now 0 fun K hK => ?_
    go_simp
    refine (HWD.out _).mono ?_
    rintro e w0 ⟨rfl, hb0⟩
    replace hX := (hb0.block _ (Array.getElem?_eq_some_iff.1 hX).1).trans hX
    replace hB := below_call hB hB.size hb0
    replace hle := Nat.le_trans hle hb0.size
    replace hR8 := (hb0.block _ (Array.getElem?_eq_some_iff.1 hR8).1).trans hR8
    clear hb0
    refine hK.out _ _ (Meets.here hX Meets.nil) (fun hMeets => ?_)
    clear hK K hMeets
    refine lay_R ?_
    refine R_p (i := 4) (v := .string (bs wd)) (Meets.here hX Meets.nil) ?_ (hy := by intro w'; have h1 := HIX.out w'; go_simp)
    refine R_ready (rs := [5, 9]) (by kernel_rfl) (by simp) ?_
    refine AllReadyR.cons rfl (fun K hK => ?o8_5) (AllReadyR.cons rfl (fun K hK => ?o8_9) AllReadyR.nil)
    case' o8_5 =>
      have hbb : Below w0.heap.size w0 (w0.alloc (.cells #[.string (bs wd)] 9)) := (Below.refl _ _).alloc (Nat.le_refl _) _
      obtain ⟨b5, hb5⟩ : ∃ b5, w0.heap.size = b5 := ⟨_, rfl⟩
      have hR5 := heap_alloc_new w0 (.cells #[.string (bs wd)] 9)
      rw [hb5] at hR5
      have hown := World.ownsRow_lit (base := X + 1) (e := 9) (size := 1) w0 #[.string (bs wd)] 1 hle (by simp [maxLen]) rfl
      rw [hb5] at hown
      have hNb8 : ∀ k, (Value.slice (some ⟨b5, 0, none⟩) 1 1).ownBlock = some k → b8 ≠ k := fun k e => by injection e with e; have e : b5 = k := e; have := (Array.getElem?_eq_some_iff.1 hR8).1; omega
      replace hX := (hbb.block _ (Array.getElem?_eq_some_iff.1 hX).1).trans hX
      replace hB := below_call hB hB.size hbb
      replace hle := Nat.le_trans hle hbb.size
      replace hR8 := (hbb.block _ (Array.getElem?_eq_some_iff.1 hR8).1).trans hR8
      go_simp
      generalize w0.alloc (.cells #[.string (bs wd)] 9) = w5 at *
      try rw [hb5]
      clear hbb hb5
      clear hR5
      refine hK.out _ _ (Meets.here hX Meets.nil) (fun hMeets => ?_)
      clear hK K hMeets
      refine lay_R ?_
      refine R_now 9 fun K hK => ?_
      go_simp
      refine (HS1.out _ b8 a hB (lies_one hR8 (fun j u hj => by simpa using hj)) ha).mono ?_
      rintro e w9 ⟨⟨A9, c9, rfl, hS9⟩, hb9⟩
      replace hX := (hb9.block _ (Array.getElem?_eq_some_iff.1 hX).1).trans hX
      replace hB := below_call hB hB.size hb9
      replace hle := Nat.le_trans hle hb9.size
      replace hR8 := (hb9.block _ (Array.getElem?_eq_some_iff.1 hR8).1).trans hR8
      replace hown := own_keep hown hb9
      clear hR8
      replace hS9 := StrV.any hS9
      clear hb9
      refine hK.out _ _ (Meets.here hX Meets.nil) (fun hMeets => ?_)
      clear hK K hMeets
      refine lay_R ?_
      refine R_now 10 fun K hK => ?_
      have hap := hown
      refine stl_append elStr rfl rfl (X + 1) hown rfl (m := 1) (strC [decI a]) rfl rfl hS9.lies ?_ ?_ ?_ hle ?_
      . exact (one_strC _)
      . simp only [maxLen]; omega
      . omega
      intro v1 w10 hown1 hg1 hat1
      obtain ⟨A10, c10, rfl⟩ := own_form hown1
      have hbp := below_app (Below.refl (X + 1) _) hown hg1 hle (Nat.le_refl _)
      replace hX := (hbp.block X (Nat.lt_succ_self X)).trans hX
      replace hB := hB.trans (hbp.mono hXw)
      replace hle := Nat.le_trans hle hbp.size
      clear hown hap
      have hown := hown1
      clear hown1 hg1 hat1 hbp
      clear hS9
      refine hK.out _ _ (Meets.here hX Meets.nil) (fun hMeets => ?_)
      clear hK K hMeets
      refine lay_R ?_
      refine R_p (i := 11) (v := .slice A10 (1 + 1) c10) (Meets.here hX Meets.nil) ?_
      refine R_done (by kernel_rfl) ?_ _
    case' o8_9 =>
      go_simp
      refine (HS1.out _ b8 a hB (lies_one hR8 (fun j u hj => by simpa using hj)) ha).mono ?_
      rintro e w9 ⟨⟨A9, c9, rfl, hS9⟩, hb9⟩
      replace hX := (hb9.block _ (Array.getElem?_eq_some_iff.1 hX).1).trans hX
      replace hB := below_call hB hB.size hb9
      replace hle := Nat.le_trans hle hb9.size
      replace hR8 := (hb9.block _ (Array.getElem?_eq_some_iff.1 hR8).1).trans hR8
      clear hR8
      replace hS9 := StrV.any hS9
      clear hb9
      refine hK.out _ _ (Meets.here hX Meets.nil) (fun hMeets => ?_)
      clear hK K hMeets
      refine lay_R ?_
      refine R_now 5 fun K hK => ?_
      have hbb : Below w9.heap.size w9 (w9.alloc (.cells #[.string (bs wd)] 9)) := (Below.refl _ _).alloc (Nat.le_refl _) _
      obtain ⟨b5, hb5⟩ : ∃ b5, w9.heap.size = b5 := ⟨_, rfl⟩
      have hR5 := heap_alloc_new w9 (.cells #[.string (bs wd)] 9)
      rw [hb5] at hR5
      have hown := World.ownsRow_lit (base := X + 1) (e := 9) (size := 1) w9 #[.string (bs wd)] 1 hle (by simp [maxLen]) rfl
      rw [hb5] at hown
      replace hX := (hbb.block _ (Array.getElem?_eq_some_iff.1 hX).1).trans hX
      replace hB := below_call hB hB.size hbb
      replace hle := Nat.le_trans hle hbb.size
      replace hS9 := StrV.keep hS9 hbb
      go_simp
      generalize w9.alloc (.cells #[.string (bs wd)] 9) = w5 at *
      try rw [hb5]
      clear hbb hb5
      clear hR5
      refine hK.out _ _ (Meets.here hX Meets.nil) (fun hMeets => ?_)
      clear hK K hMeets
      refine lay_R ?_
      refine R_now 10 fun K hK => ?_
      have hap := hown
      refine stl_append elStr rfl rfl (X + 1) hown rfl (m := 1) (strC [decI a]) rfl rfl hS9.lies ?_ ?_ ?_ hle ?_
      . exact (one_strC _)
      . simp only [maxLen]; omega
      . omega
      intro v1 w10 hown1 hg1 hat1
      obtain ⟨A10, c10, rfl⟩ := own_form hown1
      have hbp := below_app (Below.refl (X + 1) _) hown hg1 hle (Nat.le_refl _)
      replace hX := (hbp.block X (Nat.lt_succ_self X)).trans hX
      replace hB := hB.trans (hbp.mono hXw)
      replace hle := Nat.le_trans hle hbp.size
      clear hown hap
      have hown := hown1
      clear hown1 hg1 hat1 hbp
      clear hS9
      refine hK.out _ _ (Meets.here hX Meets.nil) (fun hMeets => ?_)
      clear hK K hMeets
      refine lay_R ?_
      refine R_p (i := 11) (v := .slice A10 (1 + 1) c10) (Meets.here hX Meets.nil) ?_
      refine R_done (by kernel_rfl) ?_ _
  all_goals (
    have c0 : _ = some (Value.int .i64 k) := rc hX 0 rfl
    have c2 : _ = some (Value.int .i64 m) := rc hX 2 rfl
    have c3 : _ = some (Value.int .i64 t) := rc hX 3 rfl
    have c6 : _ = some (Value.bool false) := rc hX 6 rfl
    have c7 : _ = some (Value.string (bs b)) := rc hX 7 rfl
    go_wp2_with fail)
  all_goals (
    refine (HS1.out _ w10.heap.size t (hB.alloc hB.size _) (lies_new w10 #[.int .i64 t] _) (by omega)).mono ?_
    rintro e w21 ⟨⟨A21, c21, rfl, hS21⟩, hb21⟩
    have hb0 : Below w10.heap.size w10 (w10.alloc (.cells #[.int .i64 t] 3)) := (Below.refl _ _).alloc (Nat.le_refl _) _
    replace hX := (hb21.block X (by have := (Array.getElem?_eq_some_iff.1 hX).1; simp; omega)).trans ((hb0.block X (Array.getElem?_eq_some_iff.1 hX).1).trans hX)
    replace hB := below_call (below_call hB hB.size hb0) (by have := hB.size; simp; omega) hb21
    replace hown := own_keep (own_keep hown hb0) hb21
    replace hle := Nat.le_trans hle (Nat.le_trans hb0.size hb21.size)
    replace hS21 := (StrV.any hS21).lies
    clear hb0 hb21 c0 c2 c3 c6 c7
    have c6 : _ = some (Value.bool false) := rc hX 6 rfl
    have tok : True := trivial
    go_wp2_with (first | (at_builtin; have _t := tok; refine wpl_append elStr rfl rfl (X + 1) hown rfl (m := 1) (strC [decI t]) rfl rfl hS21 (one_strC _) (by simp only [maxLen]; omega) (by omega) hle ?_; intro v1 w22 hown1 hg1 hat1; obtain ⟨A22, c22, rfl⟩ := own_form hown1; have hB2 := hB.trans ((below_app (Below.refl (X + 1) _) hown hg1 hle (Nat.le_refl _)).mono hXw); have hle2 := Nat.le_trans hle (below_app (Below.refl (X + 1) _) hown hg1 hle (Nat.le_refl _)).size; have hown2 := hown1; clear hown1 hg1 hat1 hown hS21 tok _t) | (at_builtin; refine wpl_append elStr rfl rfl (X + 1) (hown2.alloc _) rfl (m := 1) [.string ⟨#[111, 117, 116]⟩] rfl rfl (lies_new' _ _ rfl #[.string ⟨#[111, 117, 116]⟩] _) (by intro u hu; rw [List.mem_singleton] at hu; subst hu; rfl) (by simp only [maxLen]; omega) (by omega) (by simp; omega) ?_; intro v1 w23 hown1 hg1 hat1; obtain ⟨A23, c23, rfl⟩ := own_form hown1))
    have hba : Below (X + 1) w22 (w22.alloc (.cells #[.string ⟨#[111, 117, 116]⟩] 9)) := (Below.refl _ _).alloc hle2 _
    have hB := (hB2.trans (hba.mono hXw)).trans ((below_app (Below.refl (X + 1) _) (hown2.alloc _) hg1 (by simp; omega) (Nat.le_refl _)).mono hXw)
    have hown := hown1)
  all_goals (
    refine (HJ.out _ _ _ (own_strV' (ps := [wd, decI a, decI t, [111, 117, 116]]) hown)).mono ?_
    rintro e w30 ⟨rfl, hb30⟩
    have HBB := below_call hB hB.size hb30
    go_wp2_with fail
    go_ret
    exact ⟨rfl, by first | exact HBB | (rw [← hXe]; exact HBB)⟩)

set_option maxRecDepth 100000 in
set_option maxHeartbeats 8000000 in
theorem line_9 (k a m t n c : Int) (ad : Bool) (b : Bytes) (h5 : (k == 5) = false) (h7 : (k == 7) = false) (h8 : (k == 8) = false) (h9 : (k == 9) = true) (km : Nat) (hkm : IntKind.i64.wrap (k - 1) = (km : Int)) (wd : Bytes) (hwd : wordsC[km]? = some (.string (bs wd))) (hwl : wd.length ≤ 20) (ha : 0 ≤ a ∧ a ≤ 9223372036854775807) (hm : 0 ≤ m ∧ m ≤ 9223372036854775807) (ht : 0 ≤ t ∧ t ≤ 9223372036854775807) (hn : 0 ≤ n ∧ n ≤ 18446744073709551615) (hc : 0 ≤ c ∧ c ≤ 18446744073709551615) (hbl : b.length ≤ 1000) (w : World) (he : Env w) :
    Calls Tryd.prog 24 #[.agg #[.int .i64 k, .int .i64 a, .int .i64 m, .int .i64 t, .int .u64 n, .int .u64 c, .bool ad, .string (bs b)]] w fun e w' => e = .returned (.string (bs (Lib.join [wd, decI a, bytesP b] [32]))) ∧ Below w.heap.size w w' := by
  have hlen : (Lib.join [wd, decI a, bytesP b] [32]).length ≤ 140737488355328 := by
    have h1 := decI_len (n := a) (by omega)
    have h2 := decI_len (n := m) (by omega)
    have h3 := decI_len (n := t) (by omega)
    have h4 := decI_len (n := n) (by omega)
    have h5 := decI_len (n := c) (by omega)
    have h6 := bytesP_len b
    have := join_len [32] 3000 wd ([wd, decI a, bytesP b].tail) (fun q hq => by
      simp only [List.tail_cons, List.mem_cons, List.mem_nil_iff, or_false] at hq
      rcases hq with rfl | rfl | rfl <;> (first | omega | (simp; done)))
    simp only [List.tail_cons, List.length_cons, List.length_nil] at this
    omega
  have hS1 : ∀ (W : World) (b : Nat) (v : Int), Below w.heap.size w W → Lies Any W (some ⟨b, 0, none⟩) [.int .i64 v] → 0 ≤ v ∧ v ≤ 9223372036854775807 → Calls Tryd.prog 42 #[.slice (some ⟨b, 0, none⟩) 1 1] W fun e w' => (∃ A1 c1, e = .returned (.slice A1 1 c1) ∧ StrV (Fresh W.heap.size) w' [decI v] A1 c1) ∧ Below W.heap.size W w' :=
    fun W b v hb hl hv => showI_any [v] (fun n hn => by rw [List.mem_singleton] at hn; subst hn; exact hv) (by simp) _ 1 W (he.keep hb) hl
  have hS2 : ∀ (W : World) (b : Nat), Below w.heap.size w W → Lies Any W (some ⟨b, 0, none⟩) [.int .i64 t, .int .i64 m] → Calls Tryd.prog 42 #[.slice (some ⟨b, 0, none⟩) 2 2] W fun e w' => (∃ A1 c1, e = .returned (.slice A1 2 c1) ∧ StrV (Fresh W.heap.size) w' [decI t, decI m] A1 c1) ∧ Below W.heap.size W w' :=
    fun W b hb hl => showI_any [t, m] (fun n hn => by simp only [List.mem_cons, List.mem_nil_iff, or_false] at hn; rcases hn with rfl | rfl <;> omega) (by simp) _ 2 W (he.keep hb) hl
  have hSU : ∀ (W : World) (b : Nat), Below w.heap.size w W → Lies Any W (some ⟨b, 0, none⟩) [.int .u64 n, .int .u64 c] → Calls Tryd.prog 43 #[.slice (some ⟨b, 0, none⟩) 2 2] W fun e w' => (∃ A1 c1, e = .returned (.slice A1 2 c1) ∧ StrV (Fresh W.heap.size) w' [decI n, decI c] A1 c1) ∧ Below W.heap.size W w' :=
    fun W b hb hl => showU_any [n, c] (fun n hn => by simp only [List.mem_cons, List.mem_nil_iff, or_false] at hn; rcases hn with rfl | rfl <;> omega) (by simp) _ 2 W (he.keep hb) hl
  have hBy := fun W => bytes_any b (by omega) W
  obtain ⟨bb, hbb⟩ : ∃ bb, bytesP b = bb := ⟨_, rfl⟩
  have hJ : ∀ (A : Option Addr) (cc : Nat) (W : World), StrV (Fresh (w.heap.size + 1)) W [wd, decI a, bytesP b] A cc → Calls Tryd.prog 33 #[.slice A [wd, decI a, bytesP b].length cc, .string ⟨#[32]⟩] W fun e w' => e = .returned (.string (bs (Lib.join [wd, decI a, bytesP b] [32]))) ∧ Below W.heap.size W w' :=
    fun A cc W hv => join_any [wd, decI a, bytesP b] (by simp) (by simp) [32] hlen A cc W hv.any
  obtain ⟨FL, hFL⟩ : ∃ FL, Lib.join [wd, decI a, bytesP b] [32] = FL := ⟨_, rfl⟩
  rw [hFL] at hJ ⊢
  have hWD := words_any
  have hIX := fun W => run_index_str (P := Tryd.prog) Tryd.underlying63 Tryd.underlying9 (by kernel_rfl) wordsC.toArray km (by have := (List.getElem?_eq_some_iff.1 hwd).1; simpa [wordsC, wordsP] using this) (.string (bs wd)) (by simpa using hwd) W
  obtain ⟨AV, hAV⟩ : ∃ AV, Value.agg wordsC.toArray = AV := ⟨_, rfl⟩
  simp only [hAV] at hWD hIX
  have hX0 := heap_alloc_new w (.cells #[.int .i64 k, .int .i64 a, .int .i64 m, .int .i64 t, .int .u64 n, .int .u64 c, .bool ad, .string (bs b)] 46)
  have hB0 : Below w.heap.size w (w.alloc (.cells #[.int .i64 k, .int .i64 a, .int .i64 m, .int .i64 t, .int .u64 n, .int .u64 c, .bool ad, .string (bs b)] 46)) := (Below.refl _ _).alloc (Nat.le_refl _) _
  have hle0 : w.heap.size + 1 ≤ (w.alloc (.cells #[.int .i64 k, .int .i64 a, .int .i64 m, .int .i64 t, .int .u64 n, .int .u64 c, .bool ad, .string (bs b)] 46)).heap.size := by simp
  obtain ⟨X, hXe⟩ : ∃ X, w.heap.size = X := ⟨_, rfl⟩
  rw [hXe] at hX0 hJ hle0
  have hXw : w.heap.size ≤ X + 1 := by omega
  have HS1 := Lib.hid hS1
  have HS2 := Lib.hid hS2
  have HSU := Lib.hid hSU
  have HBY := Lib.hid hBy
  have HJ := Lib.hid hJ
  have HWD := Lib.hid hWD
  have HIX := Lib.hid hIX
  have HX0 := Lib.hid hX0
  have HB0 := Lib.hid hB0
  have HL0 := Lib.hid hle0
  have HBB0 := Lib.hid hbb
  clear hS1 hS2 hSU hJ hX0 hB0 hle0 hlen hFL he hWD hIX hAV hwd hBy hbb hwl
  go_enter Tryd.func24, Tryd.ntmps24
  go_wp2_with fail
  try rw [hXe]
  have hX : (w.alloc (.cells #[.int .i64 k, .int .i64 a, .int .i64 m, .int .i64 t, .int .u64 n, .int .u64 c, .bool ad, .string (bs b)] 46)).drew.heap[X]? = some (.cells #[.int .i64 k, .int .i64 a, .int .i64 m, .int .i64 t, .int .u64 n, .int .u64 c, .bool ad, .string (bs b)] 46 (0, 0)) := HX0.out
  have hB : Below w.heap.size w (w.alloc (.cells #[.int .i64 k, .int .i64 a, .int .i64 m, .int .i64 t, .int .u64 n, .int .u64 c, .bool ad, .string (bs b)] 46)).drew := HB0.out.drew
  have hle : X + 1 ≤ (w.alloc (.cells #[.int .i64 k, .int .i64 a, .int .i64 m, .int .i64 t, .int .u64 n, .int .u64 c, .bool ad, .string (bs b)] 46)).drew.heap.size := HL0.out
  clear HX0 HB0 HL0
  refine wp_region_R [(99, fun w' => w'.heap[X]? = some (.cells #[.int .i64 k, .int .i64 a, .int .i64 m, .int .i64 t, .int .u64 n, .int .u64 c, .bool ad, .string (bs b)] 46 (0, 0)))] (by kernel_rfl) ?_
  generalize (w.alloc (.cells #[.int .i64 k, .int .i64 a, .int .i64 m, .int .i64 t, .int .u64 n, .int .u64 c, .bool ad, .string (bs b)] 46)).drew = W at hX hB hle ⊢
  refine R_p (i := 1) (v := .pointer (some ⟨X, 0, none⟩)) (Meets.here hX Meets.nil) ?_
  refine R_p (i := 6) (v := .pointer (some ⟨X, 1, none⟩)) (Meets.here hX Meets.nil) ?_
  refine R_l (i := 2) (v := .int .i64 k) 99 _ List.mem_cons_self rfl (yieldsIf_load_cell rfl rfl rfl (fun w' hS => rc hS 0 rfl) Tryd.underlying3 rfl) (Meets.here hX Meets.nil) ?_
  refine R_l (i := 7) (v := .int .i64 a) 99 _ List.mem_cons_self rfl (yieldsIf_load_cell rfl rfl rfl (fun w' hS => rc hS 1 rfl) Tryd.underlying3 rfl) (Meets.here hX Meets.nil) ?_
  refine R_p (i := 3) (v := .int .i64 (km : Int)) (Meets.here hX Meets.nil) ?_
  refine R_ready (rs := [0, 8]) (by kernel_rfl) (by simp) ?_
  refine AllReadyR.cons rfl (fun K hK => ?o0) (AllReadyR.cons rfl (fun K hK => ?o8) AllReadyR.nil)
  case' o0 =>
    go_simp
    refine (HWD.out _).mono ?_
    rintro e w0 ⟨rfl, hb0⟩
    replace hX := (hb0.block _ (Array.getElem?_eq_some_iff.1 hX).1).trans hX
    replace hB := below_call hB hB.size hb0
    replace hle := Nat.le_trans hle hb0.size
    clear hb0
    refine hK.out _ _ (Meets.here hX Meets.nil) (fun hMeets => ?_)
    clear hK K hMeets
    refine lay_R ?_
    refine R_p (i := 4) (v := .string (bs wd)) (Meets.here hX Meets.nil) ?_ (hy := by intro w'; have h1 := HIX.out w'; go_simp)
    refine R_ready (rs := [5, 8]) (by kernel_rfl) (by simp) ?_
    refine AllReadyR.cons rfl (fun K hK => ?o0_5) (AllReadyR.cons rfl (fun K hK => ?o0_8) AllReadyR.nil)
    case' o0_5 =>
      have hbb : Below w0.heap.size w0 (w0.alloc (.cells #[.string (bs wd)] 9)) := (Below.refl _ _).alloc (Nat.le_refl _) _
      obtain ⟨b5, hb5⟩ : ∃ b5, w0.heap.size = b5 := ⟨_, rfl⟩
      have hR5 := heap_alloc_new w0 (.cells #[.string (bs wd)] 9)
      rw [hb5] at hR5
      have hown := World.ownsRow_lit (base := X + 1) (e := 9) (size := 1) w0 #[.string (bs wd)] 1 hle (by simp [maxLen]) rfl
      rw [hb5] at hown
      replace hX := (hbb.block _ (Array.getElem?_eq_some_iff.1 hX).1).trans hX
      replace hB := below_call hB hB.size hbb
      replace hle := Nat.le_trans hle hbb.size
      go_simp
      generalize w0.alloc (.cells #[.string (bs wd)] 9) = w5 at *
      try rw [hb5]
      clear hbb hb5
      clear hR5
      refine hK.out _ _ (Meets.here hX Meets.nil) (fun hMeets => ?_)
      clear hK K hMeets
      refine lay_R ?_
      refine R_now 8 fun K hK => ?_
      have hbb : Below w5.heap.size w5 (w5.alloc (.cells #[.int .i64 a] 3)) := (Below.refl _ _).alloc (Nat.le_refl _) _
      obtain ⟨b8, hb8⟩ : ∃ b8, w5.heap.size = b8 := ⟨_, rfl⟩
      have hR8 := heap_alloc_new w5 (.cells #[.int .i64 a] 3)
      rw [hb8] at hR8
      have hNb8 : ∀ k, (Value.slice (some ⟨b5, 0, none⟩) 1 1).ownBlock = some k → b8 ≠ k := fun k e => by have := (hown.lt k e).2; omega
      replace hX := (hbb.block _ (Array.getElem?_eq_some_iff.1 hX).1).trans hX
      replace hB := below_call hB hB.size hbb
      replace hle := Nat.le_trans hle hbb.size
      replace hown := own_keep hown hbb
      go_simp
      generalize w5.alloc (.cells #[.int .i64 a] 3) = w8 at *
      try rw [hb8]
      clear hbb hb8
      refine hK.out _ _ (Meets.here hX Meets.nil) (fun hMeets => ?_)
      clear hK K hMeets
      refine lay_R ?_
      refine R_now 9 fun K hK => ?_
      go_simp
      refine (HS1.out _ b8 a hB (lies_one hR8 (fun j u hj => by simpa using hj)) ha).mono ?_
      rintro e w9 ⟨⟨A9, c9, rfl, hS9⟩, hb9⟩
      replace hX := (hb9.block _ (Array.getElem?_eq_some_iff.1 hX).1).trans hX
      replace hB := below_call hB hB.size hb9
      replace hle := Nat.le_trans hle hb9.size
      replace hR8 := (hb9.block _ (Array.getElem?_eq_some_iff.1 hR8).1).trans hR8
      replace hown := own_keep hown hb9
      clear hR8
      replace hS9 := StrV.any hS9
      clear hb9
      refine hK.out _ _ (Meets.here hX Meets.nil) (fun hMeets => ?_)
      clear hK K hMeets
      refine lay_R ?_
      refine R_now 10 fun K hK => ?_
      have hap := hown
      refine stl_append elStr rfl rfl (X + 1) hown rfl (m := 1) (strC [decI a]) rfl rfl hS9.lies ?_ ?_ ?_ hle ?_
      . exact (one_strC _)
      . simp only [maxLen]; omega
      . omega
      intro v1 w10 hown1 hg1 hat1
      obtain ⟨A10, c10, rfl⟩ := own_form hown1
      have hbp := below_app (Below.refl (X + 1) _) hown hg1 hle (Nat.le_refl _)
      replace hX := (hbp.block X (Nat.lt_succ_self X)).trans hX
      replace hB := hB.trans (hbp.mono hXw)
      replace hle := Nat.le_trans hle hbp.size
      clear hown hap
      have hown := hown1
      clear hown1 hg1 hat1 hbp
      clear hS9
      refine hK.out _ _ (Meets.here hX Meets.nil) (fun hMeets => ?_)
      clear hK K hMeets
      refine lay_R ?_
      refine R_p (i := 11) (v := .slice A10 (1 + 1) c10) (Meets.here hX Meets.nil) ?_
      refine R_done (by kernel_rfl) ?_ _
    case' o0_8 =>
      have hbb : Below w0.heap.size w0 (w0.alloc (.cells #[.int .i64 a] 3)) := (Below.refl _ _).alloc (Nat.le_refl _) _
      obtain ⟨b8, hb8⟩ : ∃ b8, w0.heap.size = b8 := ⟨_, rfl⟩
      have hR8 := heap_alloc_new w0 (.cells #[.int .i64 a] 3)
      rw [hb8] at hR8
      replace hX := (hbb.block _ (Array.getElem?_eq_some_iff.1 hX).1).trans hX
      replace hB := below_call hB hB.size hbb
      replace hle := Nat.le_trans hle hbb.size
      go_simp
      generalize w0.alloc (.cells #[.int .i64 a] 3) = w8 at *
      try rw [hb8]
      clear hbb hb8
      refine hK.out _ _ (Meets.here hX Meets.nil) (fun hMeets => ?_)
      clear hK K hMeets
      refine lay_R ?_
      refine R_ready (rs := [5, 9]) (by kernel_rfl) (by simp) ?_
      refine AllReadyR.cons rfl (fun K hK => ?o0_8_5) (AllReadyR.cons rfl (fun K hK => ?o0_8_9) AllReadyR.nil)
      case' o0_8_5 =>
        have hbb : Below w8.heap.size w8 (w8.alloc (.cells #[.string (bs wd)] 9)) := (Below.refl _ _).alloc (Nat.le_refl _) _
        obtain ⟨b5, hb5⟩ : ∃ b5, w8.heap.size = b5 := ⟨_, rfl⟩
        have hR5 := heap_alloc_new w8 (.cells #[.string (bs wd)] 9)
        rw [hb5] at hR5
        have hown := World.ownsRow_lit (base := X + 1) (e := 9) (size := 1) w8 #[.string (bs wd)] 1 hle (by simp [maxLen]) rfl
        rw [hb5] at hown
        have hNb8 : ∀ k, (Value.slice (some ⟨b5, 0, none⟩) 1 1).ownBlock = some k → b8 ≠ k := fun k e => by injection e with e; have e : b5 = k := e; have := (Array.getElem?_eq_some_iff.1 hR8).1; omega
        replace hX := (hbb.block _ (Array.getElem?_eq_some_iff.1 hX).1).trans hX
        replace hB := below_call hB hB.size hbb
        replace hle := Nat.le_trans hle hbb.size
        replace hR8 := (hbb.block _ (Array.getElem?_eq_some_iff.1 hR8).1).trans hR8
        go_simp
        generalize w8.alloc (.cells #[.string (bs wd)] 9) = w5 at *
        try rw [hb5]
        clear hbb hb5
        clear hR5
        refine hK.out _ _ (Meets.here hX Meets.nil) (fun hMeets => ?_)
        clear hK K hMeets
        refine lay_R ?_
        refine R_now 9 fun K hK => ?_
        go_simp
        refine (HS1.out _ b8 a hB (lies_one hR8 (fun j u hj => by simpa using hj)) ha).mono ?_
        rintro e w9 ⟨⟨A9, c9, rfl, hS9⟩, hb9⟩
        replace hX := (hb9.block _ (Array.getElem?_eq_some_iff.1 hX).1).trans hX
        replace hB := below_call hB hB.size hb9
        replace hle := Nat.le_trans hle hb9.size
        replace hR8 := (hb9.block _ (Array.getElem?_eq_some_iff.1 hR8).1).trans hR8
        replace hown := own_keep hown hb9
        clear hR8
        replace hS9 := StrV.any hS9
        clear hb9
        refine hK.out _ _ (Meets.here hX Meets.nil) (fun hMeets => ?_)
        clear hK K hMeets
        refine lay_R ?_
        refine R_now 10 fun K hK => ?_
        have hap := hown
        refine stl_append elStr rfl rfl (X + 1) hown rfl (m := 1) (strC [decI a]) rfl rfl hS9.lies ?_ ?_ ?_ hle ?_
        . exact (one_strC _)
        . simp only [maxLen]; omega
        . omega
        intro v1 w10 hown1 hg1 hat1
        obtain ⟨A10, c10, rfl⟩ := own_form hown1
        have hbp := below_app (Below.refl (X + 1) _) hown hg1 hle (Nat.le_refl _)
        replace hX := (hbp.block X (Nat.lt_succ_self X)).trans hX
        replace hB := hB.trans (hbp.mono hXw)
        replace hle := Nat.le_trans hle hbp.size
        clear hown hap
        have hown := hown1
        clear hown1 hg1 hat1 hbp
        clear hS9
        refine hK.out _ _ (Meets.here hX Meets.nil) (fun hMeets => ?_)
        clear hK K hMeets
        refine lay_R ?_
        refine R_p (i := 11) (v := .slice A10 (1 + 1) c10) (Meets.here hX Meets.nil) ?_
        refine R_done (by kernel_rfl) ?_ _
      case' o0_8_9 =>
        go_simp
        refine (HS1.out _ b8 a hB (lies_one hR8 (fun j u hj => by simpa using hj)) ha).mono ?_
        rintro e w9 ⟨⟨A9, c9, rfl, hS9⟩, hb9⟩
        replace hX := (hb9.block _ (Array.getElem?_eq_some_iff.1 hX).1).trans hX
        replace hB := below_call hB hB.size hb9
        replace hle := Nat.le_trans hle hb9.size
        replace hR8 := (hb9.block _ (Array.getElem?_eq_some_iff.1 hR8).1).trans hR8
        clear hR8
        replace hS9 := StrV.any hS9
        clear hb9
        refine hK.out _ _ (Meets.here hX Meets.nil) (fun hMeets => ?_)
        clear hK K hMeets
        refine lay_R ?_
        refine R_now 5 fun K hK => ?_
        have hbb : Below w9.heap.size w9 (w9.alloc (.cells #[.string (bs wd)] 9)) := (Below.refl _ _).alloc (Nat.le_refl _) _
        obtain ⟨b5, hb5⟩ : ∃ b5, w9.heap.size = b5 := ⟨_, rfl⟩
        have hR5 := heap_alloc_new w9 (.cells #[.string (bs wd)] 9)
        rw [hb5] at hR5
        have hown := World.ownsRow_lit (base := X + 1) (e := 9) (size := 1) w9 #[.string (bs wd)] 1 hle (by simp [maxLen]) rfl
        rw [hb5] at hown
        replace hX := (hbb.block _ (Array.getElem?_eq_some_iff.1 hX).1).trans hX
        replace hB := below_call hB hB.size hbb
        replace hle := Nat.le_trans hle hbb.size
        replace hS9 := StrV.keep hS9 hbb
        go_simp
        generalize w9.alloc (.cells #[.string (bs wd)] 9) = w5 at *
        try rw [hb5]
        clear hbb hb5
        clear hR5
        refine hK.out _ _ (Meets.here hX Meets.nil) (fun hMeets => ?_)
        clear hK K hMeets
        refine lay_R ?_
        refine R_now 10 fun K hK => ?_
        have hap := hown
        refine stl_append elStr rfl rfl (X + 1) hown rfl (m := 1) (strC [decI a]) rfl rfl hS9.lies ?_ ?_ ?_ hle ?_
        . exact (one_strC _)
        . simp only [maxLen]; omega
        . omega
        intro v1 w10 hown1 hg1 hat1
        obtain ⟨A10, c10, rfl⟩ := own_form hown1
        have hbp := below_app (Below.refl (X + 1) _) hown hg1 hle (Nat.le_refl _)
        replace hX := (hbp.block X (Nat.lt_succ_self X)).trans hX
        replace hB := hB.trans (hbp.mono hXw)
        replace hle := Nat.le_trans hle hbp.size
        clear hown hap
        have hown := hown1
        clear hown1 hg1 hat1 hbp
        clear hS9
        refine hK.out _ _ (Meets.here hX Meets.nil) (fun hMeets => ?_)
        clear hK K hMeets
        refine lay_R ?_
        refine R_p (i := 11) (v := .slice A10 (1 + 1) c10) (Meets.here hX Meets.nil) ?_
        refine R_done (by kernel_rfl) ?_ _
  case' o8 =>
    have hbb : Below W.heap.size W (W.alloc (.cells #[.int .i64 a] 3)) := (Below.refl _ _).alloc (Nat.le_refl _) _
    obtain ⟨b8, hb8⟩ : ∃ b8, W.heap.size = b8 := ⟨_, rfl⟩
    have hR8 := heap_alloc_new W (.cells #[.int .i64 a] 3)
    rw [hb8] at hR8
    replace hX := (hbb.block _ (Array.getElem?_eq_some_iff.1 hX).1).trans hX
    replace hB := below_call hB hB.size hbb
    replace hle := Nat.le_trans hle hbb.size
    go_simp
    generalize W.alloc (.cells #[.int .i64 a] 3) = w8 at *
    try rw [hb8]
    clear hbb hb8
    refine hK.out _ _ (Meets.here hX Meets.nil) (fun hMeets => ?_)
    clear hK K hMeets
    refine lay_R ?_
    refine R_now 0 fun K hK => ?_
    go_simp
    refine (HWD.out _).mono ?_
    rintro e w0 ⟨rfl, hb0⟩
    replace hX := (hb0.block _ (Array.getElem?_eq_some_iff.1 hX).1).trans hX
    replace hB := below_call hB hB.size hb0
    replace hle := Nat.le_trans hle hb0.size
    replace hR8 := (hb0.block _ (Array.getElem?_eq_some_iff.1 hR8).1).trans hR8
    clear hb0
    refine hK.out _ _ (Meets.here hX Meets.nil) (fun hMeets => ?_)
    clear hK K hMeets
    refine lay_R ?_
    refine R_p (i := 4) (v := .string (bs wd)) (Meets.here hX Meets.nil) ?_ (hy := by intro w'; have h1 := HIX.out w'; go_simp)
    refine R_ready (rs := [5, 9]) (by kernel_rfl) (by simp) ?_
    refine AllReadyR.cons rfl (fun K hK => ?o8_5) (AllReadyR.cons rfl (fun K hK => ?o8_9) AllReadyR.nil)
    case' o8_5 =>
      have hbb : Below w0.heap.size w0 (w0.alloc (.cells #[.string (bs wd)] 9)) := (Below.refl _ _).alloc (Nat.le_refl _) _
      obtain ⟨b5, hb5⟩ : ∃ b5, w0.heap.size = b5 := ⟨_, rfl⟩
      have hR5 := heap_alloc_new w0 (.cells #[.string (bs wd)] 9)
      rw [hb5] at hR5
      have hown := World.ownsRow_lit (base := X + 1) (e := 9) (size := 1) w0 #[.string (bs wd)] 1 hle (by simp [maxLen]) rfl
      rw [hb5] at hown
      have hNb8 : ∀ k, (Value.slice (some ⟨b5, 0, none⟩) 1 1).ownBlock = some k → b8 ≠ k := fun k e => by injection e with e; have e : b5 = k := e; have := (Array.getElem?_eq_some_iff.1 hR8).1; omega
      replace hX := (hbb.block _ (Array.getElem?_eq_some_iff.1 hX).1).trans hX
      replace hB := below_call hB hB.size hbb
      replace hle := Nat.le_trans hle hbb.size
      replace hR8 := (hbb.block _ (Array.getElem?_eq_some_iff.1 hR8).1).trans hR8
      go_simp
      generalize w0.alloc (.cells #[.string (bs wd)] 9) = w5 at *
      try rw [hb5]
      clear hbb hb5
      clear hR5
      refine hK.out _ _ (Meets.here hX Meets.nil) (fun hMeets => ?_)
      clear hK K hMeets
      refine lay_R ?_
      refine R_now 9 fun K hK => ?_
      go_simp
      refine (HS1.out _ b8 a hB (lies_one hR8 (fun j u hj => by simpa using hj)) ha).mono ?_
      rintro e w9 ⟨⟨A9, c9, rfl, hS9⟩, hb9⟩
      replace hX := (hb9.block _ (Array.getElem?_eq_some_iff.1 hX).1).trans hX
      replace hB := below_call hB hB.size hb9
      replace hle := Nat.le_trans hle hb9.size
      replace hR8 := (hb9.block _ (Array.getElem?_eq_some_iff.1 hR8).1).trans hR8
      replace hown := own_keep hown hb9
      clear hR8
      replace hS9 := StrV.any hS9
      clear hb9
      refine hK.out _ _ (Meets.here hX Meets.nil) (fun hMeets => ?_)
      clear hK K hMeets
      refine lay_R ?_
      refine R_now 10 fun K hK => ?_
      have hap := hown
      refine stl_append elStr rfl rfl (X + 1) hown rfl (m := 1) (strC [decI a]) rfl rfl hS9.lies ?_ ?_ ?_ hle ?_
      . exact (one_strC _)
      . simp only [maxLen]; omega
      . omega
      intro v1 w10 hown1 hg1 hat1
      obtain ⟨A10, c10, rfl⟩ := own_form hown1
      have hbp := below_app (Below.refl (X + 1) _) hown hg1 hle (Nat.le_refl _)
      replace hX := (hbp.block X (Nat.lt_succ_self X)).trans hX
      replace hB := hB.trans (hbp.mono hXw)
      replace hle := Nat.le_trans hle hbp.size
      clear hown hap
      have hown := hown1
      clear hown1 hg1 hat1 hbp
      clear hS9
      refine hK.out _ _ (Meets.here hX Meets.nil) (fun hMeets => ?_)
      clear hK K hMeets
      refine lay_R ?_
      refine R_p (i := 11) (v := .slice A10 (1 + 1) c10) (Meets.here hX Meets.nil) ?_
      refine R_done (by kernel_rfl) ?_ _
    case' o8_9 =>
      go_simp
      refine (HS1.out _ b8 a hB (lies_one hR8 (fun j u hj => by simpa using hj)) ha).mono ?_
      rintro e w9 ⟨⟨A9, c9, rfl, hS9⟩, hb9⟩
      replace hX := (hb9.block _ (Array.getElem?_eq_some_iff.1 hX).1).trans hX
      replace hB := below_call hB hB.size hb9
      replace hle := Nat.le_trans hle hb9.size
      replace hR8 := (hb9.block _ (Array.getElem?_eq_some_iff.1 hR8).1).trans hR8
      clear hR8
      replace hS9 := StrV.any hS9
      clear hb9
      refine hK.out _ _ (Meets.here hX Meets.nil) (fun hMeets => ?_)
      clear hK K hMeets
      refine lay_R ?_
      refine R_now 5 fun K hK => ?_
      have hbb : Below w9.heap.size w9 (w9.alloc (.cells #[.string (bs wd)] 9)) := (Below.refl _ _).alloc (Nat.le_refl _) _
      obtain ⟨b5, hb5⟩ : ∃ b5, w9.heap.size = b5 := ⟨_, rfl⟩
      have hR5 := heap_alloc_new w9 (.cells #[.string (bs wd)] 9)
      rw [hb5] at hR5
      have hown := World.ownsRow_lit (base := X + 1) (e := 9) (size := 1) w9 #[.string (bs wd)] 1 hle (by simp [maxLen]) rfl
      rw [hb5] at hown
      replace hX := (hbb.block _ (Array.getElem?_eq_some_iff.1 hX).1).trans hX
      replace hB := below_call hB hB.size hbb
      replace hle := Nat.le_trans hle hbb.size
      replace hS9 := StrV.keep hS9 hbb
      go_simp
      generalize w9.alloc (.cells #[.string (bs wd)] 9) = w5 at *
      try rw [hb5]
      clear hbb hb5
      clear hR5
      refine hK.out _ _ (Meets.here hX Meets.nil) (fun hMeets => ?_)
      clear hK K hMeets
      refine lay_R ?_
      refine R_now 10 fun K hK => ?_
      have hap := hown
      refine stl_append elStr rfl rfl (X + 1) hown rfl (m := 1) (strC [decI a]) rfl rfl hS9.lies ?_ ?_ ?_ hle ?_
      . exact (one_strC _)
      . simp only [maxLen]; omega
      . omega
      intro v1 w10 hown1 hg1 hat1
      obtain ⟨A10, c10, rfl⟩ := own_form hown1
      have hbp := below_app (Below.refl (X + 1) _) hown hg1 hle (Nat.le_refl _)
      replace hX := (hbp.block X (Nat.lt_succ_self X)).trans hX
      replace hB := hB.trans (hbp.mono hXw)
      replace hle := Nat.le_trans hle hbp.size
      clear hown hap
      have hown := hown1
      clear hown1 hg1 hat1 hbp
      clear hS9
      refine hK.out _ _ (Meets.here hX Meets.nil) (fun hMeets => ?_)
      clear hK K hMeets
      refine lay_R ?_
      refine R_p (i := 11) (v := .slice A10 (1 + 1) c10) (Meets.here hX Meets.nil) ?_
      refine R_done (by kernel_rfl) ?_ _
  all_goals (
    have c0 : _ = some (Value.int .i64 k) := rc hX 0 rfl
    have c2 : _ = some (Value.int .i64 m) := rc hX 2 rfl
    have c3 : _ = some (Value.int .i64 t) := rc hX 3 rfl
    have c6 : _ = some (Value.bool ad) := rc hX 6 rfl
    have c7 : _ = some (Value.string (bs b)) := rc hX 7 rfl
    go_wp2_with fail)
  all_goals (
    refine (HBY.out _).mono ?_
    rintro e w21 ⟨rfl, hb21⟩
    replace hX := (hb21.block X (Array.getElem?_eq_some_iff.1 hX).1).trans hX
    replace hB := below_call hB hB.size hb21
    replace hown := own_keep hown hb21
    replace hle := Nat.le_trans hle hb21.size
    clear hb21 c0 c2 c3 c6 c7
    rw [HBB0.out]
    go_wp2_with (at_builtin; refine wpl_append elStr rfl rfl (X + 1) (hown.alloc _) rfl (m := 1) [.string (bs bb)] rfl rfl (lies_new' _ _ rfl #[.string (bs bb)] _) (by intro u hu; rw [List.mem_singleton] at hu; subst hu; rfl) (by simp only [maxLen]; omega) (by omega) (by simp; omega) ?_; intro v1 w23 hown1 hg1 hat1; obtain ⟨A23, c23, rfl⟩ := own_form hown1)
    have hba : Below (X + 1) w21 (w21.alloc (.cells #[.string (bs bb)] 9)) := (Below.refl _ _).alloc hle _
    replace hB := (hB.trans (hba.mono hXw)).trans ((below_app (Below.refl (X + 1) _) (hown.alloc _) hg1 (by simp; omega) (Nat.le_refl _)).mono hXw)
    rw [← HBB0.out] at hown1
    clear hown
    have hown := hown1)
  all_goals (
    refine (HJ.out _ _ _ (own_strV' (ps := [wd, decI a, bytesP b]) hown)).mono ?_
    rintro e w30 ⟨rfl, hb30⟩
    have HBB := below_call hB hB.size hb30
    go_wp2_with fail
    go_ret
    exact ⟨rfl, by first | exact HBB | (rw [← hXe]; exact HBB)⟩)
end Go.Proofs.YtggiicbjegmehaaDoor
