/- The walks of the document's Line at layer 27. -/
import Derived.Test.YtggiicbjegmehaaDoorScVa
namespace Go.Proofs.YtggiicbjegmehaaDoor
set_option linter.unusedVariables false
set_option linter.unusedSimpArgs false
open Go.RowKit

set_option maxRecDepth 100000 in
set_option maxHeartbeats 16000000 in
theorem rline_8t (km : Nat) (a m t n c : Int) (ad : Bool) (b : Bytes) (h5 : ((km : Int) == 5) = false) (h7 : ((km : Int) == 7) = false) (h8 : ((km : Int) == 8) = true) (had : ad = true) (hkm : km < 10) (wd : Bytes) (hwd : kindsC[km]? = some (.string (bs wd))) (hwl : wd.length ≤ 20) (ha : 0 ≤ a ∧ a ≤ 9223372036854775807) (hm : 0 ≤ m ∧ m ≤ 9223372036854775807) (ht : 0 ≤ t ∧ t ≤ 9223372036854775807) (hn : 0 ≤ n ∧ n ≤ 18446744073709551615) (hc : 0 ≤ c ∧ c ≤ 18446744073709551615) (hbl : b.length ≤ 1000) (w : World) (he : Env w) :
    Calls Tryd.prog 32 #[.agg #[.int .i64 (km : Int), .int .i64 a, .int .i64 m, .int .i64 t, .int .u64 n, .int .u64 c, .bool ad, .string (bs b)]] w fun e w' => e = .returned (.string (bs (wd ++ 32 :: decI a ++ 32 :: decI t ++ [32, 105, 110]))) ∧ Below w.heap.size w w' := by
  subst had
  have hA := fun (W : World) (hb : Below w.heap.size w W) => rnumber_any a (by omega) W (he.keep hb)
  have hM := fun (W : World) (hb : Below w.heap.size w W) => rnumber_any m (by omega) W (he.keep hb)
  have hT := fun (W : World) (hb : Below w.heap.size w W) => rnumber_any t (by omega) W (he.keep hb)
  have hN := fun (W : World) (hb : Below w.heap.size w W) => rnumber_any n (by omega) W (he.keep hb)
  have hC := fun (W : World) (hb : Below w.heap.size w W) => rnumber_any c (by omega) W (he.keep hb)
  have hW := fun (W : World) => rword_any b (by omega) W
  have l1 := decI_len (n := a) (by omega)
  have l2 := decI_len (n := m) (by omega)
  have l3 := decI_len (n := t) (by omega)
  have l4 := decI_len (n := n) (by omega)
  have l5 := decI_len (n := c) (by omega)
  have l6 := bytesP_len b
  have hwa : IntKind.u64.wrap a = a := IntWalk.u64_in _ (by omega)
  have hwm : IntKind.u64.wrap m = m := IntWalk.u64_in _ (by omega)
  have hwt : IntKind.u64.wrap t = t := IntWalk.u64_in _ (by omega)
  obtain ⟨a1, e1⟩ : ∃ x, decI a = x := ⟨_, rfl⟩
  obtain ⟨m1, e2⟩ : ∃ x, decI m = x := ⟨_, rfl⟩
  obtain ⟨t1, e3⟩ : ∃ x, decI t = x := ⟨_, rfl⟩
  obtain ⟨n1, e4⟩ : ∃ x, decI n = x := ⟨_, rfl⟩
  obtain ⟨c1, e5⟩ : ∃ x, decI c = x := ⟨_, rfl⟩
  obtain ⟨bb, e6⟩ : ∃ x, bytesP b = x := ⟨_, rfl⟩
  rw [e1] at hA l1
  rw [e2] at hM l2
  rw [e3] at hT l3
  rw [e4] at hN l4
  rw [e5] at hC l5
  rw [e6] at hW l6
  try rw [e1]
  try rw [e2]
  try rw [e3]
  try rw [e4]
  try rw [e5]
  try rw [e6]
  have l0I : (wd.length : Int) ≤ 20 := by omega
  have l1I : (a1.length : Int) ≤ 20 := by omega
  have l2I : (m1.length : Int) ≤ 20 := by omega
  have l3I : (t1.length : Int) ≤ 20 := by omega
  have l4I : (n1.length : Int) ≤ 20 := by omega
  have l5I : (c1.length : Int) ≤ 20 := by omega
  have l6I : (bb.length : Int) ≤ 2001 := by omega
  have hkI : (km : Int) < 10 := by omega
  have HA := Lib.hid hA
  have HM := Lib.hid hM
  have HT := Lib.hid hT
  have HN := Lib.hid hN
  have HC := Lib.hid hC
  have HW := Lib.hid hW
  have hX0 := heap_alloc_new w (.cells #[.int .i64 (km : Int), .int .i64 a, .int .i64 m, .int .i64 t, .int .u64 n, .int .u64 c, .bool true, .string (bs b)] 46)
  have hB0 := ((Below.refl w.heap.size w).alloc (Nat.le_refl _) (.cells #[.int .i64 (km : Int), .int .i64 a, .int .i64 m, .int .i64 t, .int .u64 n, .int .u64 c, .bool true, .string (bs b)] 46)).drew
  have HX0 := Lib.hid hX0
  have HB0 := Lib.hid hB0
  clear hA hM hT hN hC hW hX0 hB0 he e1 e2 e3 e4 e5 e6 hm ht hn hc hbl ha
  obtain ⟨X, hXe⟩ : ∃ X, w.heap.size = X := ⟨_, rfl⟩
  go_enter Tryd.func32, Tryd.ntmps32
  go_wp2_with fail
  have hX : (w.alloc (.cells #[.int .i64 (km : Int), .int .i64 a, .int .i64 m, .int .i64 t, .int .u64 n, .int .u64 c, .bool true, .string (bs b)] 46)).drew.heap[w.heap.size]? = _ := HX0.out
  have hB := HB0.out
  clear HX0 HB0
  rw [hXe] at hX
  refine wp_region_R [(99, fun w' => w'.heap[X]? = some (.cells #[.int .i64 (km : Int), .int .i64 a, .int .i64 m, .int .i64 t, .int .u64 n, .int .u64 c, .bool true, .string (bs b)] 46 (0, 0)))] (by kernel_rfl) ?_
  generalize (w.alloc (.cells #[.int .i64 (km : Int), .int .i64 a, .int .i64 m, .int .i64 t, .int .u64 n, .int .u64 c, .bool true, .string (bs b)] 46)).drew = W at hX hB ⊢
  refine R_p (i := 1) (v := .pointer (some ⟨X, 0, none⟩)) (Meets.here hX Meets.nil) ?_
  refine R_p (i := 5) (v := .pointer (some ⟨X, 1, none⟩)) (Meets.here hX Meets.nil) ?_
  refine R_l (i := 2) (v := .int .i64 (km : Int)) 99 _ List.mem_cons_self rfl (yieldsIf_load_cell rfl rfl rfl (fun w' hS => rc hS 0 rfl) Tryd.underlying3 rfl) (Meets.here hX Meets.nil) ?_
  refine R_l (i := 6) (v := .int .i64 a) 99 _ List.mem_cons_self rfl (yieldsIf_load_cell rfl rfl rfl (fun w' hS => rc hS 1 rfl) Tryd.underlying3 rfl) (Meets.here hX Meets.nil) ?_
  refine R_p (i := 7) (v := .int .u64 a) (Meets.here hX Meets.nil) ?_
  refine R_now 0 fun K hK => ?_
  go_simp
  refine (rkinds_any _).mono ?_
  rintro e w0 ⟨rfl, hw0⟩
  have hb0 : Below W.heap.size W w0 := by rw [hw0]; exact (Below.refl _ _).alloc (Nat.le_refl _) _
  replace hX := (hb0.block _ (Array.getElem?_eq_some_iff.1 hX).1).trans hX
  replace hB := below_call hB hB.size hb0
  have hk4 : w0.cell? ⟨W.heap.size, km, none⟩ = some (.string (bs wd)) := by rw [hw0]; exact rc (heap_alloc_new _ _) km (by simpa using hwd)
  obtain ⟨KB, hKB⟩ : ∃ KB, W.heap.size = KB := ⟨_, rfl⟩
  rw [hKB] at hk4 ⊢
  clear hb0 hw0 hKB
  refine hK.out _ _ (Meets.here hX Meets.nil) (fun hMeets => ?_)
  clear hK K hMeets
  refine lay_R ?_
  refine R_p (i := 3) (v := .pointer (some ⟨KB, km, none⟩)) (Meets.here hX Meets.nil) ?_
  refine R_ready (rs := [4, 8]) (by kernel_rfl) (by simp) ?_
  refine AllReadyR.cons rfl (fun K hK => ?o4) (AllReadyR.cons rfl (fun K hK => ?o8) AllReadyR.nil)
  case' o4 =>
    go_simp
    refine hK.out _ _ (Meets.here hX Meets.nil) (fun hMeets => ?_)
    clear hK K hMeets
    refine lay_R ?_
    refine R_now 8 fun K hK => ?_
    go_simp
    refine (HA.out _ hB).mono ?_
    rintro e w8 ⟨rfl, hb8⟩
    replace hX := (hb8.block _ (Array.getElem?_eq_some_iff.1 hX).1).trans hX
    replace hB := below_call hB hB.size hb8
    replace hk4 := (hb8.cell (lt_of_cell hk4)).trans hk4
    clear hb8
    refine hK.out _ _ (Meets.here hX Meets.nil) (fun hMeets => ?_)
    clear hK K hMeets
    refine lay_R ?_
    refine R_p (i := 9) (v := .string (bs (wd ++ 32 :: a1))) (Meets.here hX Meets.nil) ?_ (hy := by intro w'; go_simp; omega)
    refine R_p (i := 10) (v := .string (bs (wd ++ 32 :: a1))) (Meets.here hX Meets.nil) ?_
    refine R_done (by kernel_rfl) ?_ _
  case' o8 =>
    go_simp
    refine (HA.out _ hB).mono ?_
    rintro e w8 ⟨rfl, hb8⟩
    replace hX := (hb8.block _ (Array.getElem?_eq_some_iff.1 hX).1).trans hX
    replace hB := below_call hB hB.size hb8
    replace hk4 := (hb8.cell (lt_of_cell hk4)).trans hk4
    clear hb8
    refine hK.out _ _ (Meets.here hX Meets.nil) (fun hMeets => ?_)
    clear hK K hMeets
    refine lay_R ?_
    refine R_now 4 fun K hK => ?_
    go_simp
    refine hK.out _ _ (Meets.here hX Meets.nil) (fun hMeets => ?_)
    clear hK K hMeets
    refine lay_R ?_
    refine R_p (i := 9) (v := .string (bs (wd ++ 32 :: a1))) (Meets.here hX Meets.nil) ?_ (hy := by intro w'; go_simp; omega)
    refine R_p (i := 10) (v := .string (bs (wd ++ 32 :: a1))) (Meets.here hX Meets.nil) ?_
    refine R_done (by kernel_rfl) ?_ _
  all_goals (
    have x0 := rc hX 0 rfl
    have x2 := rc hX 2 rfl
    have x3 := rc hX 3 rfl
    have x6 := rc hX 6 rfl
    have x7 := rc hX 7 rfl
    clear hk4
    have hca : bs (wd ++ 32 :: a1 ++ 32 :: t1) ++ (⟨#[32, 105, 110]⟩ : ByteArray) = bs (wd ++ 32 :: a1 ++ 32 :: t1 ++ [32, 105, 110]) := bs_append _ [32, 105, 110]
    simp only [List.append_assoc, List.cons_append] at hca
    go_wp2_with fail
    refine (HT.out _ hB).mono ?_
    rintro e w30 ⟨rfl, hb30⟩
    replace hX := (hb30.block _ (Array.getElem?_eq_some_iff.1 hX).1).trans hX
    replace hB := below_call hB hB.size hb30
    clear hb30 x0 x2 x3 x6 x7
    have x0 := rc hX 0 rfl
    have x2 := rc hX 2 rfl
    have x3 := rc hX 3 rfl
    have x6 := rc hX 6 rfl
    have x7 := rc hX 7 rfl
    have HB := Lib.hid hB
    go_wp2_with fail
    go_ret
    exact ⟨by first | rfl | simp, HB.out⟩
  )

set_option maxRecDepth 100000 in
set_option maxHeartbeats 16000000 in
theorem rline_8f (km : Nat) (a m t n c : Int) (ad : Bool) (b : Bytes) (h5 : ((km : Int) == 5) = false) (h7 : ((km : Int) == 7) = false) (h8 : ((km : Int) == 8) = true) (had : ad = false) (hkm : km < 10) (wd : Bytes) (hwd : kindsC[km]? = some (.string (bs wd))) (hwl : wd.length ≤ 20) (ha : 0 ≤ a ∧ a ≤ 9223372036854775807) (hm : 0 ≤ m ∧ m ≤ 9223372036854775807) (ht : 0 ≤ t ∧ t ≤ 9223372036854775807) (hn : 0 ≤ n ∧ n ≤ 18446744073709551615) (hc : 0 ≤ c ∧ c ≤ 18446744073709551615) (hbl : b.length ≤ 1000) (w : World) (he : Env w) :
    Calls Tryd.prog 32 #[.agg #[.int .i64 (km : Int), .int .i64 a, .int .i64 m, .int .i64 t, .int .u64 n, .int .u64 c, .bool ad, .string (bs b)]] w fun e w' => e = .returned (.string (bs (wd ++ 32 :: decI a ++ 32 :: decI t ++ [32, 111, 117, 116]))) ∧ Below w.heap.size w w' := by
  subst had
  have hA := fun (W : World) (hb : Below w.heap.size w W) => rnumber_any a (by omega) W (he.keep hb)
  have hM := fun (W : World) (hb : Below w.heap.size w W) => rnumber_any m (by omega) W (he.keep hb)
  have hT := fun (W : World) (hb : Below w.heap.size w W) => rnumber_any t (by omega) W (he.keep hb)
  have hN := fun (W : World) (hb : Below w.heap.size w W) => rnumber_any n (by omega) W (he.keep hb)
  have hC := fun (W : World) (hb : Below w.heap.size w W) => rnumber_any c (by omega) W (he.keep hb)
  have hW := fun (W : World) => rword_any b (by omega) W
  have l1 := decI_len (n := a) (by omega)
  have l2 := decI_len (n := m) (by omega)
  have l3 := decI_len (n := t) (by omega)
  have l4 := decI_len (n := n) (by omega)
  have l5 := decI_len (n := c) (by omega)
  have l6 := bytesP_len b
  have hwa : IntKind.u64.wrap a = a := IntWalk.u64_in _ (by omega)
  have hwm : IntKind.u64.wrap m = m := IntWalk.u64_in _ (by omega)
  have hwt : IntKind.u64.wrap t = t := IntWalk.u64_in _ (by omega)
  obtain ⟨a1, e1⟩ : ∃ x, decI a = x := ⟨_, rfl⟩
  obtain ⟨m1, e2⟩ : ∃ x, decI m = x := ⟨_, rfl⟩
  obtain ⟨t1, e3⟩ : ∃ x, decI t = x := ⟨_, rfl⟩
  obtain ⟨n1, e4⟩ : ∃ x, decI n = x := ⟨_, rfl⟩
  obtain ⟨c1, e5⟩ : ∃ x, decI c = x := ⟨_, rfl⟩
  obtain ⟨bb, e6⟩ : ∃ x, bytesP b = x := ⟨_, rfl⟩
  rw [e1] at hA l1
  rw [e2] at hM l2
  rw [e3] at hT l3
  rw [e4] at hN l4
  rw [e5] at hC l5
  rw [e6] at hW l6
  try rw [e1]
  try rw [e2]
  try rw [e3]
  try rw [e4]
  try rw [e5]
  try rw [e6]
  have l0I : (wd.length : Int) ≤ 20 := by omega
  have l1I : (a1.length : Int) ≤ 20 := by omega
  have l2I : (m1.length : Int) ≤ 20 := by omega
  have l3I : (t1.length : Int) ≤ 20 := by omega
  have l4I : (n1.length : Int) ≤ 20 := by omega
  have l5I : (c1.length : Int) ≤ 20 := by omega
  have l6I : (bb.length : Int) ≤ 2001 := by omega
  have hkI : (km : Int) < 10 := by omega
  have HA := Lib.hid hA
  have HM := Lib.hid hM
  have HT := Lib.hid hT
  have HN := Lib.hid hN
  have HC := Lib.hid hC
  have HW := Lib.hid hW
  have hX0 := heap_alloc_new w (.cells #[.int .i64 (km : Int), .int .i64 a, .int .i64 m, .int .i64 t, .int .u64 n, .int .u64 c, .bool false, .string (bs b)] 46)
  have hB0 := ((Below.refl w.heap.size w).alloc (Nat.le_refl _) (.cells #[.int .i64 (km : Int), .int .i64 a, .int .i64 m, .int .i64 t, .int .u64 n, .int .u64 c, .bool false, .string (bs b)] 46)).drew
  have HX0 := Lib.hid hX0
  have HB0 := Lib.hid hB0
  clear hA hM hT hN hC hW hX0 hB0 he e1 e2 e3 e4 e5 e6 hm ht hn hc hbl ha
  obtain ⟨X, hXe⟩ : ∃ X, w.heap.size = X := ⟨_, rfl⟩
  go_enter Tryd.func32, Tryd.ntmps32
  go_wp2_with fail
  have hX : (w.alloc (.cells #[.int .i64 (km : Int), .int .i64 a, .int .i64 m, .int .i64 t, .int .u64 n, .int .u64 c, .bool false, .string (bs b)] 46)).drew.heap[w.heap.size]? = _ := HX0.out
  have hB := HB0.out
  clear HX0 HB0
  rw [hXe] at hX
  refine wp_region_R [(99, fun w' => w'.heap[X]? = some (.cells #[.int .i64 (km : Int), .int .i64 a, .int .i64 m, .int .i64 t, .int .u64 n, .int .u64 c, .bool false, .string (bs b)] 46 (0, 0)))] (by kernel_rfl) ?_
  generalize (w.alloc (.cells #[.int .i64 (km : Int), .int .i64 a, .int .i64 m, .int .i64 t, .int .u64 n, .int .u64 c, .bool false, .string (bs b)] 46)).drew = W at hX hB ⊢
  refine R_p (i := 1) (v := .pointer (some ⟨X, 0, none⟩)) (Meets.here hX Meets.nil) ?_
  refine R_p (i := 5) (v := .pointer (some ⟨X, 1, none⟩)) (Meets.here hX Meets.nil) ?_
  refine R_l (i := 2) (v := .int .i64 (km : Int)) 99 _ List.mem_cons_self rfl (yieldsIf_load_cell rfl rfl rfl (fun w' hS => rc hS 0 rfl) Tryd.underlying3 rfl) (Meets.here hX Meets.nil) ?_
  refine R_l (i := 6) (v := .int .i64 a) 99 _ List.mem_cons_self rfl (yieldsIf_load_cell rfl rfl rfl (fun w' hS => rc hS 1 rfl) Tryd.underlying3 rfl) (Meets.here hX Meets.nil) ?_
  refine R_p (i := 7) (v := .int .u64 a) (Meets.here hX Meets.nil) ?_
  refine R_now 0 fun K hK => ?_
  go_simp
  refine (rkinds_any _).mono ?_
  rintro e w0 ⟨rfl, hw0⟩
  have hb0 : Below W.heap.size W w0 := by rw [hw0]; exact (Below.refl _ _).alloc (Nat.le_refl _) _
  replace hX := (hb0.block _ (Array.getElem?_eq_some_iff.1 hX).1).trans hX
  replace hB := below_call hB hB.size hb0
  have hk4 : w0.cell? ⟨W.heap.size, km, none⟩ = some (.string (bs wd)) := by rw [hw0]; exact rc (heap_alloc_new _ _) km (by simpa using hwd)
  obtain ⟨KB, hKB⟩ : ∃ KB, W.heap.size = KB := ⟨_, rfl⟩
  rw [hKB] at hk4 ⊢
  clear hb0 hw0 hKB
  refine hK.out _ _ (Meets.here hX Meets.nil) (fun hMeets => ?_)
  clear hK K hMeets
  refine lay_R ?_
  refine R_p (i := 3) (v := .pointer (some ⟨KB, km, none⟩)) (Meets.here hX Meets.nil) ?_
  refine R_ready (rs := [4, 8]) (by kernel_rfl) (by simp) ?_
  refine AllReadyR.cons rfl (fun K hK => ?o4) (AllReadyR.cons rfl (fun K hK => ?o8) AllReadyR.nil)
  case' o4 =>
    go_simp
    refine hK.out _ _ (Meets.here hX Meets.nil) (fun hMeets => ?_)
    clear hK K hMeets
    refine lay_R ?_
    refine R_now 8 fun K hK => ?_
    go_simp
    refine (HA.out _ hB).mono ?_
    rintro e w8 ⟨rfl, hb8⟩
    replace hX := (hb8.block _ (Array.getElem?_eq_some_iff.1 hX).1).trans hX
    replace hB := below_call hB hB.size hb8
    replace hk4 := (hb8.cell (lt_of_cell hk4)).trans hk4
    clear hb8
    refine hK.out _ _ (Meets.here hX Meets.nil) (fun hMeets => ?_)
    clear hK K hMeets
    refine lay_R ?_
    refine R_p (i := 9) (v := .string (bs (wd ++ 32 :: a1))) (Meets.here hX Meets.nil) ?_ (hy := by intro w'; go_simp; omega)
    refine R_p (i := 10) (v := .string (bs (wd ++ 32 :: a1))) (Meets.here hX Meets.nil) ?_
    refine R_done (by kernel_rfl) ?_ _
  case' o8 =>
    go_simp
    refine (HA.out _ hB).mono ?_
    rintro e w8 ⟨rfl, hb8⟩
    replace hX := (hb8.block _ (Array.getElem?_eq_some_iff.1 hX).1).trans hX
    replace hB := below_call hB hB.size hb8
    replace hk4 := (hb8.cell (lt_of_cell hk4)).trans hk4
    clear hb8
    refine hK.out _ _ (Meets.here hX Meets.nil) (fun hMeets => ?_)
    clear hK K hMeets
    refine lay_R ?_
    refine R_now 4 fun K hK => ?_
    go_simp
    refine hK.out _ _ (Meets.here hX Meets.nil) (fun hMeets => ?_)
    clear hK K hMeets
    refine lay_R ?_
    refine R_p (i := 9) (v := .string (bs (wd ++ 32 :: a1))) (Meets.here hX Meets.nil) ?_ (hy := by intro w'; go_simp; omega)
    refine R_p (i := 10) (v := .string (bs (wd ++ 32 :: a1))) (Meets.here hX Meets.nil) ?_
    refine R_done (by kernel_rfl) ?_ _
  all_goals (
    have x0 := rc hX 0 rfl
    have x2 := rc hX 2 rfl
    have x3 := rc hX 3 rfl
    have x6 := rc hX 6 rfl
    have x7 := rc hX 7 rfl
    clear hk4
    have hca : bs (wd ++ 32 :: a1 ++ 32 :: t1) ++ (⟨#[32, 111, 117, 116]⟩ : ByteArray) = bs (wd ++ 32 :: a1 ++ 32 :: t1 ++ [32, 111, 117, 116]) := bs_append _ [32, 111, 117, 116]
    simp only [List.append_assoc, List.cons_append] at hca
    go_wp2_with fail
    refine (HT.out _ hB).mono ?_
    rintro e w30 ⟨rfl, hb30⟩
    replace hX := (hb30.block _ (Array.getElem?_eq_some_iff.1 hX).1).trans hX
    replace hB := below_call hB hB.size hb30
    clear hb30 x0 x2 x3 x6 x7
    have x0 := rc hX 0 rfl
    have x2 := rc hX 2 rfl
    have x3 := rc hX 3 rfl
    have x6 := rc hX 6 rfl
    have x7 := rc hX 7 rfl
    have HB := Lib.hid hB
    go_wp2_with fail
    go_ret
    exact ⟨by first | rfl | simp, HB.out⟩
  )
end Go.Proofs.YtggiicbjegmehaaDoor
