/- The walks of frame.sizes, and of frame.item at plain kinds, at numbers. -/
import Derived.Test.YtjanaholcjkceaaZ27
import Derived.Test.YtjanaholcjkceaaZ03
namespace Go.Proofs.Ytjanaholcjkceaa
set_option linter.unusedVariables false
set_option linter.unusedSimpArgs false
open Go.RowKit
set_option maxHeartbeats 1000000 in
theorem sizes_any (c : UInt8) (hc : c = 104 ∨ c = 97 ∨ c = 115) (w : World) : Calls Try.prog 70 #[.int .u8 (c.toNat : Int)] w fun e w' => e = .returned (.int .i64 (sizeC c : Nat)) ∧ w' = w := by
  rcases hc with rfl | rfl | rfl
  all_goals
    go_enter Try.func70, Try.ntmps70
    go_wp2_with fail
    go_ret
    exact ⟨rfl, rfl⟩
set_option maxRecDepth 100000 in
set_option maxHeartbeats 4000000 in
theorem item_n111 (n : Int) (b : Bytes) (A : Option Addr) (m c : Nat) (h0 : 0 ≤ n) (h64 : n < 18446744073709551616) (hn : (n == 0) = true) (hm : ((m : Int) == 0) = true) (hb : (b == []) = true) (w : World) :
    Calls Try.prog 59 #[.agg #[.int .u8 110, .slice none 0 0], .agg #[.int .u64 n, .string (bs b), .slice A m c]] w fun e w' => e = .returned (.tuple #[.agg #[.bool false, .string (bs (digs n.toNat)), .slice none 0 0], .bool true]) ∧ Below w.heap.size w w' := by
  have hB : Below w.heap.size w (((w.alloc (.cells #[.int .u8 110, .slice none 0 0] 103)).alloc (.cells #[.int .u64 n, .string (bs b), .slice A m c] 72)).alloc (.cells #[.bool false, .string ⟨#[]⟩, .slice none 0 0] 45)) := (((Below.refl _ _).alloc (Nat.le_refl _) _).alloc (by simp) _).alloc (by simp; omega) _
  have hI := heap_alloc_new ((w.alloc (.cells #[.int .u8 110, .slice none 0 0] 103)).alloc (.cells #[.int .u64 n, .string (bs b), .slice A m c] 72)) (.cells #[.bool false, .string ⟨#[]⟩, .slice none 0 0] 45)
  have hF := (heap_alloc_old ((w.alloc (.cells #[.int .u8 110, .slice none 0 0] 103)).alloc (.cells #[.int .u64 n, .string (bs b), .slice A m c] 72)) (.cells #[.bool false, .string ⟨#[]⟩, .slice none 0 0] 45) (by simp)).trans (heap_alloc_new (w.alloc (.cells #[.int .u8 110, .slice none 0 0] 103)) (.cells #[.int .u64 n, .string (bs b), .slice A m c] 72))
  have hKd := (heap_alloc_old ((w.alloc (.cells #[.int .u8 110, .slice none 0 0] 103)).alloc (.cells #[.int .u64 n, .string (bs b), .slice A m c] 72)) (.cells #[.bool false, .string ⟨#[]⟩, .slice none 0 0] 45) (by simp; omega)).trans ((heap_alloc_old (w.alloc (.cells #[.int .u8 110, .slice none 0 0] 103)) (.cells #[.int .u64 n, .string (bs b), .slice A m c] 72) (by simp)).trans (heap_alloc_new w _))
  simp only [World.size_alloc] at hI hF hKd
  have HB := Lib.hid hB
  have HI := Lib.hid hI
  have HF := Lib.hid hF
  have HK := Lib.hid hKd
  clear hB hI hF hKd
  go_enter Try.func59, Try.ntmps59
  go_wp2_with fail
  have hbd : Below (((w.alloc (.cells #[.int .u8 110, .slice none 0 0] 103)).alloc (.cells #[.int .u64 n, .string (bs b), .slice A m c] 72)).alloc (.cells #[.bool false, .string ⟨#[]⟩, .slice none 0 0] 45)).heap.size (((w.alloc (.cells #[.int .u8 110, .slice none 0 0] 103)).alloc (.cells #[.int .u64 n, .string (bs b), .slice A m c] 72)).alloc (.cells #[.bool false, .string ⟨#[]⟩, .slice none 0 0] 45)) (((w.alloc (.cells #[.int .u8 110, .slice none 0 0] 103)).alloc (.cells #[.int .u64 n, .string (bs b), .slice A m c] 72)).alloc (.cells #[.bool false, .string ⟨#[]⟩, .slice none 0 0] 45)).drew := (Below.refl _ _).drew
  have hKd := (hbd.block _ (Array.getElem?_eq_some_iff.1 HK.out).1).trans HK.out
  have hF := (hbd.block _ (Array.getElem?_eq_some_iff.1 HF.out).1).trans HF.out
  have hI := (hbd.block _ (Array.getElem?_eq_some_iff.1 HI.out).1).trans HI.out
  have hB := below_call HB.out HB.out.size hbd
  refine wp_region_R [(99, fun w' => w'.heap[w.heap.size]? = some (.cells #[.int .u8 110, .slice none 0 0] 103 (0, 0)) ∧ w'.heap[w.heap.size + 1]? = some (.cells #[.int .u64 n, .string (bs b), .slice A m c] 72 (0, 0)))] (by kernel_rfl) ?_
  generalize (((w.alloc (.cells #[.int .u8 110, .slice none 0 0] 103)).alloc (.cells #[.int .u64 n, .string (bs b), .slice A m c] 72)).alloc (.cells #[.bool false, .string ⟨#[]⟩, .slice none 0 0] 45)).drew = w3 at hKd hF hI hB ⊢
  clear hbd HK HF HI HB
  refine R_p (i := 0) (v := .pointer (some ⟨w.heap.size + 1, 0, none⟩)) (Meets.here ⟨hKd, hF⟩ Meets.nil) ?_
  refine R_l (i := 1) (v := .int .u64 n) 99 _ List.mem_cons_self rfl (yieldsIf_load_cell rfl rfl rfl (fun w' hS => rc hS.2 0 rfl) Try.underlying22 rfl) (Meets.here ⟨hKd, hF⟩ Meets.nil) ?_
  refine R_p (i := 3) (v := .pointer (some ⟨w.heap.size + 1, 1, none⟩)) (Meets.here ⟨hKd, hF⟩ Meets.nil) ?_
  refine R_l (i := 4) (v := .string (bs b)) 99 _ List.mem_cons_self rfl (yieldsIf_load_cell rfl rfl rfl (fun w' hS => rc hS.2 1 rfl) Try.underlying9 rfl) (Meets.here ⟨hKd, hF⟩ Meets.nil) ?_
  refine R_p (i := 5) (v := .bool true) (Meets.here ⟨hKd, hF⟩ Meets.nil) ?_
  refine R_now 2 fun K hK => ?_
  go_simp
  refine (Number_any n h0 h64 _).mono ?_
  rintro e w4 ⟨rfl, hb4⟩
  replace hKd := (hb4.block _ (Array.getElem?_eq_some_iff.1 hKd).1).trans hKd
  replace hF := (hb4.block _ (Array.getElem?_eq_some_iff.1 hF).1).trans hF
  replace hI := (hb4.block _ (Array.getElem?_eq_some_iff.1 hI).1).trans hI
  replace hB := below_call hB hB.size hb4
  clear hb4
  refine hK.out _ _ (Meets.here ⟨hKd, hF⟩ Meets.nil) (fun hMeets => ?_)
  clear hK K hMeets
  refine lay_R ?_
  refine R_p (i := 6) (v := .bool true) (Meets.here ⟨hKd, hF⟩ Meets.nil) ?_
  refine R_p (i := 7) (v := .pointer (some ⟨w.heap.size + 1, 2, none⟩)) (Meets.here ⟨hKd, hF⟩ Meets.nil) ?_
  refine R_l (i := 8) (v := .slice A m c) 99 _ List.mem_cons_self rfl (yieldsIf_load_cell rfl rfl rfl (fun w' hS => rc hS.2 2 rfl) Try.underlying69 rfl) (Meets.here ⟨hKd, hF⟩ Meets.nil) ?_
  refine R_p (i := 9) (v := .int .i64 (m : Int)) (Meets.here ⟨hKd, hF⟩ Meets.nil) ?_
  refine R_p (i := 10) (v := .bool true) (Meets.here ⟨hKd, hF⟩ Meets.nil) ?_
  refine R_p (i := 11) (v := .bool true) (Meets.here ⟨hKd, hF⟩ Meets.nil) ?_
  have d0 : w4.cell? ⟨w.heap.size + 1 + 1, 0, none⟩ = some (.bool false) := rc0 hI
  have d1 : w4.cell? ⟨w.heap.size + 1 + 1, 1, none⟩ = some (.string ⟨#[]⟩) := rc1 hI
  have d2 : w4.cell? ⟨w.heap.size + 1 + 1, 2, none⟩ = some (.slice none 0 0) := rc2 hI
  have f0 := rf hI 0
  have f1 := rf hI 1
  have f2 := rf hI 2
  refine R_now 12 fun K hK => ?_
  obtain ⟨W9, hW9⟩ : ∃ W9, W9 = (((w4.setCell ⟨w.heap.size + 1 + 1, 0, none⟩ (.bool false)).setCell ⟨w.heap.size + 1 + 1, 1, none⟩ (.string (bs (digs n.toNat)))).setCell ⟨w.heap.size + 1 + 1, 2, none⟩ (.slice none 0 0)) := ⟨_, rfl⟩
  have hI9 : W9.heap[w.heap.size + 1 + 1]? = some (.cells #[.bool false, .string (bs (digs n.toNat)), .slice none 0 0] 45 (0, 0)) := by rw [hW9]; exact heap_setCell_here (heap_setCell_here (heap_setCell_here hI _) _) _
  have hF9 : W9.heap[w.heap.size + 1]? = some (.cells #[.int .u64 n, .string (bs b), .slice A m c] 72 (0, 0)) := by rw [hW9]; exact (heap_set_ne (by omega) _).trans ((heap_set_ne (by omega) _).trans ((heap_set_ne (by omega) _).trans hF))
  have hKd9 : W9.heap[w.heap.size]? = some (.cells #[.int .u8 110, .slice none 0 0] 103 (0, 0)) := by rw [hW9]; exact (heap_set_ne (by omega) _).trans ((heap_set_ne (by omega) _).trans ((heap_set_ne (by omega) _).trans hKd))
  have hB9 : Below w.heap.size w W9 := by rw [hW9]; exact ((hB.setCell (p := ⟨w.heap.size + 1 + 1, _, _⟩) (by simp; omega) _).setCell (p := ⟨w.heap.size + 1 + 1, _, _⟩) (by simp; omega) _).setCell (p := ⟨w.heap.size + 1 + 1, _, _⟩) (by simp; omega) _
  have HI9 := Lib.hid hI9
  have HB9 := Lib.hid hB9
  clear hI9 hB9
  go_simp
  rw [← hW9]
  clear hW9 d0 d1 d2 f0 f1 f2
  refine hK.out _ _ (Meets.here ⟨hKd9, hF9⟩ Meets.nil) (fun hMeets => ?_)
  clear hK K hMeets
  refine lay_R ?_
  refine R_p (i := 13) (v := .bool true) (Meets.here ⟨hKd9, hF9⟩ Meets.nil) ?_
  refine R_done (by kernel_rfl) ?_ _
  go_wp2_with fail
  exact bodyPost_ret (v := .tuple #[.agg #[.bool false, .string (bs (digs n.toNat)), .slice none 0 0], .bool true]) (results_row_tmp rfl _ _ (w.heap.size + 1 + 1) _ _ _ _ rfl HI9.out _ rfl Try.underlying45 rfl infoI) rfl ⟨rfl, HB9.out⟩
set_option maxRecDepth 100000 in
set_option maxHeartbeats 4000000 in
theorem item_n110 (n : Int) (b : Bytes) (A : Option Addr) (m c : Nat) (h0 : 0 ≤ n) (h64 : n < 18446744073709551616) (hn : (n == 0) = true) (hm : ((m : Int) == 0) = true) (hb : (b == []) = false) (w : World) :
    Calls Try.prog 59 #[.agg #[.int .u8 110, .slice none 0 0], .agg #[.int .u64 n, .string (bs b), .slice A m c]] w fun e w' => e = .returned (.tuple #[.agg #[.bool false, .string (bs (digs n.toNat)), .slice none 0 0], .bool false]) ∧ Below w.heap.size w w' := by
  have hB : Below w.heap.size w (((w.alloc (.cells #[.int .u8 110, .slice none 0 0] 103)).alloc (.cells #[.int .u64 n, .string (bs b), .slice A m c] 72)).alloc (.cells #[.bool false, .string ⟨#[]⟩, .slice none 0 0] 45)) := (((Below.refl _ _).alloc (Nat.le_refl _) _).alloc (by simp) _).alloc (by simp; omega) _
  have hI := heap_alloc_new ((w.alloc (.cells #[.int .u8 110, .slice none 0 0] 103)).alloc (.cells #[.int .u64 n, .string (bs b), .slice A m c] 72)) (.cells #[.bool false, .string ⟨#[]⟩, .slice none 0 0] 45)
  have hF := (heap_alloc_old ((w.alloc (.cells #[.int .u8 110, .slice none 0 0] 103)).alloc (.cells #[.int .u64 n, .string (bs b), .slice A m c] 72)) (.cells #[.bool false, .string ⟨#[]⟩, .slice none 0 0] 45) (by simp)).trans (heap_alloc_new (w.alloc (.cells #[.int .u8 110, .slice none 0 0] 103)) (.cells #[.int .u64 n, .string (bs b), .slice A m c] 72))
  have hKd := (heap_alloc_old ((w.alloc (.cells #[.int .u8 110, .slice none 0 0] 103)).alloc (.cells #[.int .u64 n, .string (bs b), .slice A m c] 72)) (.cells #[.bool false, .string ⟨#[]⟩, .slice none 0 0] 45) (by simp; omega)).trans ((heap_alloc_old (w.alloc (.cells #[.int .u8 110, .slice none 0 0] 103)) (.cells #[.int .u64 n, .string (bs b), .slice A m c] 72) (by simp)).trans (heap_alloc_new w _))
  simp only [World.size_alloc] at hI hF hKd
  have HB := Lib.hid hB
  have HI := Lib.hid hI
  have HF := Lib.hid hF
  have HK := Lib.hid hKd
  clear hB hI hF hKd
  go_enter Try.func59, Try.ntmps59
  go_wp2_with fail
  have hbd : Below (((w.alloc (.cells #[.int .u8 110, .slice none 0 0] 103)).alloc (.cells #[.int .u64 n, .string (bs b), .slice A m c] 72)).alloc (.cells #[.bool false, .string ⟨#[]⟩, .slice none 0 0] 45)).heap.size (((w.alloc (.cells #[.int .u8 110, .slice none 0 0] 103)).alloc (.cells #[.int .u64 n, .string (bs b), .slice A m c] 72)).alloc (.cells #[.bool false, .string ⟨#[]⟩, .slice none 0 0] 45)) (((w.alloc (.cells #[.int .u8 110, .slice none 0 0] 103)).alloc (.cells #[.int .u64 n, .string (bs b), .slice A m c] 72)).alloc (.cells #[.bool false, .string ⟨#[]⟩, .slice none 0 0] 45)).drew := (Below.refl _ _).drew
  have hKd := (hbd.block _ (Array.getElem?_eq_some_iff.1 HK.out).1).trans HK.out
  have hF := (hbd.block _ (Array.getElem?_eq_some_iff.1 HF.out).1).trans HF.out
  have hI := (hbd.block _ (Array.getElem?_eq_some_iff.1 HI.out).1).trans HI.out
  have hB := below_call HB.out HB.out.size hbd
  refine wp_region_R [(99, fun w' => w'.heap[w.heap.size]? = some (.cells #[.int .u8 110, .slice none 0 0] 103 (0, 0)) ∧ w'.heap[w.heap.size + 1]? = some (.cells #[.int .u64 n, .string (bs b), .slice A m c] 72 (0, 0)))] (by kernel_rfl) ?_
  generalize (((w.alloc (.cells #[.int .u8 110, .slice none 0 0] 103)).alloc (.cells #[.int .u64 n, .string (bs b), .slice A m c] 72)).alloc (.cells #[.bool false, .string ⟨#[]⟩, .slice none 0 0] 45)).drew = w3 at hKd hF hI hB ⊢
  clear hbd HK HF HI HB
  refine R_p (i := 0) (v := .pointer (some ⟨w.heap.size + 1, 0, none⟩)) (Meets.here ⟨hKd, hF⟩ Meets.nil) ?_
  refine R_l (i := 1) (v := .int .u64 n) 99 _ List.mem_cons_self rfl (yieldsIf_load_cell rfl rfl rfl (fun w' hS => rc hS.2 0 rfl) Try.underlying22 rfl) (Meets.here ⟨hKd, hF⟩ Meets.nil) ?_
  refine R_p (i := 3) (v := .pointer (some ⟨w.heap.size + 1, 1, none⟩)) (Meets.here ⟨hKd, hF⟩ Meets.nil) ?_
  refine R_l (i := 4) (v := .string (bs b)) 99 _ List.mem_cons_self rfl (yieldsIf_load_cell rfl rfl rfl (fun w' hS => rc hS.2 1 rfl) Try.underlying9 rfl) (Meets.here ⟨hKd, hF⟩ Meets.nil) ?_
  refine R_p (i := 5) (v := .bool false) (Meets.here ⟨hKd, hF⟩ Meets.nil) ?_
  refine R_now 2 fun K hK => ?_
  go_simp
  refine (Number_any n h0 h64 _).mono ?_
  rintro e w4 ⟨rfl, hb4⟩
  replace hKd := (hb4.block _ (Array.getElem?_eq_some_iff.1 hKd).1).trans hKd
  replace hF := (hb4.block _ (Array.getElem?_eq_some_iff.1 hF).1).trans hF
  replace hI := (hb4.block _ (Array.getElem?_eq_some_iff.1 hI).1).trans hI
  replace hB := below_call hB hB.size hb4
  clear hb4
  refine hK.out _ _ (Meets.here ⟨hKd, hF⟩ Meets.nil) (fun hMeets => ?_)
  clear hK K hMeets
  refine lay_R ?_
  refine R_p (i := 6) (v := .bool false) (Meets.here ⟨hKd, hF⟩ Meets.nil) ?_
  refine R_s (i := 7) (Meets.here ⟨hKd, hF⟩ Meets.nil) ?_
  refine R_s (i := 8) (Meets.here ⟨hKd, hF⟩ Meets.nil) ?_
  refine R_s (i := 9) (Meets.here ⟨hKd, hF⟩ Meets.nil) ?_
  refine R_s (i := 10) (Meets.here ⟨hKd, hF⟩ Meets.nil) ?_
  refine R_p (i := 11) (v := .bool false) (Meets.here ⟨hKd, hF⟩ Meets.nil) ?_
  have d0 : w4.cell? ⟨w.heap.size + 1 + 1, 0, none⟩ = some (.bool false) := rc0 hI
  have d1 : w4.cell? ⟨w.heap.size + 1 + 1, 1, none⟩ = some (.string ⟨#[]⟩) := rc1 hI
  have d2 : w4.cell? ⟨w.heap.size + 1 + 1, 2, none⟩ = some (.slice none 0 0) := rc2 hI
  have f0 := rf hI 0
  have f1 := rf hI 1
  have f2 := rf hI 2
  refine R_now 12 fun K hK => ?_
  obtain ⟨W9, hW9⟩ : ∃ W9, W9 = (((w4.setCell ⟨w.heap.size + 1 + 1, 0, none⟩ (.bool false)).setCell ⟨w.heap.size + 1 + 1, 1, none⟩ (.string (bs (digs n.toNat)))).setCell ⟨w.heap.size + 1 + 1, 2, none⟩ (.slice none 0 0)) := ⟨_, rfl⟩
  have hI9 : W9.heap[w.heap.size + 1 + 1]? = some (.cells #[.bool false, .string (bs (digs n.toNat)), .slice none 0 0] 45 (0, 0)) := by rw [hW9]; exact heap_setCell_here (heap_setCell_here (heap_setCell_here hI _) _) _
  have hF9 : W9.heap[w.heap.size + 1]? = some (.cells #[.int .u64 n, .string (bs b), .slice A m c] 72 (0, 0)) := by rw [hW9]; exact (heap_set_ne (by omega) _).trans ((heap_set_ne (by omega) _).trans ((heap_set_ne (by omega) _).trans hF))
  have hKd9 : W9.heap[w.heap.size]? = some (.cells #[.int .u8 110, .slice none 0 0] 103 (0, 0)) := by rw [hW9]; exact (heap_set_ne (by omega) _).trans ((heap_set_ne (by omega) _).trans ((heap_set_ne (by omega) _).trans hKd))
  have hB9 : Below w.heap.size w W9 := by rw [hW9]; exact ((hB.setCell (p := ⟨w.heap.size + 1 + 1, _, _⟩) (by simp; omega) _).setCell (p := ⟨w.heap.size + 1 + 1, _, _⟩) (by simp; omega) _).setCell (p := ⟨w.heap.size + 1 + 1, _, _⟩) (by simp; omega) _
  have HI9 := Lib.hid hI9
  have HB9 := Lib.hid hB9
  clear hI9 hB9
  go_simp
  rw [← hW9]
  clear hW9 d0 d1 d2 f0 f1 f2
  refine hK.out _ _ (Meets.here ⟨hKd9, hF9⟩ Meets.nil) (fun hMeets => ?_)
  clear hK K hMeets
  refine lay_R ?_
  refine R_p (i := 13) (v := .bool false) (Meets.here ⟨hKd9, hF9⟩ Meets.nil) ?_
  refine R_done (by kernel_rfl) ?_ _
  go_wp2_with fail
  exact bodyPost_ret (v := .tuple #[.agg #[.bool false, .string (bs (digs n.toNat)), .slice none 0 0], .bool false]) (results_row_tmp rfl _ _ (w.heap.size + 1 + 1) _ _ _ _ rfl HI9.out _ rfl Try.underlying45 rfl infoI) rfl ⟨rfl, HB9.out⟩
set_option maxRecDepth 100000 in
set_option maxHeartbeats 4000000 in
theorem item_n101 (n : Int) (b : Bytes) (A : Option Addr) (m c : Nat) (h0 : 0 ≤ n) (h64 : n < 18446744073709551616) (hn : (n == 0) = true) (hm : ((m : Int) == 0) = false) (hb : (b == []) = true) (w : World) :
    Calls Try.prog 59 #[.agg #[.int .u8 110, .slice none 0 0], .agg #[.int .u64 n, .string (bs b), .slice A m c]] w fun e w' => e = .returned (.tuple #[.agg #[.bool false, .string (bs (digs n.toNat)), .slice none 0 0], .bool false]) ∧ Below w.heap.size w w' := by
  have hB : Below w.heap.size w (((w.alloc (.cells #[.int .u8 110, .slice none 0 0] 103)).alloc (.cells #[.int .u64 n, .string (bs b), .slice A m c] 72)).alloc (.cells #[.bool false, .string ⟨#[]⟩, .slice none 0 0] 45)) := (((Below.refl _ _).alloc (Nat.le_refl _) _).alloc (by simp) _).alloc (by simp; omega) _
  have hI := heap_alloc_new ((w.alloc (.cells #[.int .u8 110, .slice none 0 0] 103)).alloc (.cells #[.int .u64 n, .string (bs b), .slice A m c] 72)) (.cells #[.bool false, .string ⟨#[]⟩, .slice none 0 0] 45)
  have hF := (heap_alloc_old ((w.alloc (.cells #[.int .u8 110, .slice none 0 0] 103)).alloc (.cells #[.int .u64 n, .string (bs b), .slice A m c] 72)) (.cells #[.bool false, .string ⟨#[]⟩, .slice none 0 0] 45) (by simp)).trans (heap_alloc_new (w.alloc (.cells #[.int .u8 110, .slice none 0 0] 103)) (.cells #[.int .u64 n, .string (bs b), .slice A m c] 72))
  have hKd := (heap_alloc_old ((w.alloc (.cells #[.int .u8 110, .slice none 0 0] 103)).alloc (.cells #[.int .u64 n, .string (bs b), .slice A m c] 72)) (.cells #[.bool false, .string ⟨#[]⟩, .slice none 0 0] 45) (by simp; omega)).trans ((heap_alloc_old (w.alloc (.cells #[.int .u8 110, .slice none 0 0] 103)) (.cells #[.int .u64 n, .string (bs b), .slice A m c] 72) (by simp)).trans (heap_alloc_new w _))
  simp only [World.size_alloc] at hI hF hKd
  have HB := Lib.hid hB
  have HI := Lib.hid hI
  have HF := Lib.hid hF
  have HK := Lib.hid hKd
  clear hB hI hF hKd
  go_enter Try.func59, Try.ntmps59
  go_wp2_with fail
  have hbd : Below (((w.alloc (.cells #[.int .u8 110, .slice none 0 0] 103)).alloc (.cells #[.int .u64 n, .string (bs b), .slice A m c] 72)).alloc (.cells #[.bool false, .string ⟨#[]⟩, .slice none 0 0] 45)).heap.size (((w.alloc (.cells #[.int .u8 110, .slice none 0 0] 103)).alloc (.cells #[.int .u64 n, .string (bs b), .slice A m c] 72)).alloc (.cells #[.bool false, .string ⟨#[]⟩, .slice none 0 0] 45)) (((w.alloc (.cells #[.int .u8 110, .slice none 0 0] 103)).alloc (.cells #[.int .u64 n, .string (bs b), .slice A m c] 72)).alloc (.cells #[.bool false, .string ⟨#[]⟩, .slice none 0 0] 45)).drew := (Below.refl _ _).drew
  have hKd := (hbd.block _ (Array.getElem?_eq_some_iff.1 HK.out).1).trans HK.out
  have hF := (hbd.block _ (Array.getElem?_eq_some_iff.1 HF.out).1).trans HF.out
  have hI := (hbd.block _ (Array.getElem?_eq_some_iff.1 HI.out).1).trans HI.out
  have hB := below_call HB.out HB.out.size hbd
  refine wp_region_R [(99, fun w' => w'.heap[w.heap.size]? = some (.cells #[.int .u8 110, .slice none 0 0] 103 (0, 0)) ∧ w'.heap[w.heap.size + 1]? = some (.cells #[.int .u64 n, .string (bs b), .slice A m c] 72 (0, 0)))] (by kernel_rfl) ?_
  generalize (((w.alloc (.cells #[.int .u8 110, .slice none 0 0] 103)).alloc (.cells #[.int .u64 n, .string (bs b), .slice A m c] 72)).alloc (.cells #[.bool false, .string ⟨#[]⟩, .slice none 0 0] 45)).drew = w3 at hKd hF hI hB ⊢
  clear hbd HK HF HI HB
  refine R_p (i := 0) (v := .pointer (some ⟨w.heap.size + 1, 0, none⟩)) (Meets.here ⟨hKd, hF⟩ Meets.nil) ?_
  refine R_l (i := 1) (v := .int .u64 n) 99 _ List.mem_cons_self rfl (yieldsIf_load_cell rfl rfl rfl (fun w' hS => rc hS.2 0 rfl) Try.underlying22 rfl) (Meets.here ⟨hKd, hF⟩ Meets.nil) ?_
  refine R_p (i := 3) (v := .pointer (some ⟨w.heap.size + 1, 1, none⟩)) (Meets.here ⟨hKd, hF⟩ Meets.nil) ?_
  refine R_l (i := 4) (v := .string (bs b)) 99 _ List.mem_cons_self rfl (yieldsIf_load_cell rfl rfl rfl (fun w' hS => rc hS.2 1 rfl) Try.underlying9 rfl) (Meets.here ⟨hKd, hF⟩ Meets.nil) ?_
  refine R_p (i := 5) (v := .bool true) (Meets.here ⟨hKd, hF⟩ Meets.nil) ?_
  refine R_now 2 fun K hK => ?_
  go_simp
  refine (Number_any n h0 h64 _).mono ?_
  rintro e w4 ⟨rfl, hb4⟩
  replace hKd := (hb4.block _ (Array.getElem?_eq_some_iff.1 hKd).1).trans hKd
  replace hF := (hb4.block _ (Array.getElem?_eq_some_iff.1 hF).1).trans hF
  replace hI := (hb4.block _ (Array.getElem?_eq_some_iff.1 hI).1).trans hI
  replace hB := below_call hB hB.size hb4
  clear hb4
  refine hK.out _ _ (Meets.here ⟨hKd, hF⟩ Meets.nil) (fun hMeets => ?_)
  clear hK K hMeets
  refine lay_R ?_
  refine R_p (i := 6) (v := .bool true) (Meets.here ⟨hKd, hF⟩ Meets.nil) ?_
  refine R_p (i := 7) (v := .pointer (some ⟨w.heap.size + 1, 2, none⟩)) (Meets.here ⟨hKd, hF⟩ Meets.nil) ?_
  refine R_l (i := 8) (v := .slice A m c) 99 _ List.mem_cons_self rfl (yieldsIf_load_cell rfl rfl rfl (fun w' hS => rc hS.2 2 rfl) Try.underlying69 rfl) (Meets.here ⟨hKd, hF⟩ Meets.nil) ?_
  refine R_p (i := 9) (v := .int .i64 (m : Int)) (Meets.here ⟨hKd, hF⟩ Meets.nil) ?_
  refine R_p (i := 10) (v := .bool false) (Meets.here ⟨hKd, hF⟩ Meets.nil) ?_
  refine R_p (i := 11) (v := .bool false) (Meets.here ⟨hKd, hF⟩ Meets.nil) ?_
  have d0 : w4.cell? ⟨w.heap.size + 1 + 1, 0, none⟩ = some (.bool false) := rc0 hI
  have d1 : w4.cell? ⟨w.heap.size + 1 + 1, 1, none⟩ = some (.string ⟨#[]⟩) := rc1 hI
  have d2 : w4.cell? ⟨w.heap.size + 1 + 1, 2, none⟩ = some (.slice none 0 0) := rc2 hI
  have f0 := rf hI 0
  have f1 := rf hI 1
  have f2 := rf hI 2
  refine R_now 12 fun K hK => ?_
  obtain ⟨W9, hW9⟩ : ∃ W9, W9 = (((w4.setCell ⟨w.heap.size + 1 + 1, 0, none⟩ (.bool false)).setCell ⟨w.heap.size + 1 + 1, 1, none⟩ (.string (bs (digs n.toNat)))).setCell ⟨w.heap.size + 1 + 1, 2, none⟩ (.slice none 0 0)) := ⟨_, rfl⟩
  have hI9 : W9.heap[w.heap.size + 1 + 1]? = some (.cells #[.bool false, .string (bs (digs n.toNat)), .slice none 0 0] 45 (0, 0)) := by rw [hW9]; exact heap_setCell_here (heap_setCell_here (heap_setCell_here hI _) _) _
  have hF9 : W9.heap[w.heap.size + 1]? = some (.cells #[.int .u64 n, .string (bs b), .slice A m c] 72 (0, 0)) := by rw [hW9]; exact (heap_set_ne (by omega) _).trans ((heap_set_ne (by omega) _).trans ((heap_set_ne (by omega) _).trans hF))
  have hKd9 : W9.heap[w.heap.size]? = some (.cells #[.int .u8 110, .slice none 0 0] 103 (0, 0)) := by rw [hW9]; exact (heap_set_ne (by omega) _).trans ((heap_set_ne (by omega) _).trans ((heap_set_ne (by omega) _).trans hKd))
  have hB9 : Below w.heap.size w W9 := by rw [hW9]; exact ((hB.setCell (p := ⟨w.heap.size + 1 + 1, _, _⟩) (by simp; omega) _).setCell (p := ⟨w.heap.size + 1 + 1, _, _⟩) (by simp; omega) _).setCell (p := ⟨w.heap.size + 1 + 1, _, _⟩) (by simp; omega) _
  have HI9 := Lib.hid hI9
  have HB9 := Lib.hid hB9
  clear hI9 hB9
  go_simp
  rw [← hW9]
  clear hW9 d0 d1 d2 f0 f1 f2
  refine hK.out _ _ (Meets.here ⟨hKd9, hF9⟩ Meets.nil) (fun hMeets => ?_)
  clear hK K hMeets
  refine lay_R ?_
  refine R_p (i := 13) (v := .bool false) (Meets.here ⟨hKd9, hF9⟩ Meets.nil) ?_
  refine R_done (by kernel_rfl) ?_ _
  go_wp2_with fail
  exact bodyPost_ret (v := .tuple #[.agg #[.bool false, .string (bs (digs n.toNat)), .slice none 0 0], .bool false]) (results_row_tmp rfl _ _ (w.heap.size + 1 + 1) _ _ _ _ rfl HI9.out _ rfl Try.underlying45 rfl infoI) rfl ⟨rfl, HB9.out⟩
set_option maxRecDepth 100000 in
set_option maxHeartbeats 4000000 in
theorem item_n100 (n : Int) (b : Bytes) (A : Option Addr) (m c : Nat) (h0 : 0 ≤ n) (h64 : n < 18446744073709551616) (hn : (n == 0) = true) (hm : ((m : Int) == 0) = false) (hb : (b == []) = false) (w : World) :
    Calls Try.prog 59 #[.agg #[.int .u8 110, .slice none 0 0], .agg #[.int .u64 n, .string (bs b), .slice A m c]] w fun e w' => e = .returned (.tuple #[.agg #[.bool false, .string (bs (digs n.toNat)), .slice none 0 0], .bool false]) ∧ Below w.heap.size w w' := by
  have hB : Below w.heap.size w (((w.alloc (.cells #[.int .u8 110, .slice none 0 0] 103)).alloc (.cells #[.int .u64 n, .string (bs b), .slice A m c] 72)).alloc (.cells #[.bool false, .string ⟨#[]⟩, .slice none 0 0] 45)) := (((Below.refl _ _).alloc (Nat.le_refl _) _).alloc (by simp) _).alloc (by simp; omega) _
  have hI := heap_alloc_new ((w.alloc (.cells #[.int .u8 110, .slice none 0 0] 103)).alloc (.cells #[.int .u64 n, .string (bs b), .slice A m c] 72)) (.cells #[.bool false, .string ⟨#[]⟩, .slice none 0 0] 45)
  have hF := (heap_alloc_old ((w.alloc (.cells #[.int .u8 110, .slice none 0 0] 103)).alloc (.cells #[.int .u64 n, .string (bs b), .slice A m c] 72)) (.cells #[.bool false, .string ⟨#[]⟩, .slice none 0 0] 45) (by simp)).trans (heap_alloc_new (w.alloc (.cells #[.int .u8 110, .slice none 0 0] 103)) (.cells #[.int .u64 n, .string (bs b), .slice A m c] 72))
  have hKd := (heap_alloc_old ((w.alloc (.cells #[.int .u8 110, .slice none 0 0] 103)).alloc (.cells #[.int .u64 n, .string (bs b), .slice A m c] 72)) (.cells #[.bool false, .string ⟨#[]⟩, .slice none 0 0] 45) (by simp; omega)).trans ((heap_alloc_old (w.alloc (.cells #[.int .u8 110, .slice none 0 0] 103)) (.cells #[.int .u64 n, .string (bs b), .slice A m c] 72) (by simp)).trans (heap_alloc_new w _))
  simp only [World.size_alloc] at hI hF hKd
  have HB := Lib.hid hB
  have HI := Lib.hid hI
  have HF := Lib.hid hF
  have HK := Lib.hid hKd
  clear hB hI hF hKd
  go_enter Try.func59, Try.ntmps59
  go_wp2_with fail
  have hbd : Below (((w.alloc (.cells #[.int .u8 110, .slice none 0 0] 103)).alloc (.cells #[.int .u64 n, .string (bs b), .slice A m c] 72)).alloc (.cells #[.bool false, .string ⟨#[]⟩, .slice none 0 0] 45)).heap.size (((w.alloc (.cells #[.int .u8 110, .slice none 0 0] 103)).alloc (.cells #[.int .u64 n, .string (bs b), .slice A m c] 72)).alloc (.cells #[.bool false, .string ⟨#[]⟩, .slice none 0 0] 45)) (((w.alloc (.cells #[.int .u8 110, .slice none 0 0] 103)).alloc (.cells #[.int .u64 n, .string (bs b), .slice A m c] 72)).alloc (.cells #[.bool false, .string ⟨#[]⟩, .slice none 0 0] 45)).drew := (Below.refl _ _).drew
  have hKd := (hbd.block _ (Array.getElem?_eq_some_iff.1 HK.out).1).trans HK.out
  have hF := (hbd.block _ (Array.getElem?_eq_some_iff.1 HF.out).1).trans HF.out
  have hI := (hbd.block _ (Array.getElem?_eq_some_iff.1 HI.out).1).trans HI.out
  have hB := below_call HB.out HB.out.size hbd
  refine wp_region_R [(99, fun w' => w'.heap[w.heap.size]? = some (.cells #[.int .u8 110, .slice none 0 0] 103 (0, 0)) ∧ w'.heap[w.heap.size + 1]? = some (.cells #[.int .u64 n, .string (bs b), .slice A m c] 72 (0, 0)))] (by kernel_rfl) ?_
  generalize (((w.alloc (.cells #[.int .u8 110, .slice none 0 0] 103)).alloc (.cells #[.int .u64 n, .string (bs b), .slice A m c] 72)).alloc (.cells #[.bool false, .string ⟨#[]⟩, .slice none 0 0] 45)).drew = w3 at hKd hF hI hB ⊢
  clear hbd HK HF HI HB
  refine R_p (i := 0) (v := .pointer (some ⟨w.heap.size + 1, 0, none⟩)) (Meets.here ⟨hKd, hF⟩ Meets.nil) ?_
  refine R_l (i := 1) (v := .int .u64 n) 99 _ List.mem_cons_self rfl (yieldsIf_load_cell rfl rfl rfl (fun w' hS => rc hS.2 0 rfl) Try.underlying22 rfl) (Meets.here ⟨hKd, hF⟩ Meets.nil) ?_
  refine R_p (i := 3) (v := .pointer (some ⟨w.heap.size + 1, 1, none⟩)) (Meets.here ⟨hKd, hF⟩ Meets.nil) ?_
  refine R_l (i := 4) (v := .string (bs b)) 99 _ List.mem_cons_self rfl (yieldsIf_load_cell rfl rfl rfl (fun w' hS => rc hS.2 1 rfl) Try.underlying9 rfl) (Meets.here ⟨hKd, hF⟩ Meets.nil) ?_
  refine R_p (i := 5) (v := .bool false) (Meets.here ⟨hKd, hF⟩ Meets.nil) ?_
  refine R_now 2 fun K hK => ?_
  go_simp
  refine (Number_any n h0 h64 _).mono ?_
  rintro e w4 ⟨rfl, hb4⟩
  replace hKd := (hb4.block _ (Array.getElem?_eq_some_iff.1 hKd).1).trans hKd
  replace hF := (hb4.block _ (Array.getElem?_eq_some_iff.1 hF).1).trans hF
  replace hI := (hb4.block _ (Array.getElem?_eq_some_iff.1 hI).1).trans hI
  replace hB := below_call hB hB.size hb4
  clear hb4
  refine hK.out _ _ (Meets.here ⟨hKd, hF⟩ Meets.nil) (fun hMeets => ?_)
  clear hK K hMeets
  refine lay_R ?_
  refine R_p (i := 6) (v := .bool false) (Meets.here ⟨hKd, hF⟩ Meets.nil) ?_
  refine R_s (i := 7) (Meets.here ⟨hKd, hF⟩ Meets.nil) ?_
  refine R_s (i := 8) (Meets.here ⟨hKd, hF⟩ Meets.nil) ?_
  refine R_s (i := 9) (Meets.here ⟨hKd, hF⟩ Meets.nil) ?_
  refine R_s (i := 10) (Meets.here ⟨hKd, hF⟩ Meets.nil) ?_
  refine R_p (i := 11) (v := .bool false) (Meets.here ⟨hKd, hF⟩ Meets.nil) ?_
  have d0 : w4.cell? ⟨w.heap.size + 1 + 1, 0, none⟩ = some (.bool false) := rc0 hI
  have d1 : w4.cell? ⟨w.heap.size + 1 + 1, 1, none⟩ = some (.string ⟨#[]⟩) := rc1 hI
  have d2 : w4.cell? ⟨w.heap.size + 1 + 1, 2, none⟩ = some (.slice none 0 0) := rc2 hI
  have f0 := rf hI 0
  have f1 := rf hI 1
  have f2 := rf hI 2
  refine R_now 12 fun K hK => ?_
  obtain ⟨W9, hW9⟩ : ∃ W9, W9 = (((w4.setCell ⟨w.heap.size + 1 + 1, 0, none⟩ (.bool false)).setCell ⟨w.heap.size + 1 + 1, 1, none⟩ (.string (bs (digs n.toNat)))).setCell ⟨w.heap.size + 1 + 1, 2, none⟩ (.slice none 0 0)) := ⟨_, rfl⟩
  have hI9 : W9.heap[w.heap.size + 1 + 1]? = some (.cells #[.bool false, .string (bs (digs n.toNat)), .slice none 0 0] 45 (0, 0)) := by rw [hW9]; exact heap_setCell_here (heap_setCell_here (heap_setCell_here hI _) _) _
  have hF9 : W9.heap[w.heap.size + 1]? = some (.cells #[.int .u64 n, .string (bs b), .slice A m c] 72 (0, 0)) := by rw [hW9]; exact (heap_set_ne (by omega) _).trans ((heap_set_ne (by omega) _).trans ((heap_set_ne (by omega) _).trans hF))
  have hKd9 : W9.heap[w.heap.size]? = some (.cells #[.int .u8 110, .slice none 0 0] 103 (0, 0)) := by rw [hW9]; exact (heap_set_ne (by omega) _).trans ((heap_set_ne (by omega) _).trans ((heap_set_ne (by omega) _).trans hKd))
  have hB9 : Below w.heap.size w W9 := by rw [hW9]; exact ((hB.setCell (p := ⟨w.heap.size + 1 + 1, _, _⟩) (by simp; omega) _).setCell (p := ⟨w.heap.size + 1 + 1, _, _⟩) (by simp; omega) _).setCell (p := ⟨w.heap.size + 1 + 1, _, _⟩) (by simp; omega) _
  have HI9 := Lib.hid hI9
  have HB9 := Lib.hid hB9
  clear hI9 hB9
  go_simp
  rw [← hW9]
  clear hW9 d0 d1 d2 f0 f1 f2
  refine hK.out _ _ (Meets.here ⟨hKd9, hF9⟩ Meets.nil) (fun hMeets => ?_)
  clear hK K hMeets
  refine lay_R ?_
  refine R_p (i := 13) (v := .bool false) (Meets.here ⟨hKd9, hF9⟩ Meets.nil) ?_
  refine R_done (by kernel_rfl) ?_ _
  go_wp2_with fail
  exact bodyPost_ret (v := .tuple #[.agg #[.bool false, .string (bs (digs n.toNat)), .slice none 0 0], .bool false]) (results_row_tmp rfl _ _ (w.heap.size + 1 + 1) _ _ _ _ rfl HI9.out _ rfl Try.underlying45 rfl infoI) rfl ⟨rfl, HB9.out⟩
set_option maxRecDepth 100000 in
set_option maxHeartbeats 4000000 in
theorem item_n011 (n : Int) (b : Bytes) (A : Option Addr) (m c : Nat) (h0 : 0 ≤ n) (h64 : n < 18446744073709551616) (hn : (n == 0) = false) (hm : ((m : Int) == 0) = true) (hb : (b == []) = true) (w : World) :
    Calls Try.prog 59 #[.agg #[.int .u8 110, .slice none 0 0], .agg #[.int .u64 n, .string (bs b), .slice A m c]] w fun e w' => e = .returned (.tuple #[.agg #[.bool false, .string (bs (digs n.toNat)), .slice none 0 0], .bool true]) ∧ Below w.heap.size w w' := by
  have hB : Below w.heap.size w (((w.alloc (.cells #[.int .u8 110, .slice none 0 0] 103)).alloc (.cells #[.int .u64 n, .string (bs b), .slice A m c] 72)).alloc (.cells #[.bool false, .string ⟨#[]⟩, .slice none 0 0] 45)) := (((Below.refl _ _).alloc (Nat.le_refl _) _).alloc (by simp) _).alloc (by simp; omega) _
  have hI := heap_alloc_new ((w.alloc (.cells #[.int .u8 110, .slice none 0 0] 103)).alloc (.cells #[.int .u64 n, .string (bs b), .slice A m c] 72)) (.cells #[.bool false, .string ⟨#[]⟩, .slice none 0 0] 45)
  have hF := (heap_alloc_old ((w.alloc (.cells #[.int .u8 110, .slice none 0 0] 103)).alloc (.cells #[.int .u64 n, .string (bs b), .slice A m c] 72)) (.cells #[.bool false, .string ⟨#[]⟩, .slice none 0 0] 45) (by simp)).trans (heap_alloc_new (w.alloc (.cells #[.int .u8 110, .slice none 0 0] 103)) (.cells #[.int .u64 n, .string (bs b), .slice A m c] 72))
  have hKd := (heap_alloc_old ((w.alloc (.cells #[.int .u8 110, .slice none 0 0] 103)).alloc (.cells #[.int .u64 n, .string (bs b), .slice A m c] 72)) (.cells #[.bool false, .string ⟨#[]⟩, .slice none 0 0] 45) (by simp; omega)).trans ((heap_alloc_old (w.alloc (.cells #[.int .u8 110, .slice none 0 0] 103)) (.cells #[.int .u64 n, .string (bs b), .slice A m c] 72) (by simp)).trans (heap_alloc_new w _))
  simp only [World.size_alloc] at hI hF hKd
  have HB := Lib.hid hB
  have HI := Lib.hid hI
  have HF := Lib.hid hF
  have HK := Lib.hid hKd
  clear hB hI hF hKd
  go_enter Try.func59, Try.ntmps59
  go_wp2_with fail
  have hbd : Below (((w.alloc (.cells #[.int .u8 110, .slice none 0 0] 103)).alloc (.cells #[.int .u64 n, .string (bs b), .slice A m c] 72)).alloc (.cells #[.bool false, .string ⟨#[]⟩, .slice none 0 0] 45)).heap.size (((w.alloc (.cells #[.int .u8 110, .slice none 0 0] 103)).alloc (.cells #[.int .u64 n, .string (bs b), .slice A m c] 72)).alloc (.cells #[.bool false, .string ⟨#[]⟩, .slice none 0 0] 45)) (((w.alloc (.cells #[.int .u8 110, .slice none 0 0] 103)).alloc (.cells #[.int .u64 n, .string (bs b), .slice A m c] 72)).alloc (.cells #[.bool false, .string ⟨#[]⟩, .slice none 0 0] 45)).drew := (Below.refl _ _).drew
  have hKd := (hbd.block _ (Array.getElem?_eq_some_iff.1 HK.out).1).trans HK.out
  have hF := (hbd.block _ (Array.getElem?_eq_some_iff.1 HF.out).1).trans HF.out
  have hI := (hbd.block _ (Array.getElem?_eq_some_iff.1 HI.out).1).trans HI.out
  have hB := below_call HB.out HB.out.size hbd
  refine wp_region_R [(99, fun w' => w'.heap[w.heap.size]? = some (.cells #[.int .u8 110, .slice none 0 0] 103 (0, 0)) ∧ w'.heap[w.heap.size + 1]? = some (.cells #[.int .u64 n, .string (bs b), .slice A m c] 72 (0, 0)))] (by kernel_rfl) ?_
  generalize (((w.alloc (.cells #[.int .u8 110, .slice none 0 0] 103)).alloc (.cells #[.int .u64 n, .string (bs b), .slice A m c] 72)).alloc (.cells #[.bool false, .string ⟨#[]⟩, .slice none 0 0] 45)).drew = w3 at hKd hF hI hB ⊢
  clear hbd HK HF HI HB
  refine R_p (i := 0) (v := .pointer (some ⟨w.heap.size + 1, 0, none⟩)) (Meets.here ⟨hKd, hF⟩ Meets.nil) ?_
  refine R_l (i := 1) (v := .int .u64 n) 99 _ List.mem_cons_self rfl (yieldsIf_load_cell rfl rfl rfl (fun w' hS => rc hS.2 0 rfl) Try.underlying22 rfl) (Meets.here ⟨hKd, hF⟩ Meets.nil) ?_
  refine R_p (i := 3) (v := .pointer (some ⟨w.heap.size + 1, 1, none⟩)) (Meets.here ⟨hKd, hF⟩ Meets.nil) ?_
  refine R_l (i := 4) (v := .string (bs b)) 99 _ List.mem_cons_self rfl (yieldsIf_load_cell rfl rfl rfl (fun w' hS => rc hS.2 1 rfl) Try.underlying9 rfl) (Meets.here ⟨hKd, hF⟩ Meets.nil) ?_
  refine R_p (i := 5) (v := .bool true) (Meets.here ⟨hKd, hF⟩ Meets.nil) ?_
  refine R_now 2 fun K hK => ?_
  go_simp
  refine (Number_any n h0 h64 _).mono ?_
  rintro e w4 ⟨rfl, hb4⟩
  replace hKd := (hb4.block _ (Array.getElem?_eq_some_iff.1 hKd).1).trans hKd
  replace hF := (hb4.block _ (Array.getElem?_eq_some_iff.1 hF).1).trans hF
  replace hI := (hb4.block _ (Array.getElem?_eq_some_iff.1 hI).1).trans hI
  replace hB := below_call hB hB.size hb4
  clear hb4
  refine hK.out _ _ (Meets.here ⟨hKd, hF⟩ Meets.nil) (fun hMeets => ?_)
  clear hK K hMeets
  refine lay_R ?_
  refine R_p (i := 6) (v := .bool true) (Meets.here ⟨hKd, hF⟩ Meets.nil) ?_
  refine R_p (i := 7) (v := .pointer (some ⟨w.heap.size + 1, 2, none⟩)) (Meets.here ⟨hKd, hF⟩ Meets.nil) ?_
  refine R_l (i := 8) (v := .slice A m c) 99 _ List.mem_cons_self rfl (yieldsIf_load_cell rfl rfl rfl (fun w' hS => rc hS.2 2 rfl) Try.underlying69 rfl) (Meets.here ⟨hKd, hF⟩ Meets.nil) ?_
  refine R_p (i := 9) (v := .int .i64 (m : Int)) (Meets.here ⟨hKd, hF⟩ Meets.nil) ?_
  refine R_p (i := 10) (v := .bool true) (Meets.here ⟨hKd, hF⟩ Meets.nil) ?_
  refine R_p (i := 11) (v := .bool true) (Meets.here ⟨hKd, hF⟩ Meets.nil) ?_
  have d0 : w4.cell? ⟨w.heap.size + 1 + 1, 0, none⟩ = some (.bool false) := rc0 hI
  have d1 : w4.cell? ⟨w.heap.size + 1 + 1, 1, none⟩ = some (.string ⟨#[]⟩) := rc1 hI
  have d2 : w4.cell? ⟨w.heap.size + 1 + 1, 2, none⟩ = some (.slice none 0 0) := rc2 hI
  have f0 := rf hI 0
  have f1 := rf hI 1
  have f2 := rf hI 2
  refine R_now 12 fun K hK => ?_
  obtain ⟨W9, hW9⟩ : ∃ W9, W9 = (((w4.setCell ⟨w.heap.size + 1 + 1, 0, none⟩ (.bool false)).setCell ⟨w.heap.size + 1 + 1, 1, none⟩ (.string (bs (digs n.toNat)))).setCell ⟨w.heap.size + 1 + 1, 2, none⟩ (.slice none 0 0)) := ⟨_, rfl⟩
  have hI9 : W9.heap[w.heap.size + 1 + 1]? = some (.cells #[.bool false, .string (bs (digs n.toNat)), .slice none 0 0] 45 (0, 0)) := by rw [hW9]; exact heap_setCell_here (heap_setCell_here (heap_setCell_here hI _) _) _
  have hF9 : W9.heap[w.heap.size + 1]? = some (.cells #[.int .u64 n, .string (bs b), .slice A m c] 72 (0, 0)) := by rw [hW9]; exact (heap_set_ne (by omega) _).trans ((heap_set_ne (by omega) _).trans ((heap_set_ne (by omega) _).trans hF))
  have hKd9 : W9.heap[w.heap.size]? = some (.cells #[.int .u8 110, .slice none 0 0] 103 (0, 0)) := by rw [hW9]; exact (heap_set_ne (by omega) _).trans ((heap_set_ne (by omega) _).trans ((heap_set_ne (by omega) _).trans hKd))
  have hB9 : Below w.heap.size w W9 := by rw [hW9]; exact ((hB.setCell (p := ⟨w.heap.size + 1 + 1, _, _⟩) (by simp; omega) _).setCell (p := ⟨w.heap.size + 1 + 1, _, _⟩) (by simp; omega) _).setCell (p := ⟨w.heap.size + 1 + 1, _, _⟩) (by simp; omega) _
  have HI9 := Lib.hid hI9
  have HB9 := Lib.hid hB9
  clear hI9 hB9
  go_simp
  rw [← hW9]
  clear hW9 d0 d1 d2 f0 f1 f2
  refine hK.out _ _ (Meets.here ⟨hKd9, hF9⟩ Meets.nil) (fun hMeets => ?_)
  clear hK K hMeets
  refine lay_R ?_
  refine R_p (i := 13) (v := .bool true) (Meets.here ⟨hKd9, hF9⟩ Meets.nil) ?_
  refine R_done (by kernel_rfl) ?_ _
  go_wp2_with fail
  exact bodyPost_ret (v := .tuple #[.agg #[.bool false, .string (bs (digs n.toNat)), .slice none 0 0], .bool true]) (results_row_tmp rfl _ _ (w.heap.size + 1 + 1) _ _ _ _ rfl HI9.out _ rfl Try.underlying45 rfl infoI) rfl ⟨rfl, HB9.out⟩
set_option maxRecDepth 100000 in
set_option maxHeartbeats 4000000 in
theorem item_n010 (n : Int) (b : Bytes) (A : Option Addr) (m c : Nat) (h0 : 0 ≤ n) (h64 : n < 18446744073709551616) (hn : (n == 0) = false) (hm : ((m : Int) == 0) = true) (hb : (b == []) = false) (w : World) :
    Calls Try.prog 59 #[.agg #[.int .u8 110, .slice none 0 0], .agg #[.int .u64 n, .string (bs b), .slice A m c]] w fun e w' => e = .returned (.tuple #[.agg #[.bool false, .string (bs (digs n.toNat)), .slice none 0 0], .bool false]) ∧ Below w.heap.size w w' := by
  have hB : Below w.heap.size w (((w.alloc (.cells #[.int .u8 110, .slice none 0 0] 103)).alloc (.cells #[.int .u64 n, .string (bs b), .slice A m c] 72)).alloc (.cells #[.bool false, .string ⟨#[]⟩, .slice none 0 0] 45)) := (((Below.refl _ _).alloc (Nat.le_refl _) _).alloc (by simp) _).alloc (by simp; omega) _
  have hI := heap_alloc_new ((w.alloc (.cells #[.int .u8 110, .slice none 0 0] 103)).alloc (.cells #[.int .u64 n, .string (bs b), .slice A m c] 72)) (.cells #[.bool false, .string ⟨#[]⟩, .slice none 0 0] 45)
  have hF := (heap_alloc_old ((w.alloc (.cells #[.int .u8 110, .slice none 0 0] 103)).alloc (.cells #[.int .u64 n, .string (bs b), .slice A m c] 72)) (.cells #[.bool false, .string ⟨#[]⟩, .slice none 0 0] 45) (by simp)).trans (heap_alloc_new (w.alloc (.cells #[.int .u8 110, .slice none 0 0] 103)) (.cells #[.int .u64 n, .string (bs b), .slice A m c] 72))
  have hKd := (heap_alloc_old ((w.alloc (.cells #[.int .u8 110, .slice none 0 0] 103)).alloc (.cells #[.int .u64 n, .string (bs b), .slice A m c] 72)) (.cells #[.bool false, .string ⟨#[]⟩, .slice none 0 0] 45) (by simp; omega)).trans ((heap_alloc_old (w.alloc (.cells #[.int .u8 110, .slice none 0 0] 103)) (.cells #[.int .u64 n, .string (bs b), .slice A m c] 72) (by simp)).trans (heap_alloc_new w _))
  simp only [World.size_alloc] at hI hF hKd
  have HB := Lib.hid hB
  have HI := Lib.hid hI
  have HF := Lib.hid hF
  have HK := Lib.hid hKd
  clear hB hI hF hKd
  go_enter Try.func59, Try.ntmps59
  go_wp2_with fail
  have hbd : Below (((w.alloc (.cells #[.int .u8 110, .slice none 0 0] 103)).alloc (.cells #[.int .u64 n, .string (bs b), .slice A m c] 72)).alloc (.cells #[.bool false, .string ⟨#[]⟩, .slice none 0 0] 45)).heap.size (((w.alloc (.cells #[.int .u8 110, .slice none 0 0] 103)).alloc (.cells #[.int .u64 n, .string (bs b), .slice A m c] 72)).alloc (.cells #[.bool false, .string ⟨#[]⟩, .slice none 0 0] 45)) (((w.alloc (.cells #[.int .u8 110, .slice none 0 0] 103)).alloc (.cells #[.int .u64 n, .string (bs b), .slice A m c] 72)).alloc (.cells #[.bool false, .string ⟨#[]⟩, .slice none 0 0] 45)).drew := (Below.refl _ _).drew
  have hKd := (hbd.block _ (Array.getElem?_eq_some_iff.1 HK.out).1).trans HK.out
  have hF := (hbd.block _ (Array.getElem?_eq_some_iff.1 HF.out).1).trans HF.out
  have hI := (hbd.block _ (Array.getElem?_eq_some_iff.1 HI.out).1).trans HI.out
  have hB := below_call HB.out HB.out.size hbd
  refine wp_region_R [(99, fun w' => w'.heap[w.heap.size]? = some (.cells #[.int .u8 110, .slice none 0 0] 103 (0, 0)) ∧ w'.heap[w.heap.size + 1]? = some (.cells #[.int .u64 n, .string (bs b), .slice A m c] 72 (0, 0)))] (by kernel_rfl) ?_
  generalize (((w.alloc (.cells #[.int .u8 110, .slice none 0 0] 103)).alloc (.cells #[.int .u64 n, .string (bs b), .slice A m c] 72)).alloc (.cells #[.bool false, .string ⟨#[]⟩, .slice none 0 0] 45)).drew = w3 at hKd hF hI hB ⊢
  clear hbd HK HF HI HB
  refine R_p (i := 0) (v := .pointer (some ⟨w.heap.size + 1, 0, none⟩)) (Meets.here ⟨hKd, hF⟩ Meets.nil) ?_
  refine R_l (i := 1) (v := .int .u64 n) 99 _ List.mem_cons_self rfl (yieldsIf_load_cell rfl rfl rfl (fun w' hS => rc hS.2 0 rfl) Try.underlying22 rfl) (Meets.here ⟨hKd, hF⟩ Meets.nil) ?_
  refine R_p (i := 3) (v := .pointer (some ⟨w.heap.size + 1, 1, none⟩)) (Meets.here ⟨hKd, hF⟩ Meets.nil) ?_
  refine R_l (i := 4) (v := .string (bs b)) 99 _ List.mem_cons_self rfl (yieldsIf_load_cell rfl rfl rfl (fun w' hS => rc hS.2 1 rfl) Try.underlying9 rfl) (Meets.here ⟨hKd, hF⟩ Meets.nil) ?_
  refine R_p (i := 5) (v := .bool false) (Meets.here ⟨hKd, hF⟩ Meets.nil) ?_
  refine R_now 2 fun K hK => ?_
  go_simp
  refine (Number_any n h0 h64 _).mono ?_
  rintro e w4 ⟨rfl, hb4⟩
  replace hKd := (hb4.block _ (Array.getElem?_eq_some_iff.1 hKd).1).trans hKd
  replace hF := (hb4.block _ (Array.getElem?_eq_some_iff.1 hF).1).trans hF
  replace hI := (hb4.block _ (Array.getElem?_eq_some_iff.1 hI).1).trans hI
  replace hB := below_call hB hB.size hb4
  clear hb4
  refine hK.out _ _ (Meets.here ⟨hKd, hF⟩ Meets.nil) (fun hMeets => ?_)
  clear hK K hMeets
  refine lay_R ?_
  refine R_p (i := 6) (v := .bool false) (Meets.here ⟨hKd, hF⟩ Meets.nil) ?_
  refine R_s (i := 7) (Meets.here ⟨hKd, hF⟩ Meets.nil) ?_
  refine R_s (i := 8) (Meets.here ⟨hKd, hF⟩ Meets.nil) ?_
  refine R_s (i := 9) (Meets.here ⟨hKd, hF⟩ Meets.nil) ?_
  refine R_s (i := 10) (Meets.here ⟨hKd, hF⟩ Meets.nil) ?_
  refine R_p (i := 11) (v := .bool false) (Meets.here ⟨hKd, hF⟩ Meets.nil) ?_
  have d0 : w4.cell? ⟨w.heap.size + 1 + 1, 0, none⟩ = some (.bool false) := rc0 hI
  have d1 : w4.cell? ⟨w.heap.size + 1 + 1, 1, none⟩ = some (.string ⟨#[]⟩) := rc1 hI
  have d2 : w4.cell? ⟨w.heap.size + 1 + 1, 2, none⟩ = some (.slice none 0 0) := rc2 hI
  have f0 := rf hI 0
  have f1 := rf hI 1
  have f2 := rf hI 2
  refine R_now 12 fun K hK => ?_
  obtain ⟨W9, hW9⟩ : ∃ W9, W9 = (((w4.setCell ⟨w.heap.size + 1 + 1, 0, none⟩ (.bool false)).setCell ⟨w.heap.size + 1 + 1, 1, none⟩ (.string (bs (digs n.toNat)))).setCell ⟨w.heap.size + 1 + 1, 2, none⟩ (.slice none 0 0)) := ⟨_, rfl⟩
  have hI9 : W9.heap[w.heap.size + 1 + 1]? = some (.cells #[.bool false, .string (bs (digs n.toNat)), .slice none 0 0] 45 (0, 0)) := by rw [hW9]; exact heap_setCell_here (heap_setCell_here (heap_setCell_here hI _) _) _
  have hF9 : W9.heap[w.heap.size + 1]? = some (.cells #[.int .u64 n, .string (bs b), .slice A m c] 72 (0, 0)) := by rw [hW9]; exact (heap_set_ne (by omega) _).trans ((heap_set_ne (by omega) _).trans ((heap_set_ne (by omega) _).trans hF))
  have hKd9 : W9.heap[w.heap.size]? = some (.cells #[.int .u8 110, .slice none 0 0] 103 (0, 0)) := by rw [hW9]; exact (heap_set_ne (by omega) _).trans ((heap_set_ne (by omega) _).trans ((heap_set_ne (by omega) _).trans hKd))
  have hB9 : Below w.heap.size w W9 := by rw [hW9]; exact ((hB.setCell (p := ⟨w.heap.size + 1 + 1, _, _⟩) (by simp; omega) _).setCell (p := ⟨w.heap.size + 1 + 1, _, _⟩) (by simp; omega) _).setCell (p := ⟨w.heap.size + 1 + 1, _, _⟩) (by simp; omega) _
  have HI9 := Lib.hid hI9
  have HB9 := Lib.hid hB9
  clear hI9 hB9
  go_simp
  rw [← hW9]
  clear hW9 d0 d1 d2 f0 f1 f2
  refine hK.out _ _ (Meets.here ⟨hKd9, hF9⟩ Meets.nil) (fun hMeets => ?_)
  clear hK K hMeets
  refine lay_R ?_
  refine R_p (i := 13) (v := .bool false) (Meets.here ⟨hKd9, hF9⟩ Meets.nil) ?_
  refine R_done (by kernel_rfl) ?_ _
  go_wp2_with fail
  exact bodyPost_ret (v := .tuple #[.agg #[.bool false, .string (bs (digs n.toNat)), .slice none 0 0], .bool false]) (results_row_tmp rfl _ _ (w.heap.size + 1 + 1) _ _ _ _ rfl HI9.out _ rfl Try.underlying45 rfl infoI) rfl ⟨rfl, HB9.out⟩
set_option maxRecDepth 100000 in
set_option maxHeartbeats 4000000 in
theorem item_n001 (n : Int) (b : Bytes) (A : Option Addr) (m c : Nat) (h0 : 0 ≤ n) (h64 : n < 18446744073709551616) (hn : (n == 0) = false) (hm : ((m : Int) == 0) = false) (hb : (b == []) = true) (w : World) :
    Calls Try.prog 59 #[.agg #[.int .u8 110, .slice none 0 0], .agg #[.int .u64 n, .string (bs b), .slice A m c]] w fun e w' => e = .returned (.tuple #[.agg #[.bool false, .string (bs (digs n.toNat)), .slice none 0 0], .bool false]) ∧ Below w.heap.size w w' := by
  have hB : Below w.heap.size w (((w.alloc (.cells #[.int .u8 110, .slice none 0 0] 103)).alloc (.cells #[.int .u64 n, .string (bs b), .slice A m c] 72)).alloc (.cells #[.bool false, .string ⟨#[]⟩, .slice none 0 0] 45)) := (((Below.refl _ _).alloc (Nat.le_refl _) _).alloc (by simp) _).alloc (by simp; omega) _
  have hI := heap_alloc_new ((w.alloc (.cells #[.int .u8 110, .slice none 0 0] 103)).alloc (.cells #[.int .u64 n, .string (bs b), .slice A m c] 72)) (.cells #[.bool false, .string ⟨#[]⟩, .slice none 0 0] 45)
  have hF := (heap_alloc_old ((w.alloc (.cells #[.int .u8 110, .slice none 0 0] 103)).alloc (.cells #[.int .u64 n, .string (bs b), .slice A m c] 72)) (.cells #[.bool false, .string ⟨#[]⟩, .slice none 0 0] 45) (by simp)).trans (heap_alloc_new (w.alloc (.cells #[.int .u8 110, .slice none 0 0] 103)) (.cells #[.int .u64 n, .string (bs b), .slice A m c] 72))
  have hKd := (heap_alloc_old ((w.alloc (.cells #[.int .u8 110, .slice none 0 0] 103)).alloc (.cells #[.int .u64 n, .string (bs b), .slice A m c] 72)) (.cells #[.bool false, .string ⟨#[]⟩, .slice none 0 0] 45) (by simp; omega)).trans ((heap_alloc_old (w.alloc (.cells #[.int .u8 110, .slice none 0 0] 103)) (.cells #[.int .u64 n, .string (bs b), .slice A m c] 72) (by simp)).trans (heap_alloc_new w _))
  simp only [World.size_alloc] at hI hF hKd
  have HB := Lib.hid hB
  have HI := Lib.hid hI
  have HF := Lib.hid hF
  have HK := Lib.hid hKd
  clear hB hI hF hKd
  go_enter Try.func59, Try.ntmps59
  go_wp2_with fail
  have hbd : Below (((w.alloc (.cells #[.int .u8 110, .slice none 0 0] 103)).alloc (.cells #[.int .u64 n, .string (bs b), .slice A m c] 72)).alloc (.cells #[.bool false, .string ⟨#[]⟩, .slice none 0 0] 45)).heap.size (((w.alloc (.cells #[.int .u8 110, .slice none 0 0] 103)).alloc (.cells #[.int .u64 n, .string (bs b), .slice A m c] 72)).alloc (.cells #[.bool false, .string ⟨#[]⟩, .slice none 0 0] 45)) (((w.alloc (.cells #[.int .u8 110, .slice none 0 0] 103)).alloc (.cells #[.int .u64 n, .string (bs b), .slice A m c] 72)).alloc (.cells #[.bool false, .string ⟨#[]⟩, .slice none 0 0] 45)).drew := (Below.refl _ _).drew
  have hKd := (hbd.block _ (Array.getElem?_eq_some_iff.1 HK.out).1).trans HK.out
  have hF := (hbd.block _ (Array.getElem?_eq_some_iff.1 HF.out).1).trans HF.out
  have hI := (hbd.block _ (Array.getElem?_eq_some_iff.1 HI.out).1).trans HI.out
  have hB := below_call HB.out HB.out.size hbd
  refine wp_region_R [(99, fun w' => w'.heap[w.heap.size]? = some (.cells #[.int .u8 110, .slice none 0 0] 103 (0, 0)) ∧ w'.heap[w.heap.size + 1]? = some (.cells #[.int .u64 n, .string (bs b), .slice A m c] 72 (0, 0)))] (by kernel_rfl) ?_
  generalize (((w.alloc (.cells #[.int .u8 110, .slice none 0 0] 103)).alloc (.cells #[.int .u64 n, .string (bs b), .slice A m c] 72)).alloc (.cells #[.bool false, .string ⟨#[]⟩, .slice none 0 0] 45)).drew = w3 at hKd hF hI hB ⊢
  clear hbd HK HF HI HB
  refine R_p (i := 0) (v := .pointer (some ⟨w.heap.size + 1, 0, none⟩)) (Meets.here ⟨hKd, hF⟩ Meets.nil) ?_
  refine R_l (i := 1) (v := .int .u64 n) 99 _ List.mem_cons_self rfl (yieldsIf_load_cell rfl rfl rfl (fun w' hS => rc hS.2 0 rfl) Try.underlying22 rfl) (Meets.here ⟨hKd, hF⟩ Meets.nil) ?_
  refine R_p (i := 3) (v := .pointer (some ⟨w.heap.size + 1, 1, none⟩)) (Meets.here ⟨hKd, hF⟩ Meets.nil) ?_
  refine R_l (i := 4) (v := .string (bs b)) 99 _ List.mem_cons_self rfl (yieldsIf_load_cell rfl rfl rfl (fun w' hS => rc hS.2 1 rfl) Try.underlying9 rfl) (Meets.here ⟨hKd, hF⟩ Meets.nil) ?_
  refine R_p (i := 5) (v := .bool true) (Meets.here ⟨hKd, hF⟩ Meets.nil) ?_
  refine R_now 2 fun K hK => ?_
  go_simp
  refine (Number_any n h0 h64 _).mono ?_
  rintro e w4 ⟨rfl, hb4⟩
  replace hKd := (hb4.block _ (Array.getElem?_eq_some_iff.1 hKd).1).trans hKd
  replace hF := (hb4.block _ (Array.getElem?_eq_some_iff.1 hF).1).trans hF
  replace hI := (hb4.block _ (Array.getElem?_eq_some_iff.1 hI).1).trans hI
  replace hB := below_call hB hB.size hb4
  clear hb4
  refine hK.out _ _ (Meets.here ⟨hKd, hF⟩ Meets.nil) (fun hMeets => ?_)
  clear hK K hMeets
  refine lay_R ?_
  refine R_p (i := 6) (v := .bool true) (Meets.here ⟨hKd, hF⟩ Meets.nil) ?_
  refine R_p (i := 7) (v := .pointer (some ⟨w.heap.size + 1, 2, none⟩)) (Meets.here ⟨hKd, hF⟩ Meets.nil) ?_
  refine R_l (i := 8) (v := .slice A m c) 99 _ List.mem_cons_self rfl (yieldsIf_load_cell rfl rfl rfl (fun w' hS => rc hS.2 2 rfl) Try.underlying69 rfl) (Meets.here ⟨hKd, hF⟩ Meets.nil) ?_
  refine R_p (i := 9) (v := .int .i64 (m : Int)) (Meets.here ⟨hKd, hF⟩ Meets.nil) ?_
  refine R_p (i := 10) (v := .bool false) (Meets.here ⟨hKd, hF⟩ Meets.nil) ?_
  refine R_p (i := 11) (v := .bool false) (Meets.here ⟨hKd, hF⟩ Meets.nil) ?_
  have d0 : w4.cell? ⟨w.heap.size + 1 + 1, 0, none⟩ = some (.bool false) := rc0 hI
  have d1 : w4.cell? ⟨w.heap.size + 1 + 1, 1, none⟩ = some (.string ⟨#[]⟩) := rc1 hI
  have d2 : w4.cell? ⟨w.heap.size + 1 + 1, 2, none⟩ = some (.slice none 0 0) := rc2 hI
  have f0 := rf hI 0
  have f1 := rf hI 1
  have f2 := rf hI 2
  refine R_now 12 fun K hK => ?_
  obtain ⟨W9, hW9⟩ : ∃ W9, W9 = (((w4.setCell ⟨w.heap.size + 1 + 1, 0, none⟩ (.bool false)).setCell ⟨w.heap.size + 1 + 1, 1, none⟩ (.string (bs (digs n.toNat)))).setCell ⟨w.heap.size + 1 + 1, 2, none⟩ (.slice none 0 0)) := ⟨_, rfl⟩
  have hI9 : W9.heap[w.heap.size + 1 + 1]? = some (.cells #[.bool false, .string (bs (digs n.toNat)), .slice none 0 0] 45 (0, 0)) := by rw [hW9]; exact heap_setCell_here (heap_setCell_here (heap_setCell_here hI _) _) _
  have hF9 : W9.heap[w.heap.size + 1]? = some (.cells #[.int .u64 n, .string (bs b), .slice A m c] 72 (0, 0)) := by rw [hW9]; exact (heap_set_ne (by omega) _).trans ((heap_set_ne (by omega) _).trans ((heap_set_ne (by omega) _).trans hF))
  have hKd9 : W9.heap[w.heap.size]? = some (.cells #[.int .u8 110, .slice none 0 0] 103 (0, 0)) := by rw [hW9]; exact (heap_set_ne (by omega) _).trans ((heap_set_ne (by omega) _).trans ((heap_set_ne (by omega) _).trans hKd))
  have hB9 : Below w.heap.size w W9 := by rw [hW9]; exact ((hB.setCell (p := ⟨w.heap.size + 1 + 1, _, _⟩) (by simp; omega) _).setCell (p := ⟨w.heap.size + 1 + 1, _, _⟩) (by simp; omega) _).setCell (p := ⟨w.heap.size + 1 + 1, _, _⟩) (by simp; omega) _
  have HI9 := Lib.hid hI9
  have HB9 := Lib.hid hB9
  clear hI9 hB9
  go_simp
  rw [← hW9]
  clear hW9 d0 d1 d2 f0 f1 f2
  refine hK.out _ _ (Meets.here ⟨hKd9, hF9⟩ Meets.nil) (fun hMeets => ?_)
  clear hK K hMeets
  refine lay_R ?_
  refine R_p (i := 13) (v := .bool false) (Meets.here ⟨hKd9, hF9⟩ Meets.nil) ?_
  refine R_done (by kernel_rfl) ?_ _
  go_wp2_with fail
  exact bodyPost_ret (v := .tuple #[.agg #[.bool false, .string (bs (digs n.toNat)), .slice none 0 0], .bool false]) (results_row_tmp rfl _ _ (w.heap.size + 1 + 1) _ _ _ _ rfl HI9.out _ rfl Try.underlying45 rfl infoI) rfl ⟨rfl, HB9.out⟩
set_option maxRecDepth 100000 in
set_option maxHeartbeats 4000000 in
theorem item_n000 (n : Int) (b : Bytes) (A : Option Addr) (m c : Nat) (h0 : 0 ≤ n) (h64 : n < 18446744073709551616) (hn : (n == 0) = false) (hm : ((m : Int) == 0) = false) (hb : (b == []) = false) (w : World) :
    Calls Try.prog 59 #[.agg #[.int .u8 110, .slice none 0 0], .agg #[.int .u64 n, .string (bs b), .slice A m c]] w fun e w' => e = .returned (.tuple #[.agg #[.bool false, .string (bs (digs n.toNat)), .slice none 0 0], .bool false]) ∧ Below w.heap.size w w' := by
  have hB : Below w.heap.size w (((w.alloc (.cells #[.int .u8 110, .slice none 0 0] 103)).alloc (.cells #[.int .u64 n, .string (bs b), .slice A m c] 72)).alloc (.cells #[.bool false, .string ⟨#[]⟩, .slice none 0 0] 45)) := (((Below.refl _ _).alloc (Nat.le_refl _) _).alloc (by simp) _).alloc (by simp; omega) _
  have hI := heap_alloc_new ((w.alloc (.cells #[.int .u8 110, .slice none 0 0] 103)).alloc (.cells #[.int .u64 n, .string (bs b), .slice A m c] 72)) (.cells #[.bool false, .string ⟨#[]⟩, .slice none 0 0] 45)
  have hF := (heap_alloc_old ((w.alloc (.cells #[.int .u8 110, .slice none 0 0] 103)).alloc (.cells #[.int .u64 n, .string (bs b), .slice A m c] 72)) (.cells #[.bool false, .string ⟨#[]⟩, .slice none 0 0] 45) (by simp)).trans (heap_alloc_new (w.alloc (.cells #[.int .u8 110, .slice none 0 0] 103)) (.cells #[.int .u64 n, .string (bs b), .slice A m c] 72))
  have hKd := (heap_alloc_old ((w.alloc (.cells #[.int .u8 110, .slice none 0 0] 103)).alloc (.cells #[.int .u64 n, .string (bs b), .slice A m c] 72)) (.cells #[.bool false, .string ⟨#[]⟩, .slice none 0 0] 45) (by simp; omega)).trans ((heap_alloc_old (w.alloc (.cells #[.int .u8 110, .slice none 0 0] 103)) (.cells #[.int .u64 n, .string (bs b), .slice A m c] 72) (by simp)).trans (heap_alloc_new w _))
  simp only [World.size_alloc] at hI hF hKd
  have HB := Lib.hid hB
  have HI := Lib.hid hI
  have HF := Lib.hid hF
  have HK := Lib.hid hKd
  clear hB hI hF hKd
  go_enter Try.func59, Try.ntmps59
  go_wp2_with fail
  have hbd : Below (((w.alloc (.cells #[.int .u8 110, .slice none 0 0] 103)).alloc (.cells #[.int .u64 n, .string (bs b), .slice A m c] 72)).alloc (.cells #[.bool false, .string ⟨#[]⟩, .slice none 0 0] 45)).heap.size (((w.alloc (.cells #[.int .u8 110, .slice none 0 0] 103)).alloc (.cells #[.int .u64 n, .string (bs b), .slice A m c] 72)).alloc (.cells #[.bool false, .string ⟨#[]⟩, .slice none 0 0] 45)) (((w.alloc (.cells #[.int .u8 110, .slice none 0 0] 103)).alloc (.cells #[.int .u64 n, .string (bs b), .slice A m c] 72)).alloc (.cells #[.bool false, .string ⟨#[]⟩, .slice none 0 0] 45)).drew := (Below.refl _ _).drew
  have hKd := (hbd.block _ (Array.getElem?_eq_some_iff.1 HK.out).1).trans HK.out
  have hF := (hbd.block _ (Array.getElem?_eq_some_iff.1 HF.out).1).trans HF.out
  have hI := (hbd.block _ (Array.getElem?_eq_some_iff.1 HI.out).1).trans HI.out
  have hB := below_call HB.out HB.out.size hbd
  refine wp_region_R [(99, fun w' => w'.heap[w.heap.size]? = some (.cells #[.int .u8 110, .slice none 0 0] 103 (0, 0)) ∧ w'.heap[w.heap.size + 1]? = some (.cells #[.int .u64 n, .string (bs b), .slice A m c] 72 (0, 0)))] (by kernel_rfl) ?_
  generalize (((w.alloc (.cells #[.int .u8 110, .slice none 0 0] 103)).alloc (.cells #[.int .u64 n, .string (bs b), .slice A m c] 72)).alloc (.cells #[.bool false, .string ⟨#[]⟩, .slice none 0 0] 45)).drew = w3 at hKd hF hI hB ⊢
  clear hbd HK HF HI HB
  refine R_p (i := 0) (v := .pointer (some ⟨w.heap.size + 1, 0, none⟩)) (Meets.here ⟨hKd, hF⟩ Meets.nil) ?_
  refine R_l (i := 1) (v := .int .u64 n) 99 _ List.mem_cons_self rfl (yieldsIf_load_cell rfl rfl rfl (fun w' hS => rc hS.2 0 rfl) Try.underlying22 rfl) (Meets.here ⟨hKd, hF⟩ Meets.nil) ?_
  refine R_p (i := 3) (v := .pointer (some ⟨w.heap.size + 1, 1, none⟩)) (Meets.here ⟨hKd, hF⟩ Meets.nil) ?_
  refine R_l (i := 4) (v := .string (bs b)) 99 _ List.mem_cons_self rfl (yieldsIf_load_cell rfl rfl rfl (fun w' hS => rc hS.2 1 rfl) Try.underlying9 rfl) (Meets.here ⟨hKd, hF⟩ Meets.nil) ?_
  refine R_p (i := 5) (v := .bool false) (Meets.here ⟨hKd, hF⟩ Meets.nil) ?_
  refine R_now 2 fun K hK => ?_
  go_simp
  refine (Number_any n h0 h64 _).mono ?_
  rintro e w4 ⟨rfl, hb4⟩
  replace hKd := (hb4.block _ (Array.getElem?_eq_some_iff.1 hKd).1).trans hKd
  replace hF := (hb4.block _ (Array.getElem?_eq_some_iff.1 hF).1).trans hF
  replace hI := (hb4.block _ (Array.getElem?_eq_some_iff.1 hI).1).trans hI
  replace hB := below_call hB hB.size hb4
  clear hb4
  refine hK.out _ _ (Meets.here ⟨hKd, hF⟩ Meets.nil) (fun hMeets => ?_)
  clear hK K hMeets
  refine lay_R ?_
  refine R_p (i := 6) (v := .bool false) (Meets.here ⟨hKd, hF⟩ Meets.nil) ?_
  refine R_s (i := 7) (Meets.here ⟨hKd, hF⟩ Meets.nil) ?_
  refine R_s (i := 8) (Meets.here ⟨hKd, hF⟩ Meets.nil) ?_
  refine R_s (i := 9) (Meets.here ⟨hKd, hF⟩ Meets.nil) ?_
  refine R_s (i := 10) (Meets.here ⟨hKd, hF⟩ Meets.nil) ?_
  refine R_p (i := 11) (v := .bool false) (Meets.here ⟨hKd, hF⟩ Meets.nil) ?_
  have d0 : w4.cell? ⟨w.heap.size + 1 + 1, 0, none⟩ = some (.bool false) := rc0 hI
  have d1 : w4.cell? ⟨w.heap.size + 1 + 1, 1, none⟩ = some (.string ⟨#[]⟩) := rc1 hI
  have d2 : w4.cell? ⟨w.heap.size + 1 + 1, 2, none⟩ = some (.slice none 0 0) := rc2 hI
  have f0 := rf hI 0
  have f1 := rf hI 1
  have f2 := rf hI 2
  refine R_now 12 fun K hK => ?_
  obtain ⟨W9, hW9⟩ : ∃ W9, W9 = (((w4.setCell ⟨w.heap.size + 1 + 1, 0, none⟩ (.bool false)).setCell ⟨w.heap.size + 1 + 1, 1, none⟩ (.string (bs (digs n.toNat)))).setCell ⟨w.heap.size + 1 + 1, 2, none⟩ (.slice none 0 0)) := ⟨_, rfl⟩
  have hI9 : W9.heap[w.heap.size + 1 + 1]? = some (.cells #[.bool false, .string (bs (digs n.toNat)), .slice none 0 0] 45 (0, 0)) := by rw [hW9]; exact heap_setCell_here (heap_setCell_here (heap_setCell_here hI _) _) _
  have hF9 : W9.heap[w.heap.size + 1]? = some (.cells #[.int .u64 n, .string (bs b), .slice A m c] 72 (0, 0)) := by rw [hW9]; exact (heap_set_ne (by omega) _).trans ((heap_set_ne (by omega) _).trans ((heap_set_ne (by omega) _).trans hF))
  have hKd9 : W9.heap[w.heap.size]? = some (.cells #[.int .u8 110, .slice none 0 0] 103 (0, 0)) := by rw [hW9]; exact (heap_set_ne (by omega) _).trans ((heap_set_ne (by omega) _).trans ((heap_set_ne (by omega) _).trans hKd))
  have hB9 : Below w.heap.size w W9 := by rw [hW9]; exact ((hB.setCell (p := ⟨w.heap.size + 1 + 1, _, _⟩) (by simp; omega) _).setCell (p := ⟨w.heap.size + 1 + 1, _, _⟩) (by simp; omega) _).setCell (p := ⟨w.heap.size + 1 + 1, _, _⟩) (by simp; omega) _
  have HI9 := Lib.hid hI9
  have HB9 := Lib.hid hB9
  clear hI9 hB9
  go_simp
  rw [← hW9]
  clear hW9 d0 d1 d2 f0 f1 f2
  refine hK.out _ _ (Meets.here ⟨hKd9, hF9⟩ Meets.nil) (fun hMeets => ?_)
  clear hK K hMeets
  refine lay_R ?_
  refine R_p (i := 13) (v := .bool false) (Meets.here ⟨hKd9, hF9⟩ Meets.nil) ?_
  refine R_done (by kernel_rfl) ?_ _
  go_wp2_with fail
  exact bodyPost_ret (v := .tuple #[.agg #[.bool false, .string (bs (digs n.toNat)), .slice none 0 0], .bool false]) (results_row_tmp rfl _ _ (w.heap.size + 1 + 1) _ _ _ _ rfl HI9.out _ rfl Try.underlying45 rfl infoI) rfl ⟨rfl, HB9.out⟩
end Go.Proofs.Ytjanaholcjkceaa
