/- The walks of frame.sizes, and of frame.item at plain kinds, at bytes. -/
import Derived.Test.YtjanaholcjkceaaZ28
import Derived.Test.YtjanaholcjkceaaZ03
namespace Go.Proofs.Ytjanaholcjkceaa
set_option linter.unusedVariables false
set_option linter.unusedSimpArgs false
open Go.RowKit
set_option maxRecDepth 100000 in
set_option maxHeartbeats 4000000 in
theorem item_b111 (n : Int) (b : Bytes) (A : Option Addr) (m c : Nat) (hn : (n == 0) = true) (hm : ((m : Int) == 0) = true) (hl : (b.length : Int) ≤ 64) (w : World) :
    Calls Try.prog 59 #[.agg #[.int .u8 98, .slice none 0 0], .agg #[.int .u64 n, .string (bs b), .slice A m c]] w fun e w' => e = .returned (.tuple #[.agg #[.bool false, .string (bs b), .slice none 0 0], .bool true]) ∧ Below w.heap.size w w' := by
  have hB : Below w.heap.size w (((w.alloc (.cells #[.int .u8 98, .slice none 0 0] 103)).alloc (.cells #[.int .u64 n, .string (bs b), .slice A m c] 72)).alloc (.cells #[.bool false, .string ⟨#[]⟩, .slice none 0 0] 45)) := (((Below.refl _ _).alloc (Nat.le_refl _) _).alloc (by simp) _).alloc (by simp; omega) _
  have hI := heap_alloc_new ((w.alloc (.cells #[.int .u8 98, .slice none 0 0] 103)).alloc (.cells #[.int .u64 n, .string (bs b), .slice A m c] 72)) (.cells #[.bool false, .string ⟨#[]⟩, .slice none 0 0] 45)
  have hF := (heap_alloc_old ((w.alloc (.cells #[.int .u8 98, .slice none 0 0] 103)).alloc (.cells #[.int .u64 n, .string (bs b), .slice A m c] 72)) (.cells #[.bool false, .string ⟨#[]⟩, .slice none 0 0] 45) (by simp)).trans (heap_alloc_new (w.alloc (.cells #[.int .u8 98, .slice none 0 0] 103)) (.cells #[.int .u64 n, .string (bs b), .slice A m c] 72))
  have hKd := (heap_alloc_old ((w.alloc (.cells #[.int .u8 98, .slice none 0 0] 103)).alloc (.cells #[.int .u64 n, .string (bs b), .slice A m c] 72)) (.cells #[.bool false, .string ⟨#[]⟩, .slice none 0 0] 45) (by simp; omega)).trans ((heap_alloc_old (w.alloc (.cells #[.int .u8 98, .slice none 0 0] 103)) (.cells #[.int .u64 n, .string (bs b), .slice A m c] 72) (by simp)).trans (heap_alloc_new w _))
  simp only [World.size_alloc] at hI hF hKd
  have HB := Lib.hid hB
  have HI := Lib.hid hI
  have HF := Lib.hid hF
  have HK := Lib.hid hKd
  clear hB hI hF hKd
  go_enter Try.func59, Try.ntmps59
  go_wp2_with fail
  have hbd : Below (((w.alloc (.cells #[.int .u8 98, .slice none 0 0] 103)).alloc (.cells #[.int .u64 n, .string (bs b), .slice A m c] 72)).alloc (.cells #[.bool false, .string ⟨#[]⟩, .slice none 0 0] 45)).heap.size (((w.alloc (.cells #[.int .u8 98, .slice none 0 0] 103)).alloc (.cells #[.int .u64 n, .string (bs b), .slice A m c] 72)).alloc (.cells #[.bool false, .string ⟨#[]⟩, .slice none 0 0] 45)) (((w.alloc (.cells #[.int .u8 98, .slice none 0 0] 103)).alloc (.cells #[.int .u64 n, .string (bs b), .slice A m c] 72)).alloc (.cells #[.bool false, .string ⟨#[]⟩, .slice none 0 0] 45)).drew := (Below.refl _ _).drew
  have hKd := (hbd.block _ (Array.getElem?_eq_some_iff.1 HK.out).1).trans HK.out
  have hF := (hbd.block _ (Array.getElem?_eq_some_iff.1 HF.out).1).trans HF.out
  have hI := (hbd.block _ (Array.getElem?_eq_some_iff.1 HI.out).1).trans HI.out
  have hB := below_call HB.out HB.out.size hbd
  refine wp_region_R [(99, fun w' => w'.heap[w.heap.size]? = some (.cells #[.int .u8 98, .slice none 0 0] 103 (0, 0)) ∧ w'.heap[w.heap.size + 1]? = some (.cells #[.int .u64 n, .string (bs b), .slice A m c] 72 (0, 0)))] (by kernel_rfl) ?_
  generalize (((w.alloc (.cells #[.int .u8 98, .slice none 0 0] 103)).alloc (.cells #[.int .u64 n, .string (bs b), .slice A m c] 72)).alloc (.cells #[.bool false, .string ⟨#[]⟩, .slice none 0 0] 45)).drew = w3 at hKd hF hI hB ⊢
  clear hbd HK HF HI HB
  refine R_p (i := 0) (v := .pointer (some ⟨w.heap.size + 1, 1, none⟩)) (Meets.here ⟨hKd, hF⟩ Meets.nil) ?_
  refine R_l (i := 1) (v := .string (bs b)) 99 _ List.mem_cons_self rfl (yieldsIf_load_cell rfl rfl rfl (fun w' hS => rc hS.2 1 rfl) Try.underlying9 rfl) (Meets.here ⟨hKd, hF⟩ Meets.nil) ?_
  refine R_p (i := 2) (v := .agg #[.bool false, .string (bs b), .slice none 0 0]) (Meets.here ⟨hKd, hF⟩ Meets.nil) ?_
  refine R_p (i := 3) (v := .bool true) (Meets.here ⟨hKd, hF⟩ Meets.nil) ?_
  refine R_p (i := 4) (v := .bool true) (Meets.here ⟨hKd, hF⟩ Meets.nil) ?_
  refine R_p (i := 5) (v := .pointer (some ⟨w.heap.size + 1, 1, none⟩)) (Meets.here ⟨hKd, hF⟩ Meets.nil) ?_
  refine R_l (i := 6) (v := .string (bs b)) 99 _ List.mem_cons_self rfl (yieldsIf_load_cell rfl rfl rfl (fun w' hS => rc hS.2 1 rfl) Try.underlying9 rfl) (Meets.here ⟨hKd, hF⟩ Meets.nil) ?_
  refine R_p (i := 7) (v := .int .i64 (b.length : Int)) (Meets.here ⟨hKd, hF⟩ Meets.nil) ?_
  refine R_p (i := 8) (v := .bool true) (Meets.here ⟨hKd, hF⟩ Meets.nil) ?_
  refine R_p (i := 9) (v := .bool true) (Meets.here ⟨hKd, hF⟩ Meets.nil) ?_
  have d0 : w3.cell? ⟨w.heap.size + 1 + 1, 0, none⟩ = some (.bool false) := rc0 hI
  have d1 : w3.cell? ⟨w.heap.size + 1 + 1, 1, none⟩ = some (.string ⟨#[]⟩) := rc1 hI
  have d2 : w3.cell? ⟨w.heap.size + 1 + 1, 2, none⟩ = some (.slice none 0 0) := rc2 hI
  have f0 := rf hI 0
  have f1 := rf hI 1
  have f2 := rf hI 2
  refine R_now 10 fun K hK => ?_
  obtain ⟨W9, hW9⟩ : ∃ W9, W9 = (((w3.setCell ⟨w.heap.size + 1 + 1, 0, none⟩ (.bool false)).setCell ⟨w.heap.size + 1 + 1, 1, none⟩ (.string (bs b))).setCell ⟨w.heap.size + 1 + 1, 2, none⟩ (.slice none 0 0)) := ⟨_, rfl⟩
  have hI9 : W9.heap[w.heap.size + 1 + 1]? = some (.cells #[.bool false, .string (bs b), .slice none 0 0] 45 (0, 0)) := by rw [hW9]; exact heap_setCell_here (heap_setCell_here (heap_setCell_here hI _) _) _
  have hF9 : W9.heap[w.heap.size + 1]? = some (.cells #[.int .u64 n, .string (bs b), .slice A m c] 72 (0, 0)) := by rw [hW9]; exact (heap_set_ne (by omega) _).trans ((heap_set_ne (by omega) _).trans ((heap_set_ne (by omega) _).trans hF))
  have hKd9 : W9.heap[w.heap.size]? = some (.cells #[.int .u8 98, .slice none 0 0] 103 (0, 0)) := by rw [hW9]; exact (heap_set_ne (by omega) _).trans ((heap_set_ne (by omega) _).trans ((heap_set_ne (by omega) _).trans hKd))
  have hB9 : Below w.heap.size w W9 := by rw [hW9]; exact ((hB.setCell (p := ⟨w.heap.size + 1 + 1, _, _⟩) (by simp; omega) _).setCell (p := ⟨w.heap.size + 1 + 1, _, _⟩) (by simp; omega) _).setCell (p := ⟨w.heap.size + 1 + 1, _, _⟩) (by simp; omega) _
  have HI9 := Lib.hid hI9
  have HB9 := Lib.hid hB9
  clear hI9 hB9
  go_simp
  rw [← hW9]
  clear hW9 d0 d1 d2 f0 f1 f2
  refine hK.out _ _ (Meets.here ⟨hKd9, hF9⟩ Meets.nil) (fun hMeets => ?_)
  clear hK K hMeets
  refine lay_R ?_
  refine R_p (i := 11) (v := .bool true) (Meets.here ⟨hKd9, hF9⟩ Meets.nil) ?_
  refine R_done (by kernel_rfl) ?_ _
  go_wp2_with fail
  exact bodyPost_ret (v := .tuple #[.agg #[.bool false, .string (bs b), .slice none 0 0], .bool true]) (results_row_tmp rfl _ _ (w.heap.size + 1 + 1) _ _ _ _ rfl HI9.out _ rfl Try.underlying45 rfl infoI) rfl ⟨rfl, HB9.out⟩
set_option maxRecDepth 100000 in
set_option maxHeartbeats 4000000 in
theorem item_b110 (n : Int) (b : Bytes) (A : Option Addr) (m c : Nat) (hn : (n == 0) = true) (hm : ((m : Int) == 0) = true) (hl : ¬ (b.length : Int) ≤ 64) (w : World) :
    Calls Try.prog 59 #[.agg #[.int .u8 98, .slice none 0 0], .agg #[.int .u64 n, .string (bs b), .slice A m c]] w fun e w' => e = .returned (.tuple #[.agg #[.bool false, .string (bs b), .slice none 0 0], .bool false]) ∧ Below w.heap.size w w' := by
  have hB : Below w.heap.size w (((w.alloc (.cells #[.int .u8 98, .slice none 0 0] 103)).alloc (.cells #[.int .u64 n, .string (bs b), .slice A m c] 72)).alloc (.cells #[.bool false, .string ⟨#[]⟩, .slice none 0 0] 45)) := (((Below.refl _ _).alloc (Nat.le_refl _) _).alloc (by simp) _).alloc (by simp; omega) _
  have hI := heap_alloc_new ((w.alloc (.cells #[.int .u8 98, .slice none 0 0] 103)).alloc (.cells #[.int .u64 n, .string (bs b), .slice A m c] 72)) (.cells #[.bool false, .string ⟨#[]⟩, .slice none 0 0] 45)
  have hF := (heap_alloc_old ((w.alloc (.cells #[.int .u8 98, .slice none 0 0] 103)).alloc (.cells #[.int .u64 n, .string (bs b), .slice A m c] 72)) (.cells #[.bool false, .string ⟨#[]⟩, .slice none 0 0] 45) (by simp)).trans (heap_alloc_new (w.alloc (.cells #[.int .u8 98, .slice none 0 0] 103)) (.cells #[.int .u64 n, .string (bs b), .slice A m c] 72))
  have hKd := (heap_alloc_old ((w.alloc (.cells #[.int .u8 98, .slice none 0 0] 103)).alloc (.cells #[.int .u64 n, .string (bs b), .slice A m c] 72)) (.cells #[.bool false, .string ⟨#[]⟩, .slice none 0 0] 45) (by simp; omega)).trans ((heap_alloc_old (w.alloc (.cells #[.int .u8 98, .slice none 0 0] 103)) (.cells #[.int .u64 n, .string (bs b), .slice A m c] 72) (by simp)).trans (heap_alloc_new w _))
  simp only [World.size_alloc] at hI hF hKd
  have HB := Lib.hid hB
  have HI := Lib.hid hI
  have HF := Lib.hid hF
  have HK := Lib.hid hKd
  clear hB hI hF hKd
  go_enter Try.func59, Try.ntmps59
  go_wp2_with fail
  have hbd : Below (((w.alloc (.cells #[.int .u8 98, .slice none 0 0] 103)).alloc (.cells #[.int .u64 n, .string (bs b), .slice A m c] 72)).alloc (.cells #[.bool false, .string ⟨#[]⟩, .slice none 0 0] 45)).heap.size (((w.alloc (.cells #[.int .u8 98, .slice none 0 0] 103)).alloc (.cells #[.int .u64 n, .string (bs b), .slice A m c] 72)).alloc (.cells #[.bool false, .string ⟨#[]⟩, .slice none 0 0] 45)) (((w.alloc (.cells #[.int .u8 98, .slice none 0 0] 103)).alloc (.cells #[.int .u64 n, .string (bs b), .slice A m c] 72)).alloc (.cells #[.bool false, .string ⟨#[]⟩, .slice none 0 0] 45)).drew := (Below.refl _ _).drew
  have hKd := (hbd.block _ (Array.getElem?_eq_some_iff.1 HK.out).1).trans HK.out
  have hF := (hbd.block _ (Array.getElem?_eq_some_iff.1 HF.out).1).trans HF.out
  have hI := (hbd.block _ (Array.getElem?_eq_some_iff.1 HI.out).1).trans HI.out
  have hB := below_call HB.out HB.out.size hbd
  refine wp_region_R [(99, fun w' => w'.heap[w.heap.size]? = some (.cells #[.int .u8 98, .slice none 0 0] 103 (0, 0)) ∧ w'.heap[w.heap.size + 1]? = some (.cells #[.int .u64 n, .string (bs b), .slice A m c] 72 (0, 0)))] (by kernel_rfl) ?_
  generalize (((w.alloc (.cells #[.int .u8 98, .slice none 0 0] 103)).alloc (.cells #[.int .u64 n, .string (bs b), .slice A m c] 72)).alloc (.cells #[.bool false, .string ⟨#[]⟩, .slice none 0 0] 45)).drew = w3 at hKd hF hI hB ⊢
  clear hbd HK HF HI HB
  refine R_p (i := 0) (v := .pointer (some ⟨w.heap.size + 1, 1, none⟩)) (Meets.here ⟨hKd, hF⟩ Meets.nil) ?_
  refine R_l (i := 1) (v := .string (bs b)) 99 _ List.mem_cons_self rfl (yieldsIf_load_cell rfl rfl rfl (fun w' hS => rc hS.2 1 rfl) Try.underlying9 rfl) (Meets.here ⟨hKd, hF⟩ Meets.nil) ?_
  refine R_p (i := 2) (v := .agg #[.bool false, .string (bs b), .slice none 0 0]) (Meets.here ⟨hKd, hF⟩ Meets.nil) ?_
  refine R_p (i := 3) (v := .bool true) (Meets.here ⟨hKd, hF⟩ Meets.nil) ?_
  refine R_p (i := 4) (v := .bool true) (Meets.here ⟨hKd, hF⟩ Meets.nil) ?_
  refine R_p (i := 5) (v := .pointer (some ⟨w.heap.size + 1, 1, none⟩)) (Meets.here ⟨hKd, hF⟩ Meets.nil) ?_
  refine R_l (i := 6) (v := .string (bs b)) 99 _ List.mem_cons_self rfl (yieldsIf_load_cell rfl rfl rfl (fun w' hS => rc hS.2 1 rfl) Try.underlying9 rfl) (Meets.here ⟨hKd, hF⟩ Meets.nil) ?_
  refine R_p (i := 7) (v := .int .i64 (b.length : Int)) (Meets.here ⟨hKd, hF⟩ Meets.nil) ?_
  refine R_p (i := 8) (v := .bool false) (Meets.here ⟨hKd, hF⟩ Meets.nil) ?_
  refine R_p (i := 9) (v := .bool false) (Meets.here ⟨hKd, hF⟩ Meets.nil) ?_
  have d0 : w3.cell? ⟨w.heap.size + 1 + 1, 0, none⟩ = some (.bool false) := rc0 hI
  have d1 : w3.cell? ⟨w.heap.size + 1 + 1, 1, none⟩ = some (.string ⟨#[]⟩) := rc1 hI
  have d2 : w3.cell? ⟨w.heap.size + 1 + 1, 2, none⟩ = some (.slice none 0 0) := rc2 hI
  have f0 := rf hI 0
  have f1 := rf hI 1
  have f2 := rf hI 2
  refine R_now 10 fun K hK => ?_
  obtain ⟨W9, hW9⟩ : ∃ W9, W9 = (((w3.setCell ⟨w.heap.size + 1 + 1, 0, none⟩ (.bool false)).setCell ⟨w.heap.size + 1 + 1, 1, none⟩ (.string (bs b))).setCell ⟨w.heap.size + 1 + 1, 2, none⟩ (.slice none 0 0)) := ⟨_, rfl⟩
  have hI9 : W9.heap[w.heap.size + 1 + 1]? = some (.cells #[.bool false, .string (bs b), .slice none 0 0] 45 (0, 0)) := by rw [hW9]; exact heap_setCell_here (heap_setCell_here (heap_setCell_here hI _) _) _
  have hF9 : W9.heap[w.heap.size + 1]? = some (.cells #[.int .u64 n, .string (bs b), .slice A m c] 72 (0, 0)) := by rw [hW9]; exact (heap_set_ne (by omega) _).trans ((heap_set_ne (by omega) _).trans ((heap_set_ne (by omega) _).trans hF))
  have hKd9 : W9.heap[w.heap.size]? = some (.cells #[.int .u8 98, .slice none 0 0] 103 (0, 0)) := by rw [hW9]; exact (heap_set_ne (by omega) _).trans ((heap_set_ne (by omega) _).trans ((heap_set_ne (by omega) _).trans hKd))
  have hB9 : Below w.heap.size w W9 := by rw [hW9]; exact ((hB.setCell (p := ⟨w.heap.size + 1 + 1, _, _⟩) (by simp; omega) _).setCell (p := ⟨w.heap.size + 1 + 1, _, _⟩) (by simp; omega) _).setCell (p := ⟨w.heap.size + 1 + 1, _, _⟩) (by simp; omega) _
  have HI9 := Lib.hid hI9
  have HB9 := Lib.hid hB9
  clear hI9 hB9
  go_simp
  rw [← hW9]
  clear hW9 d0 d1 d2 f0 f1 f2
  refine hK.out _ _ (Meets.here ⟨hKd9, hF9⟩ Meets.nil) (fun hMeets => ?_)
  clear hK K hMeets
  refine lay_R ?_
  refine R_p (i := 11) (v := .bool false) (Meets.here ⟨hKd9, hF9⟩ Meets.nil) ?_
  refine R_done (by kernel_rfl) ?_ _
  go_wp2_with fail
  exact bodyPost_ret (v := .tuple #[.agg #[.bool false, .string (bs b), .slice none 0 0], .bool false]) (results_row_tmp rfl _ _ (w.heap.size + 1 + 1) _ _ _ _ rfl HI9.out _ rfl Try.underlying45 rfl infoI) rfl ⟨rfl, HB9.out⟩
set_option maxRecDepth 100000 in
set_option maxHeartbeats 4000000 in
theorem item_b100 (n : Int) (b : Bytes) (A : Option Addr) (m c : Nat) (hn : (n == 0) = true) (hm : ((m : Int) == 0) = false) (w : World) :
    Calls Try.prog 59 #[.agg #[.int .u8 98, .slice none 0 0], .agg #[.int .u64 n, .string (bs b), .slice A m c]] w fun e w' => e = .returned (.tuple #[.agg #[.bool false, .string (bs b), .slice none 0 0], .bool false]) ∧ Below w.heap.size w w' := by
  have hB : Below w.heap.size w (((w.alloc (.cells #[.int .u8 98, .slice none 0 0] 103)).alloc (.cells #[.int .u64 n, .string (bs b), .slice A m c] 72)).alloc (.cells #[.bool false, .string ⟨#[]⟩, .slice none 0 0] 45)) := (((Below.refl _ _).alloc (Nat.le_refl _) _).alloc (by simp) _).alloc (by simp; omega) _
  have hI := heap_alloc_new ((w.alloc (.cells #[.int .u8 98, .slice none 0 0] 103)).alloc (.cells #[.int .u64 n, .string (bs b), .slice A m c] 72)) (.cells #[.bool false, .string ⟨#[]⟩, .slice none 0 0] 45)
  have hF := (heap_alloc_old ((w.alloc (.cells #[.int .u8 98, .slice none 0 0] 103)).alloc (.cells #[.int .u64 n, .string (bs b), .slice A m c] 72)) (.cells #[.bool false, .string ⟨#[]⟩, .slice none 0 0] 45) (by simp)).trans (heap_alloc_new (w.alloc (.cells #[.int .u8 98, .slice none 0 0] 103)) (.cells #[.int .u64 n, .string (bs b), .slice A m c] 72))
  have hKd := (heap_alloc_old ((w.alloc (.cells #[.int .u8 98, .slice none 0 0] 103)).alloc (.cells #[.int .u64 n, .string (bs b), .slice A m c] 72)) (.cells #[.bool false, .string ⟨#[]⟩, .slice none 0 0] 45) (by simp; omega)).trans ((heap_alloc_old (w.alloc (.cells #[.int .u8 98, .slice none 0 0] 103)) (.cells #[.int .u64 n, .string (bs b), .slice A m c] 72) (by simp)).trans (heap_alloc_new w _))
  simp only [World.size_alloc] at hI hF hKd
  have HB := Lib.hid hB
  have HI := Lib.hid hI
  have HF := Lib.hid hF
  have HK := Lib.hid hKd
  clear hB hI hF hKd
  go_enter Try.func59, Try.ntmps59
  go_wp2_with fail
  have hbd : Below (((w.alloc (.cells #[.int .u8 98, .slice none 0 0] 103)).alloc (.cells #[.int .u64 n, .string (bs b), .slice A m c] 72)).alloc (.cells #[.bool false, .string ⟨#[]⟩, .slice none 0 0] 45)).heap.size (((w.alloc (.cells #[.int .u8 98, .slice none 0 0] 103)).alloc (.cells #[.int .u64 n, .string (bs b), .slice A m c] 72)).alloc (.cells #[.bool false, .string ⟨#[]⟩, .slice none 0 0] 45)) (((w.alloc (.cells #[.int .u8 98, .slice none 0 0] 103)).alloc (.cells #[.int .u64 n, .string (bs b), .slice A m c] 72)).alloc (.cells #[.bool false, .string ⟨#[]⟩, .slice none 0 0] 45)).drew := (Below.refl _ _).drew
  have hKd := (hbd.block _ (Array.getElem?_eq_some_iff.1 HK.out).1).trans HK.out
  have hF := (hbd.block _ (Array.getElem?_eq_some_iff.1 HF.out).1).trans HF.out
  have hI := (hbd.block _ (Array.getElem?_eq_some_iff.1 HI.out).1).trans HI.out
  have hB := below_call HB.out HB.out.size hbd
  refine wp_region_R [(99, fun w' => w'.heap[w.heap.size]? = some (.cells #[.int .u8 98, .slice none 0 0] 103 (0, 0)) ∧ w'.heap[w.heap.size + 1]? = some (.cells #[.int .u64 n, .string (bs b), .slice A m c] 72 (0, 0)))] (by kernel_rfl) ?_
  generalize (((w.alloc (.cells #[.int .u8 98, .slice none 0 0] 103)).alloc (.cells #[.int .u64 n, .string (bs b), .slice A m c] 72)).alloc (.cells #[.bool false, .string ⟨#[]⟩, .slice none 0 0] 45)).drew = w3 at hKd hF hI hB ⊢
  clear hbd HK HF HI HB
  refine R_p (i := 0) (v := .pointer (some ⟨w.heap.size + 1, 1, none⟩)) (Meets.here ⟨hKd, hF⟩ Meets.nil) ?_
  refine R_l (i := 1) (v := .string (bs b)) 99 _ List.mem_cons_self rfl (yieldsIf_load_cell rfl rfl rfl (fun w' hS => rc hS.2 1 rfl) Try.underlying9 rfl) (Meets.here ⟨hKd, hF⟩ Meets.nil) ?_
  refine R_p (i := 2) (v := .agg #[.bool false, .string (bs b), .slice none 0 0]) (Meets.here ⟨hKd, hF⟩ Meets.nil) ?_
  refine R_p (i := 3) (v := .bool false) (Meets.here ⟨hKd, hF⟩ Meets.nil) ?_
  refine R_p (i := 4) (v := .bool false) (Meets.here ⟨hKd, hF⟩ Meets.nil) ?_
  refine R_s (i := 5) (Meets.here ⟨hKd, hF⟩ Meets.nil) ?_
  refine R_s (i := 6) (Meets.here ⟨hKd, hF⟩ Meets.nil) ?_
  refine R_s (i := 7) (Meets.here ⟨hKd, hF⟩ Meets.nil) ?_
  refine R_s (i := 8) (Meets.here ⟨hKd, hF⟩ Meets.nil) ?_
  refine R_p (i := 9) (v := .bool false) (Meets.here ⟨hKd, hF⟩ Meets.nil) ?_
  have d0 : w3.cell? ⟨w.heap.size + 1 + 1, 0, none⟩ = some (.bool false) := rc0 hI
  have d1 : w3.cell? ⟨w.heap.size + 1 + 1, 1, none⟩ = some (.string ⟨#[]⟩) := rc1 hI
  have d2 : w3.cell? ⟨w.heap.size + 1 + 1, 2, none⟩ = some (.slice none 0 0) := rc2 hI
  have f0 := rf hI 0
  have f1 := rf hI 1
  have f2 := rf hI 2
  refine R_now 10 fun K hK => ?_
  obtain ⟨W9, hW9⟩ : ∃ W9, W9 = (((w3.setCell ⟨w.heap.size + 1 + 1, 0, none⟩ (.bool false)).setCell ⟨w.heap.size + 1 + 1, 1, none⟩ (.string (bs b))).setCell ⟨w.heap.size + 1 + 1, 2, none⟩ (.slice none 0 0)) := ⟨_, rfl⟩
  have hI9 : W9.heap[w.heap.size + 1 + 1]? = some (.cells #[.bool false, .string (bs b), .slice none 0 0] 45 (0, 0)) := by rw [hW9]; exact heap_setCell_here (heap_setCell_here (heap_setCell_here hI _) _) _
  have hF9 : W9.heap[w.heap.size + 1]? = some (.cells #[.int .u64 n, .string (bs b), .slice A m c] 72 (0, 0)) := by rw [hW9]; exact (heap_set_ne (by omega) _).trans ((heap_set_ne (by omega) _).trans ((heap_set_ne (by omega) _).trans hF))
  have hKd9 : W9.heap[w.heap.size]? = some (.cells #[.int .u8 98, .slice none 0 0] 103 (0, 0)) := by rw [hW9]; exact (heap_set_ne (by omega) _).trans ((heap_set_ne (by omega) _).trans ((heap_set_ne (by omega) _).trans hKd))
  have hB9 : Below w.heap.size w W9 := by rw [hW9]; exact ((hB.setCell (p := ⟨w.heap.size + 1 + 1, _, _⟩) (by simp; omega) _).setCell (p := ⟨w.heap.size + 1 + 1, _, _⟩) (by simp; omega) _).setCell (p := ⟨w.heap.size + 1 + 1, _, _⟩) (by simp; omega) _
  have HI9 := Lib.hid hI9
  have HB9 := Lib.hid hB9
  clear hI9 hB9
  go_simp
  rw [← hW9]
  clear hW9 d0 d1 d2 f0 f1 f2
  refine hK.out _ _ (Meets.here ⟨hKd9, hF9⟩ Meets.nil) (fun hMeets => ?_)
  clear hK K hMeets
  refine lay_R ?_
  refine R_p (i := 11) (v := .bool false) (Meets.here ⟨hKd9, hF9⟩ Meets.nil) ?_
  refine R_done (by kernel_rfl) ?_ _
  go_wp2_with fail
  exact bodyPost_ret (v := .tuple #[.agg #[.bool false, .string (bs b), .slice none 0 0], .bool false]) (results_row_tmp rfl _ _ (w.heap.size + 1 + 1) _ _ _ _ rfl HI9.out _ rfl Try.underlying45 rfl infoI) rfl ⟨rfl, HB9.out⟩
set_option maxRecDepth 100000 in
set_option maxHeartbeats 4000000 in
theorem item_b000 (n : Int) (b : Bytes) (A : Option Addr) (m c : Nat) (hn : (n == 0) = false) (w : World) :
    Calls Try.prog 59 #[.agg #[.int .u8 98, .slice none 0 0], .agg #[.int .u64 n, .string (bs b), .slice A m c]] w fun e w' => e = .returned (.tuple #[.agg #[.bool false, .string (bs b), .slice none 0 0], .bool false]) ∧ Below w.heap.size w w' := by
  have hB : Below w.heap.size w (((w.alloc (.cells #[.int .u8 98, .slice none 0 0] 103)).alloc (.cells #[.int .u64 n, .string (bs b), .slice A m c] 72)).alloc (.cells #[.bool false, .string ⟨#[]⟩, .slice none 0 0] 45)) := (((Below.refl _ _).alloc (Nat.le_refl _) _).alloc (by simp) _).alloc (by simp; omega) _
  have hI := heap_alloc_new ((w.alloc (.cells #[.int .u8 98, .slice none 0 0] 103)).alloc (.cells #[.int .u64 n, .string (bs b), .slice A m c] 72)) (.cells #[.bool false, .string ⟨#[]⟩, .slice none 0 0] 45)
  have hF := (heap_alloc_old ((w.alloc (.cells #[.int .u8 98, .slice none 0 0] 103)).alloc (.cells #[.int .u64 n, .string (bs b), .slice A m c] 72)) (.cells #[.bool false, .string ⟨#[]⟩, .slice none 0 0] 45) (by simp)).trans (heap_alloc_new (w.alloc (.cells #[.int .u8 98, .slice none 0 0] 103)) (.cells #[.int .u64 n, .string (bs b), .slice A m c] 72))
  have hKd := (heap_alloc_old ((w.alloc (.cells #[.int .u8 98, .slice none 0 0] 103)).alloc (.cells #[.int .u64 n, .string (bs b), .slice A m c] 72)) (.cells #[.bool false, .string ⟨#[]⟩, .slice none 0 0] 45) (by simp; omega)).trans ((heap_alloc_old (w.alloc (.cells #[.int .u8 98, .slice none 0 0] 103)) (.cells #[.int .u64 n, .string (bs b), .slice A m c] 72) (by simp)).trans (heap_alloc_new w _))
  simp only [World.size_alloc] at hI hF hKd
  have HB := Lib.hid hB
  have HI := Lib.hid hI
  have HF := Lib.hid hF
  have HK := Lib.hid hKd
  clear hB hI hF hKd
  go_enter Try.func59, Try.ntmps59
  go_wp2_with fail
  have hbd : Below (((w.alloc (.cells #[.int .u8 98, .slice none 0 0] 103)).alloc (.cells #[.int .u64 n, .string (bs b), .slice A m c] 72)).alloc (.cells #[.bool false, .string ⟨#[]⟩, .slice none 0 0] 45)).heap.size (((w.alloc (.cells #[.int .u8 98, .slice none 0 0] 103)).alloc (.cells #[.int .u64 n, .string (bs b), .slice A m c] 72)).alloc (.cells #[.bool false, .string ⟨#[]⟩, .slice none 0 0] 45)) (((w.alloc (.cells #[.int .u8 98, .slice none 0 0] 103)).alloc (.cells #[.int .u64 n, .string (bs b), .slice A m c] 72)).alloc (.cells #[.bool false, .string ⟨#[]⟩, .slice none 0 0] 45)).drew := (Below.refl _ _).drew
  have hKd := (hbd.block _ (Array.getElem?_eq_some_iff.1 HK.out).1).trans HK.out
  have hF := (hbd.block _ (Array.getElem?_eq_some_iff.1 HF.out).1).trans HF.out
  have hI := (hbd.block _ (Array.getElem?_eq_some_iff.1 HI.out).1).trans HI.out
  have hB := below_call HB.out HB.out.size hbd
  refine wp_region_R [(99, fun w' => w'.heap[w.heap.size]? = some (.cells #[.int .u8 98, .slice none 0 0] 103 (0, 0)) ∧ w'.heap[w.heap.size + 1]? = some (.cells #[.int .u64 n, .string (bs b), .slice A m c] 72 (0, 0)))] (by kernel_rfl) ?_
  generalize (((w.alloc (.cells #[.int .u8 98, .slice none 0 0] 103)).alloc (.cells #[.int .u64 n, .string (bs b), .slice A m c] 72)).alloc (.cells #[.bool false, .string ⟨#[]⟩, .slice none 0 0] 45)).drew = w3 at hKd hF hI hB ⊢
  clear hbd HK HF HI HB
  refine R_p (i := 0) (v := .pointer (some ⟨w.heap.size + 1, 1, none⟩)) (Meets.here ⟨hKd, hF⟩ Meets.nil) ?_
  refine R_l (i := 1) (v := .string (bs b)) 99 _ List.mem_cons_self rfl (yieldsIf_load_cell rfl rfl rfl (fun w' hS => rc hS.2 1 rfl) Try.underlying9 rfl) (Meets.here ⟨hKd, hF⟩ Meets.nil) ?_
  refine R_p (i := 2) (v := .agg #[.bool false, .string (bs b), .slice none 0 0]) (Meets.here ⟨hKd, hF⟩ Meets.nil) ?_
  refine R_p (i := 3) (v := .bool false) (Meets.here ⟨hKd, hF⟩ Meets.nil) ?_
  refine R_p (i := 4) (v := .bool false) (Meets.here ⟨hKd, hF⟩ Meets.nil) ?_
  refine R_s (i := 5) (Meets.here ⟨hKd, hF⟩ Meets.nil) ?_
  refine R_s (i := 6) (Meets.here ⟨hKd, hF⟩ Meets.nil) ?_
  refine R_s (i := 7) (Meets.here ⟨hKd, hF⟩ Meets.nil) ?_
  refine R_s (i := 8) (Meets.here ⟨hKd, hF⟩ Meets.nil) ?_
  refine R_p (i := 9) (v := .bool false) (Meets.here ⟨hKd, hF⟩ Meets.nil) ?_
  have d0 : w3.cell? ⟨w.heap.size + 1 + 1, 0, none⟩ = some (.bool false) := rc0 hI
  have d1 : w3.cell? ⟨w.heap.size + 1 + 1, 1, none⟩ = some (.string ⟨#[]⟩) := rc1 hI
  have d2 : w3.cell? ⟨w.heap.size + 1 + 1, 2, none⟩ = some (.slice none 0 0) := rc2 hI
  have f0 := rf hI 0
  have f1 := rf hI 1
  have f2 := rf hI 2
  refine R_now 10 fun K hK => ?_
  obtain ⟨W9, hW9⟩ : ∃ W9, W9 = (((w3.setCell ⟨w.heap.size + 1 + 1, 0, none⟩ (.bool false)).setCell ⟨w.heap.size + 1 + 1, 1, none⟩ (.string (bs b))).setCell ⟨w.heap.size + 1 + 1, 2, none⟩ (.slice none 0 0)) := ⟨_, rfl⟩
  have hI9 : W9.heap[w.heap.size + 1 + 1]? = some (.cells #[.bool false, .string (bs b), .slice none 0 0] 45 (0, 0)) := by rw [hW9]; exact heap_setCell_here (heap_setCell_here (heap_setCell_here hI _) _) _
  have hF9 : W9.heap[w.heap.size + 1]? = some (.cells #[.int .u64 n, .string (bs b), .slice A m c] 72 (0, 0)) := by rw [hW9]; exact (heap_set_ne (by omega) _).trans ((heap_set_ne (by omega) _).trans ((heap_set_ne (by omega) _).trans hF))
  have hKd9 : W9.heap[w.heap.size]? = some (.cells #[.int .u8 98, .slice none 0 0] 103 (0, 0)) := by rw [hW9]; exact (heap_set_ne (by omega) _).trans ((heap_set_ne (by omega) _).trans ((heap_set_ne (by omega) _).trans hKd))
  have hB9 : Below w.heap.size w W9 := by rw [hW9]; exact ((hB.setCell (p := ⟨w.heap.size + 1 + 1, _, _⟩) (by simp; omega) _).setCell (p := ⟨w.heap.size + 1 + 1, _, _⟩) (by simp; omega) _).setCell (p := ⟨w.heap.size + 1 + 1, _, _⟩) (by simp; omega) _
  have HI9 := Lib.hid hI9
  have HB9 := Lib.hid hB9
  clear hI9 hB9
  go_simp
  rw [← hW9]
  clear hW9 d0 d1 d2 f0 f1 f2
  refine hK.out _ _ (Meets.here ⟨hKd9, hF9⟩ Meets.nil) (fun hMeets => ?_)
  clear hK K hMeets
  refine lay_R ?_
  refine R_p (i := 11) (v := .bool false) (Meets.here ⟨hKd9, hF9⟩ Meets.nil) ?_
  refine R_done (by kernel_rfl) ?_ _
  go_wp2_with fail
  exact bodyPost_ret (v := .tuple #[.agg #[.bool false, .string (bs b), .slice none 0 0], .bool false]) (results_row_tmp rfl _ _ (w.heap.size + 1 + 1) _ _ _ _ rfl HI9.out _ rfl Try.underlying45 rfl infoI) rfl ⟨rfl, HB9.out⟩
set_option maxRecDepth 100000 in
set_option maxHeartbeats 4000000 in
theorem item_s111 (ci : Int) (n : Int) (b : Bytes) (A : Option Addr) (m c : Nat) (hn : (n == 0) = true) (hm : ((m : Int) == 0) = true) (h1 : (ci == 110) = false) (h2 : (ci == 98) = false) (h3 : (ci == 40) = false) (h4 : (ci == 42) = false) (sz : Nat) (HSZ : Hid (∀ w : World, Calls Try.prog 70 #[.int .u8 ci] w fun e w' => e = .returned (.int .i64 sz) ∧ w = w')) (hl : ((b.length : Int) == (sz : Int)) = true) (w : World) :
    Calls Try.prog 59 #[.agg #[.int .u8 ci, .slice none 0 0], .agg #[.int .u64 n, .string (bs b), .slice A m c]] w fun e w' => e = .returned (.tuple #[.agg #[.bool false, .string (bs b), .slice none 0 0], .bool true]) ∧ Below w.heap.size w w' := by
  have hB : Below w.heap.size w (((w.alloc (.cells #[.int .u8 ci, .slice none 0 0] 103)).alloc (.cells #[.int .u64 n, .string (bs b), .slice A m c] 72)).alloc (.cells #[.bool false, .string ⟨#[]⟩, .slice none 0 0] 45)) := (((Below.refl _ _).alloc (Nat.le_refl _) _).alloc (by simp) _).alloc (by simp; omega) _
  have hI := heap_alloc_new ((w.alloc (.cells #[.int .u8 ci, .slice none 0 0] 103)).alloc (.cells #[.int .u64 n, .string (bs b), .slice A m c] 72)) (.cells #[.bool false, .string ⟨#[]⟩, .slice none 0 0] 45)
  have hF := (heap_alloc_old ((w.alloc (.cells #[.int .u8 ci, .slice none 0 0] 103)).alloc (.cells #[.int .u64 n, .string (bs b), .slice A m c] 72)) (.cells #[.bool false, .string ⟨#[]⟩, .slice none 0 0] 45) (by simp)).trans (heap_alloc_new (w.alloc (.cells #[.int .u8 ci, .slice none 0 0] 103)) (.cells #[.int .u64 n, .string (bs b), .slice A m c] 72))
  have hKd := (heap_alloc_old ((w.alloc (.cells #[.int .u8 ci, .slice none 0 0] 103)).alloc (.cells #[.int .u64 n, .string (bs b), .slice A m c] 72)) (.cells #[.bool false, .string ⟨#[]⟩, .slice none 0 0] 45) (by simp; omega)).trans ((heap_alloc_old (w.alloc (.cells #[.int .u8 ci, .slice none 0 0] 103)) (.cells #[.int .u64 n, .string (bs b), .slice A m c] 72) (by simp)).trans (heap_alloc_new w _))
  simp only [World.size_alloc] at hI hF hKd
  have HB := Lib.hid hB
  have HI := Lib.hid hI
  have HF := Lib.hid hF
  have HK := Lib.hid hKd
  clear hB hI hF hKd
  go_enter Try.func59, Try.ntmps59
  go_wp2_with fail
  have hbd : Below (((w.alloc (.cells #[.int .u8 ci, .slice none 0 0] 103)).alloc (.cells #[.int .u64 n, .string (bs b), .slice A m c] 72)).alloc (.cells #[.bool false, .string ⟨#[]⟩, .slice none 0 0] 45)).heap.size (((w.alloc (.cells #[.int .u8 ci, .slice none 0 0] 103)).alloc (.cells #[.int .u64 n, .string (bs b), .slice A m c] 72)).alloc (.cells #[.bool false, .string ⟨#[]⟩, .slice none 0 0] 45)) (((w.alloc (.cells #[.int .u8 ci, .slice none 0 0] 103)).alloc (.cells #[.int .u64 n, .string (bs b), .slice A m c] 72)).alloc (.cells #[.bool false, .string ⟨#[]⟩, .slice none 0 0] 45)).drew := (Below.refl _ _).drew
  have hKd := (hbd.block _ (Array.getElem?_eq_some_iff.1 HK.out).1).trans HK.out
  have hF := (hbd.block _ (Array.getElem?_eq_some_iff.1 HF.out).1).trans HF.out
  have hI := (hbd.block _ (Array.getElem?_eq_some_iff.1 HI.out).1).trans HI.out
  have hB := below_call HB.out HB.out.size hbd
  refine wp_region_R [(99, fun w' => w'.heap[w.heap.size]? = some (.cells #[.int .u8 ci, .slice none 0 0] 103 (0, 0)) ∧ w'.heap[w.heap.size + 1]? = some (.cells #[.int .u64 n, .string (bs b), .slice A m c] 72 (0, 0)))] (by kernel_rfl) ?_
  generalize (((w.alloc (.cells #[.int .u8 ci, .slice none 0 0] 103)).alloc (.cells #[.int .u64 n, .string (bs b), .slice A m c] 72)).alloc (.cells #[.bool false, .string ⟨#[]⟩, .slice none 0 0] 45)).drew = w3 at hKd hF hI hB ⊢
  clear hbd HK HF HI HB
  refine R_p (i := 0) (v := .pointer (some ⟨w.heap.size + 1, 1, none⟩)) (Meets.here ⟨hKd, hF⟩ Meets.nil) ?_
  refine R_l (i := 1) (v := .string (bs b)) 99 _ List.mem_cons_self rfl (yieldsIf_load_cell rfl rfl rfl (fun w' hS => rc hS.2 1 rfl) Try.underlying9 rfl) (Meets.here ⟨hKd, hF⟩ Meets.nil) ?_
  refine R_p (i := 2) (v := .agg #[.bool false, .string (bs b), .slice none 0 0]) (Meets.here ⟨hKd, hF⟩ Meets.nil) ?_
  refine R_p (i := 3) (v := .bool true) (Meets.here ⟨hKd, hF⟩ Meets.nil) ?_
  refine R_p (i := 4) (v := .bool true) (Meets.here ⟨hKd, hF⟩ Meets.nil) ?_
  refine R_p (i := 5) (v := .pointer (some ⟨w.heap.size + 1, 1, none⟩)) (Meets.here ⟨hKd, hF⟩ Meets.nil) ?_
  refine R_l (i := 6) (v := .string (bs b)) 99 _ List.mem_cons_self rfl (yieldsIf_load_cell rfl rfl rfl (fun w' hS => rc hS.2 1 rfl) Try.underlying9 rfl) (Meets.here ⟨hKd, hF⟩ Meets.nil) ?_
  refine R_p (i := 7) (v := .int .i64 (b.length : Int)) (Meets.here ⟨hKd, hF⟩ Meets.nil) ?_
  refine R_p (i := 8) (v := .pointer (some ⟨w.heap.size, 0, none⟩)) (Meets.here ⟨hKd, hF⟩ Meets.nil) ?_
  refine R_l (i := 9) (v := .int .u8 ci) 99 _ List.mem_cons_self rfl (yieldsIf_load_cell rfl rfl rfl (fun w' hS => rc hS.1 0 rfl) Try.underlying5 rfl) (Meets.here ⟨hKd, hF⟩ Meets.nil) ?_
  refine R_now 10 fun K hK => ?_
  go_simp
  refine (HSZ.out _).mono ?_
  rintro e w4 ⟨rfl, rfl⟩
  refine hK.out _ _ (Meets.here ⟨hKd, hF⟩ Meets.nil) (fun hMeets => ?_)
  clear hK K hMeets
  refine lay_R ?_
  refine R_p (i := 11) (v := .bool true) (Meets.here ⟨hKd, hF⟩ Meets.nil) ?_
  refine R_p (i := 12) (v := .bool true) (Meets.here ⟨hKd, hF⟩ Meets.nil) ?_
  have d0 : w3.cell? ⟨w.heap.size + 1 + 1, 0, none⟩ = some (.bool false) := rc0 hI
  have d1 : w3.cell? ⟨w.heap.size + 1 + 1, 1, none⟩ = some (.string ⟨#[]⟩) := rc1 hI
  have d2 : w3.cell? ⟨w.heap.size + 1 + 1, 2, none⟩ = some (.slice none 0 0) := rc2 hI
  have f0 := rf hI 0
  have f1 := rf hI 1
  have f2 := rf hI 2
  refine R_now 13 fun K hK => ?_
  obtain ⟨W9, hW9⟩ : ∃ W9, W9 = (((w3.setCell ⟨w.heap.size + 1 + 1, 0, none⟩ (.bool false)).setCell ⟨w.heap.size + 1 + 1, 1, none⟩ (.string (bs b))).setCell ⟨w.heap.size + 1 + 1, 2, none⟩ (.slice none 0 0)) := ⟨_, rfl⟩
  have hI9 : W9.heap[w.heap.size + 1 + 1]? = some (.cells #[.bool false, .string (bs b), .slice none 0 0] 45 (0, 0)) := by rw [hW9]; exact heap_setCell_here (heap_setCell_here (heap_setCell_here hI _) _) _
  have hF9 : W9.heap[w.heap.size + 1]? = some (.cells #[.int .u64 n, .string (bs b), .slice A m c] 72 (0, 0)) := by rw [hW9]; exact (heap_set_ne (by omega) _).trans ((heap_set_ne (by omega) _).trans ((heap_set_ne (by omega) _).trans hF))
  have hKd9 : W9.heap[w.heap.size]? = some (.cells #[.int .u8 ci, .slice none 0 0] 103 (0, 0)) := by rw [hW9]; exact (heap_set_ne (by omega) _).trans ((heap_set_ne (by omega) _).trans ((heap_set_ne (by omega) _).trans hKd))
  have hB9 : Below w.heap.size w W9 := by rw [hW9]; exact ((hB.setCell (p := ⟨w.heap.size + 1 + 1, _, _⟩) (by simp; omega) _).setCell (p := ⟨w.heap.size + 1 + 1, _, _⟩) (by simp; omega) _).setCell (p := ⟨w.heap.size + 1 + 1, _, _⟩) (by simp; omega) _
  have HI9 := Lib.hid hI9
  have HB9 := Lib.hid hB9
  clear hI9 hB9
  go_simp
  rw [← hW9]
  clear hW9 d0 d1 d2 f0 f1 f2
  refine hK.out _ _ (Meets.here ⟨hKd9, hF9⟩ Meets.nil) (fun hMeets => ?_)
  clear hK K hMeets
  refine lay_R ?_
  refine R_p (i := 14) (v := .bool true) (Meets.here ⟨hKd9, hF9⟩ Meets.nil) ?_
  refine R_done (by kernel_rfl) ?_ _
  go_wp2_with fail
  exact bodyPost_ret (v := .tuple #[.agg #[.bool false, .string (bs b), .slice none 0 0], .bool true]) (results_row_tmp rfl _ _ (w.heap.size + 1 + 1) _ _ _ _ rfl HI9.out _ rfl Try.underlying45 rfl infoI) rfl ⟨rfl, HB9.out⟩
set_option maxRecDepth 100000 in
set_option maxHeartbeats 4000000 in
theorem item_s110 (ci : Int) (n : Int) (b : Bytes) (A : Option Addr) (m c : Nat) (hn : (n == 0) = true) (hm : ((m : Int) == 0) = true) (h1 : (ci == 110) = false) (h2 : (ci == 98) = false) (h3 : (ci == 40) = false) (h4 : (ci == 42) = false) (sz : Nat) (HSZ : Hid (∀ w : World, Calls Try.prog 70 #[.int .u8 ci] w fun e w' => e = .returned (.int .i64 sz) ∧ w = w')) (hl : ((b.length : Int) == (sz : Int)) = false) (w : World) :
    Calls Try.prog 59 #[.agg #[.int .u8 ci, .slice none 0 0], .agg #[.int .u64 n, .string (bs b), .slice A m c]] w fun e w' => e = .returned (.tuple #[.agg #[.bool false, .string (bs b), .slice none 0 0], .bool false]) ∧ Below w.heap.size w w' := by
  have hB : Below w.heap.size w (((w.alloc (.cells #[.int .u8 ci, .slice none 0 0] 103)).alloc (.cells #[.int .u64 n, .string (bs b), .slice A m c] 72)).alloc (.cells #[.bool false, .string ⟨#[]⟩, .slice none 0 0] 45)) := (((Below.refl _ _).alloc (Nat.le_refl _) _).alloc (by simp) _).alloc (by simp; omega) _
  have hI := heap_alloc_new ((w.alloc (.cells #[.int .u8 ci, .slice none 0 0] 103)).alloc (.cells #[.int .u64 n, .string (bs b), .slice A m c] 72)) (.cells #[.bool false, .string ⟨#[]⟩, .slice none 0 0] 45)
  have hF := (heap_alloc_old ((w.alloc (.cells #[.int .u8 ci, .slice none 0 0] 103)).alloc (.cells #[.int .u64 n, .string (bs b), .slice A m c] 72)) (.cells #[.bool false, .string ⟨#[]⟩, .slice none 0 0] 45) (by simp)).trans (heap_alloc_new (w.alloc (.cells #[.int .u8 ci, .slice none 0 0] 103)) (.cells #[.int .u64 n, .string (bs b), .slice A m c] 72))
  have hKd := (heap_alloc_old ((w.alloc (.cells #[.int .u8 ci, .slice none 0 0] 103)).alloc (.cells #[.int .u64 n, .string (bs b), .slice A m c] 72)) (.cells #[.bool false, .string ⟨#[]⟩, .slice none 0 0] 45) (by simp; omega)).trans ((heap_alloc_old (w.alloc (.cells #[.int .u8 ci, .slice none 0 0] 103)) (.cells #[.int .u64 n, .string (bs b), .slice A m c] 72) (by simp)).trans (heap_alloc_new w _))
  simp only [World.size_alloc] at hI hF hKd
  have HB := Lib.hid hB
  have HI := Lib.hid hI
  have HF := Lib.hid hF
  have HK := Lib.hid hKd
  clear hB hI hF hKd
  go_enter Try.func59, Try.ntmps59
  go_wp2_with fail
  have hbd : Below (((w.alloc (.cells #[.int .u8 ci, .slice none 0 0] 103)).alloc (.cells #[.int .u64 n, .string (bs b), .slice A m c] 72)).alloc (.cells #[.bool false, .string ⟨#[]⟩, .slice none 0 0] 45)).heap.size (((w.alloc (.cells #[.int .u8 ci, .slice none 0 0] 103)).alloc (.cells #[.int .u64 n, .string (bs b), .slice A m c] 72)).alloc (.cells #[.bool false, .string ⟨#[]⟩, .slice none 0 0] 45)) (((w.alloc (.cells #[.int .u8 ci, .slice none 0 0] 103)).alloc (.cells #[.int .u64 n, .string (bs b), .slice A m c] 72)).alloc (.cells #[.bool false, .string ⟨#[]⟩, .slice none 0 0] 45)).drew := (Below.refl _ _).drew
  have hKd := (hbd.block _ (Array.getElem?_eq_some_iff.1 HK.out).1).trans HK.out
  have hF := (hbd.block _ (Array.getElem?_eq_some_iff.1 HF.out).1).trans HF.out
  have hI := (hbd.block _ (Array.getElem?_eq_some_iff.1 HI.out).1).trans HI.out
  have hB := below_call HB.out HB.out.size hbd
  refine wp_region_R [(99, fun w' => w'.heap[w.heap.size]? = some (.cells #[.int .u8 ci, .slice none 0 0] 103 (0, 0)) ∧ w'.heap[w.heap.size + 1]? = some (.cells #[.int .u64 n, .string (bs b), .slice A m c] 72 (0, 0)))] (by kernel_rfl) ?_
  generalize (((w.alloc (.cells #[.int .u8 ci, .slice none 0 0] 103)).alloc (.cells #[.int .u64 n, .string (bs b), .slice A m c] 72)).alloc (.cells #[.bool false, .string ⟨#[]⟩, .slice none 0 0] 45)).drew = w3 at hKd hF hI hB ⊢
  clear hbd HK HF HI HB
  refine R_p (i := 0) (v := .pointer (some ⟨w.heap.size + 1, 1, none⟩)) (Meets.here ⟨hKd, hF⟩ Meets.nil) ?_
  refine R_l (i := 1) (v := .string (bs b)) 99 _ List.mem_cons_self rfl (yieldsIf_load_cell rfl rfl rfl (fun w' hS => rc hS.2 1 rfl) Try.underlying9 rfl) (Meets.here ⟨hKd, hF⟩ Meets.nil) ?_
  refine R_p (i := 2) (v := .agg #[.bool false, .string (bs b), .slice none 0 0]) (Meets.here ⟨hKd, hF⟩ Meets.nil) ?_
  refine R_p (i := 3) (v := .bool true) (Meets.here ⟨hKd, hF⟩ Meets.nil) ?_
  refine R_p (i := 4) (v := .bool true) (Meets.here ⟨hKd, hF⟩ Meets.nil) ?_
  refine R_p (i := 5) (v := .pointer (some ⟨w.heap.size + 1, 1, none⟩)) (Meets.here ⟨hKd, hF⟩ Meets.nil) ?_
  refine R_l (i := 6) (v := .string (bs b)) 99 _ List.mem_cons_self rfl (yieldsIf_load_cell rfl rfl rfl (fun w' hS => rc hS.2 1 rfl) Try.underlying9 rfl) (Meets.here ⟨hKd, hF⟩ Meets.nil) ?_
  refine R_p (i := 7) (v := .int .i64 (b.length : Int)) (Meets.here ⟨hKd, hF⟩ Meets.nil) ?_
  refine R_p (i := 8) (v := .pointer (some ⟨w.heap.size, 0, none⟩)) (Meets.here ⟨hKd, hF⟩ Meets.nil) ?_
  refine R_l (i := 9) (v := .int .u8 ci) 99 _ List.mem_cons_self rfl (yieldsIf_load_cell rfl rfl rfl (fun w' hS => rc hS.1 0 rfl) Try.underlying5 rfl) (Meets.here ⟨hKd, hF⟩ Meets.nil) ?_
  refine R_now 10 fun K hK => ?_
  go_simp
  refine (HSZ.out _).mono ?_
  rintro e w4 ⟨rfl, rfl⟩
  refine hK.out _ _ (Meets.here ⟨hKd, hF⟩ Meets.nil) (fun hMeets => ?_)
  clear hK K hMeets
  refine lay_R ?_
  refine R_p (i := 11) (v := .bool false) (Meets.here ⟨hKd, hF⟩ Meets.nil) ?_
  refine R_p (i := 12) (v := .bool false) (Meets.here ⟨hKd, hF⟩ Meets.nil) ?_
  have d0 : w3.cell? ⟨w.heap.size + 1 + 1, 0, none⟩ = some (.bool false) := rc0 hI
  have d1 : w3.cell? ⟨w.heap.size + 1 + 1, 1, none⟩ = some (.string ⟨#[]⟩) := rc1 hI
  have d2 : w3.cell? ⟨w.heap.size + 1 + 1, 2, none⟩ = some (.slice none 0 0) := rc2 hI
  have f0 := rf hI 0
  have f1 := rf hI 1
  have f2 := rf hI 2
  refine R_now 13 fun K hK => ?_
  obtain ⟨W9, hW9⟩ : ∃ W9, W9 = (((w3.setCell ⟨w.heap.size + 1 + 1, 0, none⟩ (.bool false)).setCell ⟨w.heap.size + 1 + 1, 1, none⟩ (.string (bs b))).setCell ⟨w.heap.size + 1 + 1, 2, none⟩ (.slice none 0 0)) := ⟨_, rfl⟩
  have hI9 : W9.heap[w.heap.size + 1 + 1]? = some (.cells #[.bool false, .string (bs b), .slice none 0 0] 45 (0, 0)) := by rw [hW9]; exact heap_setCell_here (heap_setCell_here (heap_setCell_here hI _) _) _
  have hF9 : W9.heap[w.heap.size + 1]? = some (.cells #[.int .u64 n, .string (bs b), .slice A m c] 72 (0, 0)) := by rw [hW9]; exact (heap_set_ne (by omega) _).trans ((heap_set_ne (by omega) _).trans ((heap_set_ne (by omega) _).trans hF))
  have hKd9 : W9.heap[w.heap.size]? = some (.cells #[.int .u8 ci, .slice none 0 0] 103 (0, 0)) := by rw [hW9]; exact (heap_set_ne (by omega) _).trans ((heap_set_ne (by omega) _).trans ((heap_set_ne (by omega) _).trans hKd))
  have hB9 : Below w.heap.size w W9 := by rw [hW9]; exact ((hB.setCell (p := ⟨w.heap.size + 1 + 1, _, _⟩) (by simp; omega) _).setCell (p := ⟨w.heap.size + 1 + 1, _, _⟩) (by simp; omega) _).setCell (p := ⟨w.heap.size + 1 + 1, _, _⟩) (by simp; omega) _
  have HI9 := Lib.hid hI9
  have HB9 := Lib.hid hB9
  clear hI9 hB9
  go_simp
  rw [← hW9]
  clear hW9 d0 d1 d2 f0 f1 f2
  refine hK.out _ _ (Meets.here ⟨hKd9, hF9⟩ Meets.nil) (fun hMeets => ?_)
  clear hK K hMeets
  refine lay_R ?_
  refine R_p (i := 14) (v := .bool false) (Meets.here ⟨hKd9, hF9⟩ Meets.nil) ?_
  refine R_done (by kernel_rfl) ?_ _
  go_wp2_with fail
  exact bodyPost_ret (v := .tuple #[.agg #[.bool false, .string (bs b), .slice none 0 0], .bool false]) (results_row_tmp rfl _ _ (w.heap.size + 1 + 1) _ _ _ _ rfl HI9.out _ rfl Try.underlying45 rfl infoI) rfl ⟨rfl, HB9.out⟩
set_option maxRecDepth 100000 in
set_option maxHeartbeats 4000000 in
theorem item_s100 (ci : Int) (n : Int) (b : Bytes) (A : Option Addr) (m c : Nat) (hn : (n == 0) = true) (hm : ((m : Int) == 0) = false) (h1 : (ci == 110) = false) (h2 : (ci == 98) = false) (h3 : (ci == 40) = false) (h4 : (ci == 42) = false) (w : World) :
    Calls Try.prog 59 #[.agg #[.int .u8 ci, .slice none 0 0], .agg #[.int .u64 n, .string (bs b), .slice A m c]] w fun e w' => e = .returned (.tuple #[.agg #[.bool false, .string (bs b), .slice none 0 0], .bool false]) ∧ Below w.heap.size w w' := by
  have hB : Below w.heap.size w (((w.alloc (.cells #[.int .u8 ci, .slice none 0 0] 103)).alloc (.cells #[.int .u64 n, .string (bs b), .slice A m c] 72)).alloc (.cells #[.bool false, .string ⟨#[]⟩, .slice none 0 0] 45)) := (((Below.refl _ _).alloc (Nat.le_refl _) _).alloc (by simp) _).alloc (by simp; omega) _
  have hI := heap_alloc_new ((w.alloc (.cells #[.int .u8 ci, .slice none 0 0] 103)).alloc (.cells #[.int .u64 n, .string (bs b), .slice A m c] 72)) (.cells #[.bool false, .string ⟨#[]⟩, .slice none 0 0] 45)
  have hF := (heap_alloc_old ((w.alloc (.cells #[.int .u8 ci, .slice none 0 0] 103)).alloc (.cells #[.int .u64 n, .string (bs b), .slice A m c] 72)) (.cells #[.bool false, .string ⟨#[]⟩, .slice none 0 0] 45) (by simp)).trans (heap_alloc_new (w.alloc (.cells #[.int .u8 ci, .slice none 0 0] 103)) (.cells #[.int .u64 n, .string (bs b), .slice A m c] 72))
  have hKd := (heap_alloc_old ((w.alloc (.cells #[.int .u8 ci, .slice none 0 0] 103)).alloc (.cells #[.int .u64 n, .string (bs b), .slice A m c] 72)) (.cells #[.bool false, .string ⟨#[]⟩, .slice none 0 0] 45) (by simp; omega)).trans ((heap_alloc_old (w.alloc (.cells #[.int .u8 ci, .slice none 0 0] 103)) (.cells #[.int .u64 n, .string (bs b), .slice A m c] 72) (by simp)).trans (heap_alloc_new w _))
  simp only [World.size_alloc] at hI hF hKd
  have HB := Lib.hid hB
  have HI := Lib.hid hI
  have HF := Lib.hid hF
  have HK := Lib.hid hKd
  clear hB hI hF hKd
  go_enter Try.func59, Try.ntmps59
  go_wp2_with fail
  have hbd : Below (((w.alloc (.cells #[.int .u8 ci, .slice none 0 0] 103)).alloc (.cells #[.int .u64 n, .string (bs b), .slice A m c] 72)).alloc (.cells #[.bool false, .string ⟨#[]⟩, .slice none 0 0] 45)).heap.size (((w.alloc (.cells #[.int .u8 ci, .slice none 0 0] 103)).alloc (.cells #[.int .u64 n, .string (bs b), .slice A m c] 72)).alloc (.cells #[.bool false, .string ⟨#[]⟩, .slice none 0 0] 45)) (((w.alloc (.cells #[.int .u8 ci, .slice none 0 0] 103)).alloc (.cells #[.int .u64 n, .string (bs b), .slice A m c] 72)).alloc (.cells #[.bool false, .string ⟨#[]⟩, .slice none 0 0] 45)).drew := (Below.refl _ _).drew
  have hKd := (hbd.block _ (Array.getElem?_eq_some_iff.1 HK.out).1).trans HK.out
  have hF := (hbd.block _ (Array.getElem?_eq_some_iff.1 HF.out).1).trans HF.out
  have hI := (hbd.block _ (Array.getElem?_eq_some_iff.1 HI.out).1).trans HI.out
  have hB := below_call HB.out HB.out.size hbd
  refine wp_region_R [(99, fun w' => w'.heap[w.heap.size]? = some (.cells #[.int .u8 ci, .slice none 0 0] 103 (0, 0)) ∧ w'.heap[w.heap.size + 1]? = some (.cells #[.int .u64 n, .string (bs b), .slice A m c] 72 (0, 0)))] (by kernel_rfl) ?_
  generalize (((w.alloc (.cells #[.int .u8 ci, .slice none 0 0] 103)).alloc (.cells #[.int .u64 n, .string (bs b), .slice A m c] 72)).alloc (.cells #[.bool false, .string ⟨#[]⟩, .slice none 0 0] 45)).drew = w3 at hKd hF hI hB ⊢
  clear hbd HK HF HI HB
  refine R_p (i := 0) (v := .pointer (some ⟨w.heap.size + 1, 1, none⟩)) (Meets.here ⟨hKd, hF⟩ Meets.nil) ?_
  refine R_l (i := 1) (v := .string (bs b)) 99 _ List.mem_cons_self rfl (yieldsIf_load_cell rfl rfl rfl (fun w' hS => rc hS.2 1 rfl) Try.underlying9 rfl) (Meets.here ⟨hKd, hF⟩ Meets.nil) ?_
  refine R_p (i := 2) (v := .agg #[.bool false, .string (bs b), .slice none 0 0]) (Meets.here ⟨hKd, hF⟩ Meets.nil) ?_
  refine R_p (i := 3) (v := .bool false) (Meets.here ⟨hKd, hF⟩ Meets.nil) ?_
  refine R_p (i := 4) (v := .bool false) (Meets.here ⟨hKd, hF⟩ Meets.nil) ?_
  refine R_s (i := 5) (Meets.here ⟨hKd, hF⟩ Meets.nil) ?_
  refine R_s (i := 6) (Meets.here ⟨hKd, hF⟩ Meets.nil) ?_
  refine R_s (i := 7) (Meets.here ⟨hKd, hF⟩ Meets.nil) ?_
  refine R_s (i := 8) (Meets.here ⟨hKd, hF⟩ Meets.nil) ?_
  refine R_s (i := 9) (Meets.here ⟨hKd, hF⟩ Meets.nil) ?_
  refine R_s (i := 10) (Meets.here ⟨hKd, hF⟩ Meets.nil) ?_
  refine R_s (i := 11) (Meets.here ⟨hKd, hF⟩ Meets.nil) ?_
  refine R_p (i := 12) (v := .bool false) (Meets.here ⟨hKd, hF⟩ Meets.nil) ?_
  have d0 : w3.cell? ⟨w.heap.size + 1 + 1, 0, none⟩ = some (.bool false) := rc0 hI
  have d1 : w3.cell? ⟨w.heap.size + 1 + 1, 1, none⟩ = some (.string ⟨#[]⟩) := rc1 hI
  have d2 : w3.cell? ⟨w.heap.size + 1 + 1, 2, none⟩ = some (.slice none 0 0) := rc2 hI
  have f0 := rf hI 0
  have f1 := rf hI 1
  have f2 := rf hI 2
  refine R_now 13 fun K hK => ?_
  obtain ⟨W9, hW9⟩ : ∃ W9, W9 = (((w3.setCell ⟨w.heap.size + 1 + 1, 0, none⟩ (.bool false)).setCell ⟨w.heap.size + 1 + 1, 1, none⟩ (.string (bs b))).setCell ⟨w.heap.size + 1 + 1, 2, none⟩ (.slice none 0 0)) := ⟨_, rfl⟩
  have hI9 : W9.heap[w.heap.size + 1 + 1]? = some (.cells #[.bool false, .string (bs b), .slice none 0 0] 45 (0, 0)) := by rw [hW9]; exact heap_setCell_here (heap_setCell_here (heap_setCell_here hI _) _) _
  have hF9 : W9.heap[w.heap.size + 1]? = some (.cells #[.int .u64 n, .string (bs b), .slice A m c] 72 (0, 0)) := by rw [hW9]; exact (heap_set_ne (by omega) _).trans ((heap_set_ne (by omega) _).trans ((heap_set_ne (by omega) _).trans hF))
  have hKd9 : W9.heap[w.heap.size]? = some (.cells #[.int .u8 ci, .slice none 0 0] 103 (0, 0)) := by rw [hW9]; exact (heap_set_ne (by omega) _).trans ((heap_set_ne (by omega) _).trans ((heap_set_ne (by omega) _).trans hKd))
  have hB9 : Below w.heap.size w W9 := by rw [hW9]; exact ((hB.setCell (p := ⟨w.heap.size + 1 + 1, _, _⟩) (by simp; omega) _).setCell (p := ⟨w.heap.size + 1 + 1, _, _⟩) (by simp; omega) _).setCell (p := ⟨w.heap.size + 1 + 1, _, _⟩) (by simp; omega) _
  have HI9 := Lib.hid hI9
  have HB9 := Lib.hid hB9
  clear hI9 hB9
  go_simp
  rw [← hW9]
  clear hW9 d0 d1 d2 f0 f1 f2
  refine hK.out _ _ (Meets.here ⟨hKd9, hF9⟩ Meets.nil) (fun hMeets => ?_)
  clear hK K hMeets
  refine lay_R ?_
  refine R_p (i := 14) (v := .bool false) (Meets.here ⟨hKd9, hF9⟩ Meets.nil) ?_
  refine R_done (by kernel_rfl) ?_ _
  go_wp2_with fail
  exact bodyPost_ret (v := .tuple #[.agg #[.bool false, .string (bs b), .slice none 0 0], .bool false]) (results_row_tmp rfl _ _ (w.heap.size + 1 + 1) _ _ _ _ rfl HI9.out _ rfl Try.underlying45 rfl infoI) rfl ⟨rfl, HB9.out⟩
set_option maxRecDepth 100000 in
set_option maxHeartbeats 4000000 in
theorem item_s000 (ci : Int) (n : Int) (b : Bytes) (A : Option Addr) (m c : Nat) (hn : (n == 0) = false) (h1 : (ci == 110) = false) (h2 : (ci == 98) = false) (h3 : (ci == 40) = false) (h4 : (ci == 42) = false) (w : World) :
    Calls Try.prog 59 #[.agg #[.int .u8 ci, .slice none 0 0], .agg #[.int .u64 n, .string (bs b), .slice A m c]] w fun e w' => e = .returned (.tuple #[.agg #[.bool false, .string (bs b), .slice none 0 0], .bool false]) ∧ Below w.heap.size w w' := by
  have hB : Below w.heap.size w (((w.alloc (.cells #[.int .u8 ci, .slice none 0 0] 103)).alloc (.cells #[.int .u64 n, .string (bs b), .slice A m c] 72)).alloc (.cells #[.bool false, .string ⟨#[]⟩, .slice none 0 0] 45)) := (((Below.refl _ _).alloc (Nat.le_refl _) _).alloc (by simp) _).alloc (by simp; omega) _
  have hI := heap_alloc_new ((w.alloc (.cells #[.int .u8 ci, .slice none 0 0] 103)).alloc (.cells #[.int .u64 n, .string (bs b), .slice A m c] 72)) (.cells #[.bool false, .string ⟨#[]⟩, .slice none 0 0] 45)
  have hF := (heap_alloc_old ((w.alloc (.cells #[.int .u8 ci, .slice none 0 0] 103)).alloc (.cells #[.int .u64 n, .string (bs b), .slice A m c] 72)) (.cells #[.bool false, .string ⟨#[]⟩, .slice none 0 0] 45) (by simp)).trans (heap_alloc_new (w.alloc (.cells #[.int .u8 ci, .slice none 0 0] 103)) (.cells #[.int .u64 n, .string (bs b), .slice A m c] 72))
  have hKd := (heap_alloc_old ((w.alloc (.cells #[.int .u8 ci, .slice none 0 0] 103)).alloc (.cells #[.int .u64 n, .string (bs b), .slice A m c] 72)) (.cells #[.bool false, .string ⟨#[]⟩, .slice none 0 0] 45) (by simp; omega)).trans ((heap_alloc_old (w.alloc (.cells #[.int .u8 ci, .slice none 0 0] 103)) (.cells #[.int .u64 n, .string (bs b), .slice A m c] 72) (by simp)).trans (heap_alloc_new w _))
  simp only [World.size_alloc] at hI hF hKd
  have HB := Lib.hid hB
  have HI := Lib.hid hI
  have HF := Lib.hid hF
  have HK := Lib.hid hKd
  clear hB hI hF hKd
  go_enter Try.func59, Try.ntmps59
  go_wp2_with fail
  have hbd : Below (((w.alloc (.cells #[.int .u8 ci, .slice none 0 0] 103)).alloc (.cells #[.int .u64 n, .string (bs b), .slice A m c] 72)).alloc (.cells #[.bool false, .string ⟨#[]⟩, .slice none 0 0] 45)).heap.size (((w.alloc (.cells #[.int .u8 ci, .slice none 0 0] 103)).alloc (.cells #[.int .u64 n, .string (bs b), .slice A m c] 72)).alloc (.cells #[.bool false, .string ⟨#[]⟩, .slice none 0 0] 45)) (((w.alloc (.cells #[.int .u8 ci, .slice none 0 0] 103)).alloc (.cells #[.int .u64 n, .string (bs b), .slice A m c] 72)).alloc (.cells #[.bool false, .string ⟨#[]⟩, .slice none 0 0] 45)).drew := (Below.refl _ _).drew
  have hKd := (hbd.block _ (Array.getElem?_eq_some_iff.1 HK.out).1).trans HK.out
  have hF := (hbd.block _ (Array.getElem?_eq_some_iff.1 HF.out).1).trans HF.out
  have hI := (hbd.block _ (Array.getElem?_eq_some_iff.1 HI.out).1).trans HI.out
  have hB := below_call HB.out HB.out.size hbd
  refine wp_region_R [(99, fun w' => w'.heap[w.heap.size]? = some (.cells #[.int .u8 ci, .slice none 0 0] 103 (0, 0)) ∧ w'.heap[w.heap.size + 1]? = some (.cells #[.int .u64 n, .string (bs b), .slice A m c] 72 (0, 0)))] (by kernel_rfl) ?_
  generalize (((w.alloc (.cells #[.int .u8 ci, .slice none 0 0] 103)).alloc (.cells #[.int .u64 n, .string (bs b), .slice A m c] 72)).alloc (.cells #[.bool false, .string ⟨#[]⟩, .slice none 0 0] 45)).drew = w3 at hKd hF hI hB ⊢
  clear hbd HK HF HI HB
  refine R_p (i := 0) (v := .pointer (some ⟨w.heap.size + 1, 1, none⟩)) (Meets.here ⟨hKd, hF⟩ Meets.nil) ?_
  refine R_l (i := 1) (v := .string (bs b)) 99 _ List.mem_cons_self rfl (yieldsIf_load_cell rfl rfl rfl (fun w' hS => rc hS.2 1 rfl) Try.underlying9 rfl) (Meets.here ⟨hKd, hF⟩ Meets.nil) ?_
  refine R_p (i := 2) (v := .agg #[.bool false, .string (bs b), .slice none 0 0]) (Meets.here ⟨hKd, hF⟩ Meets.nil) ?_
  refine R_p (i := 3) (v := .bool false) (Meets.here ⟨hKd, hF⟩ Meets.nil) ?_
  refine R_p (i := 4) (v := .bool false) (Meets.here ⟨hKd, hF⟩ Meets.nil) ?_
  refine R_s (i := 5) (Meets.here ⟨hKd, hF⟩ Meets.nil) ?_
  refine R_s (i := 6) (Meets.here ⟨hKd, hF⟩ Meets.nil) ?_
  refine R_s (i := 7) (Meets.here ⟨hKd, hF⟩ Meets.nil) ?_
  refine R_s (i := 8) (Meets.here ⟨hKd, hF⟩ Meets.nil) ?_
  refine R_s (i := 9) (Meets.here ⟨hKd, hF⟩ Meets.nil) ?_
  refine R_s (i := 10) (Meets.here ⟨hKd, hF⟩ Meets.nil) ?_
  refine R_s (i := 11) (Meets.here ⟨hKd, hF⟩ Meets.nil) ?_
  refine R_p (i := 12) (v := .bool false) (Meets.here ⟨hKd, hF⟩ Meets.nil) ?_
  have d0 : w3.cell? ⟨w.heap.size + 1 + 1, 0, none⟩ = some (.bool false) := rc0 hI
  have d1 : w3.cell? ⟨w.heap.size + 1 + 1, 1, none⟩ = some (.string ⟨#[]⟩) := rc1 hI
  have d2 : w3.cell? ⟨w.heap.size + 1 + 1, 2, none⟩ = some (.slice none 0 0) := rc2 hI
  have f0 := rf hI 0
  have f1 := rf hI 1
  have f2 := rf hI 2
  refine R_now 13 fun K hK => ?_
  obtain ⟨W9, hW9⟩ : ∃ W9, W9 = (((w3.setCell ⟨w.heap.size + 1 + 1, 0, none⟩ (.bool false)).setCell ⟨w.heap.size + 1 + 1, 1, none⟩ (.string (bs b))).setCell ⟨w.heap.size + 1 + 1, 2, none⟩ (.slice none 0 0)) := ⟨_, rfl⟩
  have hI9 : W9.heap[w.heap.size + 1 + 1]? = some (.cells #[.bool false, .string (bs b), .slice none 0 0] 45 (0, 0)) := by rw [hW9]; exact heap_setCell_here (heap_setCell_here (heap_setCell_here hI _) _) _
  have hF9 : W9.heap[w.heap.size + 1]? = some (.cells #[.int .u64 n, .string (bs b), .slice A m c] 72 (0, 0)) := by rw [hW9]; exact (heap_set_ne (by omega) _).trans ((heap_set_ne (by omega) _).trans ((heap_set_ne (by omega) _).trans hF))
  have hKd9 : W9.heap[w.heap.size]? = some (.cells #[.int .u8 ci, .slice none 0 0] 103 (0, 0)) := by rw [hW9]; exact (heap_set_ne (by omega) _).trans ((heap_set_ne (by omega) _).trans ((heap_set_ne (by omega) _).trans hKd))
  have hB9 : Below w.heap.size w W9 := by rw [hW9]; exact ((hB.setCell (p := ⟨w.heap.size + 1 + 1, _, _⟩) (by simp; omega) _).setCell (p := ⟨w.heap.size + 1 + 1, _, _⟩) (by simp; omega) _).setCell (p := ⟨w.heap.size + 1 + 1, _, _⟩) (by simp; omega) _
  have HI9 := Lib.hid hI9
  have HB9 := Lib.hid hB9
  clear hI9 hB9
  go_simp
  rw [← hW9]
  clear hW9 d0 d1 d2 f0 f1 f2
  refine hK.out _ _ (Meets.here ⟨hKd9, hF9⟩ Meets.nil) (fun hMeets => ?_)
  clear hK K hMeets
  refine lay_R ?_
  refine R_p (i := 14) (v := .bool false) (Meets.here ⟨hKd9, hF9⟩ Meets.nil) ?_
  refine R_done (by kernel_rfl) ?_ _
  go_wp2_with fail
  exact bodyPost_ret (v := .tuple #[.agg #[.bool false, .string (bs b), .slice none 0 0], .bool false]) (results_row_tmp rfl _ _ (w.heap.size + 1 + 1) _ _ _ _ rfl HI9.out _ rfl Try.underlying45 rfl infoI) rfl ⟨rfl, HB9.out⟩
end Go.Proofs.Ytjanaholcjkceaa
/- The walk of frame.items at a list of plain fields. -/
namespace Go.Proofs.Ytjanaholcjkceaa
set_option linter.unusedVariables false
set_option linter.unusedSimpArgs false
open Go.RowKit
/-- behind an item of a field: what it is if it fits -/
def FitPost (x : Item) (ok : Bool) (w : World) (e : Ending) (w' : World) : Prop :=
  ∃ y A c, e = .returned (.tuple #[.agg #[.bool y.l, .string (bs y.b), .slice A y.ks.length c], .bool ok]) ∧ ItemV (From w.heap.size) w' y A c ∧ (ok = true → y = x) ∧ Below w.heap.size w w'
theorem item_plain_any (c : UInt8) (hc : okC c) (n : Nat) (hn : n < 18446744073709551616) (b : Bytes) (A : Option Addr) (m cf : Nat) (w : World) :
    Calls Try.prog 59 #[.agg (cellK c).toArray, .agg #[.int .u64 (n : Int), .string (bs b), .slice A m cf]] w (FitPost (lfI c (n, b)) (m == 0 && fitC c (n, b)) w) := by
  have key : ∀ (s : Bytes) (ok : Bool), lfI c (n, b) = leafIt s → (m == 0 && fitC c (n, b)) = ok →
      Calls Try.prog 59 #[.agg (cellK c).toArray, .agg #[.int .u64 (n : Int), .string (bs b), .slice A m cf]] w (fun e w' => e = .returned (.tuple #[.agg #[.bool false, .string (bs s), .slice none 0 0], .bool ok]) ∧ Below w.heap.size w w') →
      Calls Try.prog 59 #[.agg (cellK c).toArray, .agg #[.int .u64 (n : Int), .string (bs b), .slice A m cf]] w (FitPost (lfI c (n, b)) (m == 0 && fitC c (n, b)) w) := by
    intro s ok h1 h2 h
    refine h.mono ?_
    rintro e w' ⟨rfl, hb⟩
    rw [h1, h2]
    exact ⟨leafIt s, none, 0, rfl, ItemV.leaf s false, fun _ => rfl, hb⟩
  have hnB : ((n : Int) == 0) = (n == 0) := by rw [Bool.eq_iff_iff]; simp
  have hmB : ((m : Int) == 0) = (m == 0) := by rw [Bool.eq_iff_iff]; simp
  by_cases h110 : c = 110
  · subst h110
    refine key (digs n) (m == 0 && b.isEmpty) (by simp [lfI]) (by simp [fitC]) ?_
    have hi : (n : Int).toNat = n := by simp
    have h0 : (0 : Int) ≤ n := by omega
    have h64 : (n : Int) < 18446744073709551616 := by omega
    cases hA : (n == 0) <;> cases hB : (m == 0) <;> cases hC : b.isEmpty
    · have := item_n000 n b A m cf h0 h64 (by rw [hnB, hA]) (by rw [hmB, hB]) (by cases b <;> simp_all) w; rwa [hi] at this
    · have := item_n001 n b A m cf h0 h64 (by rw [hnB, hA]) (by rw [hmB, hB]) (by cases b <;> simp_all) w; rwa [hi] at this
    · have := item_n010 n b A m cf h0 h64 (by rw [hnB, hA]) (by rw [hmB, hB]) (by cases b <;> simp_all) w; rwa [hi] at this
    · have := item_n011 n b A m cf h0 h64 (by rw [hnB, hA]) (by rw [hmB, hB]) (by cases b <;> simp_all) w; rwa [hi] at this
    · have := item_n100 n b A m cf h0 h64 (by rw [hnB, hA]) (by rw [hmB, hB]) (by cases b <;> simp_all) w; rwa [hi] at this
    · have := item_n101 n b A m cf h0 h64 (by rw [hnB, hA]) (by rw [hmB, hB]) (by cases b <;> simp_all) w; rwa [hi] at this
    · have := item_n110 n b A m cf h0 h64 (by rw [hnB, hA]) (by rw [hmB, hB]) (by cases b <;> simp_all) w; rwa [hi] at this
    · have := item_n111 n b A m cf h0 h64 (by rw [hnB, hA]) (by rw [hmB, hB]) (by cases b <;> simp_all) w; rwa [hi] at this
  · have hl : lfI c (n, b) = leafIt b := by simp [lfI, h110]
    by_cases h98 : c = 98
    · subst h98
      have hf : fitC 98 (n, b) = ((n == 0) && decide (b.length ≤ 64)) := by simp [fitC]
      rcases Bool.eq_false_or_eq_true (n == 0) with hA | hA
      · rcases Bool.eq_false_or_eq_true (m == 0) with hB | hB
        · by_cases h64 : b.length ≤ 64
          · exact key b true hl (by rw [hf, hA, hB]; simp [h64]) (item_b111 n b A m cf (by rw [hnB, hA]) (by rw [hmB, hB]) (by omega) w)
          · exact key b false hl (by rw [hf, hA, hB]; simp; omega) (item_b110 n b A m cf (by rw [hnB, hA]) (by rw [hmB, hB]) (by omega) w)
        · exact key b false hl (by rw [hB]; rfl) (item_b100 n b A m cf (by rw [hnB, hA]) (by rw [hmB, hB]) w)
      · exact key b false hl (by rw [hf, hA]; simp) (item_b000 n b A m cf (by rw [hnB, hA]) w)
    · have h3 : c = 104 ∨ c = 97 ∨ c = 115 := by
        rcases hc with h | h | h | h | h
        · exact absurd h h110
        · exact .inl h
        · exact .inr (.inl h)
        · exact .inr (.inr h)
        · exact absurd h h98
      have hf : fitC c (n, b) = ((n == 0) && b.length == sizeC c) := by simp [fitC, h110, h98]
      have hS := Lib.hid (fun w : World => (sizes_any c h3 w).mono (R' := fun e w' => e = .returned (.int .i64 (sizeC c : Nat)) ∧ w = w') fun e w' h => ⟨h.1, h.2.symm⟩)
      have hq : ((c.toNat : Int) == 110) = false ∧ ((c.toNat : Int) == 98) = false ∧ ((c.toNat : Int) == 40) = false ∧ ((c.toNat : Int) == 42) = false := by
        rcases h3 with rfl | rfl | rfl <;> decide
      have hsB : ((b.length : Int) == (sizeC c : Int)) = (b.length == sizeC c) := by rw [Bool.eq_iff_iff]; simp only [beq_iff_eq]; omega
      rcases Bool.eq_false_or_eq_true (n == 0) with hA | hA
      · rcases Bool.eq_false_or_eq_true (m == 0) with hB | hB
        · rcases Bool.eq_false_or_eq_true (b.length == sizeC c) with hD | hD
          · exact key b true hl (by rw [hf, hA, hB, hD]; rfl) (item_s111 c.toNat n b A m cf (by rw [hnB, hA]) (by rw [hmB, hB]) hq.1 hq.2.1 hq.2.2.1 hq.2.2.2 _ hS (by rw [hsB, hD]) w)
          · exact key b false hl (by rw [hf, hA, hB, hD]; rfl) (item_s110 c.toNat n b A m cf (by rw [hnB, hA]) (by rw [hmB, hB]) hq.1 hq.2.1 hq.2.2.1 hq.2.2.2 _ hS (by rw [hsB, hD]) w)
        · exact key b false hl (by rw [hB]; rfl) (item_s100 c.toNat n b A m cf (by rw [hnB, hA]) (by rw [hmB, hB]) hq.1 hq.2.1 hq.2.2.1 hq.2.2.2 w)
      · exact key b false hl (by rw [hf, hA]; simp) (item_s000 c.toNat n b A m cf (by rw [hnB, hA]) hq.1 hq.2.1 hq.2.2.1 hq.2.2.2 w)
end Go.Proofs.Ytjanaholcjkceaa
