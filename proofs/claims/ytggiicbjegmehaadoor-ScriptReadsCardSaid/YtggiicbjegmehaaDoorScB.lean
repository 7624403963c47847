/- Deeds in memory; the walks of script.words, within, plain. -/
import Derived.Test.YtggiicbjegmehaaDoorScP
namespace Go.Proofs.YtggiicbjegmehaaDoor
set_option linter.unusedVariables false
set_option linter.unusedSimpArgs false
open Go.RowKit

/-- a deed's cells -/
def ddC (d : Dd) : List Value := [.int .i64 d.k, .int .i64 d.a, .int .i64 d.m, .int .i64 d.t, .int .u64 d.n, .int .u64 d.c, .bool d.ad, .string (bs d.b)]
def ddD (d : Dd) : D := .st [.v (.int .i64 d.k), .v (.int .i64 d.a), .v (.int .i64 d.m), .v (.int .i64 d.t), .v (.int .u64 d.n), .v (.int .u64 d.c), .v (.bool d.ad), .v (.string (bs d.b))]
def DdsV (S : Nat → Prop) (w : World) (l : List Dd) (A : Option Addr) (c : Nat) : Prop := Rep S w (.sl 8 (l.map ddD)) [.slice A l.length c]
theorem rep_dd {S : Nat → Prop} {w : World} {d : Dd} {cs : List Value} (h : Rep S w (ddD d) cs) : cs = ddC d := by
  obtain ⟨x1, y1, rfl, h1, h⟩ := h.st_form.cons_form
  obtain ⟨x2, y2, rfl, h2, h⟩ := h.cons_form
  obtain ⟨x3, y3, rfl, h3, h⟩ := h.cons_form
  obtain ⟨x4, y4, rfl, h4, h⟩ := h.cons_form
  obtain ⟨x5, y5, rfl, h5, h⟩ := h.cons_form
  obtain ⟨x6, y6, rfl, h6, h⟩ := h.cons_form
  obtain ⟨x7, y7, rfl, h7, h⟩ := h.cons_form
  obtain ⟨x8, y8, rfl, h8, h⟩ := h.cons_form
  rw [h1.v_form, h2.v_form, h3.v_form, h4.v_form, h5.v_form, h6.v_form, h7.v_form, h8.v_form, h.nil_form]; rfl
theorem dd_rep {S : Nat → Prop} {w : World} (d : Dd) : Rep S w (ddD d) (ddC d) :=
  .st (.cons (cs := [.int .i64 d.k]) (.v _ rfl) (.cons (cs := [.int .i64 d.a]) (.v _ rfl) (.cons (cs := [.int .i64 d.m]) (.v _ rfl) (.cons (cs := [.int .i64 d.t]) (.v _ rfl) (.cons (cs := [.int .u64 d.n]) (.v _ rfl) (.cons (cs := [.int .u64 d.c]) (.v _ rfl) (.cons (cs := [.bool d.ad]) (.v _ rfl) (.cons (cs := [.string (bs d.b)]) (cs' := []) (.v _ rfl) .nil))))))))
theorem dds_at {S : Nat → Prop} {w : World} {l : List Dd} {A : Option Addr} {c i : Nat} {d : Dd} (h : DdsV S w l A c) (hi : l[i]? = some d) :
    ∃ g o, A = some ⟨g, o, none⟩ ∧ S g ∧ ∀ j u, (ddC d)[j]? = some u → w.cell? ⟨g, o + i * 8 + j, none⟩ = some u := by
  obtain ⟨g, o, ci, hA, hs, r1, r2, r3⟩ := Rep.slice_at h (by omega) (i := i) (d := ddD d) (by rw [List.getElem?_map, hi]; rfl)
  have hc := rep_dd r1
  subst hc
  exact ⟨g, o, hA, hs, fun j u hj => by rw [Nat.add_assoc]; exact r3 j u hj⟩
theorem infoDd : (Tryd.prog.info? 46).map (·.size) = some 8 := by kernel_rfl

set_option maxHeartbeats 1000000 in
theorem within_any (n most : Int) (w : World) : Calls Tryd.prog 47 #[.int .i64 n, .int .i64 most] w fun e w' => e = .returned (.bool (decide (0 ≤ n ∧ n ≤ most))) ∧ Below w.heap.size w w' := by
  by_cases h0 : 0 ≤ n
  · by_cases h1 : n ≤ most
    · have hd : decide (0 ≤ n ∧ n ≤ most) = true := decide_eq_true ⟨h0, h1⟩
      rw [hd]
      go_enter Tryd.func47, Tryd.ntmps47
      go_wp2_with fail
      go_ret
      exact ⟨rfl, Below.refl _ _⟩
    · have hd : decide (0 ≤ n ∧ n ≤ most) = false := decide_eq_false (fun h => h1 h.2)
      rw [hd]
      go_enter Tryd.func47, Tryd.ntmps47
      go_wp2_with fail
      go_ret
      exact ⟨rfl, Below.refl _ _⟩
  · have hd : decide (0 ≤ n ∧ n ≤ most) = false := decide_eq_false (fun h => h0 h.1)
    rw [hd]
    go_enter Tryd.func47, Tryd.ntmps47
    go_wp2_with fail
    go_ret
    exact ⟨rfl, Below.refl _ _⟩

def wordsC : List Value := wordsP.map fun p => .string (bs p)
theorem infoWords : (Tryd.prog.info? 63).map (·.size) = some 9 := by kernel_rfl
set_option maxHeartbeats 1000000 in
theorem words_any (w : World) : Calls Tryd.prog 44 #[] w fun e w' => e = .returned (.agg wordsC.toArray) ∧ Below w.heap.size w w' := by
  go_enter Tryd.func44, Tryd.ntmps44
  go_wp2_with fail
  exact bodyPost_ret (v := .agg wordsC.toArray) (results_cell_row rfl _ _ w.heap.size _ wordsC.toArray _ _ rfl (heap_alloc_new w _) Tryd.underlying63 rfl infoWords) rfl ⟨rfl, (Below.refl _ _).alloc (Nat.le_refl _) _⟩

set_option maxRecDepth 100000 in
set_option maxHeartbeats 4000000 in
theorem plain_other (k a m t n c : Int) (ad : Bool) (b : Bytes) (h5 : (k == 5) = false) (h7 : (k == 7) = false) (h8 : (k == 8) = false) (h9 : (k == 9) = false) (w : World) :
    Calls Tryd.prog 48 #[.agg #[.int .i64 k, .int .i64 a, .int .i64 m, .int .i64 t, .int .u64 n, .int .u64 c, .bool ad, .string (bs b)]] w fun e w' => e = .returned (.agg #[.int .i64 k, .int .i64 a, .int .i64 0, .int .i64 0, .int .u64 0, .int .u64 0, .bool false, .string ⟨#[]⟩]) ∧ Below w.heap.size w w' := by
  go_enter Tryd.func48, Tryd.ntmps48
  go_wp2_with fail
  have h1 := heap_alloc_new (w.alloc (.cells #[.int .i64 k, .int .i64 a, .int .i64 m, .int .i64 t, .int .u64 n, .int .u64 c, .bool ad, .string (bs b)] 46)) (.cells #[.int .i64 k, .int .i64 a, .int .i64 0, .int .i64 0, .int .u64 0, .int .u64 0, .bool false, .string ⟨#[]⟩] 46)
  rw [World.size_alloc] at h1
  have hfin := (heap_alloc_old _ (.cells #[.int .i64 k, .int .i64 a, .int .i64 0, .int .i64 0, .int .u64 0, .int .u64 0, .bool false, .string ⟨#[]⟩] 46) (by simp)).trans h1
  exact bodyPost_ret (v := .agg #[.int .i64 k, .int .i64 a, .int .i64 0, .int .i64 0, .int .u64 0, .int .u64 0, .bool false, .string ⟨#[]⟩]) (results_cell_row rfl _ _ (w.heap.size + 1) _ _ _ _ rfl hfin Tryd.underlying46 rfl infoDd) rfl ⟨rfl, (((Below.refl _ _).alloc (Nat.le_refl _) _).alloc (by simp) _).alloc (by simp; omega) _⟩

set_option maxRecDepth 100000 in
set_option maxHeartbeats 4000000 in
theorem plain_5 (a m t n c : Int) (ad : Bool) (b : Bytes) (w : World) :
    Calls Tryd.prog 48 #[.agg #[.int .i64 5, .int .i64 a, .int .i64 m, .int .i64 t, .int .u64 n, .int .u64 c, .bool ad, .string (bs b)]] w fun e w' => e = .returned (.agg #[.int .i64 5, .int .i64 a, .int .i64 m, .int .i64 0, .int .u64 0, .int .u64 0, .bool false, .string ⟨#[]⟩]) ∧ Below w.heap.size w w' := by
  go_enter Tryd.func48, Tryd.ntmps48
  go_wp2_with fail
  have h1 := heap_alloc_new (w.alloc (.cells #[.int .i64 5, .int .i64 a, .int .i64 m, .int .i64 t, .int .u64 n, .int .u64 c, .bool ad, .string (bs b)] 46)) (.cells #[.int .i64 5, .int .i64 a, .int .i64 m, .int .i64 0, .int .u64 0, .int .u64 0, .bool false, .string ⟨#[]⟩] 46)
  rw [World.size_alloc] at h1
  have hfin := (heap_alloc_old _ (.cells #[.int .i64 5, .int .i64 a, .int .i64 m, .int .i64 0, .int .u64 0, .int .u64 0, .bool false, .string ⟨#[]⟩] 46) (by simp)).trans h1
  exact bodyPost_ret (v := .agg #[.int .i64 5, .int .i64 a, .int .i64 m, .int .i64 0, .int .u64 0, .int .u64 0, .bool false, .string ⟨#[]⟩]) (results_cell_row rfl _ _ (w.heap.size + 1) _ _ _ _ rfl hfin Tryd.underlying46 rfl infoDd) rfl ⟨rfl, (((Below.refl _ _).alloc (Nat.le_refl _) _).alloc (by simp) _).alloc (by simp; omega) _⟩

set_option maxRecDepth 100000 in
set_option maxHeartbeats 4000000 in
theorem plain_9 (a m t n c : Int) (ad : Bool) (b : Bytes) (w : World) :
    Calls Tryd.prog 48 #[.agg #[.int .i64 9, .int .i64 a, .int .i64 m, .int .i64 t, .int .u64 n, .int .u64 c, .bool ad, .string (bs b)]] w fun e w' => e = .returned (.agg #[.int .i64 9, .int .i64 a, .int .i64 0, .int .i64 0, .int .u64 0, .int .u64 0, .bool false, .string (bs b)]) ∧ Below w.heap.size w w' := by
  go_enter Tryd.func48, Tryd.ntmps48
  go_wp2_with fail
  have h1 := heap_alloc_new (w.alloc (.cells #[.int .i64 9, .int .i64 a, .int .i64 m, .int .i64 t, .int .u64 n, .int .u64 c, .bool ad, .string (bs b)] 46)) (.cells #[.int .i64 9, .int .i64 a, .int .i64 0, .int .i64 0, .int .u64 0, .int .u64 0, .bool false, .string (bs b)] 46)
  rw [World.size_alloc] at h1
  have hfin := (heap_alloc_old _ (.cells #[.int .i64 9, .int .i64 a, .int .i64 0, .int .i64 0, .int .u64 0, .int .u64 0, .bool false, .string (bs b)] 46) (by simp)).trans h1
  exact bodyPost_ret (v := .agg #[.int .i64 9, .int .i64 a, .int .i64 0, .int .i64 0, .int .u64 0, .int .u64 0, .bool false, .string (bs b)]) (results_cell_row rfl _ _ (w.heap.size + 1) _ _ _ _ rfl hfin Tryd.underlying46 rfl infoDd) rfl ⟨rfl, (((Below.refl _ _).alloc (Nat.le_refl _) _).alloc (by simp) _).alloc (by simp; omega) _⟩

set_option maxRecDepth 100000 in
set_option maxHeartbeats 4000000 in
theorem plain_7 (a m t n c : Int) (ad : Bool) (b : Bytes) (w : World) :
    Calls Tryd.prog 48 #[.agg #[.int .i64 7, .int .i64 a, .int .i64 m, .int .i64 t, .int .u64 n, .int .u64 c, .bool ad, .string (bs b)]] w fun e w' => e = .returned (.agg #[.int .i64 7, .int .i64 a, .int .i64 m, .int .i64 t, .int .u64 n, .int .u64 c, .bool false, .string ⟨#[]⟩]) ∧ Below w.heap.size w w' := by
  go_enter Tryd.func48, Tryd.ntmps48
  go_wp2_with fail
  have hX1 : (((w.alloc (.cells #[.int .i64 7, .int .i64 a, .int .i64 m, .int .i64 t, .int .u64 n, .int .u64 c, .bool ad, .string (bs b)] 46)).alloc (.cells #[.int .i64 0, .int .i64 0, .int .i64 0, .int .i64 0, .int .u64 0, .int .u64 0, .bool false, .string ⟨#[]⟩] 46)).alloc (.cells #[.int .i64 7, .int .i64 a, .int .i64 0, .int .i64 0, .int .u64 0, .int .u64 0, .bool false, .string ⟨#[]⟩] 46)).drew.heap[w.heap.size]? = some (.cells #[.int .i64 7, .int .i64 a, .int .i64 m, .int .i64 t, .int .u64 n, .int .u64 c, .bool ad, .string (bs b)] 46 (0, 0)) := (heap_alloc_old _ _ (by simp; omega)).trans ((heap_alloc_old _ _ (by simp)).trans (heap_alloc_new w _))
  have hX2 : (((w.alloc (.cells #[.int .i64 7, .int .i64 a, .int .i64 m, .int .i64 t, .int .u64 n, .int .u64 c, .bool ad, .string (bs b)] 46)).alloc (.cells #[.int .i64 0, .int .i64 0, .int .i64 0, .int .i64 0, .int .u64 0, .int .u64 0, .bool false, .string ⟨#[]⟩] 46)).alloc (.cells #[.int .i64 7, .int .i64 a, .int .i64 0, .int .i64 0, .int .u64 0, .int .u64 0, .bool false, .string ⟨#[]⟩] 46)).drew.heap[w.heap.size + 1]? = some (.cells #[.int .i64 0, .int .i64 0, .int .i64 0, .int .i64 0, .int .u64 0, .int .u64 0, .bool false, .string ⟨#[]⟩] 46 (0, 0)) := (heap_alloc_old _ _ (by simp)).trans (by have := heap_alloc_new (w.alloc (.cells #[.int .i64 7, .int .i64 a, .int .i64 m, .int .i64 t, .int .u64 n, .int .u64 c, .bool ad, .string (bs b)] 46)) (.cells #[.int .i64 0, .int .i64 0, .int .i64 0, .int .i64 0, .int .u64 0, .int .u64 0, .bool false, .string ⟨#[]⟩] 46); rwa [World.size_alloc] at this)
  have hX3 : (((w.alloc (.cells #[.int .i64 7, .int .i64 a, .int .i64 m, .int .i64 t, .int .u64 n, .int .u64 c, .bool ad, .string (bs b)] 46)).alloc (.cells #[.int .i64 0, .int .i64 0, .int .i64 0, .int .i64 0, .int .u64 0, .int .u64 0, .bool false, .string ⟨#[]⟩] 46)).alloc (.cells #[.int .i64 7, .int .i64 a, .int .i64 0, .int .i64 0, .int .u64 0, .int .u64 0, .bool false, .string ⟨#[]⟩] 46)).drew.heap[w.heap.size + 2]? = some (.cells #[.int .i64 7, .int .i64 a, .int .i64 0, .int .i64 0, .int .u64 0, .int .u64 0, .bool false, .string ⟨#[]⟩] 46 (0, 0)) := by have := heap_alloc_new ((w.alloc (.cells #[.int .i64 7, .int .i64 a, .int .i64 m, .int .i64 t, .int .u64 n, .int .u64 c, .bool ad, .string (bs b)] 46)).alloc (.cells #[.int .i64 0, .int .i64 0, .int .i64 0, .int .i64 0, .int .u64 0, .int .u64 0, .bool false, .string ⟨#[]⟩] 46)) (.cells #[.int .i64 7, .int .i64 a, .int .i64 0, .int .i64 0, .int .u64 0, .int .u64 0, .bool false, .string ⟨#[]⟩] 46); rwa [World.size_alloc, World.size_alloc] at this
  have hB : Below w.heap.size w (((w.alloc (.cells #[.int .i64 7, .int .i64 a, .int .i64 m, .int .i64 t, .int .u64 n, .int .u64 c, .bool ad, .string (bs b)] 46)).alloc (.cells #[.int .i64 0, .int .i64 0, .int .i64 0, .int .i64 0, .int .u64 0, .int .u64 0, .bool false, .string ⟨#[]⟩] 46)).alloc (.cells #[.int .i64 7, .int .i64 a, .int .i64 0, .int .i64 0, .int .u64 0, .int .u64 0, .bool false, .string ⟨#[]⟩] 46)).drew := ((((Below.refl _ _).alloc (Nat.le_refl _) _).alloc (by simp) _).alloc (by simp; omega) _).drew
  refine wp_region_R [(99, fun w' => w'.heap[w.heap.size]? = some (.cells #[.int .i64 7, .int .i64 a, .int .i64 m, .int .i64 t, .int .u64 n, .int .u64 c, .bool ad, .string (bs b)] 46 (0, 0)))] (by kernel_rfl) ?_
  generalize (((w.alloc (.cells #[.int .i64 7, .int .i64 a, .int .i64 m, .int .i64 t, .int .u64 n, .int .u64 c, .bool ad, .string (bs b)] 46)).alloc (.cells #[.int .i64 0, .int .i64 0, .int .i64 0, .int .i64 0, .int .u64 0, .int .u64 0, .bool false, .string ⟨#[]⟩] 46)).alloc (.cells #[.int .i64 7, .int .i64 a, .int .i64 0, .int .i64 0, .int .u64 0, .int .u64 0, .bool false, .string ⟨#[]⟩] 46)).drew = W at hX1 hX2 hX3 hB ⊢
  refine R_p (i := 0) (v := .pointer (some ⟨w.heap.size, 3, none⟩)) (Meets.here hX1 Meets.nil) ?_
  refine R_l (i := 1) (v := .int .i64 t) 99 _ List.mem_cons_self rfl (yieldsIf_load_cell rfl rfl rfl (fun w' hS => rc hS 3 rfl) Tryd.underlying3 rfl) (Meets.here hX1 Meets.nil) ?_
  refine R_p (i := 2) (v := .pointer (some ⟨w.heap.size, 2, none⟩)) (Meets.here hX1 Meets.nil) ?_
  refine R_l (i := 3) (v := .int .i64 m) 99 _ List.mem_cons_self rfl (yieldsIf_load_cell rfl rfl rfl (fun w' hS => rc hS 2 rfl) Tryd.underlying3 rfl) (Meets.here hX1 Meets.nil) ?_
  refine R_p (i := 4) (v := .pointer (some ⟨w.heap.size, 4, none⟩)) (Meets.here hX1 Meets.nil) ?_
  refine R_l (i := 5) (v := .int .u64 n) 99 _ List.mem_cons_self rfl (yieldsIf_load_cell rfl rfl rfl (fun w' hS => rc hS 4 rfl) Tryd.underlying22 rfl) (Meets.here hX1 Meets.nil) ?_
  refine R_p (i := 6) (v := .pointer (some ⟨w.heap.size, 5, none⟩)) (Meets.here hX1 Meets.nil) ?_
  refine R_l (i := 7) (v := .int .u64 c) 99 _ List.mem_cons_self rfl (yieldsIf_load_cell rfl rfl rfl (fun w' hS => rc hS 5 rfl) Tryd.underlying22 rfl) (Meets.here hX1 Meets.nil) ?_
  refine R_p (i := 8) (v := .pointer (some ⟨w.heap.size + 2, 3, none⟩)) (Meets.here hX1 Meets.nil) ?_
  have d0 : W.cell? ⟨w.heap.size + 2, 3, none⟩ = some (.int .i64 0) := rc hX3 3 rfl
  have f0 := rf hX3 3
  replace hX1 : (W.setCell ⟨w.heap.size + 2, 3, none⟩ (.int .i64 t)).heap[w.heap.size]? = _ := (heap_set_ne (by omega) _).trans hX1
  replace hX2 : (W.setCell ⟨w.heap.size + 2, 3, none⟩ (.int .i64 t)).heap[w.heap.size + 1]? = _ := (heap_set_ne (by omega) _).trans hX2
  replace hX3 : (W.setCell ⟨w.heap.size + 2, 3, none⟩ (.int .i64 t)).heap[w.heap.size + 2]? = some (.cells #[.int .i64 7, .int .i64 a, .int .i64 0, .int .i64 t, .int .u64 0, .int .u64 0, .bool false, .string ⟨#[]⟩] 46 (0, 0)) := heap_setCell_here hX3 _
  replace hB : Below w.heap.size w (W.setCell ⟨w.heap.size + 2, 3, none⟩ (.int .i64 t)) := hB.setCell (p := ⟨w.heap.size + 2, _, _⟩) (by simp) _
  refine R_now 9 fun K hK => ?_
  go_simp
  clear d0 f0
  generalize hWn : (W.setCell ⟨w.heap.size + 2, 3, none⟩ (.int .i64 t)) = W8 at *
  clear hWn
  refine hK.out _ _ (Meets.here hX1 Meets.nil) (fun hMeets => ?_)
  clear hK K hMeets
  refine lay_R ?_
  refine R_p (i := 10) (v := .pointer (some ⟨w.heap.size + 2, 2, none⟩)) (Meets.here hX1 Meets.nil) ?_
  have d0 : W8.cell? ⟨w.heap.size + 2, 2, none⟩ = some (.int .i64 0) := rc hX3 2 rfl
  have f0 := rf hX3 2
  replace hX1 : (W8.setCell ⟨w.heap.size + 2, 2, none⟩ (.int .i64 m)).heap[w.heap.size]? = _ := (heap_set_ne (by omega) _).trans hX1
  replace hX2 : (W8.setCell ⟨w.heap.size + 2, 2, none⟩ (.int .i64 m)).heap[w.heap.size + 1]? = _ := (heap_set_ne (by omega) _).trans hX2
  replace hX3 : (W8.setCell ⟨w.heap.size + 2, 2, none⟩ (.int .i64 m)).heap[w.heap.size + 2]? = some (.cells #[.int .i64 7, .int .i64 a, .int .i64 m, .int .i64 t, .int .u64 0, .int .u64 0, .bool false, .string ⟨#[]⟩] 46 (0, 0)) := heap_setCell_here hX3 _
  replace hB : Below w.heap.size w (W8.setCell ⟨w.heap.size + 2, 2, none⟩ (.int .i64 m)) := hB.setCell (p := ⟨w.heap.size + 2, _, _⟩) (by simp) _
  refine R_now 11 fun K hK => ?_
  go_simp
  clear d0 f0
  generalize hWn : (W8.setCell ⟨w.heap.size + 2, 2, none⟩ (.int .i64 m)) = W10 at *
  clear hWn
  refine hK.out _ _ (Meets.here hX1 Meets.nil) (fun hMeets => ?_)
  clear hK K hMeets
  refine lay_R ?_
  refine R_p (i := 12) (v := .pointer (some ⟨w.heap.size + 2, 4, none⟩)) (Meets.here hX1 Meets.nil) ?_
  have d0 : W10.cell? ⟨w.heap.size + 2, 4, none⟩ = some (.int .u64 0) := rc hX3 4 rfl
  have f0 := rf hX3 4
  replace hX1 : (W10.setCell ⟨w.heap.size + 2, 4, none⟩ (.int .u64 n)).heap[w.heap.size]? = _ := (heap_set_ne (by omega) _).trans hX1
  replace hX2 : (W10.setCell ⟨w.heap.size + 2, 4, none⟩ (.int .u64 n)).heap[w.heap.size + 1]? = _ := (heap_set_ne (by omega) _).trans hX2
  replace hX3 : (W10.setCell ⟨w.heap.size + 2, 4, none⟩ (.int .u64 n)).heap[w.heap.size + 2]? = some (.cells #[.int .i64 7, .int .i64 a, .int .i64 m, .int .i64 t, .int .u64 n, .int .u64 0, .bool false, .string ⟨#[]⟩] 46 (0, 0)) := heap_setCell_here hX3 _
  replace hB : Below w.heap.size w (W10.setCell ⟨w.heap.size + 2, 4, none⟩ (.int .u64 n)) := hB.setCell (p := ⟨w.heap.size + 2, _, _⟩) (by simp) _
  refine R_now 13 fun K hK => ?_
  go_simp
  clear d0 f0
  generalize hWn : (W10.setCell ⟨w.heap.size + 2, 4, none⟩ (.int .u64 n)) = W12 at *
  clear hWn
  refine hK.out _ _ (Meets.here hX1 Meets.nil) (fun hMeets => ?_)
  clear hK K hMeets
  refine lay_R ?_
  refine R_p (i := 14) (v := .pointer (some ⟨w.heap.size + 2, 5, none⟩)) (Meets.here hX1 Meets.nil) ?_
  have d0 : W12.cell? ⟨w.heap.size + 2, 5, none⟩ = some (.int .u64 0) := rc hX3 5 rfl
  have f0 := rf hX3 5
  replace hX1 : (W12.setCell ⟨w.heap.size + 2, 5, none⟩ (.int .u64 c)).heap[w.heap.size]? = _ := (heap_set_ne (by omega) _).trans hX1
  replace hX2 : (W12.setCell ⟨w.heap.size + 2, 5, none⟩ (.int .u64 c)).heap[w.heap.size + 1]? = _ := (heap_set_ne (by omega) _).trans hX2
  replace hX3 : (W12.setCell ⟨w.heap.size + 2, 5, none⟩ (.int .u64 c)).heap[w.heap.size + 2]? = some (.cells #[.int .i64 7, .int .i64 a, .int .i64 m, .int .i64 t, .int .u64 n, .int .u64 c, .bool false, .string ⟨#[]⟩] 46 (0, 0)) := heap_setCell_here hX3 _
  replace hB : Below w.heap.size w (W12.setCell ⟨w.heap.size + 2, 5, none⟩ (.int .u64 c)) := hB.setCell (p := ⟨w.heap.size + 2, _, _⟩) (by simp) _
  refine R_now 15 fun K hK => ?_
  go_simp
  clear d0 f0
  generalize hWn : (W12.setCell ⟨w.heap.size + 2, 5, none⟩ (.int .u64 c)) = W14 at *
  clear hWn
  refine hK.out _ _ (Meets.here hX1 Meets.nil) (fun hMeets => ?_)
  clear hK K hMeets
  refine lay_R ?_
  refine R_done (by kernel_rfl) ?_ _
  have c0 : W14.cell? ⟨w.heap.size + 2, 0, none⟩ = some (.int .i64 7) := rc hX3 0 rfl
  have c1 : W14.cell? ⟨w.heap.size + 2, 1, none⟩ = some (.int .i64 a) := rc hX3 1 rfl
  have c2 : W14.cell? ⟨w.heap.size + 2, 2, none⟩ = some (.int .i64 m) := rc hX3 2 rfl
  have c3 : W14.cell? ⟨w.heap.size + 2, 3, none⟩ = some (.int .i64 t) := rc hX3 3 rfl
  have c4 : W14.cell? ⟨w.heap.size + 2, 4, none⟩ = some (.int .u64 n) := rc hX3 4 rfl
  have c5 : W14.cell? ⟨w.heap.size + 2, 5, none⟩ = some (.int .u64 c) := rc hX3 5 rfl
  have c6 : W14.cell? ⟨w.heap.size + 2, 6, none⟩ = some (.bool false) := rc hX3 6 rfl
  have c7 : W14.cell? ⟨w.heap.size + 2, 7, none⟩ = some (.string ⟨#[]⟩) := rc hX3 7 rfl
  have d0 : W14.cell? ⟨w.heap.size + 1, 0, none⟩ = some (.int .i64 0) := rc hX2 0 rfl
  have f0 := rf hX2 0
  have d1 : W14.cell? ⟨w.heap.size + 1, 1, none⟩ = some (.int .i64 0) := rc hX2 1 rfl
  have f1 := rf hX2 1
  have d2 : W14.cell? ⟨w.heap.size + 1, 2, none⟩ = some (.int .i64 0) := rc hX2 2 rfl
  have f2 := rf hX2 2
  have d3 : W14.cell? ⟨w.heap.size + 1, 3, none⟩ = some (.int .i64 0) := rc hX2 3 rfl
  have f3 := rf hX2 3
  have d4 : W14.cell? ⟨w.heap.size + 1, 4, none⟩ = some (.int .u64 0) := rc hX2 4 rfl
  have f4 := rf hX2 4
  have d5 : W14.cell? ⟨w.heap.size + 1, 5, none⟩ = some (.int .u64 0) := rc hX2 5 rfl
  have f5 := rf hX2 5
  have d6 : W14.cell? ⟨w.heap.size + 1, 6, none⟩ = some (.bool false) := rc hX2 6 rfl
  have f6 := rf hX2 6
  have d7 : W14.cell? ⟨w.heap.size + 1, 7, none⟩ = some (.string ⟨#[]⟩) := rc hX2 7 rfl
  have f7 := rf hX2 7
  go_wp2_with fail
  have hfin := heap_setCell_here (heap_setCell_here (heap_setCell_here (heap_setCell_here (heap_setCell_here (heap_setCell_here (heap_setCell_here (heap_setCell_here (hX2) (i := 0) (.int .i64 7)) (i := 1) (.int .i64 a)) (i := 2) (.int .i64 m)) (i := 3) (.int .i64 t)) (i := 4) (.int .u64 n)) (i := 5) (.int .u64 c)) (i := 6) (.bool false)) (i := 7) (.string ⟨#[]⟩)
  exact bodyPost_ret (v := .agg #[.int .i64 7, .int .i64 a, .int .i64 m, .int .i64 t, .int .u64 n, .int .u64 c, .bool false, .string ⟨#[]⟩]) (results_cell_row rfl _ _ (w.heap.size + 1) _ _ _ _ rfl hfin Tryd.underlying46 rfl infoDd) rfl ⟨rfl, ((((((((hB.setCell (p := ⟨w.heap.size + 1, _, _⟩) (Nat.le_succ _) _).setCell (p := ⟨w.heap.size + 1, _, _⟩) (Nat.le_succ _) _).setCell (p := ⟨w.heap.size + 1, _, _⟩) (Nat.le_succ _) _).setCell (p := ⟨w.heap.size + 1, _, _⟩) (Nat.le_succ _) _).setCell (p := ⟨w.heap.size + 1, _, _⟩) (Nat.le_succ _) _).setCell (p := ⟨w.heap.size + 1, _, _⟩) (Nat.le_succ _) _).setCell (p := ⟨w.heap.size + 1, _, _⟩) (Nat.le_succ _) _).setCell (p := ⟨w.heap.size + 1, _, _⟩) (Nat.le_succ _) _)⟩

set_option maxRecDepth 100000 in
set_option maxHeartbeats 4000000 in
theorem plain_8 (a m t n c : Int) (ad : Bool) (b : Bytes) (w : World) :
    Calls Tryd.prog 48 #[.agg #[.int .i64 8, .int .i64 a, .int .i64 m, .int .i64 t, .int .u64 n, .int .u64 c, .bool ad, .string (bs b)]] w fun e w' => e = .returned (.agg #[.int .i64 8, .int .i64 a, .int .i64 0, .int .i64 t, .int .u64 0, .int .u64 0, .bool ad, .string ⟨#[]⟩]) ∧ Below w.heap.size w w' := by
  go_enter Tryd.func48, Tryd.ntmps48
  go_wp2_with fail
  have hX1 : (((w.alloc (.cells #[.int .i64 8, .int .i64 a, .int .i64 m, .int .i64 t, .int .u64 n, .int .u64 c, .bool ad, .string (bs b)] 46)).alloc (.cells #[.int .i64 0, .int .i64 0, .int .i64 0, .int .i64 0, .int .u64 0, .int .u64 0, .bool false, .string ⟨#[]⟩] 46)).alloc (.cells #[.int .i64 8, .int .i64 a, .int .i64 0, .int .i64 0, .int .u64 0, .int .u64 0, .bool false, .string ⟨#[]⟩] 46)).drew.heap[w.heap.size]? = some (.cells #[.int .i64 8, .int .i64 a, .int .i64 m, .int .i64 t, .int .u64 n, .int .u64 c, .bool ad, .string (bs b)] 46 (0, 0)) := (heap_alloc_old _ _ (by simp; omega)).trans ((heap_alloc_old _ _ (by simp)).trans (heap_alloc_new w _))
  have hX2 : (((w.alloc (.cells #[.int .i64 8, .int .i64 a, .int .i64 m, .int .i64 t, .int .u64 n, .int .u64 c, .bool ad, .string (bs b)] 46)).alloc (.cells #[.int .i64 0, .int .i64 0, .int .i64 0, .int .i64 0, .int .u64 0, .int .u64 0, .bool false, .string ⟨#[]⟩] 46)).alloc (.cells #[.int .i64 8, .int .i64 a, .int .i64 0, .int .i64 0, .int .u64 0, .int .u64 0, .bool false, .string ⟨#[]⟩] 46)).drew.heap[w.heap.size + 1]? = some (.cells #[.int .i64 0, .int .i64 0, .int .i64 0, .int .i64 0, .int .u64 0, .int .u64 0, .bool false, .string ⟨#[]⟩] 46 (0, 0)) := (heap_alloc_old _ _ (by simp)).trans (by have := heap_alloc_new (w.alloc (.cells #[.int .i64 8, .int .i64 a, .int .i64 m, .int .i64 t, .int .u64 n, .int .u64 c, .bool ad, .string (bs b)] 46)) (.cells #[.int .i64 0, .int .i64 0, .int .i64 0, .int .i64 0, .int .u64 0, .int .u64 0, .bool false, .string ⟨#[]⟩] 46); rwa [World.size_alloc] at this)
  have hX3 : (((w.alloc (.cells #[.int .i64 8, .int .i64 a, .int .i64 m, .int .i64 t, .int .u64 n, .int .u64 c, .bool ad, .string (bs b)] 46)).alloc (.cells #[.int .i64 0, .int .i64 0, .int .i64 0, .int .i64 0, .int .u64 0, .int .u64 0, .bool false, .string ⟨#[]⟩] 46)).alloc (.cells #[.int .i64 8, .int .i64 a, .int .i64 0, .int .i64 0, .int .u64 0, .int .u64 0, .bool false, .string ⟨#[]⟩] 46)).drew.heap[w.heap.size + 2]? = some (.cells #[.int .i64 8, .int .i64 a, .int .i64 0, .int .i64 0, .int .u64 0, .int .u64 0, .bool false, .string ⟨#[]⟩] 46 (0, 0)) := by have := heap_alloc_new ((w.alloc (.cells #[.int .i64 8, .int .i64 a, .int .i64 m, .int .i64 t, .int .u64 n, .int .u64 c, .bool ad, .string (bs b)] 46)).alloc (.cells #[.int .i64 0, .int .i64 0, .int .i64 0, .int .i64 0, .int .u64 0, .int .u64 0, .bool false, .string ⟨#[]⟩] 46)) (.cells #[.int .i64 8, .int .i64 a, .int .i64 0, .int .i64 0, .int .u64 0, .int .u64 0, .bool false, .string ⟨#[]⟩] 46); rwa [World.size_alloc, World.size_alloc] at this
  have hB : Below w.heap.size w (((w.alloc (.cells #[.int .i64 8, .int .i64 a, .int .i64 m, .int .i64 t, .int .u64 n, .int .u64 c, .bool ad, .string (bs b)] 46)).alloc (.cells #[.int .i64 0, .int .i64 0, .int .i64 0, .int .i64 0, .int .u64 0, .int .u64 0, .bool false, .string ⟨#[]⟩] 46)).alloc (.cells #[.int .i64 8, .int .i64 a, .int .i64 0, .int .i64 0, .int .u64 0, .int .u64 0, .bool false, .string ⟨#[]⟩] 46)).drew := ((((Below.refl _ _).alloc (Nat.le_refl _) _).alloc (by simp) _).alloc (by simp; omega) _).drew
  refine wp_region_R [(99, fun w' => w'.heap[w.heap.size]? = some (.cells #[.int .i64 8, .int .i64 a, .int .i64 m, .int .i64 t, .int .u64 n, .int .u64 c, .bool ad, .string (bs b)] 46 (0, 0)))] (by kernel_rfl) ?_
  generalize (((w.alloc (.cells #[.int .i64 8, .int .i64 a, .int .i64 m, .int .i64 t, .int .u64 n, .int .u64 c, .bool ad, .string (bs b)] 46)).alloc (.cells #[.int .i64 0, .int .i64 0, .int .i64 0, .int .i64 0, .int .u64 0, .int .u64 0, .bool false, .string ⟨#[]⟩] 46)).alloc (.cells #[.int .i64 8, .int .i64 a, .int .i64 0, .int .i64 0, .int .u64 0, .int .u64 0, .bool false, .string ⟨#[]⟩] 46)).drew = W at hX1 hX2 hX3 hB ⊢
  refine R_p (i := 0) (v := .pointer (some ⟨w.heap.size, 3, none⟩)) (Meets.here hX1 Meets.nil) ?_
  refine R_l (i := 1) (v := .int .i64 t) 99 _ List.mem_cons_self rfl (yieldsIf_load_cell rfl rfl rfl (fun w' hS => rc hS 3 rfl) Tryd.underlying3 rfl) (Meets.here hX1 Meets.nil) ?_
  refine R_p (i := 2) (v := .pointer (some ⟨w.heap.size, 6, none⟩)) (Meets.here hX1 Meets.nil) ?_
  refine R_l (i := 3) (v := .bool ad) 99 _ List.mem_cons_self rfl (yieldsIf_load_cell rfl rfl rfl (fun w' hS => rc hS 6 rfl) Tryd.underlying4 rfl) (Meets.here hX1 Meets.nil) ?_
  refine R_p (i := 4) (v := .pointer (some ⟨w.heap.size + 2, 3, none⟩)) (Meets.here hX1 Meets.nil) ?_
  have d0 : W.cell? ⟨w.heap.size + 2, 3, none⟩ = some (.int .i64 0) := rc hX3 3 rfl
  have f0 := rf hX3 3
  replace hX1 : (W.setCell ⟨w.heap.size + 2, 3, none⟩ (.int .i64 t)).heap[w.heap.size]? = _ := (heap_set_ne (by omega) _).trans hX1
  replace hX2 : (W.setCell ⟨w.heap.size + 2, 3, none⟩ (.int .i64 t)).heap[w.heap.size + 1]? = _ := (heap_set_ne (by omega) _).trans hX2
  replace hX3 : (W.setCell ⟨w.heap.size + 2, 3, none⟩ (.int .i64 t)).heap[w.heap.size + 2]? = some (.cells #[.int .i64 8, .int .i64 a, .int .i64 0, .int .i64 t, .int .u64 0, .int .u64 0, .bool false, .string ⟨#[]⟩] 46 (0, 0)) := heap_setCell_here hX3 _
  replace hB : Below w.heap.size w (W.setCell ⟨w.heap.size + 2, 3, none⟩ (.int .i64 t)) := hB.setCell (p := ⟨w.heap.size + 2, _, _⟩) (by simp) _
  refine R_now 5 fun K hK => ?_
  go_simp
  clear d0 f0
  generalize hWn : (W.setCell ⟨w.heap.size + 2, 3, none⟩ (.int .i64 t)) = W4 at *
  clear hWn
  refine hK.out _ _ (Meets.here hX1 Meets.nil) (fun hMeets => ?_)
  clear hK K hMeets
  refine lay_R ?_
  refine R_p (i := 6) (v := .pointer (some ⟨w.heap.size + 2, 6, none⟩)) (Meets.here hX1 Meets.nil) ?_
  have d0 : W4.cell? ⟨w.heap.size + 2, 6, none⟩ = some (.bool false) := rc hX3 6 rfl
  have f0 := rf hX3 6
  replace hX1 : (W4.setCell ⟨w.heap.size + 2, 6, none⟩ (.bool ad)).heap[w.heap.size]? = _ := (heap_set_ne (by omega) _).trans hX1
  replace hX2 : (W4.setCell ⟨w.heap.size + 2, 6, none⟩ (.bool ad)).heap[w.heap.size + 1]? = _ := (heap_set_ne (by omega) _).trans hX2
  replace hX3 : (W4.setCell ⟨w.heap.size + 2, 6, none⟩ (.bool ad)).heap[w.heap.size + 2]? = some (.cells #[.int .i64 8, .int .i64 a, .int .i64 0, .int .i64 t, .int .u64 0, .int .u64 0, .bool ad, .string ⟨#[]⟩] 46 (0, 0)) := heap_setCell_here hX3 _
  replace hB : Below w.heap.size w (W4.setCell ⟨w.heap.size + 2, 6, none⟩ (.bool ad)) := hB.setCell (p := ⟨w.heap.size + 2, _, _⟩) (by simp) _
  refine R_now 7 fun K hK => ?_
  go_simp
  clear d0 f0
  generalize hWn : (W4.setCell ⟨w.heap.size + 2, 6, none⟩ (.bool ad)) = W6 at *
  clear hWn
  refine hK.out _ _ (Meets.here hX1 Meets.nil) (fun hMeets => ?_)
  clear hK K hMeets
  refine lay_R ?_
  refine R_done (by kernel_rfl) ?_ _
  have c0 : W6.cell? ⟨w.heap.size + 2, 0, none⟩ = some (.int .i64 8) := rc hX3 0 rfl
  have c1 : W6.cell? ⟨w.heap.size + 2, 1, none⟩ = some (.int .i64 a) := rc hX3 1 rfl
  have c2 : W6.cell? ⟨w.heap.size + 2, 2, none⟩ = some (.int .i64 0) := rc hX3 2 rfl
  have c3 : W6.cell? ⟨w.heap.size + 2, 3, none⟩ = some (.int .i64 t) := rc hX3 3 rfl
  have c4 : W6.cell? ⟨w.heap.size + 2, 4, none⟩ = some (.int .u64 0) := rc hX3 4 rfl
  have c5 : W6.cell? ⟨w.heap.size + 2, 5, none⟩ = some (.int .u64 0) := rc hX3 5 rfl
  have c6 : W6.cell? ⟨w.heap.size + 2, 6, none⟩ = some (.bool ad) := rc hX3 6 rfl
  have c7 : W6.cell? ⟨w.heap.size + 2, 7, none⟩ = some (.string ⟨#[]⟩) := rc hX3 7 rfl
  have d0 : W6.cell? ⟨w.heap.size + 1, 0, none⟩ = some (.int .i64 0) := rc hX2 0 rfl
  have f0 := rf hX2 0
  have d1 : W6.cell? ⟨w.heap.size + 1, 1, none⟩ = some (.int .i64 0) := rc hX2 1 rfl
  have f1 := rf hX2 1
  have d2 : W6.cell? ⟨w.heap.size + 1, 2, none⟩ = some (.int .i64 0) := rc hX2 2 rfl
  have f2 := rf hX2 2
  have d3 : W6.cell? ⟨w.heap.size + 1, 3, none⟩ = some (.int .i64 0) := rc hX2 3 rfl
  have f3 := rf hX2 3
  have d4 : W6.cell? ⟨w.heap.size + 1, 4, none⟩ = some (.int .u64 0) := rc hX2 4 rfl
  have f4 := rf hX2 4
  have d5 : W6.cell? ⟨w.heap.size + 1, 5, none⟩ = some (.int .u64 0) := rc hX2 5 rfl
  have f5 := rf hX2 5
  have d6 : W6.cell? ⟨w.heap.size + 1, 6, none⟩ = some (.bool false) := rc hX2 6 rfl
  have f6 := rf hX2 6
  have d7 : W6.cell? ⟨w.heap.size + 1, 7, none⟩ = some (.string ⟨#[]⟩) := rc hX2 7 rfl
  have f7 := rf hX2 7
  go_wp2_with fail
  have hfin := heap_setCell_here (heap_setCell_here (heap_setCell_here (heap_setCell_here (heap_setCell_here (heap_setCell_here (heap_setCell_here (heap_setCell_here (hX2) (i := 0) (.int .i64 8)) (i := 1) (.int .i64 a)) (i := 2) (.int .i64 0)) (i := 3) (.int .i64 t)) (i := 4) (.int .u64 0)) (i := 5) (.int .u64 0)) (i := 6) (.bool ad)) (i := 7) (.string ⟨#[]⟩)
  exact bodyPost_ret (v := .agg #[.int .i64 8, .int .i64 a, .int .i64 0, .int .i64 t, .int .u64 0, .int .u64 0, .bool ad, .string ⟨#[]⟩]) (results_cell_row rfl _ _ (w.heap.size + 1) _ _ _ _ rfl hfin Tryd.underlying46 rfl infoDd) rfl ⟨rfl, ((((((((hB.setCell (p := ⟨w.heap.size + 1, _, _⟩) (Nat.le_succ _) _).setCell (p := ⟨w.heap.size + 1, _, _⟩) (Nat.le_succ _) _).setCell (p := ⟨w.heap.size + 1, _, _⟩) (Nat.le_succ _) _).setCell (p := ⟨w.heap.size + 1, _, _⟩) (Nat.le_succ _) _).setCell (p := ⟨w.heap.size + 1, _, _⟩) (Nat.le_succ _) _).setCell (p := ⟨w.heap.size + 1, _, _⟩) (Nat.le_succ _) _).setCell (p := ⟨w.heap.size + 1, _, _⟩) (Nat.le_succ _) _).setCell (p := ⟨w.heap.size + 1, _, _⟩) (Nat.le_succ _) _)⟩

theorem ddC_arr (d : Dd) : (ddC d).toArray = #[.int .i64 d.k, .int .i64 d.a, .int .i64 d.m, .int .i64 d.t, .int .u64 d.n, .int .u64 d.c, .bool d.ad, .string (bs d.b)] := rfl
theorem plain_any (d : Dd) (w : World) : Calls Tryd.prog 48 #[.agg (ddC d).toArray] w fun e w' => e = .returned (.agg (ddC (plainD d)).toArray) ∧ Below w.heap.size w w' := by
  obtain ⟨k, a, m, t, n, c, ad, b⟩ := d
  by_cases h5 : k = 5
  · subst h5; exact plain_5 a m t n c ad b w
  by_cases h7 : k = 7
  · subst h7; exact plain_7 a m t n c ad b w
  by_cases h8 : k = 8
  · subst h8; exact plain_8 a m t n c ad b w
  by_cases h9 : k = 9
  · subst h9; exact plain_9 a m t n c ad b w
  have := plain_other k a m t n c ad b (beq_eq_false_iff_ne.2 h5) (beq_eq_false_iff_ne.2 h7) (beq_eq_false_iff_ne.2 h8) (beq_eq_false_iff_ne.2 h9) w
  have he : plainD ⟨k, a, m, t, n, c, ad, b⟩ = ⟨k, a, 0, 0, 0, 0, false, []⟩ := by simp [plainD, h5, h7, h8, h9]
  rw [he]
  exact this
end Go.Proofs.YtggiicbjegmehaaDoor
