/- The walk of header.Read. -/
import Derived.Test.YtjanaholcjkceaaZ40
import Derived.Test.YtjanaholcjkceaaZ42
namespace Go.Proofs.Ytjanaholcjkceaa
set_option linter.unusedVariables false
set_option linter.unusedSimpArgs false
open Go.RowKit
theorem infoHd : (Try.prog.info? 26).map (·.size) = some 11 := by kernel_rfl
theorem one11 (a b c d e f : Bytes) (h r : Int) (v : Option Addr) (n m : Nat) (t : Bytes) (ad : Bool) (s : Option Addr) (n' m' : Nat) : (#[.string (bs a), .int .u64 h, .string (bs c), .string (bs d), .string (bs e), .string (bs f), .slice v n m, .string (bs t), .bool ad, .int .u64 r, .slice s n' m'] : Array Value).all (·.oneCell') = true := by simp [Value.oneCell']
theorem one11Z : (#[.string ⟨#[]⟩, .int .u64 0, .string ⟨#[]⟩, .string ⟨#[]⟩, .string ⟨#[]⟩, .string ⟨#[]⟩, .slice none 0 0, .string ⟨#[]⟩, .bool false, .int .u64 0, .slice none 0 0] : Array Value).all (·.oneCell') = true := one11 [] [] [] [] [] [] _ _ _ _ _ [] _ _ _ _
theorem fread_hd (s : Bytes) (w : World) : Calls Try.prog 34 #[.string ⟨#[104, 110, 104, 104, 97, 98, 42, 97, 98, 110, 110, 42, 115]⟩, .string (bs s)] w (FrPost hdK s w) := fRead_any hdK hdK_ok (by decide) (by decide) s w
theorem fits_blen : ∀ (ks : List Kd) (l : List Fd), fitsP ks l = true → ∀ f ∈ l, f.b.length ≤ 65
  | [], [], _, f, hf => by cases hf
  | [], g :: l, h, f, hf => by simp [fitsP] at h
  | k :: ks, [], h, f, hf => by cases hf
  | k :: ks, g :: l, h, f, hf => by
    simp only [fitsP, Bool.and_eq_true] at h
    rcases List.mem_cons.1 hf with rfl | hf
    · have h1 := h.1
      unfold fitF at h1
      split at h1
      · simp only [Bool.and_eq_true] at h1
        have : f.b = [] := by simpa using h1.1.1.2
        rw [this]; exact Nat.zero_le _
      · simp only [Bool.and_eq_true] at h1
        have h2 := h1.2
        unfold fitC at h2
        split at h2
        · have : f.b = [] := by simpa using h2
          rw [this]; exact Nat.zero_le _
        · split at h2
          · simp at h2; omega
          · simp at h2; rw [h2.2]; unfold sizeC; split
            · omega
            · split <;> omega
    · exact fits_blen ks l h.2 f hf
theorem elSg : ElemOk Try.prog 24 49 (.agg #[.int .u64 0, .int .u64 0, .int .u64 0, .int .u64 0, .int .u64 0, .int .u64 0, .int .u64 0, .int .u64 0, .int .i64 0]) 9 72 := ⟨Try.underlying24, by kernel_rfl, rfl, by omega⟩
def HdPost (s : Bytes) (w : World) (e : Ending) (w' : World) : Prop := ∃ (h : Hd) (Av As : Option Addr) (cv cs no : Nat), e = .returned (.tuple #[.agg #[.string (bs h.parent), .int .u64 (h.height : Int), .string (bs h.root), .string (bs h.txs), .string (bs h.prop), .string (bs h.van), .slice Av h.vals.length cv, .string (bs h.vote), .bool h.add, .int .u64 (h.round : Int), .slice As h.seals.length cs], .int .i64 no]) ∧ HdV (From w.heap.size) w' h Av cv As cs ∧ HdSaid s h no ∧ Below w.heap.size w w'
theorem hdPost_zero {s : Bytes} {w w' : World} (h : HdSaid s zeroHd 4) (hb : Below w.heap.size w w') : HdPost s w (.returned (.tuple #[.agg #[.string ⟨#[]⟩, .int .u64 0, .string ⟨#[]⟩, .string ⟨#[]⟩, .string ⟨#[]⟩, .string ⟨#[]⟩, .slice none 0 0, .string ⟨#[]⟩, .bool false, .int .u64 0, .slice none 0 0], .int .i64 4])) w' := ⟨zeroHd, none, none, 0, 0, 4, rfl, ⟨Rep.nil_slice 1, PlV.nil⟩, h, hb⟩
theorem hd_fine {s : Bytes} {h : Hd} {no : Nat} (x : HdSaid s h no) : h.Fine := by
  rcases x with ⟨_, hk, hw, _⟩ | ⟨_, rfl, _⟩
  · obtain ⟨a, b, c, d, e, f, g, i, j⟩ := hk
    refine ⟨hw, by omega, by omega, by omega, by omega, by omega, ?_, fun v hv => by have := (okVals_len f).1 v hv; omega⟩
    rcases g with g | ⟨g, _⟩
    · omega
    · rw [g]; exact Nat.zero_le _
  · exact ⟨⟨zero64, zero64, fun x hx => by cases hx⟩, Nat.zero_le _, Nat.zero_le _, Nat.zero_le _, Nat.zero_le _, Nat.zero_le _, Nat.zero_le _, fun v hv => by cases hv⟩
set_option maxRecDepth 100000 in
set_option maxHeartbeats 4000000 in
theorem hread_any (s : Bytes) (w : World) : Calls Try.prog 18 #[.string (bs s)] w (HdPost s w) := by
  have h0 := heap_alloc_new w (.cells #[.string ⟨#[]⟩, .int .u64 0, .string ⟨#[]⟩, .string ⟨#[]⟩, .string ⟨#[]⟩, .string ⟨#[]⟩, .slice none 0 0, .string ⟨#[]⟩, .bool false, .int .u64 0, .slice none 0 0] 26)
  have HR := Lib.hid h0
  have HB := Lib.hid ((Below.refl w.heap.size w).alloc (Nat.le_refl _) (.cells #[.string ⟨#[]⟩, .int .u64 0, .string ⟨#[]⟩, .string ⟨#[]⟩, .string ⟨#[]⟩, .string ⟨#[]⟩, .slice none 0 0, .string ⟨#[]⟩, .bool false, .int .u64 0, .slice none 0 0] 26))
  clear h0
  go_enter Try.func18, Try.ntmps18
  go_wp2_with fail
  refine (fread_hd s _).mono ?_
  rintro e w1 ⟨l, A, c, no, rfl, hlv, hsaid, hb1⟩
  have HR1 := Lib.hid ((hb1.block _ (Array.getElem?_eq_some_iff.1 HR.out).1).trans HR.out)
  have HB1 := Lib.hid (below_call HB.out HB.out.size hb1)
  have HS := Lib.hid hsaid
  have HL := Lib.hid (Rep.any hlv)
  clear hb1 hlv hsaid HR HB
  by_cases hno : no = 0
  case neg =>
    have h0I : ((no : Int) == 0) = false := by rw [beq_eq_false_iff_ne]; omega
    have h0I2 : ((no : Int) != 0) = true := by rw [bne, h0I]; rfl
    have HT := Lib.hid (hdSaid_none HS.out (by omega))
    clear HS hno
    go_wp2_with (refine wpList_store_row rfl _ _ _ rfl w.heap.size #[.string ⟨#[]⟩, .int .u64 0, .string ⟨#[]⟩, .string ⟨#[]⟩, .string ⟨#[]⟩, .string ⟨#[]⟩, .slice none 0 0, .string ⟨#[]⟩, .bool false, .int .u64 0, .slice none 0 0] rfl rfl _ _ HR1.out infoHd rfl one11Z ?_)
    exact bodyPost_ret (v := .tuple #[.agg #[.string ⟨#[]⟩, .int .u64 0, .string ⟨#[]⟩, .string ⟨#[]⟩, .string ⟨#[]⟩, .string ⟨#[]⟩, .slice none 0 0, .string ⟨#[]⟩, .bool false, .int .u64 0, .slice none 0 0], .int .i64 4]) (results_row_tmp rfl _ _ w.heap.size _ _ _ _ rfl (setRow_heap _ _ _ _ _ _ HR1.out) _ rfl Try.underlying26 rfl infoHd) rfl (hdPost_zero HT.out (below_setRow HB1.out (Nat.le_refl _) _))
  subst hno
  obtain ⟨hl11, hg6, hg10, hs6, hs10, hwf, hyes, hno1, hno2, hno3⟩ := hdSaid_some HS.out
  obtain ⟨f0, e0⟩ := getElem_ex (show 0 < l.length by omega)
  obtain ⟨f1, e1⟩ := getElem_ex (show 1 < l.length by omega)
  obtain ⟨f2, e2⟩ := getElem_ex (show 2 < l.length by omega)
  obtain ⟨f3, e3⟩ := getElem_ex (show 3 < l.length by omega)
  obtain ⟨f4, e4⟩ := getElem_ex (show 4 < l.length by omega)
  obtain ⟨f5, e5⟩ := getElem_ex (show 5 < l.length by omega)
  obtain ⟨f6, e6⟩ := getElem_ex (show 6 < l.length by omega)
  obtain ⟨f7, e7⟩ := getElem_ex (show 7 < l.length by omega)
  obtain ⟨f8, e8⟩ := getElem_ex (show 8 < l.length by omega)
  obtain ⟨f9, e9⟩ := getElem_ex (show 9 < l.length by omega)
  obtain ⟨f10, e10⟩ := getElem_ex (show 10 < l.length by omega)
  obtain ⟨g, o, A0, c0, rfl, _, lv0, k0⟩ := fds_at HL.out e0
  obtain ⟨g', o', A1, c1, hA1, _, lv1, k1⟩ := fds_at HL.out e1
  injection hA1 with hA1
  injection hA1 with hg1 ho1
  subst hg1; subst ho1
  obtain ⟨g', o', A2, c2, hA2, _, lv2, k2⟩ := fds_at HL.out e2
  injection hA2 with hA2
  injection hA2 with hg2 ho2
  subst hg2; subst ho2
  obtain ⟨g', o', A3, c3, hA3, _, lv3, k3⟩ := fds_at HL.out e3
  injection hA3 with hA3
  injection hA3 with hg3 ho3
  subst hg3; subst ho3
  obtain ⟨g', o', A4, c4, hA4, _, lv4, k4⟩ := fds_at HL.out e4
  injection hA4 with hA4
  injection hA4 with hg4 ho4
  subst hg4; subst ho4
  obtain ⟨g', o', A5, c5, hA5, _, lv5, k5⟩ := fds_at HL.out e5
  injection hA5 with hA5
  injection hA5 with hg5 ho5
  subst hg5; subst ho5
  obtain ⟨g', o', A6, c6, hA6, _, lv6, k6⟩ := fds_at HL.out e6
  injection hA6 with hA6
  injection hA6 with hg6 ho6
  subst hg6; subst ho6
  obtain ⟨g', o', A7, c7, hA7, _, lv7, k7⟩ := fds_at HL.out e7
  injection hA7 with hA7
  injection hA7 with hg7 ho7
  subst hg7; subst ho7
  obtain ⟨g', o', A8, c8, hA8, _, lv8, k8⟩ := fds_at HL.out e8
  injection hA8 with hA8
  injection hA8 with hg8 ho8
  subst hg8; subst ho8
  obtain ⟨g', o', A9, c9, hA9, _, lv9, k9⟩ := fds_at HL.out e9
  injection hA9 with hA9
  injection hA9 with hg9 ho9
  subst hg9; subst ho9
  obtain ⟨g', o', A10, c10, hA10, _, lv10, k10⟩ := fds_at HL.out e10
  injection hA10 with hA10
  injection hA10 with hg10 ho10
  subst hg10; subst ho10
  have m0 : w1.cell? ⟨g, o + 1, none⟩ = some (.string (bs f0.b)) := by simpa [Nat.add_assoc] using k0 1 (.string (bs f0.b)) rfl
  have m1 : w1.cell? ⟨g, o + 3, none⟩ = some (.int .u64 (f1.n : Int)) := by simpa [Nat.add_assoc] using k1 0 (.int .u64 (f1.n : Int)) rfl
  have m2 : w1.cell? ⟨g, o + 7, none⟩ = some (.string (bs f2.b)) := by simpa [Nat.add_assoc] using k2 1 (.string (bs f2.b)) rfl
  have m3 : w1.cell? ⟨g, o + 10, none⟩ = some (.string (bs f3.b)) := by simpa [Nat.add_assoc] using k3 1 (.string (bs f3.b)) rfl
  have m4 : w1.cell? ⟨g, o + 13, none⟩ = some (.string (bs f4.b)) := by simpa [Nat.add_assoc] using k4 1 (.string (bs f4.b)) rfl
  have m5 : w1.cell? ⟨g, o + 16, none⟩ = some (.string (bs f5.b)) := by simpa [Nat.add_assoc] using k5 1 (.string (bs f5.b)) rfl
  have m6 : w1.cell? ⟨g, o + 20, none⟩ = some (.slice A6 f6.l.length c6) := by simpa [Nat.add_assoc] using k6 2 (.slice A6 f6.l.length c6) rfl
  have m7 : w1.cell? ⟨g, o + 22, none⟩ = some (.string (bs f7.b)) := by simpa [Nat.add_assoc] using k7 1 (.string (bs f7.b)) rfl
  have m8 : w1.cell? ⟨g, o + 24, none⟩ = some (.int .u64 (f8.n : Int)) := by simpa [Nat.add_assoc] using k8 0 (.int .u64 (f8.n : Int)) rfl
  have m9 : w1.cell? ⟨g, o + 27, none⟩ = some (.int .u64 (f9.n : Int)) := by simpa [Nat.add_assoc] using k9 0 (.int .u64 (f9.n : Int)) rfl
  have m10 : w1.cell? ⟨g, o + 32, none⟩ = some (.slice A10 f10.l.length c10) := by simpa [Nat.add_assoc] using k10 2 (.slice A10 f10.l.length c10) rfl
  rw [hl11]
  have hfb := fits_blen hdK l (by rcases HS.out with ⟨_, h, _⟩ | ⟨h, _⟩; exact h; omega)
  have HFB : Hid (f0.b.length ≤ 9223372036854775807 ∧ f2.b.length ≤ 9223372036854775807 ∧ f3.b.length ≤ 9223372036854775807 ∧ f4.b.length ≤ 9223372036854775807 ∧ f5.b.length ≤ 9223372036854775807 ∧ f7.b.length ≤ 9223372036854775807) := Lib.hid ⟨by have := hfb f0 (List.mem_of_getElem? e0); omega, by have := hfb f2 (List.mem_of_getElem? e2); omega, by have := hfb f3 (List.mem_of_getElem? e3); omega, by have := hfb f4 (List.mem_of_getElem? e4); omega, by have := hfb f5 (List.mem_of_getElem? e5); omega, by have := hfb f7 (List.mem_of_getElem? e7); omega⟩
  clear hfb
  have d0 : fdAt l 0 = f0 := getD_some e0
  have d1 : fdAt l 1 = f1 := getD_some e1
  have d2 : fdAt l 2 = f2 := getD_some e2
  have d3 : fdAt l 3 = f3 := getD_some e3
  have d4 : fdAt l 4 = f4 := getD_some e4
  have d5 : fdAt l 5 = f5 := getD_some e5
  have d6 : fdAt l 6 = f6 := getD_some e6
  have d7 : fdAt l 7 = f7 := getD_some e7
  have d8 : fdAt l 8 = f8 := getD_some e8
  have d9 : fdAt l 9 = f9 := getD_some e9
  have d10 : fdAt l 10 = f10 := getD_some e10
  have hof : hdOf l = ⟨f0.b, f1.n, f2.b, f3.b, f4.b, f5.b, f6.l.map (·.2), f7.b, f8.n == 1, f9.n, f10.l.map fun x => sgOf x.2⟩ := by unfold hdOf; rw [d0, d1, d2, d3, d4, d5, d6, d7, d8, d9, d10]
  obtain ⟨ad, had⟩ : ∃ ad, (f8.n == 1) = ad := ⟨_, rfl⟩
  have hadI : ((f8.n : Int) == 1) = ad := by rw [← had, Bool.eq_iff_iff]; simp only [beq_iff_eq]; omega
  rw [hof, had, d10, d8] at hyes
  rw [d10] at hg10 hs10 hno1
  rw [d6] at hg6 hs6
  rw [d8] at hno2
  rw [hof, had] at hno3 hwf
  have HY := Lib.hid hyes
  have HN1 := Lib.hid hno1
  have HN2 := Lib.hid hno2
  have HN3 := Lib.hid hno3
  have HG6 := Lib.hid hg6
  have HG10 := Lib.hid hg10
  have HWF := Lib.hid hwf
  have LV6 := Lib.hid lv6
  have LV10 := Lib.hid lv10
  have h6I : (f6.l.length : Int) ≤ 40 := by omega
  have h10I : (f10.l.length : Int) ≤ 40 := by omega
  clear hyes hno1 hno2 hno3 hg6 hg10 hwf e0 e1 e2 e3 e4 e5 e6 e7 e8 e9 e10 k0 k1 k2 k3 k4 k5 k6 k7 k8 k9 k10 d0 d1 d2 d3 d4 d5 d6 d7 d8 d9 d10 lv0 lv1 lv2 lv3 lv4 lv5 lv6 lv7 lv8 lv9 lv10 hof had HS HL hl11 hs6 hs10
  go_wp2_with fail
  have hS : w1.drew.heap[g]? = w1.heap[g]? := rfl
  have hgl : g < w1.heap.size := lt_of_cell m0
  have hwl : w.heap.size < w1.heap.size := (Array.getElem?_eq_some_iff.1 HR1.out).1
  have hR : w1.drew.heap[w.heap.size]? = some (.cells #[.string ⟨#[]⟩, .int .u64 0, .string ⟨#[]⟩, .string ⟨#[]⟩, .string ⟨#[]⟩, .string ⟨#[]⟩, .slice none 0 0, .string ⟨#[]⟩, .bool false, .int .u64 0, .slice none 0 0] 26 (0, 0)) := HR1.out
  have hB : Below w.heap.size w w1.drew := HB1.out.drew
  refine wp_region_R [(99, fun w' => w'.heap[g]? = w1.heap[g]?)] (by kernel_rfl) ?_
  refine R_p (i := 0) (v := .slice (some ⟨g, o, none⟩) 11 c) (Meets.here hS Meets.nil) ?_
  refine R_p (i := 4) (v := .slice (some ⟨g, o, none⟩) 11 c) (Meets.here hS Meets.nil) ?_
  refine R_p (i := 8) (v := .slice (some ⟨g, o, none⟩) 11 c) (Meets.here hS Meets.nil) ?_
  refine R_p (i := 12) (v := .slice (some ⟨g, o, none⟩) 11 c) (Meets.here hS Meets.nil) ?_
  refine R_p (i := 16) (v := .slice (some ⟨g, o, none⟩) 11 c) (Meets.here hS Meets.nil) ?_
  refine R_p (i := 20) (v := .slice (some ⟨g, o, none⟩) 11 c) (Meets.here hS Meets.nil) ?_
  refine R_p (i := 24) (v := .slice (some ⟨g, o, none⟩) 11 c) (Meets.here hS Meets.nil) ?_
  refine R_p (i := 28) (v := .slice (some ⟨g, o, none⟩) 11 c) (Meets.here hS Meets.nil) ?_
  refine R_p (i := 33) (v := .slice (some ⟨g, o, none⟩) 11 c) (Meets.here hS Meets.nil) ?_
  refine R_p (i := 1) (v := .pointer (some ⟨g, o, none⟩)) (Meets.here hS Meets.nil) ?_
  refine R_p (i := 5) (v := .pointer (some ⟨g, o + 3, none⟩)) (Meets.here hS Meets.nil) ?_
  refine R_p (i := 9) (v := .pointer (some ⟨g, o + 6, none⟩)) (Meets.here hS Meets.nil) ?_
  refine R_p (i := 13) (v := .pointer (some ⟨g, o + 9, none⟩)) (Meets.here hS Meets.nil) ?_
  refine R_p (i := 17) (v := .pointer (some ⟨g, o + 12, none⟩)) (Meets.here hS Meets.nil) ?_
  refine R_p (i := 21) (v := .pointer (some ⟨g, o + 15, none⟩)) (Meets.here hS Meets.nil) ?_
  refine R_p (i := 25) (v := .pointer (some ⟨g, o + 21, none⟩)) (Meets.here hS Meets.nil) ?_
  refine R_p (i := 29) (v := .pointer (some ⟨g, o + 24, none⟩)) (Meets.here hS Meets.nil) ?_
  refine R_p (i := 34) (v := .pointer (some ⟨g, o + 27, none⟩)) (Meets.here hS Meets.nil) ?_
  refine R_p (i := 2) (v := .pointer (some ⟨g, o + 1, none⟩)) (Meets.here hS Meets.nil) ?_
  refine R_p (i := 6) (v := .pointer (some ⟨g, o + 3, none⟩)) (Meets.here hS Meets.nil) ?_
  refine R_p (i := 10) (v := .pointer (some ⟨g, o + 7, none⟩)) (Meets.here hS Meets.nil) ?_
  refine R_p (i := 14) (v := .pointer (some ⟨g, o + 10, none⟩)) (Meets.here hS Meets.nil) ?_
  refine R_p (i := 18) (v := .pointer (some ⟨g, o + 13, none⟩)) (Meets.here hS Meets.nil) ?_
  refine R_p (i := 22) (v := .pointer (some ⟨g, o + 16, none⟩)) (Meets.here hS Meets.nil) ?_
  refine R_p (i := 26) (v := .pointer (some ⟨g, o + 22, none⟩)) (Meets.here hS Meets.nil) ?_
  refine R_p (i := 30) (v := .pointer (some ⟨g, o + 24, none⟩)) (Meets.here hS Meets.nil) ?_
  refine R_p (i := 35) (v := .pointer (some ⟨g, o + 27, none⟩)) (Meets.here hS Meets.nil) ?_
  refine R_l (i := 3) (v := .string (bs f0.b)) 99 _ List.mem_cons_self rfl (yieldsIf_load_cell rfl rfl rfl (fun w' hS => (World.cell?_of_block (a := ⟨g, o + 1, none⟩) hS).trans m0) Try.underlying9 rfl) (Meets.here hS Meets.nil) ?_
  refine R_l (i := 7) (v := .int .u64 (f1.n : Int)) 99 _ List.mem_cons_self rfl (yieldsIf_load_cell rfl rfl rfl (fun w' hS => (World.cell?_of_block (a := ⟨g, o + 3, none⟩) hS).trans m1) Try.underlying22 rfl) (Meets.here hS Meets.nil) ?_
  refine R_l (i := 11) (v := .string (bs f2.b)) 99 _ List.mem_cons_self rfl (yieldsIf_load_cell rfl rfl rfl (fun w' hS => (World.cell?_of_block (a := ⟨g, o + 7, none⟩) hS).trans m2) Try.underlying9 rfl) (Meets.here hS Meets.nil) ?_
  refine R_l (i := 15) (v := .string (bs f3.b)) 99 _ List.mem_cons_self rfl (yieldsIf_load_cell rfl rfl rfl (fun w' hS => (World.cell?_of_block (a := ⟨g, o + 10, none⟩) hS).trans m3) Try.underlying9 rfl) (Meets.here hS Meets.nil) ?_
  refine R_l (i := 19) (v := .string (bs f4.b)) 99 _ List.mem_cons_self rfl (yieldsIf_load_cell rfl rfl rfl (fun w' hS => (World.cell?_of_block (a := ⟨g, o + 13, none⟩) hS).trans m4) Try.underlying9 rfl) (Meets.here hS Meets.nil) ?_
  refine R_l (i := 23) (v := .string (bs f5.b)) 99 _ List.mem_cons_self rfl (yieldsIf_load_cell rfl rfl rfl (fun w' hS => (World.cell?_of_block (a := ⟨g, o + 16, none⟩) hS).trans m5) Try.underlying9 rfl) (Meets.here hS Meets.nil) ?_
  refine R_l (i := 27) (v := .string (bs f7.b)) 99 _ List.mem_cons_self rfl (yieldsIf_load_cell rfl rfl rfl (fun w' hS => (World.cell?_of_block (a := ⟨g, o + 22, none⟩) hS).trans m7) Try.underlying9 rfl) (Meets.here hS Meets.nil) ?_
  refine R_l (i := 31) (v := .int .u64 (f8.n : Int)) 99 _ List.mem_cons_self rfl (yieldsIf_load_cell rfl rfl rfl (fun w' hS => (World.cell?_of_block (a := ⟨g, o + 24, none⟩) hS).trans m8) Try.underlying22 rfl) (Meets.here hS Meets.nil) ?_
  refine R_l (i := 36) (v := .int .u64 (f9.n : Int)) 99 _ List.mem_cons_self rfl (yieldsIf_load_cell rfl rfl rfl (fun w' hS => (World.cell?_of_block (a := ⟨g, o + 27, none⟩) hS).trans m9) Try.underlying22 rfl) (Meets.here hS Meets.nil) ?_
  refine R_p (i := 32) (v := .bool ad) (Meets.here hS Meets.nil) ?_
  refine R_p (i := 37) (v := .agg #[.string (bs f0.b), .int .u64 (f1.n : Int), .string (bs f2.b), .string (bs f3.b), .string (bs f4.b), .string (bs f5.b), .slice none 0 0, .string (bs f7.b), .bool ad, .int .u64 (f9.n : Int), .slice none 0 0]) (Meets.here hS Meets.nil) ?_
  refine R_now 38 fun K hK => ?_
  refine ite_wanted (by rfl) ?_
  have hbb : Below w1.drew.heap.size w1.drew (w1.alloc (.cells #[.string ⟨#[]⟩, .int .u64 0, .string ⟨#[]⟩, .string ⟨#[]⟩, .string ⟨#[]⟩, .string ⟨#[]⟩, .slice none 0 0, .string ⟨#[]⟩, .bool false, .int .u64 0, .slice none 0 0] 26)).drew := show Below w1.drew.heap.size w1.drew (w1.drew.alloc (.cells #[.string ⟨#[]⟩, .int .u64 0, .string ⟨#[]⟩, .string ⟨#[]⟩, .string ⟨#[]⟩, .string ⟨#[]⟩, .slice none 0 0, .string ⟨#[]⟩, .bool false, .int .u64 0, .slice none 0 0] 26)) from (Below.refl _ _).alloc (Nat.le_refl _) _
  have hbw : Below w1.heap.size w1 (w1.alloc (.cells #[.string ⟨#[]⟩, .int .u64 0, .string ⟨#[]⟩, .string ⟨#[]⟩, .string ⟨#[]⟩, .string ⟨#[]⟩, .slice none 0 0, .string ⟨#[]⟩, .bool false, .int .u64 0, .slice none 0 0] 26)).drew := ((Below.refl _ w1).alloc (Nat.le_refl _) _).drew
  have hRow : (w1.alloc (.cells #[.string ⟨#[]⟩, .int .u64 0, .string ⟨#[]⟩, .string ⟨#[]⟩, .string ⟨#[]⟩, .string ⟨#[]⟩, .slice none 0 0, .string ⟨#[]⟩, .bool false, .int .u64 0, .slice none 0 0] 26)).drew.heap[w1.heap.size]? = some (.cells #[.string ⟨#[]⟩, .int .u64 0, .string ⟨#[]⟩, .string ⟨#[]⟩, .string ⟨#[]⟩, .string ⟨#[]⟩, .slice none 0 0, .string ⟨#[]⟩, .bool false, .int .u64 0, .slice none 0 0] 26) := heap_alloc_new w1 _
  have hO : ∀ q, q < w1.heap.size → (w1.alloc (.cells #[.string ⟨#[]⟩, .int .u64 0, .string ⟨#[]⟩, .string ⟨#[]⟩, .string ⟨#[]⟩, .string ⟨#[]⟩, .slice none 0 0, .string ⟨#[]⟩, .bool false, .int .u64 0, .slice none 0 0] 26)).drew.heap[q]? = w1.heap[q]? := fun q hq => heap_alloc_old w1 _ hq
  have hsz : (w1.alloc (.cells #[.string ⟨#[]⟩, .int .u64 0, .string ⟨#[]⟩, .string ⟨#[]⟩, .string ⟨#[]⟩, .string ⟨#[]⟩, .slice none 0 0, .string ⟨#[]⟩, .bool false, .int .u64 0, .slice none 0 0] 26)).drew.heap.size = w1.heap.size + 1 := by simp
  replace hS := (hbb.block g hgl).trans hS
  replace hR := (hbb.block _ (Array.getElem?_eq_some_iff.1 hR).1).trans hR
  replace hB := below_call hB hB.size hbb
  have HH := Lib.hid (And.intro hRow (And.intro hO (And.intro hsz (And.intro hbw (And.intro hS (And.intro hR hB))))))
  clear hRow hO hsz hS hR hB hbb hbw
  go_simp
  generalize (w1.alloc (.cells #[.string ⟨#[]⟩, .int .u64 0, .string ⟨#[]⟩, .string ⟨#[]⟩, .string ⟨#[]⟩, .string ⟨#[]⟩, .slice none 0 0, .string ⟨#[]⟩, .bool false, .int .u64 0, .slice none 0 0] 26)).drew = w38 at HH ⊢
  obtain ⟨hRow, hO, hsz, hbw, hS, hR, hB⟩ := HH.out
  clear HH
  refine hK.out _ _ (Meets.here hS Meets.nil) (fun hMeets => ?_)
  clear hK K hMeets
  refine lay_R ?_
  refine R_now 39 fun K hK => ?_
  refine ite_wanted (by rfl) ?_
  refine wp_store_row _ _ _ rfl w1.heap.size #[.string (bs f0.b), .int .u64 (f1.n : Int), .string (bs f2.b), .string (bs f3.b), .string (bs f4.b), .string (bs f5.b), .slice none 0 0, .string (bs f7.b), .bool ad, .int .u64 (f9.n : Int), .slice none 0 0] rfl rfl _ #[.string ⟨#[]⟩, .int .u64 0, .string ⟨#[]⟩, .string ⟨#[]⟩, .string ⟨#[]⟩, .string ⟨#[]⟩, .slice none 0 0, .string ⟨#[]⟩, .bool false, .int .u64 0, .slice none 0 0] hRow infoHd rfl (one11 _ [] _ _ _ _ _ _ _ _ _ _ _ _ _ _) ?_
  have hS9 := (heap_setRow_ne w38 (show g ≠ w1.heap.size by omega) #[.string (bs f0.b), .int .u64 (f1.n : Int), .string (bs f2.b), .string (bs f3.b), .string (bs f4.b), .string (bs f5.b), .slice none 0 0, .string (bs f7.b), .bool ad, .int .u64 (f9.n : Int), .slice none 0 0]).trans hS
  have hR9 := (heap_setRow_ne w38 (show w.heap.size ≠ w1.heap.size by omega) #[.string (bs f0.b), .int .u64 (f1.n : Int), .string (bs f2.b), .string (bs f3.b), .string (bs f4.b), .string (bs f5.b), .slice none 0 0, .string (bs f7.b), .bool ad, .int .u64 (f9.n : Int), .slice none 0 0]).trans hR
  have hB9 := below_setRow hB (show w.heap.size ≤ w1.heap.size by omega) #[.string (bs f0.b), .int .u64 (f1.n : Int), .string (bs f2.b), .string (bs f3.b), .string (bs f4.b), .string (bs f5.b), .slice none 0 0, .string (bs f7.b), .bool ad, .int .u64 (f9.n : Int), .slice none 0 0]
  have hbw9 := below_setRow hbw (Nat.le_refl _) #[.string (bs f0.b), .int .u64 (f1.n : Int), .string (bs f2.b), .string (bs f3.b), .string (bs f4.b), .string (bs f5.b), .slice none 0 0, .string (bs f7.b), .bool ad, .int .u64 (f9.n : Int), .slice none 0 0]
  have hY9 := setRow_heap w38 w1.heap.size _ #[.string (bs f0.b), .int .u64 (f1.n : Int), .string (bs f2.b), .string (bs f3.b), .string (bs f4.b), .string (bs f5.b), .slice none 0 0, .string (bs f7.b), .bool ad, .int .u64 (f9.n : Int), .slice none 0 0] _ _ hRow
  have hk1 : ∀ q, q < w1.heap.size → (w38.setRow w1.heap.size #[.string (bs f0.b), .int .u64 (f1.n : Int), .string (bs f2.b), .string (bs f3.b), .string (bs f4.b), .string (bs f5.b), .slice none 0 0, .string (bs f7.b), .bool ad, .int .u64 (f9.n : Int), .slice none 0 0]).heap[q]? = w1.heap[q]? := fun q hq => (heap_setRow_ne w38 (by omega) #[.string (bs f0.b), .int .u64 (f1.n : Int), .string (bs f2.b), .string (bs f3.b), .string (bs f4.b), .string (bs f5.b), .slice none 0 0, .string (bs f7.b), .bool ad, .int .u64 (f9.n : Int), .slice none 0 0]).trans (hO q hq)
  have hsz9 : (w38.setRow w1.heap.size #[.string (bs f0.b), .int .u64 (f1.n : Int), .string (bs f2.b), .string (bs f3.b), .string (bs f4.b), .string (bs f5.b), .slice none 0 0, .string (bs f7.b), .bool ad, .int .u64 (f9.n : Int), .slice none 0 0]).heap.size = w1.heap.size + 1 := by rw [setRow_size]; exact hsz
  generalize w38.setRow w1.heap.size #[.string (bs f0.b), .int .u64 (f1.n : Int), .string (bs f2.b), .string (bs f3.b), .string (bs f4.b), .string (bs f5.b), .slice none 0 0, .string (bs f7.b), .bool ad, .int .u64 (f9.n : Int), .slice none 0 0] = W9 at hS9 hR9 hB9 hY9 hk1 hsz9 hbw9 ⊢
  clear hS hR hB hRow hO hsz hbw
  have hS := hS9
  clear hS9
  refine hK.out _ _ (Meets.here hS Meets.nil) (fun hMeets => ?_)
  clear hK K hMeets
  refine lay_R ?_
  refine R_done (by kernel_rfl) ?_ _
  have HS9 := Lib.hid hS
  have HY9 := Lib.hid hY9
  have HR9 := Lib.hid hR9
  have HB9 := Lib.hid hB9
  have HW9 := Lib.hid hbw9
  have hsz9' : w1.heap.size + 1 ≤ W9.heap.size := by omega
  have p6 := (World.cell?_of_block (a := ⟨g, o + 20, none⟩) hS).trans m6
  clear hS hY9 hR9 hB9 hbw9 hk1 hsz9
  go_wp2_with fail
  go_loopw [64] (fun x wr => ∃ (i : Nat) (u : Value), x = .int .i64 (i : Int) ∧ i ≤ f6.l.length ∧ wr.heap[w1.heap.size]? = some (.cells #[.string (bs f0.b), .int .u64 (f1.n : Int), .string (bs f2.b), .string (bs f3.b), .string (bs f4.b), .string (bs f5.b), u, .string (bs f7.b), .bool ad, .int .u64 (f9.n : Int), .slice none 0 0] 26 (0, 0)) ∧ wr.ownsRow (w1.heap.size + 1) 9 1 u i (strL ((f6.l.take i).map (·.2))) ∧ Below w1.heap.size w1 wr ∧ w1.heap.size + 1 ≤ wr.heap.size) (fun x _ => f6.l.length - (intOf x).toNat)
  case atStart => exact ⟨0, _, rfl, Nat.zero_le _, HY9.out, World.ownsRow_nil _ _ _ _, HW9.out, hsz9'⟩
  case round =>
    clear HS9 HY9 HR9 HB9 HW9 hsz9' p6
    obtain ⟨i, u, rfl, hi, hY, hown, hB, hsz⟩ := hrel
    obtain ⟨A', c', rfl⟩ := own_form hown
    have hYl := (Array.getElem?_eq_some_iff.1 hY).1
    by_cases hlt : i < f6.l.length
    · obtain ⟨x, hx⟩ := getElem_ex hlt
      obtain ⟨g6, o6, Ax, cx, rfl, _, _, kx⟩ := lfs_at (Rep.keep LV6.out hB) hx
      have hltI : (i : Int) < f6.l.length := by omega
      have q0 := kx 0 (.int .u64 (x.1 : Int)) rfl
      have q1 := kx 1 (.string (bs x.2)) rfl
      have q2 := kx 2 (.slice Ax 0 cx) rfl
      simp only [Nat.add_zero] at q0
      have y6 : wr.cell? ⟨w1.heap.size, 6, none⟩ = some (.slice A' i c') := rc hY 6 rfl
      have HA := Lib.hid (take_snoc hx)
      have HYY := Lib.hid hY
      have HO := Lib.hid hown
      have HBB := Lib.hid hB
      have y6a := ca y6 (.cells #[.int .u64 (x.1 : Int), .string (bs x.2), .slice Ax 0 cx] 72)
      clear hY hown hB hx kx
      go_wp2_with (at_builtin; refine wpl_append elStr rfl rfl (w1.heap.size + 1) ((HO.out.alloc _).alloc _) rfl (m := 1) [.string (bs x.2)] rfl rfl ?_ ?_ ?_ ?_ ?_ ?_; exact (lies_new' _ _ (by simp) _ _); (intro u hu; simp at hu; rcases hu with rfl; rfl); (simp only [maxLen]; omega); omega; (simp; omega); intro v1 w8 hown1 hg1 hat1; obtain ⟨A3, c3, rfl⟩ := own_form hown1; have hY8 := (hg1.block w1.heap.size (by simp; omega) (fun e => by have := (HO.out.lt _ e.symm).1; omega)).trans ((heap_alloc_old _ _ (by simp; omega)).trans ((heap_alloc_old _ _ hYl).trans HYY.out)); have d6 := rc (u := .slice A' i c') hY8 6 rfl; have df := rf hY8 6; have HY8 := Lib.hid hY8; clear hY8)
      have hba : Below wr.heap.size wr ((wr.alloc (.cells #[.int .u64 (x.1 : Int), .string (bs x.2), .slice Ax 0 cx] 72)).alloc (.cells #[.string (bs x.2)] 9)) := ((Below.refl _ _).alloc (Nat.le_refl _) _).alloc (by simp) _
      have hB8 := below_app (below_call HBB.out HBB.out.size hba) (own_keep HO.out hba) hg1 (by simp; omega) (by omega)
      have hs8 : w1.heap.size + 1 ≤ w8.heap.size := Nat.le_trans hsz (Nat.le_trans hba.size hg1.size)
      rw [show strL ((f6.l.take i).map (·.2)) ++ [.string (bs x.2)] = strL ((f6.l.take (i + 1)).map (·.2)) by rw [HA.out, List.map_append, List.map_singleton, strL_snoc]] at hown1
      have HO1 := Lib.hid hown1
      clear hown1
      go_roundw
      case rel => exact ⟨i + 1, _, by go_num, hlt, heap_setCell_here HY8.out (i := 6) _, own_setOther HO1.out (Nat.lt_succ_self _) _, hB8.setCell (p := ⟨w1.heap.size, 6, none⟩) (Nat.le_refl _) _, by simpa [World.setCell] using hs8⟩
      case measure => simp [intOf]; omega
    · obtain rfl : i = f6.l.length := by omega
      rw [List.take_of_length_le (Nat.le_refl _)] at hown
      have p10 := (hB.cell (p := ⟨g, o + 32, none⟩) hgl).trans m10
      have p8 := (hB.cell (p := ⟨g, o + 24, none⟩) hgl).trans m8
      have HY1 := Lib.hid hY
      have HO1 := Lib.hid hown
      have HB1' := Lib.hid hB
      have hNl : w1.heap.size < wr.heap.size := hsz
      have hRq := (hB.block w.heap.size hwl).trans HR1.out
      have HRq := Lib.hid hRq
      have hSV : StrV (fun b => w1.heap.size + 1 ≤ b ∧ b < wr.heap.size) wr (f6.l.map (·.2)) A' c' := by
        have := rep_own (S := fun b => w1.heap.size + 1 ≤ b ∧ b < wr.heap.size) (es := strsD (f6.l.map (·.2))) hown (repN_strL _) (by simp [strsD]) (fun b h1 h2 => ⟨h1, h2⟩)
        unfold StrV
        rw [List.length_map]
        exact this
      have HSV := Lib.hid hSV
      clear hY hown hB hRq hSV
      go_wp2_with fail
      rename World => wq
      go_loopw [81] (fun x wr => ∃ (i : Nat) (u : Value), x = .int .i64 (i : Int) ∧ i ≤ f10.l.length ∧ wr.heap[w1.heap.size]? = some (.cells #[.string (bs f0.b), .int .u64 (f1.n : Int), .string (bs f2.b), .string (bs f3.b), .string (bs f4.b), .string (bs f5.b), .slice A' f6.l.length c', .string (bs f7.b), .bool ad, .int .u64 (f9.n : Int), u] 26 (0, 0)) ∧ wr.ownsRow wq.heap.size 49 9 u i ((((f10.l.take i).map fun x => sgOf x.2).map sgL).flatten) ∧ Hid (∀ x ∈ f10.l.take i, okSg (sgOf x.2) = true) ∧ Kp wq.heap.size w1.heap.size wq wr ∧ Below w1.heap.size w1 wr ∧ wq.heap.size ≤ wr.heap.size) (fun x _ => f10.l.length - (intOf x).toNat)
      case atStart => exact ⟨0, _, rfl, Nat.zero_le _, HY1.out, World.ownsRow_nil _ _ _ _, Lib.hid (fun x hx => by cases hx), (fun _ _ _ => rfl), HB1'.out, Nat.le_refl _⟩
      case round =>
        clear HY1 HO1 HB1'
        obtain ⟨i, u, rfl, hi, hY, hown, hall, hkp, hB, hsz2⟩ := hrel
        obtain ⟨A2', c2', rfl⟩ := own_form hown
        have hYl := (Array.getElem?_eq_some_iff.1 hY).1
        have hRr := (hB.block w.heap.size hwl).trans HR1.out
        by_cases hlt : i < f10.l.length
        · obtain ⟨x, hx⟩ := getElem_ex hlt
          obtain ⟨g6, o6, Ax, cx, rfl, _, _, kx⟩ := lfs_at (Rep.keep LV10.out hB) hx
          have hltI : (i : Int) < f10.l.length := by omega
          have q0 := kx 0 (.int .u64 (x.1 : Int)) rfl
          have q1 := kx 1 (.string (bs x.2)) rfl
          have q2 := kx 2 (.slice Ax 0 cx) rfl
          simp only [Nat.add_zero] at q0
          have hx65 := (HG10.out x (List.mem_of_getElem? hx)).2
          have HA := Lib.hid (take_snoc hx)
          have HMX := Lib.hid (List.mem_of_getElem? hx)
          have hpp : sfromP x.2 = if okSg (sgOf x.2) = true then (sgOf x.2, 0) else (zeroSg, 4) := by
            unfold sfromP
            cases hk : okSg (sgOf x.2) with
            | true => rw [if_pos ⟨hx65, rfl⟩, if_pos rfl]
            | false => rw [if_neg (fun h => by cases h.2), if_neg (by decide)]
          obtain ⟨z, nz, hz⟩ : ∃ z nz, sfromP x.2 = (z, nz) := ⟨_, _, rfl⟩
          have hF := fun W : World => sfrom_any x.2 W
          rw [hz] at hpp hF
          simp only [] at hF
          have HF := Lib.hid hF
          have HPP := Lib.hid hpp
          have HYY := Lib.hid hY
          have HO := Lib.hid hown
          have HBB := Lib.hid hB
          have HRR := Lib.hid hRr
          clear hY hown hB hx kx hF hpp hz hx65 hRr
          go_wp2_with fail
          refine (HF.out _).mono ?_
          rintro e w2 ⟨rfl, hb2⟩
          have hba : Below wr.heap.size wr w2 := below_call ((Below.refl _ _).alloc (Nat.le_refl _) _) (by simp) hb2
          have hY2 := (hba.block _ hYl).trans HYY.out
          have hR2 := (hba.block _ (Array.getElem?_eq_some_iff.1 HRR.out).1).trans HRR.out
          have HO2 := Lib.hid (own_keep HO.out hba)
          have HB2 := Lib.hid (below_call HBB.out HBB.out.size hba)
          have hkp2 : Kp wq.heap.size w1.heap.size wq w2 := fun b h1 h2 => (hba.block b (by omega)).trans (hkp b h1 h2)
          have hsz3 := Nat.le_trans hsz2 hba.size
          have hYl2 := (Array.getElem?_eq_some_iff.1 hY2).1
          have hR3 := (heap_alloc_old w2 (.cells #[.int .u64 (z.r.a : Int), .int .u64 (z.r.b : Int), .int .u64 (z.r.c : Int), .int .u64 (z.r.d : Int), .int .u64 (z.s.a : Int), .int .u64 (z.s.b : Int), .int .u64 (z.s.c : Int), .int .u64 (z.s.d : Int), .int .i64 z.v] 49) (Array.getElem?_eq_some_iff.1 hR2).1).trans hR2
          have y10 := rc (u := .slice A2' i c2') hY2 10 rfl
          have y10a := ca y10 (.cells #[.int .u64 (z.r.a : Int), .int .u64 (z.r.b : Int), .int .u64 (z.r.c : Int), .int .u64 (z.r.d : Int), .int .u64 (z.s.a : Int), .int .u64 (z.s.b : Int), .int .u64 (z.s.c : Int), .int .u64 (z.s.d : Int), .int .i64 z.v] 49)
          have HY2 := Lib.hid hY2
          have HR3 := Lib.hid hR3
          clear hb2 hba HYY HO HBB HRR hY2 hR2 hR3 hkp
          cases hk : okSg (sgOf x.2) with
          | false =>
            have hp := HPP.out
            rw [hk, if_neg (by decide)] at hp
            injection hp with hp1 hp2
            subst hp2
            have HT := Lib.hid (HN1.out ⟨x, HMX.out, hk⟩)
            clear hk hp1
            go_wp2_with (refine wpList_store_row rfl _ _ _ rfl w.heap.size #[.string ⟨#[]⟩, .int .u64 0, .string ⟨#[]⟩, .string ⟨#[]⟩, .string ⟨#[]⟩, .string ⟨#[]⟩, .slice none 0 0, .string ⟨#[]⟩, .bool false, .int .u64 0, .slice none 0 0] rfl rfl _ _ HR3.out infoHd rfl one11Z ?_)
            exact bodyPost_ret (v := .tuple #[.agg #[.string ⟨#[]⟩, .int .u64 0, .string ⟨#[]⟩, .string ⟨#[]⟩, .string ⟨#[]⟩, .string ⟨#[]⟩, .slice none 0 0, .string ⟨#[]⟩, .bool false, .int .u64 0, .slice none 0 0], .int .i64 4]) (results_row_tmp rfl _ _ w.heap.size _ _ _ _ rfl (setRow_heap _ _ _ _ _ _ HR3.out) _ rfl Try.underlying26 rfl infoHd) rfl (hdPost_zero HT.out (below_setRow ((HB1.out.trans (HB2.out.mono HB1.out.size)).alloc (Nat.le_trans HB1.out.size HB2.out.size) _) (Nat.le_refl _) _))
          | true =>
            have hp := HPP.out
            rw [hk, if_pos rfl] at hp
            injection hp with hp1 hp2
            subst hp2
            have HALL : Hid (∀ x ∈ f10.l.take (i + 1), okSg (sgOf x.2) = true) := Lib.hid (by rw [HA.out]; intro y hy; rcases List.mem_append.1 hy with hy | hy; exact hall.out y hy; rw [List.mem_singleton] at hy; subst hy; exact hk)
            have HP1 := Lib.hid hp1
            clear hk hp1 hall
            go_wp2_with (at_builtin; refine wpl_append elSg rfl rfl wq.heap.size ((HO2.out.alloc _).alloc _) rfl (m := 1) (sgL z) rfl rfl ?_ ?_ ?_ ?_ ?_ ?_; exact (lies_new' _ _ (by simp) _ _); exact (sgL_ok z).2; (simp only [maxLen]; omega); omega; (simp; omega); intro v1 w8 hown1 hg1 hat1; obtain ⟨A3, c3, rfl⟩ := own_form hown1; have hY8 := (hg1.block w1.heap.size (by simp; omega) (fun e => by have := (HO2.out.lt _ e.symm).1; omega)).trans ((heap_alloc_old _ _ (by simp; omega)).trans ((heap_alloc_old _ _ hYl2).trans HY2.out)); have d6 := rc (u := .slice A2' i c2') hY8 10 rfl; have df := rf hY8 10; have HY8 := Lib.hid hY8; clear hY8)
            have hba : Below w2.heap.size w2 ((w2.alloc (.cells #[.int .u64 (z.r.a : Int), .int .u64 (z.r.b : Int), .int .u64 (z.r.c : Int), .int .u64 (z.r.d : Int), .int .u64 (z.s.a : Int), .int .u64 (z.s.b : Int), .int .u64 (z.s.c : Int), .int .u64 (z.s.d : Int), .int .i64 z.v] 49)).alloc (.cells #[.int .u64 (z.r.a : Int), .int .u64 (z.r.b : Int), .int .u64 (z.r.c : Int), .int .u64 (z.r.d : Int), .int .u64 (z.s.a : Int), .int .u64 (z.s.b : Int), .int .u64 (z.s.c : Int), .int .u64 (z.s.d : Int), .int .i64 z.v] 49)) := ((Below.refl _ _).alloc (Nat.le_refl _) _).alloc (by simp) _
            have hB8 := below_app (below_call HB2.out HB2.out.size hba) (own_keep HO2.out hba) hg1 (by simp; omega) (by omega)
            have hs8 : wq.heap.size ≤ w8.heap.size := Nat.le_trans hsz3 (Nat.le_trans hba.size hg1.size)
            have hkp8 : Kp wq.heap.size w1.heap.size wq w8 := fun b h1 h2 => (hg1.block b (Nat.lt_of_lt_of_le (Nat.lt_of_lt_of_le h1 hsz3) hba.size) (fun e => by have := (HO2.out.lt _ e.symm).1; omega)).trans ((hba.block b (by omega)).trans (hkp2 b h1 h2))
            rw [show (((f10.l.take i).map fun x => sgOf x.2).map sgL).flatten ++ sgL z = (((f10.l.take (i + 1)).map fun x => sgOf x.2).map sgL).flatten by rw [HA.out, HP1.out]; simp] at hown1
            have HO8 := Lib.hid hown1
            clear hown1
            go_roundw
            case rel => exact ⟨i + 1, _, by go_num, hlt, heap_setCell_here HY8.out (i := 10) _, own_setOther HO8.out hNl _, HALL, fun b h1 h2 => (heap_set_ne h2 _).trans (hkp8 b h1 h2), hB8.setCell (p := ⟨w1.heap.size, 10, none⟩) (Nat.le_refl _) _, by simpa [World.setCell] using hs8⟩
            case measure => simp [intOf]; omega
        · obtain rfl : i = f10.l.length := by omega
          rw [List.take_of_length_le (Nat.le_refl _)] at hown hall
          have p8' := (hB.cell (p := ⟨g, o + 24, none⟩) hgl).trans m8
          obtain ⟨h, hh⟩ : ∃ h : Hd, (⟨f0.b, f1.n, f2.b, f3.b, f4.b, f5.b, f6.l.map (·.2), f7.b, ad, f9.n, f10.l.map fun x => sgOf x.2⟩ : Hd) = h := ⟨_, rfl⟩
          have hvv : HdV (From (w.heap.size + 1)) wr h A' c' A2' c2' := by
            rw [← hh]
            refine ⟨Rep.mono HSV.out fun b _ hb => ⟨by show w.heap.size + 1 ≤ b; omega, hkp b hb.2 (by omega)⟩, ?_⟩
            have := PlV.own (S := From (w.heap.size + 1)) hown (by simp) (fun l hl => by obtain ⟨y, _, rfl⟩ := List.mem_map.1 hl; exact sgL_ok y) (fun b h1 _ => by show w.heap.size + 1 ≤ b; omega)
            exact this
          have hfine : h.Fine := by
            rw [← hh]
            exact ⟨HWF.out, HFB.out.1, HFB.out.2.1, HFB.out.2.2.1, HFB.out.2.2.2.1, HFB.out.2.2.2.2.1, HFB.out.2.2.2.2.2, fun a ha => by
              obtain ⟨y, hy, rfl⟩ := List.mem_map.1 ha
              have := (HG6.out y hy).2
              omega⟩
          have hc := fun (W : World) (hb : Below wr.heap.size wr W) => hright_any h hfine A' A2' c' c2' W (HdV.keep ⟨StrV.any hvv.vals, PlV.any hvv.seals⟩ hb)
          have hy := HY.out
          have hn := HN3.out
          rw [hh] at hy hn
          have HHV := Lib.hid hvv
          have HH := Lib.hid hh
          have HYH := Lib.hid hy
          have HNH := Lib.hid hn
          subst hh
          simp only [List.length_map] at hc
          obtain ⟨rb, hrb⟩ : ∃ rb, okHd (⟨f0.b, f1.n, f2.b, f3.b, f4.b, f5.b, f6.l.map (·.2), f7.b, ad, f9.n, f10.l.map fun x => sgOf x.2⟩ : Hd) = rb := ⟨_, rfl⟩
          rw [hrb] at hc
          have HRB := Lib.hid hrb
          have HC := Lib.hid hc
          have HYY := Lib.hid hY
          have HRR := Lib.hid hRr
          have HBB := Lib.hid hB
          clear hY hown hB hkp hvv hfine hc hy hn hrb hRr
          by_cases h8 : (1 : Int) < f8.n
          · have HT := Lib.hid (HN2.out (by omega))
            go_wp2_with (refine wpList_store_row rfl _ _ _ rfl w.heap.size #[.string ⟨#[]⟩, .int .u64 0, .string ⟨#[]⟩, .string ⟨#[]⟩, .string ⟨#[]⟩, .string ⟨#[]⟩, .slice none 0 0, .string ⟨#[]⟩, .bool false, .int .u64 0, .slice none 0 0] rfl rfl _ _ HRR.out infoHd rfl one11Z ?_)
            exact bodyPost_ret (v := .tuple #[.agg #[.string ⟨#[]⟩, .int .u64 0, .string ⟨#[]⟩, .string ⟨#[]⟩, .string ⟨#[]⟩, .string ⟨#[]⟩, .slice none 0 0, .string ⟨#[]⟩, .bool false, .int .u64 0, .slice none 0 0], .int .i64 4]) (results_row_tmp rfl _ _ w.heap.size _ _ _ _ rfl (setRow_heap _ _ _ _ _ _ HRR.out) _ rfl Try.underlying26 rfl infoHd) rfl (hdPost_zero HT.out (below_setRow (HB1.out.trans (HBB.out.mono HB1.out.size)) (Nat.le_refl _) _))
          · have H8 := Lib.hid h8
            have y0 := rc (u := .string (bs f0.b)) HYY.out 0 rfl
            have y1 := rc (u := .int .u64 (f1.n : Int)) HYY.out 1 rfl
            have y2 := rc (u := .string (bs f2.b)) HYY.out 2 rfl
            have y3 := rc (u := .string (bs f3.b)) HYY.out 3 rfl
            have y4 := rc (u := .string (bs f4.b)) HYY.out 4 rfl
            have y5 := rc (u := .string (bs f5.b)) HYY.out 5 rfl
            have y6 := rc (u := .slice A' f6.l.length c') HYY.out 6 rfl
            have y7 := rc (u := .string (bs f7.b)) HYY.out 7 rfl
            have y8 := rc (u := .bool ad) HYY.out 8 rfl
            have y9 := rc (u := .int .u64 (f9.n : Int)) HYY.out 9 rfl
            have y10 := rc (u := .slice A2' f10.l.length c2') HYY.out 10 rfl
            go_wp2_with fail
            refine (HC.out _ (Below.refl _ _)).mono ?_
            rintro e w9 ⟨rfl, hb9⟩
            have HY9 := Lib.hid ((hb9.block _ (Array.getElem?_eq_some_iff.1 HYY.out).1).trans HYY.out)
            have HR9 := Lib.hid ((hb9.block _ (Array.getElem?_eq_some_iff.1 HRR.out).1).trans HRR.out)
            have HB9 := Lib.hid (HB1.out.trans ((below_call HBB.out HBB.out.size hb9).mono HB1.out.size))
            have HV9 := Lib.hid (HHV.out.keep hb9)
            clear hb9 HYY HRR HBB HHV y0 y1 y2 y3 y4 y5 y6 y7 y8 y9 y10
            cases rb with
            | false =>
              have HT := Lib.hid (HNH.out (fun hk => by rw [(okHd_iff _).2 hk] at HRB; cases HRB.out))
              go_wp2_with (refine wpList_store_row rfl _ _ _ rfl w.heap.size #[.string ⟨#[]⟩, .int .u64 0, .string ⟨#[]⟩, .string ⟨#[]⟩, .string ⟨#[]⟩, .string ⟨#[]⟩, .slice none 0 0, .string ⟨#[]⟩, .bool false, .int .u64 0, .slice none 0 0] rfl rfl _ _ HR9.out infoHd rfl one11Z ?_)
              exact bodyPost_ret (v := .tuple #[.agg #[.string ⟨#[]⟩, .int .u64 0, .string ⟨#[]⟩, .string ⟨#[]⟩, .string ⟨#[]⟩, .string ⟨#[]⟩, .slice none 0 0, .string ⟨#[]⟩, .bool false, .int .u64 0, .slice none 0 0], .int .i64 4]) (results_row_tmp rfl _ _ w.heap.size _ _ _ _ rfl (setRow_heap _ _ _ _ _ _ HR9.out) _ rfl Try.underlying26 rfl infoHd) rfl (hdPost_zero HT.out (below_setRow HB9.out (Nat.le_refl _) _))
            | true =>
              have HT := Lib.hid (HYH.out hall.out (by omega) ((okHd_iff _).1 HRB.out))
              go_wp2_with (first | (refine wpList_load_row rfl _ _ rfl w1.heap.size rfl _ _ _ _ HY9.out Try.underlying26 rfl infoHd ?_) | (refine wpList_store_row rfl _ _ _ rfl w.heap.size #[.string (bs f0.b), .int .u64 (f1.n : Int), .string (bs f2.b), .string (bs f3.b), .string (bs f4.b), .string (bs f5.b), .slice A' f6.l.length c', .string (bs f7.b), .bool ad, .int .u64 (f9.n : Int), .slice A2' f10.l.length c2'] rfl rfl _ _ HR9.out infoHd rfl (one11 _ [] _ _ _ _ _ _ _ _ _ _ _ _ _ _) ?_))
              refine bodyPost_ret (v := .tuple #[.agg #[.string (bs f0.b), .int .u64 (f1.n : Int), .string (bs f2.b), .string (bs f3.b), .string (bs f4.b), .string (bs f5.b), .slice A' f6.l.length c', .string (bs f7.b), .bool ad, .int .u64 (f9.n : Int), .slice A2' f10.l.length c2'], .int .i64 0]) (results_row_tmp rfl _ _ w.heap.size _ _ _ _ rfl (setRow_heap _ _ _ _ _ _ HR9.out) _ rfl Try.underlying26 rfl infoHd) rfl ?_
              refine ⟨⟨f0.b, f1.n, f2.b, f3.b, f4.b, f5.b, f6.l.map (·.2), f7.b, ad, f9.n, f10.l.map fun x => sgOf x.2⟩, A', A2', c', c2', 0, by simp only [List.length_map]; rfl, ?_, HT.out, below_setRow HB9.out (Nat.le_refl _) _⟩
              have hm : ∀ b, b < w9.heap.size → From (w.heap.size + 1) b → From w.heap.size b ∧ (w9.setRow w.heap.size #[.string (bs f0.b), .int .u64 (f1.n : Int), .string (bs f2.b), .string (bs f3.b), .string (bs f4.b), .string (bs f5.b), .slice A' f6.l.length c', .string (bs f7.b), .bool ad, .int .u64 (f9.n : Int), .slice A2' f10.l.length c2']).heap[b]? = w9.heap[b]? := fun b _ hb => ⟨Nat.le_of_succ_le hb, heap_setRow_ne _ (by have h1 : w.heap.size + 1 ≤ b := hb; omega) _⟩
              exact ⟨Rep.mono HV9.out.vals hm, Rep.mono HV9.out.seals hm⟩
end Go.Proofs.Ytjanaholcjkceaa
/- The walks of keccak.Of, block.Sum. -/
namespace Go.Proofs.Ytjanaholcjkceaa
set_option linter.unusedVariables false
set_option linter.unusedSimpArgs false
open Go.RowKit
theorem map_bs (ps : List Bytes) : (ps.map bs).map (·.data.toList) = ps := by
  rw [List.map_map]; conv => rhs; rw [← List.map_id ps]
  exact List.map_congr_left fun a _ => by simp [bs]
theorem join_flat : ∀ ps : List Bytes, Lib.join ps [] = ps.flatten
  | [] => rfl
  | [a] => by simp [Lib.join]
  | a :: b :: ps => by
    have := join_flat (b :: ps)
    simp [Lib.join] at this ⊢
    exact this
theorem join_any (ps : List Bytes) (hN : ps.length ≤ 100000) (hl : ps.flatten.length ≤ 1000000) (A : Option Addr) (c : Nat) (w : World) (hv : StrV Any w ps A c) :
    Calls Try.prog 55 #[.slice A ps.length c, .string ⟨#[]⟩] w fun e w' => e = .returned (.string (bs ps.flatten)) ∧ Below w.heap.size w w' := by
  cases ps with
  | nil => exact (joinNone A c _ w).mono fun e w' ⟨h1, h2⟩ => ⟨h1, by rw [h2]; exact Below.refl _ _⟩
  | cons a l =>
    have hc : (a :: l).length ≤ c := (Rep.slice_len hv).2.1
    obtain ⟨g, o, rfl, _, h0⟩ := StrV.at_ hv (i := 0) (p := a) rfl
    have h := joinSome g o c ((a :: l).map bs) (bs []) w (fun j x hj => by
      rw [List.getElem?_map, Option.map_eq_some_iff] at hj
      obtain ⟨y, hy, rfl⟩ := hj
      obtain ⟨g1, o1, h1, _, h2⟩ := StrV.at_ hv hy
      injection h1 with h1
      injection h1 with h1 h3
      subst h1; subst h3
      exact h2) (lt_of_cell h0) (by rw [List.length_map]; omega) (by rw [List.length_map]; exact hc) (by
        rw [map_bs, show (bs []).data.toList = [] from rfl, join_flat]; omega)
    rw [map_bs, List.length_map, show (bs []).data.toList = [] from rfl, join_flat] at h
    exact h
set_option maxRecDepth 100000 in
set_option maxHeartbeats 4000000 in
theorem of_any (ps : List Bytes) (hN : ps.length ≤ 100000) (hl : ps.flatten.length ≤ 1000000) (A : Option Addr) (c : Nat) (w : World) (hv : StrV Any w ps A c) :
    Calls Try.prog 37 #[.slice A ps.length c] w fun e w' => e = .returned (.string (bs (sumK ps.flatten))) ∧ Below w.heap.size w w' := by
  have HJ := Lib.hid (join_any ps hN hl A c w hv)
  have HS := Lib.hid (fun W : World => sum_any ps.flatten (by omega) W)
  clear hN hl hv
  go_enter Try.func37, Try.ntmps37
  go_wp2_with fail
  refine HJ.out.mono ?_
  rintro e w1 ⟨rfl, hb1⟩
  have HB1 := Lib.hid hb1
  clear hb1
  go_wp2_with fail
  refine (HS.out _).mono ?_
  rintro e w2 ⟨rfl, hb2⟩
  have HB2 := Lib.hid (below_call HB1.out HB1.out.size hb2)
  clear hb2
  go_wp2_with fail
  go_ret
  exact ⟨rfl, HB2.out⟩
def trL (t : Tr) : List Value := [.string (bs t.to), .int .u64 (t.am : Int), .int .u64 (t.no : Int), .int .u64 (t.sg.r.a : Int), .int .u64 (t.sg.r.b : Int), .int .u64 (t.sg.r.c : Int), .int .u64 (t.sg.r.d : Int), .int .u64 (t.sg.s.a : Int), .int .u64 (t.sg.s.b : Int), .int .u64 (t.sg.s.c : Int), .int .u64 (t.sg.s.d : Int), .int .i64 t.sg.v]
theorem trL_ok (t : Tr) : (trL t).length = 12 ∧ ∀ u ∈ trL t, u.oneCell' = true := ⟨rfl, fun u hu => by
  simp only [trL, List.mem_cons, List.not_mem_nil, or_false] at hu
  rcases hu with rfl | rfl | rfl | rfl | rfl | rfl | rfl | rfl | rfl | rfl | rfl | rfl <;> rfl⟩
def TrsV (S : Nat → Prop) (w : World) (l : List Tr) (A : Option Addr) (c : Nat) : Prop := PlV S w 12 (l.map trL) A c
theorem trs_at {S : Nat → Prop} {w : World} {l : List Tr} {A : Option Addr} {c i : Nat} {t : Tr} (h : TrsV S w l A c) (hi : l[i]? = some t) : ∃ g o, A = some ⟨g, o, none⟩ ∧ ∀ j u, (trL t)[j]? = some u → w.cell? ⟨g, o + i * 12 + j, none⟩ = some u := by
  obtain ⟨g, o, hA, _, _, hc⟩ := PlV.at_ h (by decide) (i := i) (cs := trL t) (by rw [List.getElem?_map, hi]; rfl)
  exact ⟨g, o, hA, hc⟩
structure Tr.Fine (t : Tr) : Prop where
  wf : t.Wf
  to : t.to.length ≤ 9223372036854775807
def bsumP (l : List Tr) : Bytes × Nat := if l.all okTr = true then (sumsT l, 0) else ([], 1)
set_option maxRecDepth 100000 in
set_option maxHeartbeats 4000000 in
theorem bsum_any (l : List Tr) (hl : l.length ≤ 10000) (hf : ∀ t ∈ l, t.Fine) (A : Option Addr) (c : Nat) (w : World) (hv : TrsV Any w l A c) :
    Calls Try.prog 22 #[.slice A l.length c] w fun e w' => e = .returned (.tuple #[.string (bs (bsumP l).1), .int .i64 (bsumP l).2]) ∧ Below w.heap.size w w' := by
  obtain ⟨r, n, hrn⟩ : ∃ r n, bsumP l = (r, n) := ⟨_, _, rfl⟩
  rw [hrn]
  simp only []
  unfold bsumP at hrn
  have HRN := Lib.hid hrn
  have HV := Lib.hid hv
  have HF := Lib.hid hf
  have hlI : (l.length : Int) ≤ 10000 := by omega
  clear hrn hv hf
  go_enter Try.func22, Try.ntmps22
  go_wp2_with fail
  go_loopw [4, 11] (fun u a wr => ∃ i : Nat, a = .int .i64 (i : Int) ∧ i ≤ l.length ∧ wr.ownsRow w.heap.size 9 1 u i (strL ((l.take i).map sumT)) ∧ Hid ((l.take i).all okTr = true) ∧ Below w.heap.size w wr) (fun _ a _ => l.length - (intOf a).toNat)
  case atStart => exact ⟨0, rfl, Nat.zero_le _, World.ownsRow_nil _ _ _ _, Lib.hid rfl, Below.refl _ _⟩
  case round =>
    obtain ⟨i, rfl, hi, hown, hall, hB⟩ := hrel
    obtain ⟨A', c', rfl⟩ := own_form hown
    by_cases hlt : i < l.length
    · obtain ⟨t, ht⟩ := getElem_ex hlt
      obtain ⟨g, o, rfl, kc⟩ := trs_at (PlV.keep HV.out hB) ht
      have hltI : (i : Int) < l.length := by omega
      have q0 := kc 0 (.string (bs t.to)) rfl
      have q1 := kc 1 (.int .u64 (t.am : Int)) rfl
      have q2 := kc 2 (.int .u64 (t.no : Int)) rfl
      have q3 := kc 3 (.int .u64 (t.sg.r.a : Int)) rfl
      have q4 := kc 4 (.int .u64 (t.sg.r.b : Int)) rfl
      have q5 := kc 5 (.int .u64 (t.sg.r.c : Int)) rfl
      have q6 := kc 6 (.int .u64 (t.sg.r.d : Int)) rfl
      have q7 := kc 7 (.int .u64 (t.sg.s.a : Int)) rfl
      have q8 := kc 8 (.int .u64 (t.sg.s.b : Int)) rfl
      have q9 := kc 9 (.int .u64 (t.sg.s.c : Int)) rfl
      have q10 := kc 10 (.int .u64 (t.sg.s.d : Int)) rfl
      have q11 := kc 11 (.int .i64 t.sg.v) rfl
      simp only [Nat.add_zero] at q0
      have hfine := HF.out t (List.mem_of_getElem? ht)
      have HA := Lib.hid (take_snoc ht)
      have HM := Lib.hid (List.mem_of_getElem? ht)
      have HO := Lib.hid hown
      have HB := Lib.hid hB
      cases hok : okTr t with
      | false =>
        have hz : (r, n) = ([], 1) := by rw [← HRN.out, if_neg (fun h => by rw [List.all_eq_true.1 h t HM.out] at hok; cases hok)]
        injection hz with hz1 hz2
        subst hz1; subst hz2
        have HC := Lib.hid (fun W : World => tsum_no t hfine.wf hfine.to hok W)
        clear hok hown hB kc ht hfine hall
        go_wp2_with fail
        refine (HC.out _).mono ?_
        rintro e w1 ⟨rfl, hb1⟩
        have HB1 := Lib.hid (below_call (HB.out.alloc HB.out.size _) (Nat.le_trans HB.out.size (by simp)) hb1)
        clear hb1
        go_wp2_with fail
        go_ret2
        exact ⟨rfl, HB1.out⟩
      | true =>
        have HC := Lib.hid (fun W : World => tsum_yes t hfine.wf hok W)
        have HALL : Hid ((l.take (i + 1)).all okTr = true) := Lib.hid (by rw [HA.out, List.all_append, hall.out]; simp [hok])
        clear hok hown hB kc ht hfine hall
        go_wp2_with fail
        refine (HC.out _).mono ?_
        rintro e w1 ⟨rfl, hb1⟩
        have hba : Below wr.heap.size wr w1 := below_call ((Below.refl _ _).alloc (Nat.le_refl _) _) (by simp) hb1
        have HB1 := Lib.hid (below_call HB.out HB.out.size hba)
        have HO1 := Lib.hid (own_keep HO.out hba)
        clear hb1 hba HO HB
        go_wp2_with (at_builtin; refine wpl_append elStr rfl rfl w.heap.size (HO1.out.alloc _) rfl (m := 1) [.string (bs (sumK (trB t)))] rfl rfl (lies_new _ _ _) ?_ ?_ ?_ ?_ ?_; (intro u hu; simp at hu; rcases hu with rfl; rfl); (simp only [maxLen]; omega); omega; (simp; have := HB1.out.size; omega); intro v1 w8 hown1 hg1 hat1; obtain ⟨A3, c3, rfl⟩ := own_form hown1)
        have hba : Below w1.heap.size w1 (w1.alloc (.cells #[.string (bs (sumK (trB t)))] 9)) := (Below.refl _ _).alloc (Nat.le_refl _) _
        have hB8 := below_app (below_call HB1.out HB1.out.size hba) (own_keep HO1.out hba) hg1 (by simp; have := HB1.out.size; omega) (Nat.le_refl _)
        rw [show strL ((l.take i).map sumT) ++ [.string (bs (sumK (trB t)))] = strL ((l.take (i + 1)).map sumT) by rw [HA.out, List.map_append, List.map_singleton, strL_snoc]; rfl] at hown1
        go_roundw
        case rel => exact ⟨i + 1, by go_num, hlt, hown1, HALL, hB8⟩
        case measure => simp [intOf]; omega
    · obtain rfl : i = l.length := by omega
      rw [List.take_of_length_le (Nat.le_refl _)] at hown hall
      have hz : (r, n) = (sumsT l, 0) := by rw [← HRN.out, if_pos hall.out]
      injection hz with hz1 hz2
      have hflat : ∀ m : List Tr, (m.map sumT).flatten.length = 32 * m.length := fun m => by
        induction m with
        | nil => rfl
        | cons a m ih => rw [List.map_cons, List.flatten_cons, List.length_append, ih, List.length_cons]; unfold sumT; rw [sumK_len]; omega
      have hsv : StrV Any wr (l.map sumT) A' c' := by
        have := rep_own (S := Any) (es := strsD (l.map sumT)) hown (repN_strL _) (by simp [strsD]) (fun _ _ _ => trivial)
        unfold StrV
        rw [List.length_map]
        exact this
      have hC := of_any (l.map sumT) (by rw [List.length_map]; omega) (by rw [hflat]; omega) A' c' wr hsv
      rw [List.length_map] at hC
      have HC := Lib.hid hC
      have HB := Lib.hid hB
      have HZ1 := Lib.hid hz1
      subst hz2
      clear hC hB hown hsv hz1 hflat hall
      go_wp2_with fail
      refine HC.out.mono ?_
      rintro e w1 ⟨rfl, hb1⟩
      have HB1 := Lib.hid (below_call HB.out HB.out.size hb1)
      clear hb1
      go_wp2_with fail
      go_ret2
      exact ⟨by rw [HZ1.out]; rfl, HB1.out⟩
end Go.Proofs.Ytjanaholcjkceaa
/- The walks of block.Right, Bytes. -/
namespace Go.Proofs.Ytjanaholcjkceaa
set_option linter.unusedVariables false
set_option linter.unusedSimpArgs false
open Go.RowKit
structure BkV (S : Nat → Prop) (w : World) (b : Bk) (Av : Option Addr) (cv : Nat) (As : Option Addr) (cs : Nat) (At : Option Addr) (ct : Nat) : Prop where
  hd : HdV S w b.hd Av cv As cs
  txs : TrsV S w b.txs At ct
theorem BkV.keep {S : Nat → Prop} {w w' : World} {b : Bk} {Av As At : Option Addr} {cv cs ct : Nat} (x : BkV S w b Av cv As cs At ct) (hb : Below w.heap.size w w') : BkV S w' b Av cv As cs At ct := ⟨x.hd.keep hb, PlV.keep x.txs hb⟩
structure Bk.Fine (b : Bk) : Prop where
  hd : b.hd.Fine
  txs : ∀ t ∈ b.txs, t.Fine
  len : b.txs.length ≤ 10000
theorem okBk_eq (b : Bk) : okBk b = (okHd b.hd && (decide (b.txs.length ≤ 4) && (b.txs.all okTr && sumsT b.txs == b.hd.txs))) := by
  unfold okBk; simp only [Bool.and_assoc]
set_option maxRecDepth 100000 in
set_option maxHeartbeats 4000000 in
theorem bright_any (b : Bk) (hf : b.Fine) (Av As At : Option Addr) (cv cs ct : Nat) (w : World) (hv : BkV Any w b Av cv As cs At ct) :
    Calls Try.prog 9 #[.agg #[.string (bs b.hd.parent), .int .u64 (b.hd.height : Int), .string (bs b.hd.root), .string (bs b.hd.txs), .string (bs b.hd.prop), .string (bs b.hd.van), .slice Av b.hd.vals.length cv, .string (bs b.hd.vote), .bool b.hd.add, .int .u64 (b.hd.round : Int), .slice As b.hd.seals.length cs, .slice At b.txs.length ct]] w fun e w' => e = .returned (.bool (okBk b)) ∧ Below w.heap.size w w' := by
  have hp := okBk_eq b
  obtain ⟨R, hR⟩ : ∃ R, okBk b = R := ⟨_, rfl⟩
  rw [hR] at hp ⊢
  have h0 := heap_alloc_new w (.cells #[.string (bs b.hd.parent), .int .u64 (b.hd.height : Int), .string (bs b.hd.root), .string (bs b.hd.txs), .string (bs b.hd.prop), .string (bs b.hd.van), .slice Av b.hd.vals.length cv, .string (bs b.hd.vote), .bool b.hd.add, .int .u64 (b.hd.round : Int), .slice As b.hd.seals.length cs, .slice At b.txs.length ct] 29)
  have hb := (Below.refl w.heap.size w).alloc (Nat.le_refl _) (.cells #[.string (bs b.hd.parent), .int .u64 (b.hd.height : Int), .string (bs b.hd.root), .string (bs b.hd.txs), .string (bs b.hd.prop), .string (bs b.hd.van), .slice Av b.hd.vals.length cv, .string (bs b.hd.vote), .bool b.hd.add, .int .u64 (b.hd.round : Int), .slice As b.hd.seals.length cs, .slice At b.txs.length ct] 29)
  have hH := fun (W : World) (hb : Below w.heap.size w W) => hright_any b.hd hf.hd Av As cv cs W (hv.hd.keep hb)
  have hS := fun (W : World) (hb : Below w.heap.size w W) => bsum_any b.txs hf.len hf.txs At ct W (PlV.keep hv.txs hb)
  obtain ⟨hk, hhk⟩ : ∃ hk, okHd b.hd = hk := ⟨_, rfl⟩
  rw [hhk] at hH hp
  have hlI : (b.txs.length : Int) ≤ 10000 := by have := hf.len; omega
  have HOK := Lib.hid hp
  have HX := Lib.hid h0
  have HB := Lib.hid hb
  have HH := Lib.hid hH
  have HS := Lib.hid hS
  have x0 := rc (u := .string (bs b.hd.parent)) h0 0 rfl
  have x1 := rc (u := .int .u64 (b.hd.height : Int)) h0 1 rfl
  have x2 := rc (u := .string (bs b.hd.root)) h0 2 rfl
  have x3 := rc (u := .string (bs b.hd.txs)) h0 3 rfl
  have x4 := rc (u := .string (bs b.hd.prop)) h0 4 rfl
  have x5 := rc (u := .string (bs b.hd.van)) h0 5 rfl
  have x6 := rc (u := .slice Av b.hd.vals.length cv) h0 6 rfl
  have x7 := rc (u := .string (bs b.hd.vote)) h0 7 rfl
  have x8 := rc (u := .bool b.hd.add) h0 8 rfl
  have x9 := rc (u := .int .u64 (b.hd.round : Int)) h0 9 rfl
  have x10 := rc (u := .slice As b.hd.seals.length cs) h0 10 rfl
  have x11 := rc (u := .slice At b.txs.length ct) h0 11 rfl
  clear hp hR h0 hb hH hS hhk hv hf
  cases hk with
  | false =>
    have hR : R = false := by rw [HOK.out]; rfl
    have HR := Lib.hid hR
    clear hR
    go_enter Try.func9, Try.ntmps9
    go_wp2_with fail
    refine (HH.out _ HB.out).mono ?_
    rintro e w1 ⟨rfl, hb1⟩
    have HB1 := Lib.hid (below_call HB.out HB.out.size hb1)
    clear hb1 x0 x1 x2 x3 x4 x5 x6 x7 x8 x9 x10 x11
    go_wp2_with fail
    go_ret
    exact ⟨by rw [HR.out]; rfl, HB1.out⟩
  | true =>
    have hp := HOK.out
    rw [Bool.true_and] at hp
    have HOK := Lib.hid hp
    clear hp
    by_cases h4 : (4 : Int) < b.txs.length
    · have hR : R = false := by rw [HOK.out, decide_eq_false (show ¬ b.txs.length ≤ 4 by omega)]; rfl
      have HR := Lib.hid hR
      clear hR
      go_enter Try.func9, Try.ntmps9
      go_wp2_with fail
      refine (HH.out _ HB.out).mono ?_
      rintro e w1 ⟨rfl, hb1⟩
      have hX1 := (hb1.block _ (Array.getElem?_eq_some_iff.1 HX.out).1).trans HX.out
      have HB1 := Lib.hid (below_call HB.out HB.out.size hb1)
      have y11 := rc (u := .slice At b.txs.length ct) hX1 11 rfl
      clear hb1 hX1 x0 x1 x2 x3 x4 x5 x6 x7 x8 x9 x10 x11
      go_wp2_with fail
      go_ret
      exact ⟨by rw [HR.out]; rfl, HB1.out⟩
    · have hp := HOK.out
      rw [decide_eq_true (show b.txs.length ≤ 4 by omega), Bool.true_and] at hp
      have hS := HS.out
      unfold bsumP at hS
      obtain ⟨ak, hak⟩ : ∃ ak, b.txs.all okTr = ak := ⟨_, rfl⟩
      rw [hak] at hp hS
      obtain ⟨q, hq⟩ : ∃ q, (sumsT b.txs == b.hd.txs) = q := ⟨_, rfl⟩
      rw [hq] at hp
      have HQ := Lib.hid hq
      have HOK := Lib.hid hp
      clear hp hak hq
      cases ak with
      | false =>
        rw [if_neg (by decide)] at hS
        have hR : R = false := by rw [HOK.out]; rfl
        have HR := Lib.hid hR
        have HS := Lib.hid hS
        clear hR hS
        go_enter Try.func9, Try.ntmps9
        go_wp2_with fail
        refine (HH.out _ HB.out).mono ?_
        rintro e w1 ⟨rfl, hb1⟩
        have hX1 := (hb1.block _ (Array.getElem?_eq_some_iff.1 HX.out).1).trans HX.out
        have HB1 := Lib.hid (below_call HB.out HB.out.size hb1)
        have y11 := rc (u := .slice At b.txs.length ct) hX1 11 rfl
        clear hb1 hX1 x0 x1 x2 x3 x4 x5 x6 x7 x8 x9 x10 x11
        go_wp2_with fail
        refine (HS.out _ HB1.out).mono ?_
        rintro e w2 ⟨rfl, hb2⟩
        have HB2 := Lib.hid (below_call HB1.out HB1.out.size hb2)
        clear hb2 y11
        go_wp2_with fail
        go_ret
        exact ⟨by rw [HR.out]; rfl, HB2.out⟩
      | true =>
        rw [if_pos rfl] at hS
        have hR : R = q := by rw [HOK.out, Bool.true_and]
        have HR := Lib.hid hR
        have HS := Lib.hid hS
        clear hR hS
        go_enter Try.func9, Try.ntmps9
        go_wp2_with fail
        refine (HH.out _ HB.out).mono ?_
        rintro e w1 ⟨rfl, hb1⟩
        have hX1 := (hb1.block _ (Array.getElem?_eq_some_iff.1 HX.out).1).trans HX.out
        have HB1 := Lib.hid (below_call HB.out HB.out.size hb1)
        have y11 := rc (u := .slice At b.txs.length ct) hX1 11 rfl
        have HX1 := Lib.hid hX1
        clear hb1 hX1 x0 x1 x2 x3 x4 x5 x6 x7 x8 x9 x10 x11
        go_wp2_with fail
        refine (HS.out _ HB1.out).mono ?_
        rintro e w2 ⟨rfl, hb2⟩
        have hX2 := (hb2.block _ (Array.getElem?_eq_some_iff.1 HX1.out).1).trans HX1.out
        have HB2 := Lib.hid (below_call HB1.out HB1.out.size hb2)
        have y3 := rc (u := .string (bs b.hd.txs)) hX2 3 rfl
        have hqe := HQ.out
        obtain ⟨st, hst⟩ : ∃ st, sumsT b.txs = st := ⟨_, rfl⟩
        obtain ⟨ht, hht⟩ : ∃ ht, b.hd.txs = ht := ⟨_, rfl⟩
        rw [hst, hht] at hqe
        rw [hht] at y3
        rw [hst]
        clear hb2 hX2 y11 hst hht
        go_wp2_with fail
        go_ret
        exact ⟨by rw [HR.out]; rfl, HB2.out⟩
def itC (s : Bytes) : List Value := [.bool false, .string (bs s), .slice none 0 0]
def itsC (l : List Bytes) : List Value := l.flatMap itC
theorem itsC_snoc (l : List Bytes) (a : Bytes) : itsC (l ++ [a]) = itsC l ++ itC a := by simp [itsC]
theorem repN_itsC {S : Nat → Prop} {w : World} : ∀ l : List Bytes, RepN S w 3 (itemsD (l.map leafIt)) (itsC l)
  | [] => .nil
  | a :: l => .cons (cs := itC a) (ItemV.leaf (S := S) (w := w) a false) rfl (repN_itsC l)
def bkTs (b : Bk) : List Bytes := hdB b.hd :: b.txs.map trB
theorem bkL_ts (b : Bk) : bkL b = (bkTs b).map leafIt := by unfold bkL bkTs; rw [List.map_cons, List.map_map]; rfl
theorem encR_bk {b : Bk} (hk : OkBk b) (hw : b.Wf) : encR (bkI b) = (bkB b, 0) := by
  obtain ⟨h1, h2⟩ := bkB_len hk hw
  obtain ⟨h3, h4⟩ := bkI_fine b
  unfold bkB at h1
  unfold encR wellP
  rw [h3]
  simp only [Bool.true_and]
  rw [if_neg (by simp; omega), if_neg (by omega), if_neg (by omega)]
  rfl
set_option maxRecDepth 100000 in
set_option maxHeartbeats 4000000 in
theorem bbytes_no (b : Bk) (hf : b.Fine) (hk : okBk b = false) (Av As At : Option Addr) (cv cs ct : Nat) (w : World) (hv : BkV Any w b Av cv As cs At ct) :
    Calls Try.prog 5 #[.agg #[.string (bs b.hd.parent), .int .u64 (b.hd.height : Int), .string (bs b.hd.root), .string (bs b.hd.txs), .string (bs b.hd.prop), .string (bs b.hd.van), .slice Av b.hd.vals.length cv, .string (bs b.hd.vote), .bool b.hd.add, .int .u64 (b.hd.round : Int), .slice As b.hd.seals.length cs, .slice At b.txs.length ct]] w fun e w' => e = .returned (.tuple #[.string (bs []), .int .i64 1]) ∧ Below w.heap.size w w' := by
  have hb := (Below.refl w.heap.size w).alloc (Nat.le_refl _) (.cells #[.string (bs b.hd.parent), .int .u64 (b.hd.height : Int), .string (bs b.hd.root), .string (bs b.hd.txs), .string (bs b.hd.prop), .string (bs b.hd.van), .slice Av b.hd.vals.length cv, .string (bs b.hd.vote), .bool b.hd.add, .int .u64 (b.hd.round : Int), .slice As b.hd.seals.length cs, .slice At b.txs.length ct] 29)
  have hR := bright_any b hf Av As At cv cs ct (w.alloc (.cells #[.string (bs b.hd.parent), .int .u64 (b.hd.height : Int), .string (bs b.hd.root), .string (bs b.hd.txs), .string (bs b.hd.prop), .string (bs b.hd.van), .slice Av b.hd.vals.length cv, .string (bs b.hd.vote), .bool b.hd.add, .int .u64 (b.hd.round : Int), .slice As b.hd.seals.length cs, .slice At b.txs.length ct] 29)) (hv.keep hb)
  rw [hk] at hR
  have HR := Lib.hid hR
  have HB := Lib.hid hb
  clear hR hb hk hf hv
  go_enter Try.func5, Try.ntmps5
  go_wp2_with fail
  refine HR.out.mono ?_
  rintro e w1 ⟨rfl, hb1⟩
  have HB1 := Lib.hid (below_call HB.out HB.out.size hb1)
  clear hb1
  go_wp2_with fail
  go_ret2
  exact ⟨rfl, HB1.out⟩
set_option maxRecDepth 100000 in
set_option maxHeartbeats 4000000 in
theorem bbytes_yes (b : Bk) (hf : b.Fine) (hk : OkBk b) (Av As At : Option Addr) (cv cs ct : Nat) (w : World) (hv : BkV Any w b Av cv As cs At ct) :
    Calls Try.prog 5 #[.agg #[.string (bs b.hd.parent), .int .u64 (b.hd.height : Int), .string (bs b.hd.root), .string (bs b.hd.txs), .string (bs b.hd.prop), .string (bs b.hd.van), .slice Av b.hd.vals.length cv, .string (bs b.hd.vote), .bool b.hd.add, .int .u64 (b.hd.round : Int), .slice As b.hd.seals.length cs, .slice At b.txs.length ct]] w fun e w' => e = .returned (.tuple #[.string (bs (bkB b)), .int .i64 0]) ∧ Below w.heap.size w w' := by
  have hwf : b.Wf := ⟨hf.hd.wf, fun t ht => (hf.txs t ht).wf⟩
  have h0 := heap_alloc_new w (.cells #[.string (bs b.hd.parent), .int .u64 (b.hd.height : Int), .string (bs b.hd.root), .string (bs b.hd.txs), .string (bs b.hd.prop), .string (bs b.hd.van), .slice Av b.hd.vals.length cv, .string (bs b.hd.vote), .bool b.hd.add, .int .u64 (b.hd.round : Int), .slice As b.hd.seals.length cs, .slice At b.txs.length ct] 29)
  have hb := (Below.refl w.heap.size w).alloc (Nat.le_refl _) (.cells #[.string (bs b.hd.parent), .int .u64 (b.hd.height : Int), .string (bs b.hd.root), .string (bs b.hd.txs), .string (bs b.hd.prop), .string (bs b.hd.van), .slice Av b.hd.vals.length cv, .string (bs b.hd.vote), .bool b.hd.add, .int .u64 (b.hd.round : Int), .slice As b.hd.seals.length cs, .slice At b.txs.length ct] 29)
  have hR := bright_any b hf Av As At cv cs ct (w.alloc (.cells #[.string (bs b.hd.parent), .int .u64 (b.hd.height : Int), .string (bs b.hd.root), .string (bs b.hd.txs), .string (bs b.hd.prop), .string (bs b.hd.van), .slice Av b.hd.vals.length cv, .string (bs b.hd.vote), .bool b.hd.add, .int .u64 (b.hd.round : Int), .slice As b.hd.seals.length cs, .slice At b.txs.length ct] 29)) (hv.keep hb)
  rw [(okBk_iff b).2 hk] at hR
  have HR := Lib.hid hR
  have HH := Lib.hid (fun (W : World) (hb : Below w.heap.size w W) => hbytes_yes b.hd hf.hd hk.hd Av As cv cs W (hv.hd.keep hb))
  have HT := Lib.hid (fun t ht (W : World) => tbytes_yes t (hf.txs t ht).wf (hk.each t ht) W)
  have HE := Lib.hid (fun A c (W : World) hv => Encode_any (bkI b) A c W (by have := (bkB_len hk hwf).1; unfold bkB at this; omega) hv)
  have HEN := Lib.hid (encR_bk hk hwf)
  have HV := Lib.hid hv
  have HX := Lib.hid h0
  have HB := Lib.hid hb
  have h4 := hk.len
  have h4I : (b.txs.length : Int) ≤ 4 := by omega
  clear hR h0 hb hv hf hk hwf
  go_enter Try.func5, Try.ntmps5
  go_wp2_with fail
  refine HR.out.mono ?_
  rintro e w1 ⟨rfl, hb1⟩
  have hX1 := (hb1.block _ (Array.getElem?_eq_some_iff.1 HX.out).1).trans HX.out
  have HB1 := Lib.hid (below_call HB.out HB.out.size hb1)
  have y0 := rc (u := .string (bs b.hd.parent)) hX1 0 rfl
  have y1 := rc (u := .int .u64 (b.hd.height : Int)) hX1 1 rfl
  have y2 := rc (u := .string (bs b.hd.root)) hX1 2 rfl
  have y3 := rc (u := .string (bs b.hd.txs)) hX1 3 rfl
  have y4 := rc (u := .string (bs b.hd.prop)) hX1 4 rfl
  have y5 := rc (u := .string (bs b.hd.van)) hX1 5 rfl
  have y6 := rc (u := .slice Av b.hd.vals.length cv) hX1 6 rfl
  have y7 := rc (u := .string (bs b.hd.vote)) hX1 7 rfl
  have y8 := rc (u := .bool b.hd.add) hX1 8 rfl
  have y9 := rc (u := .int .u64 (b.hd.round : Int)) hX1 9 rfl
  have y10 := rc (u := .slice As b.hd.seals.length cs) hX1 10 rfl
  have y11 := rc (u := .slice At b.txs.length ct) hX1 11 rfl
  have HX1 := Lib.hid hX1
  clear hb1 hX1 HX HB
  go_wp2_with fail
  refine (HH.out _ HB1.out).mono ?_
  rintro e w2 ⟨rfl, hb2⟩
  have hX2 := (hb2.block _ (Array.getElem?_eq_some_iff.1 HX1.out).1).trans HX1.out
  have HB2 := Lib.hid (below_call HB1.out HB1.out.size hb2)
  have z11 := rc (u := .slice At b.txs.length ct) hX2 11 rfl
  have z11a := ca z11 (.cells #[.bool false, .string (bs (hdB b.hd)), .slice none 0 0] 45)
  have HO0 := Lib.hid (World.ownsRow_lit (base := w2.heap.size) (e := 45) (size := 3) w2 #[.bool false, .string (bs (hdB b.hd)), .slice none 0 0] 1 (Nat.le_refl _) (by simp [maxLen]) rfl)
  have HB2a := Lib.hid (HB2.out.alloc HB2.out.size (.cells #[.bool false, .string (bs (hdB b.hd)), .slice none 0 0] 45))
  have hw2 : w.heap.size ≤ w2.heap.size := HB2.out.size
  clear hb2 hX2 HB1 HX1 y0 y1 y2 y3 y4 y5 y6 y7 y8 y9 y10 y11
  go_wp2_with fail
  go_loopw [6, 29] (fun u a wr => ∃ i : Nat, a = .int .i64 (i : Int) ∧ i ≤ b.txs.length ∧ wr.ownsRow w2.heap.size 45 3 u (i + 1) (itsC ((bkTs b).take (i + 1))) ∧ Below w.heap.size w wr ∧ w2.heap.size ≤ wr.heap.size) (fun _ a _ => b.txs.length - (intOf a).toNat)
  case atStart => exact ⟨0, rfl, Nat.zero_le _, HO0.out, HB2a.out, by simp⟩
  case round =>
    clear HO0 HB2a HB2 z11 z11a
    obtain ⟨i, rfl, hi, hown, hB, hsz⟩ := hrel
    obtain ⟨A', c', rfl⟩ := own_form hown
    by_cases hlt : i < b.txs.length
    · obtain ⟨t, ht⟩ := getElem_ex hlt
      obtain ⟨g, o, rfl, kc⟩ := trs_at (PlV.keep HV.out.txs hB) ht
      have hltI : (i : Int) < b.txs.length := by omega
      have q0 := kc 0 (.string (bs t.to)) rfl
      have q1 := kc 1 (.int .u64 (t.am : Int)) rfl
      have q2 := kc 2 (.int .u64 (t.no : Int)) rfl
      have q3 := kc 3 (.int .u64 (t.sg.r.a : Int)) rfl
      have q4 := kc 4 (.int .u64 (t.sg.r.b : Int)) rfl
      have q5 := kc 5 (.int .u64 (t.sg.r.c : Int)) rfl
      have q6 := kc 6 (.int .u64 (t.sg.r.d : Int)) rfl
      have q7 := kc 7 (.int .u64 (t.sg.s.a : Int)) rfl
      have q8 := kc 8 (.int .u64 (t.sg.s.b : Int)) rfl
      have q9 := kc 9 (.int .u64 (t.sg.s.c : Int)) rfl
      have q10 := kc 10 (.int .u64 (t.sg.s.d : Int)) rfl
      have q11 := kc 11 (.int .i64 t.sg.v) rfl
      simp only [Nat.add_zero] at q0
      have HC := Lib.hid (HT.out t (List.mem_of_getElem? ht))
      have HA : Hid ((bkTs b).take (i + 1 + 1) = (bkTs b).take (i + 1) ++ [trB t]) := Lib.hid (take_snoc (by unfold bkTs; rw [List.getElem?_cons_succ, List.getElem?_map, ht]; rfl))
      have HO := Lib.hid hown
      have HB := Lib.hid hB
      clear hown hB kc ht
      go_wp2_with fail
      refine (HC.out _).mono ?_
      rintro e w3 ⟨rfl, hb3⟩
      have hba : Below wr.heap.size wr w3 := below_call ((Below.refl _ _).alloc (Nat.le_refl _) _) (by simp) hb3
      have HB3 := Lib.hid (below_call HB.out HB.out.size hba)
      have HO3 := Lib.hid (own_keep HO.out hba)
      have hs3 := Nat.le_trans hsz hba.size
      clear hb3 hba HO HB
      go_wp2_with (at_builtin; refine wpl_append elItem rfl rfl w2.heap.size (HO3.out.alloc _) rfl (m := 1) [.bool false, .string (bs (trB t)), .slice none 0 0] rfl rfl (lies_new _ _ _) ?_ ?_ ?_ ?_ ?_; (intro u hu; simp at hu; rcases hu with rfl | rfl | rfl <;> rfl); (simp only [maxLen]; omega); omega; (simp; omega); intro v1 w8 hown1 hg1 hat1; obtain ⟨A3, c3, rfl⟩ := own_form hown1)
      have hba : Below w3.heap.size w3 (w3.alloc (.cells #[.bool false, .string (bs (trB t)), .slice none 0 0] 45)) := (Below.refl _ _).alloc (Nat.le_refl _) _
      have hB8 := below_app (below_call HB3.out HB3.out.size hba) (own_keep HO3.out hba) hg1 (by simp; omega) (by omega)
      have hs8 := Nat.le_trans hs3 (Nat.le_trans hba.size hg1.size)
      rw [show itsC ((bkTs b).take (i + 1)) ++ [.bool false, .string (bs (trB t)), .slice none 0 0] = itsC ((bkTs b).take (i + 1 + 1)) by rw [HA.out, itsC_snoc]; rfl] at hown1
      go_roundw
      case rel => exact ⟨i + 1, by go_num, hlt, hown1, hB8, hs8⟩
      case measure => simp [intOf]; omega
    · obtain rfl : i = b.txs.length := by omega
      have hln : (bkTs b).length = b.txs.length + 1 := by unfold bkTs; simp
      rw [List.take_of_length_le (by omega)] at hown
      have hiv : ItemV Any wr (bkI b) A' c' := by
        have h1 := rep_own (S := Any) (es := itemsD ((bkTs b).map leafIt)) hown (repN_itsC _) (by rw [itemsD_len, List.length_map, hln]) (fun _ _ _ => trivial)
        rw [← bkL_ts] at h1
        refine itemV_mk ?_
        show Rep Any wr (.sl 3 (itemsD (bkL b))) [.slice A' (bkL b).length c']
        rw [show (bkL b).length = b.txs.length + 1 by unfold bkL; simp]
        exact h1
      have hkl : (bkI b).ks.length = b.txs.length + 1 := by show (bkL b).length = _; unfold bkL; simp
      have HIV := Lib.hid hiv
      have HB := Lib.hid hB
      have hL := fun W : World => List_any A' (b.txs.length + 1) c' W
      have HL := Lib.hid hL
      have hE := fun (W : World) (hb : Below wr.heap.size wr W) => HE.out A' c' W (ItemV.keep HIV.out hb)
      rw [HEN.out, hkl] at hE
      have HE := Lib.hid hE
      clear hiv hB hown hL hE hkl hln
      go_wp2_with fail
      refine (HL.out _).mono ?_
      rintro e w4 ⟨rfl, hb4⟩
      have HB4 := Lib.hid (below_call HB.out HB.out.size hb4)
      have HB44 := Lib.hid hb4
      clear hb4
      go_wp2_with fail
      refine (HE.out _ HB44.out).mono ?_
      rintro e w5 ⟨rfl, hb5⟩
      have HB5 := Lib.hid (below_call HB4.out HB4.out.size hb5)
      clear hb5
      go_wp2_with fail
      go_ret2
      exact ⟨rfl, HB5.out⟩
end Go.Proofs.Ytjanaholcjkceaa
/- The walk of block.Read. -/
namespace Go.Proofs.Ytjanaholcjkceaa
set_option linter.unusedVariables false
set_option linter.unusedSimpArgs false
open Go.RowKit
theorem bk_item {s : Bytes} {x : Item} (hp : pureP x = true) (e : s = writeP x) (hs : s.length ≤ 4000) {u : Bk} (hk : OkBk u) (hw : u.Wf) (e2 : s = bkB u) : x = bkI u := by
  have h1 := (bkB_len hk hw).1
  unfold bkB at h1 e2
  exact (writeP_inj x (bkI u) [] [] hp (bkI_fine u).1 (by rw [← e]; omega) (by omega) (by rw [← e, ← e2])).1
theorem bk_dec {s : Bytes} {x : Item} {no : Nat} (h : DecSaid s x no) (h0 : 0 < no) : ∀ u : Bk, OkBk u → u.Wf → s ≠ bkB u := by
  intro u hk hw e
  have h1 := (bkB_len hk hw).1
  have h2 := bkI_fine u
  unfold bkB at h1 e
  have h3 := congrArg List.length e
  rcases h with ⟨h, _⟩ | ⟨_, h, _⟩ | ⟨_, _, _, y, hy, e2, hd⟩ | ⟨_, _, _, h⟩
  · omega
  · omega
  · have := (writeP_inj y (bkI u) [] [] hy h2.1 (by rw [← e2]; omega) (by omega) (by rw [← e2, ← e])).1
    rw [this] at hd
    omega
  · exact h _ h2.1 e
/-- what is read behind i items -/
def BkPre (x : Item) (i : Nat) (h : Hd) (ts : List Tr) : Prop := (i = 0 ∧ h = zeroHd ∧ ts = []) ∨ (0 < i ∧ ts.length + 1 = i ∧ OkHd h ∧ h.Wf ∧ (∀ t ∈ ts, okTr t = true ∧ t.Wf) ∧ x.ks.take i = leafIt (hdB h) :: ts.map fun t => leafIt (trB t))
theorem bkI_kid {u : Bk} {i : Nat} {k : Item} (h : (bkI u).ks[i]? = some k) : k.l = false ∧ (i = 0 → k = leafIt (hdB u.hd)) ∧ (∀ j, i = j + 1 → ∃ t, u.txs[j]? = some t ∧ k = leafIt (trB t)) := by
  have h : (bkL u)[i]? = some k := h
  unfold bkL at h
  cases i with
  | zero =>
    simp at h
    subst h
    exact ⟨rfl, fun _ => rfl, fun j e => by omega⟩
  | succ j =>
    rw [List.getElem?_cons_succ, List.getElem?_map, Option.map_eq_some_iff] at h
    obtain ⟨t, ht, rfl⟩ := h
    exact ⟨rfl, fun e => by omega, fun j' e => by
      obtain rfl : j = j' := by omega
      exact ⟨t, ht, rfl⟩⟩
theorem bk_fin {x : Item} {h : Hd} {ts : List Tr} (hp : pureP x = true) (hl : x.l = true) (hn : 0 < x.ks.length) (hpre : BkPre x x.ks.length h ts) :
    x = bkI ⟨h, ts⟩ ∧ h.Wf ∧ (∀ t ∈ ts, t.Wf) ∧ OkHd h ∧ (∀ t ∈ ts, okTr t = true) := by
  rcases hpre with ⟨h0, _⟩ | ⟨_, _, hk, hw, ht, e⟩
  · omega
  · rw [List.take_of_length_le (Nat.le_refl _)] at e
    refine ⟨(listIt_eta hp hl).trans ?_, hw, fun t h => (ht t h).2, hk, fun t h => (ht t h).1⟩
    rw [e]
    rfl
theorem bk_right {s : Bytes} {x : Item} {h : Hd} {ts : List Tr} (hp : pureP x = true) (e : s = writeP x) (hs : s.length ≤ 4000) (hl : x.l = true) (hn : 0 < x.ks.length) (hpre : BkPre x x.ks.length h ts) :
    (okBk ⟨h, ts⟩ = true → BkSaid s ⟨h, ts⟩ 0) ∧ (okBk ⟨h, ts⟩ = false → BkSaid s zeroBk 4) := by
  obtain ⟨hx, hw, htw, hk, htk⟩ := bk_fin hp hl hn hpre
  refine ⟨fun ho => .inl ⟨rfl, (okBk_iff _).1 ho, ⟨hw, htw⟩, by rw [e, hx]; rfl⟩, fun ho => .inr ⟨rfl, rfl, fun u hu huw eu => ?_⟩⟩
  have hxu := bk_item hp e hs hu huw eu
  rw [hx] at hxu
  have hL : bkL ⟨h, ts⟩ = bkL u := by unfold bkI listIt at hxu; injection hxu
  unfold bkL at hL
  injection hL with hL1 hL2
  have hh : h = u.hd := hdB_inj hk hw hu.hd huw.hd (by unfold leafIt at hL1; injection hL1)
  have key : ∀ (l m : List Tr), (∀ t ∈ l, okTr t = true ∧ t.Wf) → (∀ t ∈ m, okTr t = true ∧ t.Wf) → (l.map fun t => leafIt (trB t)) = (m.map fun t => leafIt (trB t)) → l = m := by
    intro l
    induction l with
    | nil => intro m _ _ h; cases m with
      | nil => rfl
      | cons a m => cases h
    | cons a l ih => intro m hl hm h; cases m with
      | nil => cases h
      | cons c m =>
        simp only [List.map_cons, List.cons.injEq] at h
        have : a = c := trB_inj (hl a (by simp)).1 (hl a (by simp)).2 (hm c (by simp)).1 (hm c (by simp)).2 (by have := h.1; unfold leafIt at this; injection this)
        rw [this, ih m (fun t ht => hl t (by simp [ht])) (fun t ht => hm t (by simp [ht])) h.2]
  have ht := key ts u.txs (fun t h => ⟨htk t h, htw t h⟩) (fun t h => ⟨hu.each t h, huw.txs t h⟩) hL2
  have hb : (⟨h, ts⟩ : Bk) = u := by rw [hh, ht]
  rw [hb, (okBk_iff u).2 hu] at ho
  cases ho
/-- an item that cannot be -/
theorem bk_kid {s : Bytes} {x k : Item} {i : Nat} (hp : pureP x = true) (e : s = writeP x) (hs : s.length ≤ 4000) (hk : x.ks[i]? = some k)
    (hbad : k.l = true ∨ (i = 0 ∧ ∀ u : Hd, OkHd u → u.Wf → k.b ≠ hdB u) ∨ (0 < i ∧ ∀ u : Tr, okTr u = true → u.Wf → k.b ≠ trB u)) : BkSaid s zeroBk 4 :=
  .inr ⟨rfl, rfl, fun u hu huw eu => by
    rw [bk_item hp e hs hu huw eu] at hk
    obtain ⟨h1, h2, h3⟩ := bkI_kid hk
    rcases hbad with h | ⟨h, hb⟩ | ⟨h, hb⟩
    · rw [h1] at h; cases h
    · exact hb u.hd hu.hd huw.hd (by rw [h2 h]; rfl)
    · obtain ⟨t, ht, hkt⟩ := h3 (i - 1) (by omega)
      exact hb t (hu.each t (List.mem_of_getElem? ht)) (huw.txs t (List.mem_of_getElem? ht)) (by rw [hkt]; rfl)⟩
theorem bk_shape {s : Bytes} {x : Item} (hp : pureP x = true) (e : s = writeP x) (hs : s.length ≤ 4000) (hbad : x.l = false ∨ x.ks.length = 0) : BkSaid s zeroBk 4 :=
  .inr ⟨rfl, rfl, fun u hu huw eu => by
    have := bk_item hp e hs hu huw eu
    rcases hbad with h | h
    · rw [this] at h; cases h
    · rw [this] at h
      have h : (bkL u).length = 0 := h
      unfold bkL at h
      simp at h⟩
def BkPost (s : Bytes) (w : World) (e : Ending) (w' : World) : Prop := ∃ (b : Bk) (Av As At : Option Addr) (cv cs ct no : Nat), e = .returned (.tuple #[.agg #[.string (bs b.hd.parent), .int .u64 (b.hd.height : Int), .string (bs b.hd.root), .string (bs b.hd.txs), .string (bs b.hd.prop), .string (bs b.hd.van), .slice Av b.hd.vals.length cv, .string (bs b.hd.vote), .bool b.hd.add, .int .u64 (b.hd.round : Int), .slice As b.hd.seals.length cs, .slice At b.txs.length ct], .int .i64 no]) ∧ BkV (From w.heap.size) w' b Av cv As cs At ct ∧ BkSaid s b no ∧ Below w.heap.size w w'
theorem bkPost_zero {s : Bytes} {w w' : World} (h : BkSaid s zeroBk 4) (hb : Below w.heap.size w w') : BkPost s w (.returned (.tuple #[.agg #[.string ⟨#[]⟩, .int .u64 0, .string ⟨#[]⟩, .string ⟨#[]⟩, .string ⟨#[]⟩, .string ⟨#[]⟩, .slice none 0 0, .string ⟨#[]⟩, .bool false, .int .u64 0, .slice none 0 0, .slice none 0 0], .int .i64 4])) w' := ⟨zeroBk, none, none, none, 0, 0, 0, 4, rfl, ⟨⟨Rep.nil_slice 1, PlV.nil⟩, PlV.nil⟩, h, hb⟩
theorem infoBk : (Try.prog.info? 29).map (·.size) = some 12 := by kernel_rfl
theorem one12B (a c d e f : Bytes) (h r : Int) (v : Option Addr) (n m : Nat) (t : Bytes) (ad : Bool) (s : Option Addr) (n' m' : Nat) (p : Option Addr) (n'' m'' : Nat) : (#[.string (bs a), .int .u64 h, .string (bs c), .string (bs d), .string (bs e), .string (bs f), .slice v n m, .string (bs t), .bool ad, .int .u64 r, .slice s n' m', .slice p n'' m''] : Array Value).all (·.oneCell') = true := by simp [Value.oneCell']
theorem one12BZ : (#[.string ⟨#[]⟩, .int .u64 0, .string ⟨#[]⟩, .string ⟨#[]⟩, .string ⟨#[]⟩, .string ⟨#[]⟩, .slice none 0 0, .string ⟨#[]⟩, .bool false, .int .u64 0, .slice none 0 0, .slice none 0 0] : Array Value).all (·.oneCell') = true := one12B [] [] [] [] [] _ _ _ _ _ [] _ _ _ _ _ _ _
set_option maxRecDepth 100000 in
set_option maxHeartbeats 4000000 in
theorem bno_any (w : World) : Calls Try.prog 16 #[] w fun e w' => e = .returned (.tuple #[.agg #[.string ⟨#[]⟩, .int .u64 0, .string ⟨#[]⟩, .string ⟨#[]⟩, .string ⟨#[]⟩, .string ⟨#[]⟩, .slice none 0 0, .string ⟨#[]⟩, .bool false, .int .u64 0, .slice none 0 0, .slice none 0 0], .int .i64 4]) ∧ Below w.heap.size w w' := by
  have HX := Lib.hid (heap_alloc_new w (.cells #[.string ⟨#[]⟩, .int .u64 0, .string ⟨#[]⟩, .string ⟨#[]⟩, .string ⟨#[]⟩, .string ⟨#[]⟩, .slice none 0 0, .string ⟨#[]⟩, .bool false, .int .u64 0, .slice none 0 0, .slice none 0 0] 29))
  have HB := Lib.hid ((Below.refl w.heap.size w).alloc (Nat.le_refl _) (.cells #[.string ⟨#[]⟩, .int .u64 0, .string ⟨#[]⟩, .string ⟨#[]⟩, .string ⟨#[]⟩, .string ⟨#[]⟩, .slice none 0 0, .string ⟨#[]⟩, .bool false, .int .u64 0, .slice none 0 0, .slice none 0 0] 29))
  go_enter Try.func16, Try.ntmps16
  go_wp2_with (refine wpList_store_row rfl _ _ _ rfl w.heap.size #[.string ⟨#[]⟩, .int .u64 0, .string ⟨#[]⟩, .string ⟨#[]⟩, .string ⟨#[]⟩, .string ⟨#[]⟩, .slice none 0 0, .string ⟨#[]⟩, .bool false, .int .u64 0, .slice none 0 0, .slice none 0 0] rfl rfl _ _ HX.out infoBk rfl one12BZ ?_)
  exact bodyPost_ret (v := .tuple #[.agg #[.string ⟨#[]⟩, .int .u64 0, .string ⟨#[]⟩, .string ⟨#[]⟩, .string ⟨#[]⟩, .string ⟨#[]⟩, .slice none 0 0, .string ⟨#[]⟩, .bool false, .int .u64 0, .slice none 0 0, .slice none 0 0], .int .i64 4]) (results_row_tmp rfl _ _ w.heap.size _ _ _ _ rfl (setRow_heap _ _ _ _ _ _ HX.out) _ rfl Try.underlying29 rfl infoBk) rfl ⟨rfl, below_setRow HB.out (Nat.le_refl _) _⟩
end Go.Proofs.Ytjanaholcjkceaa
