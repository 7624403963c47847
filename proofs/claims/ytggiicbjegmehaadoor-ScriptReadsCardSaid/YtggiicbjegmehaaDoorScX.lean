/- The walk of few at plays. -/
import Derived.Test.YtggiicbjegmehaaDoorScW
namespace Go.Proofs.YtggiicbjegmehaaDoor
set_option linter.unusedVariables false
set_option linter.unusedSimpArgs false
open Go.RowKit

/-- what is kept of memory in few: the plan's block, the result's block, the deeds' row -/
structure FS (w : World) (many set ep has : Int) (A : Option Addr) (n c : Nat) (l : List Dd) (W : World) : Prop where
  x : W.heap[w.heap.size]? = some (.cells #[.int .i64 many, .int .i64 set, .int .u64 ep, .int .u64 has, .slice A n c] 25 (0, 0))
  y : W.heap[w.heap.size + 1]? = some (.cells #[.int .i64 0, .int .i64 0, .int .u64 0, .int .u64 0, .slice none 0 0] 25 (0, 0))
  own : W.ownsRow (w.heap.size + 2) 46 8 (.slice A n c) n (ddsC l)
  b : Below w.heap.size w W
  le : w.heap.size + 2 ≤ W.heap.size
theorem FS.keep {w : World} {many set ep has : Int} {A : Option Addr} {n c : Nat} {l : List Dd} {W W' : World} (h : FS w many set ep has A n c l W) (hb : Below W.heap.size W W') : FS w many set ep has A n c l W' :=
  ⟨(hb.block _ (by have := h.le; omega)).trans h.x, (hb.block _ (by have := h.le; omega)).trans h.y, own_keep h.own hb, below_call h.b h.b.size hb, Nat.le_trans h.le hb.size⟩
theorem FS.set {w : World} {many set ep has : Int} {g n c : Nat} {l : List Dd} {W : World} (h : FS w many set ep has (some ⟨g, 0, none⟩) n c l W) (hg : w.heap.size + 2 ≤ g) (j : Nat) (u : Value) {l' : List Dd} (hl : (ddsC l).set j u = ddsC l') : FS w many set ep has (some ⟨g, 0, none⟩) n c l' (W.setCell ⟨g, j, none⟩ u) :=
  ⟨(heap_set_ne (by omega) _).trans h.x, (heap_set_ne (by omega) _).trans h.y, by rw [← hl]; exact own_set h.own j u, h.b.setCell (p := ⟨g, j, none⟩) (by show w.heap.size ≤ g; omega) _, by simpa using h.le⟩

theorem dds_ownF {w : World} {base : Nat} {e : TypeId} {A : Option Addr} {c : Nat} {l : List Dd} (h : w.ownsRow base e 8 (.slice A l.length c) l.length (ddsC l)) : DdsV (Fresh base) w l A c :=
  .sl (repN_ddsC l) (by simp) (lies_own h (fun g hg _ => hg)) (own_cap h).1 (own_cap h).2

set_option maxRecDepth 100000 in
set_option maxHeartbeats 8000000 in
theorem few_any (p : Pl) (hp63 : ∀ d ∈ p.ds, d.b.length ≤ 9223372036854775807) (A : Option Addr) (c : Nat) (w : World) (hv : DdsV Any w p.ds A c) :
    Calls Tryd.prog 11 #[.agg (plC p A c).toArray] w fun e w' => (∃ A2 c2, e = .returned (.agg (plC (withDs p ((p.ds.take 410).map cutD)) A2 c2).toArray) ∧ DdsV (Fresh w.heap.size) w' ((p.ds.take 410).map cutD) A2 c2) ∧ Below w.heap.size w w' := by
  obtain ⟨many, set, ep, has, l⟩ := p
  simp only [] at hp63 hv
  show Calls _ _ #[.agg #[.int .i64 many, .int .i64 set, .int .u64 ep, .int .u64 has, .slice A l.length c]] _ fun e w' => (∃ A2 c2, e = .returned (.agg #[.int .i64 many, .int .i64 set, .int .u64 ep, .int .u64 has, .slice A2 ((l.take 410).map cutD).length c2]) ∧ DdsV (Fresh w.heap.size) w' ((l.take 410).map cutD) A2 c2) ∧ Below w.heap.size w w'
  have hl := (Rep.slice_len hv).2
  simp only [maxLen] at hl
  obtain ⟨m, hm, hmm⟩ : ∃ m : Nat, min (l.length : Int) 410 = m ∧ m = min l.length 410 := ⟨min l.length 410, by omega, rfl⟩
  have hlen63 : (l.length : Int) ≤ 9223372036854775807 := by omega
  have hm1 : (m : Int) ≤ l.length := by omega
  have hm2 : (m : Int) ≤ c := by omega
  have hm3 : (m : Int) ≤ 410 := by omega
  have hmq : l.take 410 = l.take m := by rw [hmm, List.take_eq_take_min, Nat.min_comm]
  have hq : (l.take m).length = m := by rw [List.length_take]; omega
  -- the worlds that open
  have hX := heap_alloc_new w (.cells #[.int .i64 many, .int .i64 set, .int .u64 ep, .int .u64 has, .slice A l.length c] 25)
  have hz1 : (w.alloc (.cells #[.int .i64 many, .int .i64 set, .int .u64 ep, .int .u64 has, .slice A l.length c] 25)).heap.size = w.heap.size + 1 := by simp
  have hY := heap_alloc_new (w.alloc (.cells #[.int .i64 many, .int .i64 set, .int .u64 ep, .int .u64 has, .slice A l.length c] 25)) (.cells #[.int .i64 0, .int .i64 0, .int .u64 0, .int .u64 0, .slice none 0 0] 25)
  have hX := (heap_alloc_old _ (.cells #[.int .i64 0, .int .i64 0, .int .u64 0, .int .u64 0, .slice none 0 0] 25) (Array.getElem?_eq_some_iff.1 hX).1).trans hX
  rw [hz1] at hY
  have hz2 : ((w.alloc (.cells #[.int .i64 many, .int .i64 set, .int .u64 ep, .int .u64 has, .slice A l.length c] 25)).alloc (.cells #[.int .i64 0, .int .i64 0, .int .u64 0, .int .u64 0, .slice none 0 0] 25)).heap.size = w.heap.size + 2 := by simp
  have hB0 : Below w.heap.size w ((w.alloc (.cells #[.int .i64 many, .int .i64 set, .int .u64 ep, .int .u64 has, .slice A l.length c] 25)).alloc (.cells #[.int .i64 0, .int .i64 0, .int .u64 0, .int .u64 0, .slice none 0 0] 25)) := ((Below.refl _ _).alloc (Nat.le_refl _) _).alloc (by simp) _
  have hv0 := Rep.keep hv hB0
  generalize hW0 : ((w.alloc (.cells #[.int .i64 many, .int .i64 set, .int .u64 ep, .int .u64 has, .slice A l.length c] 25)).alloc (.cells #[.int .i64 0, .int .i64 0, .int .u64 0, .int .u64 0, .slice none 0 0] 25)) = W0 at hX hY hz2 hB0 hv0
  have hown0 : (W0.alloc (.cells #[] 46)).ownsRow (w.heap.size + 2) 46 8 (.slice (some ⟨w.heap.size + 2, 0, none⟩) 0 0) 0 [] := by
    have := World.ownsRow_lit (base := w.heap.size + 2) (e := 46) (size := 8) W0 #[] 0 (by omega) (by simp [maxLen]) rfl
    rw [hz2] at this; exact this
  have hnews : Lies Any (W0.alloc (.cells #[] 46)) A (ddsC (l.take m)) := by
    have h0 := dds_lies (Rep.alloc hv0 (.cells #[] 46))
    rw [← List.take_append_drop m l, ddsC_append] at h0
    intro hne
    obtain ⟨g, o, hA, hs, hc⟩ := h0 (by intro e; exact hne (List.append_eq_nil_iff.1 e).1)
    exact ⟨g, o, hA, hs, fun j u hj => hc j u (by rw [List.getElem?_append_left (List.getElem?_eq_some_iff.1 hj).1]; exact hj)⟩
  have hqp : ∀ p ∈ l.take m, p.b.length ≤ 9223372036854775807 := fun p h => hp63 p (List.mem_of_mem_take h)
  have hbX : Below W0.heap.size W0 (W0.alloc (.cells #[] 46)) := (Below.refl _ _).alloc (Nat.le_refl _) _
  rw [hmq]
  have hx4 := rc ((hbX.block _ (Array.getElem?_eq_some_iff.1 hX).1).trans hX) 4 rfl
  have hfx4 := rf ((hbX.block _ (Array.getElem?_eq_some_iff.1 hX).1).trans hX) 4
  have hzz : w.heap.size + 2 ≤ (W0.alloc (.cells #[] 46)).heap.size := by simp; omega
  subst hW0
  have HX := Lib.hid ((hbX.block _ (Array.getElem?_eq_some_iff.1 hX).1).trans hX)
  have HY := Lib.hid ((hbX.block _ (Array.getElem?_eq_some_iff.1 hY).1).trans hY)
  have HB := Lib.hid (below_call hB0 hB0.size hbX)
  have HZ := Lib.hid hzz
  have HO := Lib.hid hown0
  have HN := Lib.hid hnews
  clear hmm hp63 hmq hX hY hz1 hz2 hB0 hv0 hbX hv hown0 hnews hx4 hfx4 hzz
  generalize l.take m = qs at hq HN hqp ⊢
  subst hq
  have HL := Lib.hid (ddsC_len qs)
  have HP := Lib.hid hqp
  clear hqp
  go_enter Tryd.func11, Tryd.ntmps11
  go_wp2_with (at_builtin; refine wpl_append elDd rfl rfl (w.heap.size + 2) HO.out rfl (m := qs.length) (ddsC qs) rfl HL.out HN.out (ddsC_one _) (by simp only [maxLen]; omega) (by omega) HZ.out ?_; intro v1 w1 hown1 hg1 hat1; rw [Nat.zero_add] at hown1; obtain ⟨A1, c1, rfl⟩ := own_form hown1; have hb1 := below_app (Below.refl (w.heap.size + 2) _) HO.out hg1 HZ.out (Nat.le_refl _); have hx1 := (hb1.block _ (by omega)).trans HX.out; have hy1 := (hb1.block _ (by omega)).trans HY.out; have x4 := rc hx1 4 rfl; have fx4 := rf hx1 4)
  have hF0 : FS w many set ep has A1 qs.length c1 qs (w1.setCell ⟨w.heap.size, 4, none⟩ (.slice A1 qs.length c1)) :=
    ⟨heap_setCell_here hx1 _, (heap_set_ne (by omega) _).trans hy1, own_heap hown1 (fun g hg => heap_set_ne (by omega) _), (HB.out.trans (hb1.mono (by omega))).setCell (p := ⟨w.heap.size, 4, none⟩) (Nat.le_refl _) _, by have := Nat.le_trans HZ.out hb1.size; simpa using this⟩
  have HF0 := Lib.hid hF0
  clear hF0 hm hg1 hat1 hown1 hb1 hx1 hy1 x4 fx4 HX HY HB HZ HO HN
  go_loopw [18] (fun i wr => ∃ j : Nat, j ≤ qs.length ∧ i = .int .i64 j ∧ Hid (FS w many set ep has A1 qs.length c1 (cutsD j qs) wr)) (fun i _ => qs.length - (intOf i).toNat)
  case atStart => exact ⟨0, Nat.zero_le _, rfl, HF0⟩
  case round =>
    obtain ⟨j, hj, rfl, HF⟩ := hrel
    clear HF0
    by_cases hlt : j < qs.length
    · obtain ⟨g, rfl, hg0, hg1⟩ := own_ptr HF.out.own (by omega)
      obtain ⟨a, ha⟩ := getElem_ex hlt
      have hpl := HP.out a (List.mem_of_getElem? ha)
      have Hs := Lib.hid (cutsD_set ha)
      have q0 := own_cell HF.out.own (ddsC_get (cutsD_get ha) 0 _ rfl)
      have q1 := own_cell HF.out.own (ddsC_get (cutsD_get ha) 1 _ rfl)
      have q2 := own_cell HF.out.own (ddsC_get (cutsD_get ha) 2 _ rfl)
      have q3 := own_cell HF.out.own (ddsC_get (cutsD_get ha) 3 _ rfl)
      have q4 := own_cell HF.out.own (ddsC_get (cutsD_get ha) 4 _ rfl)
      have q5 := own_cell HF.out.own (ddsC_get (cutsD_get ha) 5 _ rfl)
      have q6 := own_cell HF.out.own (ddsC_get (cutsD_get ha) 6 _ rfl)
      have q7 := own_cell HF.out.own (ddsC_get (cutsD_get ha) 7 _ rfl)
      have HG7 := Lib.hid (ddsC_get (cutsD_get ha) 7 _ rfl)
      simp only [Nat.add_zero] at q0
      obtain ⟨dk, da, dm, dt, dn, dc, dad, db⟩ := a
      simp only [] at hpl Hs q0 q1 q2 q3 q4 q5 q6 q7
      have hlt' : (j : Int) < qs.length := by omega
      obtain ⟨m, hm, hmm⟩ : ∃ m : Nat, min (db.length : Int) 1100 = m ∧ m = min db.length 1100 := ⟨min db.length 1100, by omega, rfl⟩
      have hm1' : (m : Int) ≤ db.length := by omega
      have Hm := Lib.hid (show db.take 1100 = db.take m by rw [hmm, List.take_eq_take_min]; rw [Nat.min_comm])
      clear ha hmm
      have HFA := Lib.hid (HF.out.keep ((Below.refl _ _).alloc (Nat.le_refl _) (.cells #[.int .i64 dk, .int .i64 da, .int .i64 dm, .int .i64 dt, .int .u64 dn, .int .u64 dc, .bool dad, .string (bs db)] 46)).drew)
      have HD := Lib.hid (heap_alloc_new wr (.cells #[.int .i64 dk, .int .i64 da, .int .i64 dm, .int .i64 dt, .int .u64 dn, .int .u64 dc, .bool dad, .string (bs db)] 46))
      obtain ⟨D, hDe⟩ : ∃ D, wr.heap.size = D := ⟨_, rfl⟩
      have hgD : ¬ D = g := by omega
      have HK7 := Lib.hid (own_cell HFA.out.own HG7.out)
      clear HG7
      go_wp2_with fail
      rw [hDe] at HD
      refine wp_region_R [(12, fun w' => w' = (wr.alloc (.cells #[.int .i64 dk, .int .i64 da, .int .i64 dm, .int .i64 dt, .int .u64 dn, .int .u64 dc, .bool dad, .string (bs db)] 46)).drew)] (by kernel_rfl) ?_
      have hX4 := rc HFA.out.x 4 rfl
      have hD7 : (wr.alloc (.cells #[.int .i64 dk, .int .i64 da, .int .i64 dm, .int .i64 dt, .int .u64 dn, .int .u64 dc, .bool dad, .string (bs db)] 46)).drew.cell? ⟨D, 7, none⟩ = some (.string (bs db)) := rc HD.out 7 rfl
      have hK7 : (wr.alloc (.cells #[.int .i64 dk, .int .i64 da, .int .i64 dm, .int .i64 dt, .int .u64 dn, .int .u64 dc, .bool dad, .string (bs db)] 46)).drew.cell? ⟨g, j * 8 + 7, none⟩ = some (.string (bs db)) := HK7.out
      have hF7 := own_free HFA.out.own (j * 8 + 7)
      clear HD HK7
      generalize (wr.alloc (.cells #[.int .i64 dk, .int .i64 da, .int .i64 dm, .int .i64 dt, .int .u64 dn, .int .u64 dc, .bool dad, .string (bs db)] 46)).drew = W at HFA hX4 hD7 hK7 hF7 ⊢
      refine R_p (i := 0) (v := .pointer (some ⟨w.heap.size, 4, none⟩)) (Meets.here rfl Meets.nil) ?_
      refine R_l (i := 1) (v := .slice (some ⟨g, 0, none⟩) qs.length c1) 12 _ List.mem_cons_self rfl (yieldsIf_load_cell rfl rfl rfl (fun w' hS => by rw [hS]; exact hX4) Tryd.underlying23 rfl) (Meets.here rfl Meets.nil) ?_
      refine R_p (i := 2) (v := .int .i64 (j : Int)) (Meets.here rfl Meets.nil) ?_
      refine R_p (i := 3) (v := .pointer (some ⟨D, 7, none⟩)) (Meets.here rfl Meets.nil) ?_
      refine R_l (i := 4) (v := .string (bs db)) 12 _ List.mem_cons_self rfl (yieldsIf_load_cell rfl rfl rfl (fun w' hS => by rw [hS]; exact hD7) Tryd.underlying9 rfl) (Meets.here rfl Meets.nil) ?_
      refine R_p (i := 5) (v := .pointer (some ⟨D, 7, none⟩)) (Meets.here rfl Meets.nil) ?_
      refine R_l (i := 6) (v := .string (bs db)) 12 _ List.mem_cons_self rfl (yieldsIf_load_cell rfl rfl rfl (fun w' hS => by rw [hS]; exact hD7) Tryd.underlying9 rfl) (Meets.here rfl Meets.nil) ?_
      refine R_p (i := 7) (v := .int .i64 (db.length : Int)) (Meets.here rfl Meets.nil) ?_
      refine R_p (i := 8) (v := .int .i64 (m : Int)) (Meets.here rfl Meets.nil) ?_
      refine R_p (i := 9) (v := .string (bs (db.take m))) (Meets.here rfl Meets.nil) ?_
      refine R_p (i := 10) (v := .pointer (some ⟨g, j * 8, none⟩)) (Meets.here rfl Meets.nil) ?_
      refine R_p (i := 11) (v := .pointer (some ⟨g, j * 8 + 7, none⟩)) (Meets.here rfl Meets.nil) ?_
      refine R_now 12 fun K hK => ?_
      go_simp
      refine hK.out _ _ (Meets.past (by rfl) Meets.nil) (fun hMeets => ?_)
      clear hK K hMeets
      refine lay_R ?_
      refine R_done (by kernel_rfl) ?_ _
      have HN2 := Lib.hid (HFA.out.set hg0 (j * 8 + 7) (.string (bs (db.take m))) (l' := cutsD (j + 1) qs) (by rw [← Hm.out]; exact Hs.out))
      clear hX4 hD7 hK7 hF7
      go_wp2_with fail
      go_roundw
      case rel => exact ⟨j + 1, hlt, by go_num, HN2⟩
      case measure => simp [intOf]; omega
    · obtain rfl : j = qs.length := by omega
      have hFF := HF.out
      rw [cutsD_all] at hFF
      have hlen : qs.length = (qs.map cutD).length := by simp
      have x0 := rc hFF.x 0 rfl
      have x1 := rc hFF.x 1 rfl
      have x2 := rc hFF.x 2 rfl
      have x3 := rc hFF.x 3 rfl
      have x4 := rc hFF.x 4 rfl
      have y0 := rc hFF.y 0 rfl
      have y1 := rc hFF.y 1 rfl
      have y2 := rc hFF.y 2 rfl
      have y3 := rc hFF.y 3 rfl
      have y4 := rc hFF.y 4 rfl
      have fy0 := rf hFF.y 0
      have fy1 := rf hFF.y 1
      have fy2 := rf hFF.y 2
      have fy3 := rf hFF.y 3
      have fy4 := rf hFF.y 4
      have HFF := Lib.hid hFF
      have HLL := Lib.hid hlen
      clear hFF hlen
      go_wp2_with fail
      have hfin := set5_here (a := .int .i64 many) (b := .int .i64 set) (c := .int .u64 ep) (d := .int .u64 has) (e := .slice A1 qs.length c1) HFF.out.y
      have hown2 := own_heap HFF.out.own (w' := set5 wr (w.heap.size + 1) (.int .i64 many) (.int .i64 set) (.int .u64 ep) (.int .u64 has) (.slice A1 qs.length c1)) (fun g hg => set5_other (by omega))
      have hbl := set5_below (a := .int .i64 many) (b := .int .i64 set) (c := .int .u64 ep) (d := .int .u64 has) (e := .slice A1 qs.length c1) HFF.out.b (show w.heap.size ≤ w.heap.size + 1 by omega)
      exact bodyPost_ret (v := .agg #[.int .i64 many, .int .i64 set, .int .u64 ep, .int .u64 has, .slice A1 qs.length c1]) (results_cell_row rfl _ _ (w.heap.size + 1) _ _ _ _ rfl hfin Tryd.underlying25 rfl infoPl) rfl ⟨⟨A1, c1, by rw [← HLL.out], (dds_ownF (by rw [← HLL.out]; exact hown2)).mono fun b _ hs => ⟨(by have : w.heap.size + 2 ≤ b := hs; show w.heap.size ≤ b; omega), rfl⟩⟩, hbl⟩
end Go.Proofs.YtggiicbjegmehaaDoor
