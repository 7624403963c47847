/- The walks of Like, alive and few at plays. -/
import Derived.Test.YtggiicbjegmehaaDoorScU
namespace Go.Proofs.YtggiicbjegmehaaDoor
set_option linter.unusedVariables false
set_option linter.unusedSimpArgs false
open Go.RowKit

set_option maxRecDepth 100000 in
set_option maxHeartbeats 8000000 in
theorem Like_yes (p : Pl) (hl : p.ds.length ≤ 1000000) (A A' : Option Addr) (c c' : Nat) (w : World) (hv : DdsV Any w p.ds A c) (hv' : DdsV Any w p.ds A' c') :
    Calls Tryd.prog 10 #[.agg (plC p A c).toArray, .agg (plC p A' c').toArray] w fun e w' => e = .returned (.bool true) ∧ Below w.heap.size w w' := by
  obtain ⟨many, set, ep, has, ds⟩ := p
  simp only [] at hl hv hv'
  show Calls _ _ #[.agg #[.int .i64 many, .int .i64 set, .int .u64 ep, .int .u64 has, .slice A ds.length c], .agg #[.int .i64 many, .int .i64 set, .int .u64 ep, .int .u64 has, .slice A' ds.length c']] _ _
  have hlI : (ds.length : Int) ≤ 1000000 := by omega
  have hX := heap_alloc_new w (.cells #[.int .i64 many, .int .i64 set, .int .u64 ep, .int .u64 has, .slice A ds.length c] 25)
  have hY := heap_alloc_new (w.alloc (.cells #[.int .i64 many, .int .i64 set, .int .u64 ep, .int .u64 has, .slice A ds.length c] 25)) (.cells #[.int .i64 many, .int .i64 set, .int .u64 ep, .int .u64 has, .slice A' ds.length c'] 25)
  have hX := (heap_alloc_old (w.alloc (.cells #[.int .i64 many, .int .i64 set, .int .u64 ep, .int .u64 has, .slice A ds.length c] 25)) (.cells #[.int .i64 many, .int .i64 set, .int .u64 ep, .int .u64 has, .slice A' ds.length c'] 25) (Array.getElem?_eq_some_iff.1 hX).1).trans hX
  have hz : (w.alloc (.cells #[.int .i64 many, .int .i64 set, .int .u64 ep, .int .u64 has, .slice A ds.length c] 25)).heap.size = w.heap.size + 1 := by simp
  rw [hz] at hY
  have hB : Below w.heap.size w ((w.alloc (.cells #[.int .i64 many, .int .i64 set, .int .u64 ep, .int .u64 has, .slice A ds.length c] 25)).alloc (.cells #[.int .i64 many, .int .i64 set, .int .u64 ep, .int .u64 has, .slice A' ds.length c'] 25)) := ((Below.refl _ _).alloc (Nat.le_refl _) _).alloc (by simp) _
  have HX := Lib.hid hX
  have HY := Lib.hid hY
  have HB := Lib.hid hB
  have HV := Lib.hid (Rep.keep hv hB)
  have HV' := Lib.hid (Rep.keep hv' hB)
  have HS := Lib.hid hz
  clear hX hY hB hv hv' hz
  go_enter Tryd.func10, Tryd.ntmps10
  go_wp2_with fail
  generalize ((w.alloc (.cells #[.int .i64 many, .int .i64 set, .int .u64 ep, .int .u64 has, .slice A ds.length c] 25)).alloc (.cells #[.int .i64 many, .int .i64 set, .int .u64 ep, .int .u64 has, .slice A' ds.length c'] 25)) = W0 at HX HY HB HV HV' ⊢
  go_loopw [44] (fun a wr => ∃ i : Nat, a = .int .i64 i ∧ i ≤ ds.length ∧ Below W0.heap.size W0 wr) (fun a _ => ds.length - (intOf a).toNat)
  case atStart => exact ⟨0, rfl, Nat.zero_le _, Below.refl _ _⟩
  case round =>
    obtain ⟨i, rfl, hi, hb⟩ := hrel
    by_cases hlt : i < ds.length
    · obtain ⟨d, hd⟩ := getElem_ex hlt
      obtain ⟨g, o, rfl, hgo, hc⟩ := dds_at (Rep.old HV.out) hd
      obtain ⟨g', o', rfl, hgo', hc'⟩ := dds_at (Rep.old HV'.out) hd
      have hltI : (i : Int) < ds.length := by omega
      have hNE : ∀ w', (binOp .neq 46 (.agg (ddC d).toArray) (.agg (ddC d).toArray)).run Tryd.prog w' = .ok (.bool false) w' := fun w' => by rw [neqDd]; simp
      have hG : ∀ w' x y, (eqGuard .neq 46 x y (.agg (ddC d).toArray) (.agg (ddC d).toArray)).run Tryd.prog w' = .ok () w' := fun w' x y => run_eqGuard_agg (P := Tryd.prog) w' .neq 46 x y _ _ guardDd
      obtain ⟨dk, da, dm, dt, dn, dc, dad, db⟩ := d
      have hNE : ∀ w', (binOp .neq 46 (.agg #[.int .i64 dk, .int .i64 da, .int .i64 dm, .int .i64 dt, .int .u64 dn, .int .u64 dc, .bool dad, .string (bs db)]) (.agg #[.int .i64 dk, .int .i64 da, .int .i64 dm, .int .i64 dt, .int .u64 dn, .int .u64 dc, .bool dad, .string (bs db)])).run Tryd.prog w' = .ok (.bool false) w' := hNE
      have hG : ∀ w' x y, (eqGuard .neq 46 x y (.agg #[.int .i64 dk, .int .i64 da, .int .i64 dm, .int .i64 dt, .int .u64 dn, .int .u64 dc, .bool dad, .string (bs db)]) (.agg #[.int .i64 dk, .int .i64 da, .int .i64 dm, .int .i64 dt, .int .u64 dn, .int .u64 dc, .bool dad, .string (bs db)])).run Tryd.prog w' = .ok () w' := hG
      have q0 := (hb.cell (p := ⟨g, o + i * 8 + 0, none⟩) hgo).trans (hc 0 _ rfl)
      have q1 := (hb.cell (p := ⟨g, o + i * 8 + 1, none⟩) hgo).trans (hc 1 _ rfl)
      have q2 := (hb.cell (p := ⟨g, o + i * 8 + 2, none⟩) hgo).trans (hc 2 _ rfl)
      have q3 := (hb.cell (p := ⟨g, o + i * 8 + 3, none⟩) hgo).trans (hc 3 _ rfl)
      have q4 := (hb.cell (p := ⟨g, o + i * 8 + 4, none⟩) hgo).trans (hc 4 _ rfl)
      have q5 := (hb.cell (p := ⟨g, o + i * 8 + 5, none⟩) hgo).trans (hc 5 _ rfl)
      have q6 := (hb.cell (p := ⟨g, o + i * 8 + 6, none⟩) hgo).trans (hc 6 _ rfl)
      have q7 := (hb.cell (p := ⟨g, o + i * 8 + 7, none⟩) hgo).trans (hc 7 _ rfl)
      have p0 := (hb.cell (p := ⟨g', o' + i * 8 + 0, none⟩) hgo').trans (hc' 0 _ rfl)
      have p1 := (hb.cell (p := ⟨g', o' + i * 8 + 1, none⟩) hgo').trans (hc' 1 _ rfl)
      have p2 := (hb.cell (p := ⟨g', o' + i * 8 + 2, none⟩) hgo').trans (hc' 2 _ rfl)
      have p3 := (hb.cell (p := ⟨g', o' + i * 8 + 3, none⟩) hgo').trans (hc' 3 _ rfl)
      have p4 := (hb.cell (p := ⟨g', o' + i * 8 + 4, none⟩) hgo').trans (hc' 4 _ rfl)
      have p5 := (hb.cell (p := ⟨g', o' + i * 8 + 5, none⟩) hgo').trans (hc' 5 _ rfl)
      have p6 := (hb.cell (p := ⟨g', o' + i * 8 + 6, none⟩) hgo').trans (hc' 6 _ rfl)
      have p7 := (hb.cell (p := ⟨g', o' + i * 8 + 7, none⟩) hgo').trans (hc' 7 _ rfl)
      simp only [Nat.add_zero] at q0 q1 q2 q3 q4 q5 q6 q7 p0 p1 p2 p3 p4 p5 p6 p7
      have x4 := rc ((hb.block _ (Array.getElem?_eq_some_iff.1 HX.out).1).trans HX.out) 4 rfl
      have y4 := rc ((hb.block _ (Array.getElem?_eq_some_iff.1 HY.out).1).trans HY.out) 4 rfl
      have HBB := Lib.hid hb
      clear hc hc' hd hb hgo hgo'
      go_wp2_with fail
      go_quiet (fail)
      go_wp2_with fail
      go_roundw
      case rel => exact ⟨i + 1, by go_num, by omega, below_drewN HBB.out nq⟩
      case measure => simp [intOf]; omega
    · obtain rfl : i = ds.length := by omega
      have HBB := Lib.hid (HB.out.trans (hb.mono HB.out.size))
      clear hb
      go_wp2_with fail
      go_ret
      exact ⟨rfl, HBB.out⟩

/-- the play of no deeds that alive asks -/
def aliveP : Pl := ⟨2, 2, 5, 9, []⟩
theorem alive_text : ([110, 111, 100, 101, 115, 32, 50, 32, 50, 32, 53, 32, 57, 10] : Bytes) = textP aliveP := by decide +kernel
theorem alive_wf : WfP aliveP := ⟨by decide, by decide, by decide, by decide, fun d h => by cases h⟩
theorem alive_ok : okP aliveP = true := by decide +kernel

set_option maxRecDepth 100000 in
theorem alive_any (w : World) (he : Env w) :
    Calls Tryd.prog 9 #[] w fun e w' => e = .returned (.bool true) ∧ Below w.heap.size w w' := by
  have hP : ∀ (W : World), Below w.heap.size w W → Calls Tryd.prog 7 #[.string ⟨#[110, 111, 100, 101, 115, 32, 50, 32, 50, 32, 53, 32, 57, 10]⟩] W fun e w' => (∃ A c, e = .returned (.tuple #[.agg #[.int .i64 2, .int .i64 2, .int .u64 5, .int .u64 9, .slice A 0 c], .int .i64 0, .int .i64 0]) ∧ DdsV Any w' aliveP.ds A c) ∧ Below W.heap.size W w' := fun W hb => by
    refine (Parse_any [110, 111, 100, 101, 115, 32, 50, 32, 50, 32, 53, 32, 57, 10] (by simp) W (he.keep hb)).mono ?_
    rintro e w1 ⟨⟨v, rfl, q, A, c, r, n, rfl, hd, hq⟩, hb1⟩
    rw [alive_text, parse_text alive_wf alive_ok] at hq
    rcases hq with ⟨h1, rfl, rfl⟩ | ⟨h1, _⟩
    · injection h1 with h1
      injection h1 with h1
      subst h1
      exact ⟨⟨A, c, rfl, hd⟩, hb1⟩
    · cases h1
  have hR : ∀ A c (W : World), DdsV Any W aliveP.ds A c → Calls Tryd.prog 14 #[.agg #[.int .i64 2, .int .i64 2, .int .u64 5, .int .u64 9, .slice A 0 c]] W fun e w' => e = .returned (.bool true) ∧ Below W.heap.size W w' := fun A c W hd => by
    have := RightP_any aliveP alive_wf ⟨fun d h => (by cases h), fun d h => (by cases h)⟩ A c W hd
    rw [alive_ok] at this
    exact this
  have HP := Lib.hid (hP w (Below.refl _ _))
  have HR := Lib.hid hR
  clear hP hR he
  go_enter Tryd.func9, Tryd.ntmps9
  go_wp2_with fail
  refine HP.out.mono ?_
  rintro e w1 ⟨⟨A, c, rfl, hd⟩, hb1⟩
  have hX := heap_alloc_new w1 (.cells #[.int .i64 2, .int .i64 2, .int .u64 5, .int .u64 9, .slice A 0 c] 25)
  have HX := Lib.hid hX
  have HB1 := Lib.hid (hb1.alloc hb1.size (.cells #[.int .i64 2, .int .i64 2, .int .u64 5, .int .u64 9, .slice A 0 c] 25))
  have HRR := Lib.hid (HR.out A c _ (Rep.alloc hd (.cells #[.int .i64 2, .int .i64 2, .int .u64 5, .int .u64 9, .slice A 0 c] 25)))
  clear hX hb1 hd HR HP
  go_wp2_with fail
  refine HRR.out.mono ?_
  rintro e w2 ⟨rfl, hb2⟩
  have hX2 := (hb2.block _ (Array.getElem?_eq_some_iff.1 HX.out).1).trans HX.out
  have x0 := rc hX2 0 rfl
  have x3 := rc hX2 3 rfl
  have HB2 := Lib.hid (below_call HB1.out HB1.out.size hb2)
  clear hb2 hX2 HRR HX
  go_wp2_with fail
  go_ret
  exact ⟨rfl, HB2.out⟩

def cutD (d : Dd) : Dd := ⟨d.k, d.a, d.m, d.t, d.n, d.c, d.ad, d.b.take 1100⟩
/-- deeds of which so many are cut -/
def cutsD (k : Nat) (l : List Dd) : List Dd := (l.take k).map cutD ++ l.drop k
theorem cutsD_len (k : Nat) (l : List Dd) : (cutsD k l).length = l.length := by simp [cutsD]; omega
theorem cutsD_all (l : List Dd) : cutsD l.length l = l.map cutD := by simp [cutsD]
theorem cutsD_get {k : Nat} {l : List Dd} {a : Dd} (h : l[k]? = some a) : (cutsD k l)[k]? = some a := by
  have hk := (List.getElem?_eq_some_iff.1 h).1
  unfold cutsD
  rw [List.getElem?_append_right (by simp; omega)]
  simp [Nat.min_eq_left (Nat.le_of_lt hk), h]
theorem ddsC_get : ∀ {l : List Dd} {i : Nat} {a : Dd}, l[i]? = some a → ∀ j u, (ddC a)[j]? = some u → (ddsC l)[i * 8 + j]? = some u
  | b :: l, 0, a, h, j, u, hj => by
    simp at h; subst h
    have hl := (List.getElem?_eq_some_iff.1 hj).1
    show (ddC b ++ ddsC l)[0 * 8 + j]? = _
    rw [Nat.zero_mul, Nat.zero_add, List.getElem?_append_left hl]; exact hj
  | b :: l, i + 1, a, h, j, u, hj => by
    simp at h
    show (ddC b ++ ddsC l)[(i + 1) * 8 + j]? = _
    rw [List.getElem?_append_right (by show 8 ≤ _; omega)]
    show (ddsC l)[(i + 1) * 8 + j - 8]? = _
    rw [show (i + 1) * 8 + j - 8 = i * 8 + j by omega]
    exact ddsC_get h j u hj
theorem cutsD_set {k : Nat} {l : List Dd} {a : Dd} (h : l[k]? = some a) : (ddsC (cutsD k l)).set (k * 8 + 7) (.string (bs (a.b.take 1100))) = ddsC (cutsD (k + 1) l) := by
  have hk := (List.getElem?_eq_some_iff.1 h).1
  unfold cutsD
  rw [take_snoc h, drop_cons h, ddsC_append, List.map_append, ddsC_append, ddsC_append]
  have hl : (ddsC ((l.take k).map cutD)).length = k * 8 := by rw [ddsC_len]; simp; omega
  rw [List.set_append_right _ _ (by omega), hl, show k * 8 + 7 - k * 8 = 7 by omega, List.append_assoc]
  rfl
theorem dds_lies {S : Nat → Prop} {w : World} {l : List Dd} {A : Option Addr} {c : Nat} (h : DdsV S w l A c) : Lies S w A (ddsC l) := by
  unfold DdsV at h
  obtain ⟨css, h1, h2, _, _⟩ := Rep.slice_open h
  have : ∀ (l : List Dd) (css : List Value), RepN S w 8 (l.map ddD) css → css = ddsC l := fun l => by
    induction l with
    | nil => intro css h; cases h; rfl
    | cons a l ih =>
      intro css h
      cases h with
      | cons h h0 h1 => rw [ih _ h1, rep_dd h]; rfl
  rw [this l css h1] at h2
  exact h2
end Go.Proofs.YtggiicbjegmehaaDoor
