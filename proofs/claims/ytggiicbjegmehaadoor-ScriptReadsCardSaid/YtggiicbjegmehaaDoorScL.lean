/- The walk of script.Print. -/
import Derived.Test.YtggiicbjegmehaaDoorScK
namespace Go.Proofs.YtggiicbjegmehaaDoor
set_option linter.unusedVariables false
set_option linter.unusedSimpArgs false
open Go.RowKit

theorem strC_snoc2 {l : List Dd} {i : Nat} {d : Dd} (f : Bytes) (h : l[i]? = some d) : strC (f :: (l.take (i + 1)).map lineP) = strC (f :: (l.take i).map lineP) ++ [.string (bs (lineP d))] := by
  rw [take_snoc h]; simp [strC]

set_option maxRecDepth 100000 in
set_option maxHeartbeats 8000000 in
theorem Print_any (p : Pl) (hw : WfP p) (ho : DsOk p.ds) (hok : okP p = true) (A : Option Addr) (c : Nat) (w : World) (he : Env w) (hv : DdsV Any w p.ds A c) :
    Calls Tryd.prog 12 #[.agg (plC p A c).toArray] w fun e w' => e = .returned (.tuple #[.string (bs (textP p)), .int .i64 0]) ∧ Below w.heap.size w w' := by
  have hR := fun (W : World) hb => RightP_any p hw ho A c W (Rep.keep hv hb)
  rw [hok] at hR
  have hh : headOk p = true ∧ p.ds.all okD = true := by unfold okP at hok; exact Bool.and_eq_true_iff.1 hok
  have hhd := hh.1
  unfold headOk at hhd
  rw [decide_eq_true_eq] at hhd
  have hall : ∀ d ∈ p.ds, okD d = true := fun d hd => List.all_eq_true.1 hh.2 d hd
  have hwf := hw.ds
  have hF := fun (W : World) hb => first_any p.many p.set p.ep p.has A p.ds.length c (by omega) (by omega) (by have := hw.ep; omega) (by have := hw.has; omega) W (he.keep hb)
  have hfl : (firstP p).length ≤ 1000 := by
    have h1 := decI_len (n := p.many) (by omega)
    have h2 := decI_len (n := p.set) (by omega)
    have h3 := decI_len (n := p.ep) (by omega)
    have h4 := decI_len (n := p.has) (by omega)
    have := join_len [32] 20 [110, 111, 100, 101, 115] [decI p.many, decI p.set, decI p.ep, decI p.has] (fun q hq => by
      simp only [List.mem_cons, List.mem_nil_iff, or_false] at hq
      rcases hq with rfl | rfl | rfl | rfl | rfl <;> first | assumption | simp)
    simp only [List.length_cons, List.length_nil] at this
    unfold firstP
    omega
  have hjl : (Lib.join (firstP p :: p.ds.map lineP) [10]).length ≤ 100000000 := by
    have := join_len [10] 20000 (firstP p) (p.ds.map lineP) (fun q hq => by
      rcases List.mem_cons.1 hq with rfl | hq
      · omega
      · obtain ⟨d, hd, rfl⟩ := List.mem_map.1 hq
        exact lineP_len (hwf d hd) (hall d hd))
    rw [List.length_map] at this
    have e : p.ds.length * ([10].length + 20000) ≤ 400 * 20001 := Nat.mul_le_mul hhd.2.2.2.2.2.2.2 (by simp)
    omega
  have hJ := fun (A : Option Addr) (c : Nat) (W : World) (hv : StrV (Fresh w.heap.size) W (firstP p :: p.ds.map lineP) A c) => join_any (firstP p :: p.ds.map lineP) (by simp) (by simp; omega) [10] (by omega) A c W hv.any
  have hT : textP p = Lib.join (firstP p :: p.ds.map lineP) [10] ++ [10] := rfl
  obtain ⟨JL, hJL⟩ : ∃ JL, Lib.join (firstP p :: p.ds.map lineP) [10] = JL := ⟨_, rfl⟩
  rw [hJL] at hJ hT hjl
  rw [hT]
  have hjI : (JL.length : Int) ≤ 100000000 := by omega
  have hF : ∀ (W : World), Below w.heap.size w W → Calls Tryd.prog 21 #[.agg #[.int .i64 p.many, .int .i64 p.set, .int .u64 p.ep, .int .u64 p.has, .slice A p.ds.length c]] W fun e w' => e = .returned (.string (bs (firstP p))) ∧ Below W.heap.size W w' := hF
  have hR : ∀ (W : World), Below w.heap.size w W → Calls Tryd.prog 14 #[.agg #[.int .i64 p.many, .int .i64 p.set, .int .u64 p.ep, .int .u64 p.has, .slice A p.ds.length c]] W fun e w' => e = .returned (.bool true) ∧ Below W.heap.size W w' := hR
  show Calls _ _ #[.agg #[.int .i64 p.many, .int .i64 p.set, .int .u64 p.ep, .int .u64 p.has, .slice A p.ds.length c]] _ _
  have hlI : (p.ds.length : Int) ≤ 400 := by omega
  obtain ⟨fp, hfp⟩ : ∃ fp, firstP p = fp := ⟨_, rfl⟩
  rw [hfp] at hF hJ
  obtain ⟨many, set, ep, has, ds⟩ := p
  simp only [] at hF hR hJ hlI hwf hall hv ⊢
  have hX0 := heap_alloc_new w (.cells #[.int .i64 many, .int .i64 set, .int .u64 ep, .int .u64 has, .slice A ds.length c] 25)
  have hB0 : Below w.heap.size w (w.alloc (.cells #[.int .i64 many, .int .i64 set, .int .u64 ep, .int .u64 has, .slice A ds.length c] 25)) := (Below.refl _ _).alloc (Nat.le_refl _) _
  obtain ⟨X, hXe⟩ : ∃ X, w.heap.size = X := ⟨_, rfl⟩
  have HV := Lib.hid (Rep.old hv)
  have HR := Lib.hid hR
  have HF := Lib.hid hF
  have HJ := Lib.hid hJ
  have HX0 := Lib.hid hX0
  have HB0 := Lib.hid hB0
  have HE := Lib.hid he
  have HWF := Lib.hid hwf
  have HALL := Lib.hid hall
  clear hR hF hJ hX0 hB0 hv he hwf hall hok hh hhd hfl hjl hT hJL hw ho hfp
  go_enter Tryd.func12, Tryd.ntmps12
  go_wp2_with fail
  refine (HR.out _ HB0.out).mono ?_
  rintro e w1 ⟨rfl, hb1⟩
  have hX1 := (hb1.block _ (Array.getElem?_eq_some_iff.1 HX0.out).1).trans HX0.out
  have HB1 := Lib.hid (below_call HB0.out HB0.out.size hb1)
  have z0 : w1.cell? ⟨w.heap.size, 0, none⟩ = some (.int .i64 many) := rc hX1 0 rfl
  have z1 : w1.cell? ⟨w.heap.size, 1, none⟩ = some (.int .i64 set) := rc hX1 1 rfl
  have z2 : w1.cell? ⟨w.heap.size, 2, none⟩ = some (.int .u64 ep) := rc hX1 2 rfl
  have z3 : w1.cell? ⟨w.heap.size, 3, none⟩ = some (.int .u64 has) := rc hX1 3 rfl
  have z4 : w1.cell? ⟨w.heap.size, 4, none⟩ = some (.slice A ds.length c) := rc hX1 4 rfl
  have HX1 := Lib.hid hX1
  clear hb1 hX1 HR HB0 HX0
  rw [hXe] at z0 z1 z2 z3 z4
  go_wp2_with fail
  refine (HF.out _ HB1.out).mono ?_
  clear HF
  rintro e w2 ⟨rfl, hb2⟩
  have hX2 := (hb2.block _ (Array.getElem?_eq_some_iff.1 HX1.out).1).trans HX1.out
  have HB2 := Lib.hid (below_call HB1.out HB1.out.size hb2)
  have z5 := ca (rc hX2 4 rfl : w2.cell? ⟨w.heap.size, 4, none⟩ = some (.slice A ds.length c)) (.cells #[.string (bs fp)] 9)
  rw [hXe] at z5
  have hown0 := World.ownsRow_lit (base := w.heap.size) (e := 9) (size := 1) w2 #[.string (bs fp)] 1 HB2.out.size (by simp [maxLen]) rfl
  have HB2s := HB2.out.size
  have HB3 := Lib.hid (HB2.out.alloc HB2s (.cells #[.string (bs fp)] 9))
  clear hb2 hX2 HB1 HX1 z0 z1 z2 z3 z4
  go_wp2_with fail
  clear z5
  go_loopw [4, 16] (fun out a wr => ∃ (i : Nat) (A1 : Option Addr) (c1 : Nat), a = .int .i64 i ∧ i ≤ ds.length ∧ out = .slice A1 (i + 1) c1 ∧ wr.ownsRow w.heap.size 9 1 (.slice A1 (i + 1) c1) (i + 1) (strC (fp :: (ds.take i).map lineP)) ∧ Below w.heap.size w wr) (fun _ a _ => ds.length - (intOf a).toNat)
  case atStart => exact ⟨0, _, _, rfl, Nat.zero_le _, rfl, hown0, HB3.out⟩
  case round =>
    clear hown0 HB3
    obtain ⟨i, A1, c1, rfl, hi, rfl, hown, hB⟩ := hrel
    have hBs := hB.size
    by_cases hlt : i < ds.length
    · obtain ⟨d, hd⟩ := getElem_ex hlt
      obtain ⟨g, o, rfl, hgo, hc⟩ := dds_at HV.out hd
      have hltI : (i : Int) < ds.length := by omega
      have hS := strC_snoc2 fp hd
      have hLN := fun (W : World) (hb : Below w.heap.size w W) => line_any d (HWF.out d (List.mem_of_getElem? hd)) (HALL.out d (List.mem_of_getElem? hd)) W (HE.out.keep hb)
      obtain ⟨ld, hld⟩ : ∃ ld, lineP d = ld := ⟨_, rfl⟩
      rw [hld] at hS hLN
      obtain ⟨dk, da, dm, dt, dn, dc, dad, db⟩ := d
      have q0 := (hB.cell (p := ⟨g, o + i * 8 + 0, none⟩) hgo).trans (hc 0 _ rfl)
      have q1 := (hB.cell (p := ⟨g, o + i * 8 + 1, none⟩) hgo).trans (hc 1 _ rfl)
      have q2 := (hB.cell (p := ⟨g, o + i * 8 + 2, none⟩) hgo).trans (hc 2 _ rfl)
      have q3 := (hB.cell (p := ⟨g, o + i * 8 + 3, none⟩) hgo).trans (hc 3 _ rfl)
      have q4 := (hB.cell (p := ⟨g, o + i * 8 + 4, none⟩) hgo).trans (hc 4 _ rfl)
      have q5 := (hB.cell (p := ⟨g, o + i * 8 + 5, none⟩) hgo).trans (hc 5 _ rfl)
      have q6 := (hB.cell (p := ⟨g, o + i * 8 + 6, none⟩) hgo).trans (hc 6 _ rfl)
      have q7 := (hB.cell (p := ⟨g, o + i * 8 + 7, none⟩) hgo).trans (hc 7 _ rfl)
      simp only [Nat.add_zero] at q0 q1 q2 q3 q4 q5 q6 q7
      have hLN : ∀ (W : World), Below w.heap.size w W → Calls Tryd.prog 24 #[.agg #[.int .i64 dk, .int .i64 da, .int .i64 dm, .int .i64 dt, .int .u64 dn, .int .u64 dc, .bool dad, .string (bs db)]] W fun e w' => e = .returned (.string (bs ld)) ∧ Below W.heap.size W w' := hLN
      have hba := hB.alloc hBs (.cells #[.int .i64 dk, .int .i64 da, .int .i64 dm, .int .i64 dt, .int .u64 dn, .int .u64 dc, .bool dad, .string (bs db)] 46)
      have HS := Lib.hid hS
      have HL := Lib.hid (hLN _ hba)
      have HBA := Lib.hid hba
      have HW := Lib.hid (hown.alloc (.cells #[.int .i64 dk, .int .i64 da, .int .i64 dm, .int .i64 dt, .int .u64 dn, .int .u64 dc, .bool dad, .string (bs db)] 46))
      clear hS hLN hba hown hB hd hc hld hgo
      go_wp2_with fail
      refine HL.out.mono ?_
      clear HL q0 q1 q2 q3 q4 q5 q6 q7
      rintro e w4 ⟨rfl, hb4⟩
      have HB4 := Lib.hid (below_call HBA.out HBA.out.size hb4)
      have HW4 := Lib.hid (own_keep HW.out hb4)
      have hB4s := HB4.out.size
      clear hb4 HBA HW
      go_wp2_with (at_builtin; refine wpl_append elStr rfl rfl w.heap.size (HW4.out.alloc _) rfl (m := 1) [.string (bs ld)] rfl rfl ?_ ?_ ?_ ?_ ?_ ?_; exact (lies_new' _ _ (by simp) #[.string (bs ld)] _); (intro u hu; rw [List.mem_singleton] at hu; subst hu; rfl); (simp only [maxLen]; omega); omega; (simp; omega); intro v1 w5 hown1 hg1 hat1; obtain ⟨A2, c2, rfl⟩ := own_form hown1)
      go_roundw
      case rel => exact ⟨i + 1, A2, c2, by go_num, by omega, rfl, by rw [HS.out]; exact hown1, below_str HB4.out hB4s HW4.out hg1⟩
      case measure => simp [intOf]; omega
    · obtain rfl : i = ds.length := by omega
      rw [List.take_length] at hown
      have hj := HJ.out A1 c1 wr (own_strV' (ps := fp :: ds.map lineP) (by have := hown; rwa [show ds.length + 1 = ds.length + 1 from rfl] at this))
      rw [show (fp :: ds.map lineP).length = ds.length + 1 by simp] at hj
      have hj : Calls Tryd.prog 33 #[.slice A1 (ds.length + 1) c1, .string ⟨#[10]⟩] wr fun e w' => e = .returned (.string (bs JL)) ∧ Below wr.heap.size wr w' := hj
      have HJJ := Lib.hid hj
      have HB := Lib.hid hB
      clear hj hown hB HJ
      go_wp2_with fail
      refine HJJ.out.mono ?_
      rintro e w6 ⟨rfl, hb6⟩
      have HB6 := Lib.hid (below_call HB.out HB.out.size hb6)
      clear hb6
      go_wp2_with fail
      go_ret2
      exact ⟨rfl, HB6.out⟩
end Go.Proofs.YtggiicbjegmehaaDoor
