/- The walks of the document's Right and Text at layer 27. -/
import Derived.Test.YtggiicbjegmehaaDoorScVb
import Derived.Test.YtggiicbjegmehaaDoorScVa
import Derived.Test.YtggiicbjegmehaaDoorScVl
import Derived.Test.YtggiicbjegmehaaDoorScY
namespace Go.Proofs.YtggiicbjegmehaaDoor
set_option linter.unusedVariables false
set_option linter.unusedSimpArgs false
open Go.RowKit

theorem okP_iff (many set ep has : Int) (ds : List Dd) : okP ⟨many, set, ep, has, ds⟩ = true ↔ (2 ≤ many ∧ many ≤ 7 ∧ 2 ≤ set ∧ set ≤ many ∧ 1 ≤ ep ∧ ep ≤ 1000 ∧ has ≤ 1000000000 ∧ (ds.length : Int) ≤ 400) ∧ ds.all okD = true := by
  unfold okP headOk
  rw [Bool.and_eq_true, decide_eq_true_eq]
  simp only []
  constructor
  · rintro ⟨h1, h2⟩; exact ⟨by omega, h2⟩
  · rintro ⟨h1, h2⟩; exact ⟨by omega, h2⟩

set_option maxRecDepth 100000 in
set_option maxHeartbeats 16000000 in
theorem rRight_any (p : Pl) (ho : DsOk p.ds) (hl : p.ds.length ≤ 1000) (A : Option Addr) (c : Nat) (w : World) (hv : DdsV Any w p.ds A c) :
    Calls Tryd.prog 13 #[.agg (plC p A c).toArray] w fun e w' => e = .returned (.bool (okP p)) ∧ Below w.heap.size w w' := by
  obtain ⟨many, set, ep, has, ds⟩ := p
  simp only [] at ho hl hv
  show Calls _ _ #[.agg #[.int .i64 many, .int .i64 set, .int .u64 ep, .int .u64 has, .slice A ds.length c]] _ _
  have hiff := okP_iff many set ep has ds
  obtain ⟨ok, hok⟩ : ∃ ok, okP ⟨many, set, ep, has, ds⟩ = ok := ⟨_, rfl⟩
  rw [hok] at hiff ⊢
  have hX := heap_alloc_new w (.cells #[.int .i64 many, .int .i64 set, .int .u64 ep, .int .u64 has, .slice A ds.length c] 25)
  have hB := (Below.refl w.heap.size w).alloc (Nat.le_refl _) (.cells #[.int .i64 many, .int .i64 set, .int .u64 ep, .int .u64 has, .slice A ds.length c] 25)
  have HV := Lib.hid (Rep.old (Rep.keep hv hB))
  have HX := Lib.hid hX
  have HB := Lib.hid hB
  have HO := Lib.hid ho
  have HI := Lib.hid hiff
  have hlI : (ds.length : Int) ≤ 1000 := by omega
  clear hX hB hv ho hiff hok
  go_enter Tryd.func13, Tryd.ntmps13
  go_wp2_with fail
  generalize w.alloc (.cells #[.int .i64 many, .int .i64 set, .int .u64 ep, .int .u64 has, .slice A ds.length c] 25) = W0 at HX HB HV ⊢
  go_loopw [8] (fun a wr => ∃ i : Nat, a = .int .i64 i ∧ i ≤ ds.length ∧ Hid (ds.all okD = (ds.drop i).all okD) ∧ Below W0.heap.size W0 wr) (fun a _ => ds.length - (intOf a).toNat)
  case atStart => exact ⟨0, rfl, Nat.zero_le _, Lib.hid rfl, Below.refl _ _⟩
  case round =>
    obtain ⟨i, rfl, hi, hN, hb⟩ := hrel
    by_cases hlt : i < ds.length
    · obtain ⟨d, hd⟩ := getElem_ex hlt
      obtain ⟨g, o, rfl, hgo, hc⟩ := dds_at HV.out hd
      have hltI : (i : Int) < ds.length := by omega
      have hst := all_step hd
      have hR := fun W => risdeed_any d (HO.out.len d (List.mem_of_getElem? hd)) W
      obtain ⟨g1, hg1⟩ : ∃ g, okD d = g := ⟨_, rfl⟩
      rw [hg1] at hR hst
      obtain ⟨dk, da, dm, dt, dn, dc, dad, db⟩ := d
      have hR : ∀ W, Calls Tryd.prog 31 #[.agg #[.int .i64 dk, .int .i64 da, .int .i64 dm, .int .i64 dt, .int .u64 dn, .int .u64 dc, .bool dad, .string (bs db)]] W fun e w' => e = .returned (.bool g1) ∧ Below W.heap.size W w' := hR
      have q0 := (hb.cell (p := ⟨g, o + i * 8 + 0, none⟩) hgo).trans (hc 0 _ rfl)
      have q1 := (hb.cell (p := ⟨g, o + i * 8 + 1, none⟩) hgo).trans (hc 1 _ rfl)
      have q2 := (hb.cell (p := ⟨g, o + i * 8 + 2, none⟩) hgo).trans (hc 2 _ rfl)
      have q3 := (hb.cell (p := ⟨g, o + i * 8 + 3, none⟩) hgo).trans (hc 3 _ rfl)
      have q4 := (hb.cell (p := ⟨g, o + i * 8 + 4, none⟩) hgo).trans (hc 4 _ rfl)
      have q5 := (hb.cell (p := ⟨g, o + i * 8 + 5, none⟩) hgo).trans (hc 5 _ rfl)
      have q6 := (hb.cell (p := ⟨g, o + i * 8 + 6, none⟩) hgo).trans (hc 6 _ rfl)
      have q7 := (hb.cell (p := ⟨g, o + i * 8 + 7, none⟩) hgo).trans (hc 7 _ rfl)
      simp only [Nat.add_zero] at q0 q1 q2 q3 q4 q5 q6 q7
      have hba := hb.alloc hb.size (.cells #[.int .i64 dk, .int .i64 da, .int .i64 dm, .int .i64 dt, .int .u64 dn, .int .u64 dc, .bool dad, .string (bs db)] 46)
      have HBA := Lib.hid hba
      have HRR := Lib.hid (hR (wr.alloc (.cells #[.int .i64 dk, .int .i64 da, .int .i64 dm, .int .i64 dt, .int .u64 dn, .int .u64 dc, .bool dad, .string (bs db)] 46)))
      have HST := Lib.hid hst
      clear hst hR hba hc hd hb hg1 hgo
      go_wp2_with fail
      refine HRR.out.mono ?_
      rintro e w4 ⟨rfl, hb4⟩
      have HB4 := Lib.hid (below_call HBA.out HBA.out.size hb4)
      clear hb4 HRR HBA q0 q1 q2 q3 q4 q5 q6 q7
      cases g1 with
      | false =>
        have HD : Hid (ok = false) := Lib.hid (Bool.eq_false_iff.2 fun h => by have := (HI.out.1 h).2; rw [hN.out, HST.out] at this; cases this)
        have HBB := Lib.hid (HB.out.trans (HB4.out.mono HB.out.size))
        go_wp2_with fail
        go_ret
        exact ⟨by rw [HD.out]; rfl, HBB.out⟩
      | true =>
        go_wp2_with fail
        go_roundw
        case rel => exact ⟨i + 1, by go_num, by omega, Lib.hid (by rw [hN.out, HST.out]; rfl), HB4.out⟩
        case measure => simp [intOf]; omega
    · obtain rfl : i = ds.length := by omega
      have HALL : Hid (ds.all okD = true) := Lib.hid (by rw [hN.out, List.drop_length]; rfl)
      have hX := (hb.block _ (Array.getElem?_eq_some_iff.1 HX.out).1).trans HX.out
      have x0 := rc hX 0 rfl
      have x1 := rc hX 1 rfl
      have x2 := rc hX 2 rfl
      have x3 := rc hX 3 rfl
      have x4 := rc hX 4 rfl
      have HBB := Lib.hid (HB.out.trans (hb.mono HB.out.size))
      have HNO : Hid (¬ (2 ≤ many ∧ many ≤ 7 ∧ 2 ≤ set ∧ set ≤ many ∧ 1 ≤ ep ∧ ep ≤ 1000 ∧ has ≤ 1000000000 ∧ (ds.length : Int) ≤ 400) → ok = false) := Lib.hid (fun hn => Bool.eq_false_iff.2 fun h => hn (HI.out.1 h).1)
      have HYES : Hid ((2 ≤ many ∧ many ≤ 7 ∧ 2 ≤ set ∧ set ≤ many ∧ 1 ≤ ep ∧ ep ≤ 1000 ∧ has ≤ 1000000000 ∧ (ds.length : Int) ≤ 400) → ok = true) := Lib.hid (fun hn => HI.out.2 ⟨hn, HALL.out⟩)
      clear hX hb hN HI HALL HV HO HX HB
      by_cases h1 : 2 ≤ many
      case neg =>
        have HD := Lib.hid (HNO.out (by omega))
        go_wp2_with fail
        go_ret
        exact ⟨by rw [HD.out]; rfl, HBB.out⟩
      by_cases h2 : many ≤ 7
      case neg =>
        have HD := Lib.hid (HNO.out (by omega))
        go_wp2_with fail
        go_ret
        exact ⟨by rw [HD.out]; rfl, HBB.out⟩
      by_cases h3 : 2 ≤ set
      case neg =>
        have HD := Lib.hid (HNO.out (by omega))
        go_wp2_with fail
        go_ret
        exact ⟨by rw [HD.out]; rfl, HBB.out⟩
      by_cases h4 : set ≤ many
      case neg =>
        have HD := Lib.hid (HNO.out (by omega))
        go_wp2_with fail
        go_ret
        exact ⟨by rw [HD.out]; rfl, HBB.out⟩
      by_cases h5 : 1 ≤ ep
      case neg =>
        have HD := Lib.hid (HNO.out (by omega))
        go_wp2_with fail
        go_ret
        exact ⟨by rw [HD.out]; rfl, HBB.out⟩
      by_cases h6 : ep ≤ 1000
      case neg =>
        have HD := Lib.hid (HNO.out (by omega))
        go_wp2_with fail
        go_ret
        exact ⟨by rw [HD.out]; rfl, HBB.out⟩
      by_cases h7 : has ≤ 1000000000
      case neg =>
        have HD := Lib.hid (HNO.out (by omega))
        go_wp2_with fail
        go_ret
        exact ⟨by rw [HD.out]; rfl, HBB.out⟩
      by_cases h8 : (ds.length : Int) ≤ 400
      case neg =>
        have HD := Lib.hid (HNO.out (by omega))
        go_wp2_with fail
        go_ret
        exact ⟨by rw [HD.out]; rfl, HBB.out⟩
      have HD := Lib.hid (HYES.out ⟨h1, h2, h3, h4, h5, h6, h7, h8⟩)
      go_wp2_with fail
      go_ret
      exact ⟨by rw [HD.out]; rfl, HBB.out⟩

theorem linesP_snoc {l : List Dd} {i : Nat} {d : Dd} (h : l[i]? = some d) : linesP (l.take (i + 1)) = linesP (l.take i) ++ (lineP d ++ [10]) := by
  rw [take_snoc h]; simp [linesP]

set_option maxRecDepth 100000 in
set_option maxHeartbeats 16000000 in
theorem rText_any (p : Pl) (hw : WfP p) (hok : okP p = true) (A : Option Addr) (c : Nat) (w : World) (he : Env w) (hv : DdsV Any w p.ds A c) :
    Calls Tryd.prog 15 #[.agg (plC p A c).toArray] w fun e w' => e = .returned (.string (bs (textP p))) ∧ Below w.heap.size w w' := by
  have hfl := (text_len hw hok).2
  have hT := textP_lines p
  obtain ⟨h1, h2⟩ := okP_parts hok
  have hhd := headOk_ranges h1
  have hall : ∀ d ∈ p.ds, okD d = true := fun d hd => List.all_eq_true.1 h2 d hd
  have hwf := hw.ds
  have hF := fun (W : World) hb => rfirst_any p.many p.set p.ep p.has A p.ds.length c (by omega) (by omega) (by have := hw.ep; omega) (by have := hw.has; omega) W (he.keep hb)
  rw [hT]
  have hF : ∀ (W : World), Below w.heap.size w W → Calls Tryd.prog 29 #[.agg #[.int .i64 p.many, .int .i64 p.set, .int .u64 p.ep, .int .u64 p.has, .slice A p.ds.length c]] W fun e w' => e = .returned (.string (bs (firstP p))) ∧ Below W.heap.size W w' := hF
  obtain ⟨fp, hfp⟩ : ∃ fp, firstP p = fp := ⟨_, rfl⟩
  rw [hfp] at hF hfl ⊢
  have hlI : (p.ds.length : Int) ≤ 400 := by omega
  show Calls _ _ #[.agg #[.int .i64 p.many, .int .i64 p.set, .int .u64 p.ep, .int .u64 p.has, .slice A p.ds.length c]] _ _
  obtain ⟨many, set, ep, has, ds⟩ := p
  simp only [] at hF hlI hwf hall hv ⊢
  have hX := heap_alloc_new w (.cells #[.int .i64 many, .int .i64 set, .int .u64 ep, .int .u64 has, .slice A ds.length c] 25)
  have hB := (Below.refl w.heap.size w).alloc (Nat.le_refl _) (.cells #[.int .i64 many, .int .i64 set, .int .u64 ep, .int .u64 has, .slice A ds.length c] 25)
  have HV := Lib.hid (Rep.old hv)
  have HF := Lib.hid hF
  have HX := Lib.hid hX
  have HB := Lib.hid hB
  have HE := Lib.hid he
  have HWF := Lib.hid hwf
  have HALL := Lib.hid hall
  have hflI : (fp.length : Int) ≤ 1000 := by omega
  have hcat : bs fp ++ (⟨#[10]⟩ : ByteArray) = bs (fp ++ [10]) := bs_append fp [10]
  clear hF hX hB hv he hwf hall hok h1 h2 hhd hT hw hfp
  go_enter Tryd.func15, Tryd.ntmps15
  go_wp2_with fail
  refine (HF.out _ HB.out).mono ?_
  rintro e w1 ⟨rfl, hb1⟩
  have hX1 := (hb1.block _ (Array.getElem?_eq_some_iff.1 HX.out).1).trans HX.out
  have x4 := rc hX1 4 rfl
  have HB1 := Lib.hid (below_call HB.out HB.out.size hb1)
  clear hb1 hX1 HX HB HF
  go_wp2_with fail
  clear x4 hcat
  go_loopw [3, 12] (fun x a wr => ∃ (i : Nat) (o : Bytes), x = .string (bs o) ∧ a = .int .i64 i ∧ i ≤ ds.length ∧ o.length ≤ 2000 + i * 20001 ∧ Hid (o = fp ++ 10 :: linesP (ds.take i)) ∧ Below w.heap.size w wr) (fun _ a _ => ds.length - (intOf a).toNat)
  case atStart => exact ⟨0, fp ++ [10], rfl, rfl, Nat.zero_le _, by simp; omega, Lib.hid (by simp [linesP]), HB1.out⟩
  case round =>
    clear HB1
    obtain ⟨i, o, rfl, rfl, hi, hol, HO, hB⟩ := hrel
    have hBs := hB.size
    by_cases hlt : i < ds.length
    · obtain ⟨d, hd⟩ := getElem_ex hlt
      obtain ⟨g, o1, rfl, hgo, hc⟩ := dds_at HV.out hd
      have hltI : (i : Int) < ds.length := by omega
      have hS := linesP_snoc hd
      have hLN := fun (W : World) (hb : Below w.heap.size w W) => rline_any d (HWF.out d (List.mem_of_getElem? hd)) (HALL.out d (List.mem_of_getElem? hd)) W (HE.out.keep hb)
      have hll := lineP_len (HWF.out d (List.mem_of_getElem? hd)) (HALL.out d (List.mem_of_getElem? hd))
      obtain ⟨ld, hld⟩ : ∃ ld, lineP d = ld := ⟨_, rfl⟩
      rw [hld] at hS hLN hll
      obtain ⟨dk, da, dm, dt, dn, dc, dad, db⟩ := d
      have q0 := (hB.cell (p := ⟨g, o1 + i * 8 + 0, none⟩) hgo).trans (hc 0 _ rfl)
      have q1 := (hB.cell (p := ⟨g, o1 + i * 8 + 1, none⟩) hgo).trans (hc 1 _ rfl)
      have q2 := (hB.cell (p := ⟨g, o1 + i * 8 + 2, none⟩) hgo).trans (hc 2 _ rfl)
      have q3 := (hB.cell (p := ⟨g, o1 + i * 8 + 3, none⟩) hgo).trans (hc 3 _ rfl)
      have q4 := (hB.cell (p := ⟨g, o1 + i * 8 + 4, none⟩) hgo).trans (hc 4 _ rfl)
      have q5 := (hB.cell (p := ⟨g, o1 + i * 8 + 5, none⟩) hgo).trans (hc 5 _ rfl)
      have q6 := (hB.cell (p := ⟨g, o1 + i * 8 + 6, none⟩) hgo).trans (hc 6 _ rfl)
      have q7 := (hB.cell (p := ⟨g, o1 + i * 8 + 7, none⟩) hgo).trans (hc 7 _ rfl)
      simp only [Nat.add_zero] at q0 q1 q2 q3 q4 q5 q6 q7
      have hLN : ∀ (W : World), Below w.heap.size w W → Calls Tryd.prog 32 #[.agg #[.int .i64 dk, .int .i64 da, .int .i64 dm, .int .i64 dt, .int .u64 dn, .int .u64 dc, .bool dad, .string (bs db)]] W fun e w' => e = .returned (.string (bs ld)) ∧ Below W.heap.size W w' := hLN
      have hba := hB.alloc hBs (.cells #[.int .i64 dk, .int .i64 da, .int .i64 dm, .int .i64 dt, .int .u64 dn, .int .u64 dc, .bool dad, .string (bs db)] 46)
      have HS := Lib.hid hS
      have HL := Lib.hid (hLN _ hba)
      have HBA := Lib.hid hba
      have him : i * 20001 ≤ 400 * 20001 := Nat.mul_le_mul (by omega) (Nat.le_refl _)
      have holI : (o.length : Int) ≤ 9000000 := by omega
      have hllI : (ld.length : Int) ≤ 20000 := by omega
      have hcat : bs (o ++ ld) ++ (⟨#[10]⟩ : ByteArray) = bs (o ++ (ld ++ [10])) := by rw [← List.append_assoc]; exact bs_append (o ++ ld) [10]
      clear hS hLN hba hB hd hc hld hgo him
      go_wp2_with fail
      refine HL.out.mono ?_
      clear HL q0 q1 q2 q3 q4 q5 q6 q7
      rintro e w4 ⟨rfl, hb4⟩
      have HB4 := Lib.hid (below_call HBA.out HBA.out.size hb4)
      clear hb4 HBA
      go_wp2_with fail
      go_roundw
      case rel => exact ⟨i + 1, o ++ (ld ++ [10]), rfl, by go_num, by omega, by simp only [List.length_append, List.length_cons, List.length_nil]; omega, Lib.hid (by rw [HO.out, HS.out]; simp), HB4.out⟩
      case measure => simp [intOf]; omega
    · obtain rfl : i = ds.length := by omega
      have HE2 : Hid (o = fp ++ 10 :: linesP ds) := Lib.hid (by have := HO.out; rw [List.take_length] at this; exact this)
      have HB := Lib.hid hB
      clear hB HO
      go_wp2_with fail
      go_ret
      exact ⟨by rw [← HE2.out]; rfl, HB.out⟩
end Go.Proofs.YtggiicbjegmehaaDoor
