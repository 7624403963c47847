/- The walk of frame.items. -/
import Derived.Test.YtjanaholcjkceaaZ29
import Derived.Test.YtjanaholcjkceaaZ21
namespace Go.Proofs.Ytjanaholcjkceaa
set_option linter.unusedVariables false
set_option linter.unusedSimpArgs false
open Go.RowKit
theorem kinds_at {S : Nat → Prop} {w : World} {ks : List Kd} {A : Option Addr} {c i : Nat} {k : Kd} (h : KindsV S w ks A c) (hi : ks[i]? = some k) :
    ∃ g o s A1 n1 c1, A = some ⟨g, o, none⟩ ∧ Rep S w (kdD k) [.int .u8 s, .slice A1 n1 c1] ∧ w.cell? ⟨g, o + i * 2, none⟩ = some (.int .u8 s) ∧ w.cell? ⟨g, o + i * 2 + 1, none⟩ = some (.slice A1 n1 c1) := by
  obtain ⟨g, o, ci, hA, hs, r1, r2, r3⟩ := Rep.slice_at h (by omega) (i := i) (d := kdD k) (by unfold kindsD; rw [List.getElem?_map, hi]; rfl)
  obtain ⟨n, A1, m, c1, rfl⟩ := kd_len r1
  exact ⟨g, o, n, A1, m, c1, hA, r1, by simpa using r3 0 _ rfl, by simpa [Nat.add_assoc] using r3 1 _ rfl⟩
set_option maxRecDepth 100000 in
set_option maxHeartbeats 4000000 in
theorem items_star (fs : List Fd) (it : Nat → Item) (ok : Nat → Bool) (kc : UInt8) (kd : Nat → Kd) (hkd : ∀ i, kd i = ⟨kc, false⟩) (Ak : Option Addr) (ck : Nat) (A : Option Addr) (c : Nat) (w : World) (hkv : ∀ W : World, Below w.heap.size w W → ∃ gk og, Ak = some ⟨gk, og, none⟩ ∧ W.cell? ⟨gk, og, none⟩ = some (.int .u8 kc.toNat) ∧ W.cell? ⟨gk, og + 1, none⟩ = some (.slice none 0 0)) (hv : FdsV Any w fs A c)
    (hit : ∀ (i : Nat) (f : Fd) (s : Int) (A1 : Option Addr) (n1 c1 : Nat) (A2 : Option Addr) (c2 : Nat) (W : World), fs[i]? = some f → Rep Any W (kdD (kd i)) [.int .u8 s, .slice A1 n1 c1] → LfsV Any W f.l A2 c2 →
      Calls Try.prog 59 #[.agg #[.int .u8 s, .slice A1 n1 c1], .agg (fdC f A2 c2).toArray] W (FitPost (it i) (ok i) W)) :
    Calls Try.prog 46 #[.agg #[.int .u8 42, .slice Ak 1 ck], .slice A fs.length c] w (FitPost (listIt ((List.range fs.length).map it)) (decide (fs.length ≤ 40) && (List.range fs.length).all ok) w) := by
  obtain ⟨OK, hOK⟩ : ∃ OK, (decide (fs.length ≤ 40) && (List.range fs.length).all ok) = OK := ⟨_, rfl⟩
  rw [hOK]
  have HOK := Lib.hid hOK
  have hb : Below w.heap.size w ((w.alloc (.cells #[.int .u8 42, .slice Ak 1 ck] 103)).alloc (.cells #[.bool false, .string ⟨#[]⟩, .slice none 0 0] 45)) := ((Below.refl _ _).alloc (Nat.le_refl _) _).alloc (by simp) _
  have hr := heap_alloc_new (w.alloc (.cells #[.int .u8 42, .slice Ak 1 ck] 103)) (.cells #[.bool false, .string ⟨#[]⟩, .slice none 0 0] 45)
  have hk0 := (heap_alloc_old (w.alloc (.cells #[.int .u8 42, .slice Ak 1 ck] 103)) (.cells #[.bool false, .string ⟨#[]⟩, .slice none 0 0] 45) (by simp)).trans (heap_alloc_new w (.cells #[.int .u8 42, .slice Ak 1 ck] 103))
  simp only [World.size_alloc] at hr
  have hsz : ((w.alloc (.cells #[.int .u8 42, .slice Ak 1 ck] 103)).alloc (.cells #[.bool false, .string ⟨#[]⟩, .slice none 0 0] 45)).heap.size = w.heap.size + 2 := by simp
  have HB := Lib.hid hb
  have HR := Lib.hid hr
  have HKB := Lib.hid hk0
  have HV := Lib.hid hv
  have HIT := Lib.hid hit
  have HKV := Lib.hid hkv
  have HSZ := Lib.hid hsz
  clear hOK hb hr hk0 hv hit hkv hsz
  by_cases hlen : fs.length ≤ 40
  case neg =>
    have hok : OK = false := by rw [← HOK.out]; simp [hlen]
    have hlI : (40 : Int) < fs.length := by omega
    clear HIT HV HKV HKB HSZ hlen
    go_enter Try.func46, Try.ntmps46
    go_wp2_with fail
    refine bodyPost_ret (v := .tuple #[.agg #[.bool false, .string ⟨#[]⟩, .slice none 0 0], .bool false]) (results_row_tmp rfl _ _ (w.heap.size + 1) _ _ _ _ rfl HR.out _ rfl Try.underlying45 rfl infoI) rfl ?_
    rw [hok]
    exact ⟨leafIt [], none, 0, rfl, ItemV.leaf [] false, (fun h => by cases h), HB.out⟩
  have hlI : ¬ (40 : Int) < fs.length := by omega
  have hOKi : Hid (OK = ((List.range fs.length).all ok)) := Lib.hid (by rw [← HOK.out]; simp [hlen])
  have hfl : fs.length ≤ 1000 := by omega
  clear HOK hlen
  go_enter Try.func46, Try.ntmps46
  go_wp2_with fail
  refine (List_any none 0 0 _).mono ?_
  rintro e w1 ⟨rfl, hb1⟩
  have hR1 := (hb1.block _ (Array.getElem?_eq_some_iff.1 HR.out).1).trans HR.out
  have hK1 := (hb1.block _ (Array.getElem?_eq_some_iff.1 HKB.out).1).trans HKB.out
  have hB1 := below_call HB.out HB.out.size hb1
  have hw1 : w.heap.size + 2 ≤ w1.heap.size := by rw [← HSZ.out]; exact hb1.size
  have hba : Below w1.heap.size w1 (w1.alloc (.cells #[.bool true, .string (bs []), .slice none 0 0] 45)) := (Below.refl _ _).alloc (Nat.le_refl _) _
  have HX2 := Lib.hid (heap_alloc_new w1 (.cells #[.bool true, .string (bs []), .slice none 0 0] 45))
  have HR2 := Lib.hid ((hba.block _ (Array.getElem?_eq_some_iff.1 hR1).1).trans hR1)
  have HK2 := Lib.hid ((hba.block _ (Array.getElem?_eq_some_iff.1 hK1).1).trans hK1)
  have HB2 := Lib.hid (below_call hB1 hB1.size hba)
  clear hR1 hK1 hB1 hba hb1 HB HR HKB HSZ
  go_wp2_with fail
  obtain ⟨X, hXe⟩ : ∃ X, w1.heap.size = X := ⟨_, rfl⟩
  have hX0 := HX2.out
  rw [hXe] at hw1 hX0 ⊢
  have HX0 := Lib.hid hX0
  clear hX0 HX2
  go_loopw [37] (fun a wr => ∃ (i : Nat) (ys : List Value) (u : Value), a = .int .i64 i ∧ i ≤ fs.length ∧ Hid ((List.range i).all ok = true) ∧ wr.heap[X]? = some (.cells #[.bool true, .string (bs []), u] 45 (0, 0)) ∧ wr.heap[w.heap.size + 1]? = some (.cells #[.bool false, .string ⟨#[]⟩, .slice none 0 0] 45 (0, 0)) ∧ wr.heap[w.heap.size]? = some (.cells #[.int .u8 42, .slice Ak 1 ck] 103 (0, 0)) ∧
      wr.ownsRow (X + 1) 45 3 u i ys ∧ RepN (RowS (X + 1) u) wr 3 (itemsD ((List.range i).map it)) ys ∧ Below w.heap.size w wr) (fun a _ => fs.length - (intOf a).toNat)
  case atStart => exact ⟨0, [], _, rfl, Nat.zero_le _, Lib.hid rfl, HX0.out, HR2.out, HK2.out, World.ownsRow_nil _ _ _ _, .nil, HB2.out⟩
  case round =>
    clear HX0 HR2 HK2 HB2
    obtain ⟨i, ys, u, rfl, hi, hall, hX, hR, hKd, hown, hrep, hB⟩ := hrel
    obtain ⟨A', c', rfl⟩ := own_form hown
    have hXl := (Array.getElem?_eq_some_iff.1 hX).1
    by_cases hlt : i < fs.length
    · obtain ⟨f, hf⟩ := getElem_ex hlt
      obtain ⟨g, o, A2, c2, rfl, _, hlv, hcf⟩ := fds_at (HV.out.keep hB) hf
      have hltI : (i : Int) < fs.length := by omega
      have q0 := hcf 0 _ rfl
      have q1 := hcf 1 _ rfl
      have q2 := hcf 2 _ rfl
      simp only [Nat.add_zero] at q0
      have k0 : wr.cell? ⟨w.heap.size, 0, none⟩ = some (.int .u8 42) := rc hKd 0 rfl
      have k1 : wr.cell? ⟨w.heap.size, 1, none⟩ = some (.slice Ak 1 ck) := rc hKd 1 rfl
      obtain ⟨gk, og, hgk⟩ : ∃ gk og, Ak = some ⟨gk, og, none⟩ ∧ wr.cell? ⟨gk, og, none⟩ = some (.int .u8 kc.toNat) ∧ wr.cell? ⟨gk, og + 1, none⟩ = some (.slice none 0 0) := HKV.out wr hB
      obtain ⟨rfl, z0, z1⟩ := hgk
      have HRK : Hid (Rep Any wr (kdD (kd i)) [.int .u8 kc.toNat, .slice none 0 0]) := Lib.hid (by rw [hkd]; exact rep_plain kc)
      have k1a := ca k1 (.cells #[.int .u64 (f.n : Int), .string (bs f.b), .slice A2 f.l.length c2] 72)
      have k0b := ca (ca k0 (.cells #[.int .u64 (f.n : Int), .string (bs f.b), .slice A2 f.l.length c2] 72)) (.cells #[.int .u8 kc.toNat, .slice none 0 0] 103)
      have z0a := ca z0 (.cells #[.int .u64 (f.n : Int), .string (bs f.b), .slice A2 f.l.length c2] 72)
      have z1a := ca z1 (.cells #[.int .u64 (f.n : Int), .string (bs f.b), .slice A2 f.l.length c2] 72)
      have HF := Lib.hid hf
      have HX := Lib.hid hX
      have HR := Lib.hid hR
      have HKD := Lib.hid hKd
      have HW := Lib.hid hown
      have HP := Lib.hid hrep
      have HB := Lib.hid hB
      have HLV := Lib.hid hlv
      clear hf hX hR hKd hown hrep hB hlv hcf
      go_wp2_with fail
      have hba : Below wr.heap.size wr ((wr.alloc (.cells #[.int .u64 (f.n : Int), .string (bs f.b), .slice A2 f.l.length c2] 72)).alloc (.cells #[.int .u8 kc.toNat, .slice none 0 0] 103)) := ((Below.refl _ _).alloc (Nat.le_refl _) _).alloc (by simp) _
      have hC := HIT.out i f _ _ _ _ A2 c2 ((wr.alloc (.cells #[.int .u64 (f.n : Int), .string (bs f.b), .slice A2 f.l.length c2] 72)).alloc (.cells #[.int .u8 kc.toNat, .slice none 0 0] 103)) HF.out (Rep.keep HRK.out hba) (HLV.out.keep hba)
      have HX1 := Lib.hid ((hba.block _ (Array.getElem?_eq_some_iff.1 HX.out).1).trans HX.out)
      have HR1 := Lib.hid ((hba.block _ (Array.getElem?_eq_some_iff.1 HR.out).1).trans HR.out)
      have HK1 := Lib.hid ((hba.block _ (Array.getElem?_eq_some_iff.1 HKD.out).1).trans HKD.out)
      have HW1 := Lib.hid (own_keep HW.out hba)
      have HP1 := Lib.hid (HP.out.keep hba)
      have HB1 := Lib.hid (below_call HB.out HB.out.size hba)
      have hXl1 := Nat.lt_of_lt_of_le hXl hba.size
      refine hC.mono ?_
      clear hC hba HX HR HKD HW HP HB
      rintro e w4 ⟨y, Ay, cy, rfl, hy, hyx, hb4⟩
      have HX4 := Lib.hid ((hb4.block _ (Array.getElem?_eq_some_iff.1 HX1.out).1).trans HX1.out)
      have HR4 := Lib.hid ((hb4.block _ (Array.getElem?_eq_some_iff.1 HR1.out).1).trans HR1.out)
      have HK4 := Lib.hid ((hb4.block _ (Array.getElem?_eq_some_iff.1 HK1.out).1).trans HK1.out)
      have HW4 := Lib.hid (own_keep HW1.out hb4)
      have HB4 := Lib.hid (below_call HB1.out HB1.out.size hb4)
      have hXl4 := Nat.lt_of_lt_of_le hXl1 hb4.size
      have HP4 : Hid (RepN (RowS (X + 1) (.slice A' i c')) w4 3 (itemsD ((List.range i).map it ++ [y])) (ys ++ [.bool y.l, .string (bs y.b), .slice Ay y.ks.length cy])) := Lib.hid (by
        rw [itemsD_append]
        exact RepN.snoc (hy.mono fun b _ hb => ⟨⟨Nat.le_trans hXl1 hb, fun e => by have h1 := (HW1.out.lt _ e).2; have h2 : _ ≤ b := hb; omega⟩, rfl⟩) rfl (HP1.out.keep hb4))
      clear hy hb4 HX1 HR1 HK1 HW1 HP1 HB1
      cases hoki : ok i with
      | false =>
        have hno : OK = false := by
          rw [hOKi.out]
          refine Bool.eq_false_iff.2 fun h => ?_
          have := List.all_eq_true.1 h i (List.mem_range.2 hlt)
          rw [hoki] at this; cases this
        have r0 : w4.cell? ⟨w.heap.size + 1, 0, none⟩ = some (.bool false) := rc0 HR4.out
        have r1 : w4.cell? ⟨w.heap.size + 1, 1, none⟩ = some (.string ⟨#[]⟩) := rc1 HR4.out
        have r2 : w4.cell? ⟨w.heap.size + 1, 2, none⟩ = some (.slice none 0 0) := rc2 HR4.out
        have f0 := rf HR4.out 0
        have f1 := rf HR4.out 1
        have f2 := rf HR4.out 2
        have HNO := Lib.hid hno
        have hRl4 := (Array.getElem?_eq_some_iff.1 HR4.out).1
        clear hno hoki hyx
        go_wp2_with fail
        have hfin := heap_setCell_here (heap_setCell_here (heap_setCell_here HR4.out (i := 0) (.bool false)) (i := 1) (.string ⟨#[]⟩)) (i := 2) (.slice none 0 0)
        have hfin1 := (heap_alloc_old _ (.cells #[.bool y.l, .string (bs y.b), .slice Ay y.ks.length cy] 45) (by simpa using hRl4)).trans hfin
        refine bodyPost_ret (v := .tuple #[.agg #[.bool false, .string ⟨#[]⟩, .slice none 0 0], .bool false]) (results_row_tmp rfl _ _ (w.heap.size + 1) _ _ _ _ rfl hfin1 _ rfl Try.underlying45 rfl infoI) rfl ?_
        rw [HNO.out]
        exact ⟨leafIt [], none, 0, rfl, ItemV.leaf [] false, (fun h => by cases h), (((HB4.out.setCell (p := ⟨w.heap.size + 1, _, _⟩) (Nat.le_succ _) _).setCell (p := ⟨w.heap.size + 1, _, _⟩) (Nat.le_succ _) _).setCell (p := ⟨w.heap.size + 1, _, _⟩) (Nat.le_succ _) _).alloc (by have := HB4.out.size; simp; omega) _⟩
      | true =>
        have hyi := hyx hoki
        have HP5 : Hid (RepN (RowS (X + 1) (.slice A' i c')) w4 3 (itemsD ((List.range (i + 1)).map it)) (ys ++ [.bool y.l, .string (bs y.b), .slice Ay y.ks.length cy])) := Lib.hid (by
          rw [List.range_succ, List.map_append, List.map_cons, List.map_nil, ← hyi]; exact HP4.out)
        have hall1 : Hid ((List.range (i + 1)).all ok = true) := Lib.hid (by rw [List.range_succ, List.all_append, hall.out]; simp [hoki])
        have x2 : w4.cell? ⟨X, 2, none⟩ = some (.slice A' i c') := rc2 HX4.out
        have x2a := ca x2 (.cells #[.bool y.l, .string (bs y.b), .slice Ay y.ks.length cy] 45)
        clear hyi hyx hoki HP4 hall
        have hX5 := (heap_alloc_old w4 (.cells #[.bool y.l, .string (bs y.b), .slice Ay y.ks.length cy] 45) hXl4).trans HX4.out
        go_wp2_with (at_builtin; refine wpl_append elItem rfl rfl (X + 1) ((HW4.out.alloc _).alloc _) rfl (m := 1) [.bool y.l, .string (bs y.b), .slice Ay y.ks.length cy] rfl rfl ?_ ?_ ?_ ?_ ?_ ?_; exact (lies_new' _ _ (by simp) _ _); (intro u hu; simp at hu; rcases hu with rfl | rfl | rfl <;> rfl); (simp only [maxLen]; omega); omega; (simp; omega); intro v1 w8 hown1 hg1 hat1; obtain ⟨A3, c3, rfl⟩ := own_form hown1; have hX8 := (hg1.block X (by simp; omega) (fun e => by have := (HW4.out.lt _ e.symm).1; omega)).trans ((heap_alloc_old _ _ (by simp; omega)).trans hX5); have d2 := rc2 hX8; have df := rf hX8 2; have HX8 := Lib.hid hX8; clear hX8)
        have hba : Below w4.heap.size w4 ((w4.alloc (.cells #[.bool y.l, .string (bs y.b), .slice Ay y.ks.length cy] 45)).alloc (.cells #[.bool y.l, .string (bs y.b), .slice Ay y.ks.length cy] 45)) := ((Below.refl _ _).alloc (Nat.le_refl _) _).alloc (by simp) _
        have hsz : w4.heap.size ≤ ((w4.alloc (.cells #[.bool y.l, .string (bs y.b), .slice Ay y.ks.length cy] 45)).alloc (.cells #[.bool y.l, .string (bs y.b), .slice Ay y.ks.length cy] 45)).heap.size := hba.size
        have hR8 := (hg1.block (w.heap.size + 1) (by omega) (fun e => by have := (HW4.out.lt _ e.symm).1; omega)).trans ((hba.block (w.heap.size + 1) (by omega)).trans HR4.out)
        have hK8 := (hg1.block w.heap.size (by omega) (fun e => by have := (HW4.out.lt _ e.symm).1; omega)).trans ((hba.block w.heap.size (by omega)).trans HK4.out)
        have hB8 := below_app (below_call HB4.out HB4.out.size hba) (own_keep HW4.out hba) hg1 (by omega) (by omega)
        have hP8 := repN_app (HP5.out.keep hba) hg1 hat1
        go_roundw
        case rel => exact ⟨i + 1, ys ++ [.bool y.l, .string (bs y.b), .slice Ay y.ks.length cy], .slice A3 (i + 1) c3, by go_num, by omega, hall1, heap_setCell_here HX8.out _, (heap_set_ne (by omega) _).trans hR8, (heap_set_ne (by omega) _).trans hK8, own_setOther hown1 (by omega) _, RepN.mono hP8 (fun b _ hb => ⟨hb, heap_set_ne (by have := hb.1; omega) _⟩), hB8.setCell (p := ⟨X, 2, none⟩) (by simp; omega) _⟩
        case measure => simp [intOf]; omega
    · obtain rfl : i = fs.length := by omega
      have hOKt : OK = true := by rw [hOKi.out]; exact hall.out
      have r0 : wr.cell? ⟨w.heap.size + 1, 0, none⟩ = some (.bool false) := rc0 hR
      have r1 : wr.cell? ⟨w.heap.size + 1, 1, none⟩ = some (.string ⟨#[]⟩) := rc1 hR
      have r2 : wr.cell? ⟨w.heap.size + 1, 2, none⟩ = some (.slice none 0 0) := rc2 hR
      have f0 := rf hR 0
      have f1 := rf hR 1
      have f2 := rf hR 2
      have x0 : wr.cell? ⟨X, 0, none⟩ = some (.bool true) := rc0 hX
      have x1 : wr.cell? ⟨X, 1, none⟩ = some (.string (bs [])) := rc1 hX
      have x2 : wr.cell? ⟨X, 2, none⟩ = some (.slice A' fs.length c') := rc2 hX
      have HNO := Lib.hid hOKt
      have HR := Lib.hid hR
      have HW := Lib.hid hown
      have HP := Lib.hid hrep
      have HB := Lib.hid hB
      clear hOKt hR hown hrep hB hX hKd hall
      go_wp2_with fail
      have hfin := heap_setCell_here (heap_setCell_here (heap_setCell_here HR.out (i := 0) (.bool true)) (i := 1) (.string (bs []))) (i := 2) (.slice A' fs.length c')
      refine bodyPost_ret (v := .tuple #[.agg #[.bool true, .string (bs []), .slice A' fs.length c'], .bool true]) (results_row_tmp rfl _ _ (w.heap.size + 1) _ _ _ _ rfl hfin _ rfl Try.underlying45 rfl infoI) rfl ?_
      rw [HNO.out]
      have hO := own_setOther (g := w.heap.size + 1) (i := 2) (own_setOther (g := w.heap.size + 1) (i := 1) (own_setOther (g := w.heap.size + 1) (i := 0) HW.out (by omega) (.bool true)) (by omega) (.string (bs []))) (by omega) (.slice A' fs.length c')
      have hkl : ((List.range fs.length).map it).length = fs.length := by simp
      have hq : ItemV (From w.heap.size) (((wr.setCell ⟨w.heap.size + 1, 0, none⟩ (.bool true)).setCell ⟨w.heap.size + 1, 1, none⟩ (.string (bs []))).setCell ⟨w.heap.size + 1, 2, none⟩ (.slice A' fs.length c')) (listIt ((List.range fs.length).map it)) A' c' := by
        refine itemV_mk ?_
        show Rep _ _ (.sl 3 (itemsD ((List.range fs.length).map it))) [.slice A' ((List.range fs.length).map it).length c']
        rw [hkl]
        refine rep_own hO (RepN.mono HP.out fun b _ hb => ⟨?_, ?_⟩) (by rw [itemsD_len, hkl]) (fun b h1 _ => ?_)
        · have := hb.1; show w.heap.size ≤ b; omega
        · have := hb.1; rw [heap_set_ne (by omega), heap_set_ne (by omega), heap_set_ne (by omega)]
        · show w.heap.size ≤ b; omega
      refine ⟨listIt ((List.range fs.length).map it), A', c', ?_, hq, fun _ => rfl, ((HB.out.setCell (p := ⟨w.heap.size + 1, _, _⟩) (Nat.le_succ _) _).setCell (p := ⟨w.heap.size + 1, _, _⟩) (Nat.le_succ _) _).setCell (p := ⟨w.heap.size + 1, _, _⟩) (Nat.le_succ _) _⟩
      rw [show (listIt ((List.range fs.length).map it)).ks.length = fs.length from hkl]
      rfl
set_option maxRecDepth 100000 in
set_option maxHeartbeats 4000000 in
theorem items_top (fs : List Fd) (it : Nat → Item) (ok : Nat → Bool) (ks : List Kd) (kd : Nat → Kd) (hkd : ∀ i k, ks[i]? = some k → kd i = k) (hkl : ks.length ≤ 1000) (Ak : Option Addr) (ck : Nat) (A : Option Addr) (c : Nat) (w : World) (hkv : KindsV Any w ks Ak ck) (hv : FdsV Any w fs A c)
    (hit : ∀ (i : Nat) (f : Fd) (s : Int) (A1 : Option Addr) (n1 c1 : Nat) (A2 : Option Addr) (c2 : Nat) (W : World), fs[i]? = some f → (ks[i]?).isSome = true → Rep Any W (kdD (kd i)) [.int .u8 s, .slice A1 n1 c1] → LfsV Any W f.l A2 c2 →
      Calls Try.prog 59 #[.agg #[.int .u8 s, .slice A1 n1 c1], .agg (fdC f A2 c2).toArray] W (FitPost (it i) (ok i) W)) :
    Calls Try.prog 46 #[.agg #[.int .u8 40, .slice Ak ks.length ck], .slice A fs.length c] w (FitPost (listIt ((List.range fs.length).map it)) (decide (fs.length = ks.length) && (List.range fs.length).all ok) w) := by
  obtain ⟨OK, hOK⟩ : ∃ OK, (decide (fs.length = ks.length) && (List.range fs.length).all ok) = OK := ⟨_, rfl⟩
  rw [hOK]
  have HOK := Lib.hid hOK
  have hb : Below w.heap.size w ((w.alloc (.cells #[.int .u8 40, .slice Ak ks.length ck] 103)).alloc (.cells #[.bool false, .string ⟨#[]⟩, .slice none 0 0] 45)) := ((Below.refl _ _).alloc (Nat.le_refl _) _).alloc (by simp) _
  have hr := heap_alloc_new (w.alloc (.cells #[.int .u8 40, .slice Ak ks.length ck] 103)) (.cells #[.bool false, .string ⟨#[]⟩, .slice none 0 0] 45)
  have hk0 := (heap_alloc_old (w.alloc (.cells #[.int .u8 40, .slice Ak ks.length ck] 103)) (.cells #[.bool false, .string ⟨#[]⟩, .slice none 0 0] 45) (by simp)).trans (heap_alloc_new w (.cells #[.int .u8 40, .slice Ak ks.length ck] 103))
  simp only [World.size_alloc] at hr
  have hsz : ((w.alloc (.cells #[.int .u8 40, .slice Ak ks.length ck] 103)).alloc (.cells #[.bool false, .string ⟨#[]⟩, .slice none 0 0] 45)).heap.size = w.heap.size + 2 := by simp
  have HB := Lib.hid hb
  have HR := Lib.hid hr
  have HKB := Lib.hid hk0
  have HV := Lib.hid hv
  have HIT := Lib.hid hit
  have HKV := Lib.hid hkv
  have HSZ := Lib.hid hsz
  clear hOK hb hr hk0 hv hit hkv hsz
  by_cases hlen : fs.length = ks.length
  case neg =>
    have hok : OK = false := by rw [← HOK.out]; simp [hlen]
    have hlI : ((fs.length : Int) == (ks.length : Int)) = false := by rw [beq_eq_false_iff_ne]; omega
    clear HIT HV HKV HKB HSZ hlen
    go_enter Try.func46, Try.ntmps46
    go_wp2_with fail
    refine bodyPost_ret (v := .tuple #[.agg #[.bool false, .string ⟨#[]⟩, .slice none 0 0], .bool false]) (results_row_tmp rfl _ _ (w.heap.size + 1) _ _ _ _ rfl HR.out _ rfl Try.underlying45 rfl infoI) rfl ?_
    rw [hok]
    exact ⟨leafIt [], none, 0, rfl, ItemV.leaf [] false, (fun h => by cases h), HB.out⟩
  have hlI : ((fs.length : Int) == (ks.length : Int)) = true := by simp [hlen]
  have HLEN := Lib.hid hlen
  have hOKi : Hid (OK = ((List.range fs.length).all ok)) := Lib.hid (by rw [← HOK.out]; simp [hlen])
  have hfl : fs.length ≤ 1000 := by have := hkl; omega
  clear HOK hlen
  go_enter Try.func46, Try.ntmps46
  go_wp2_with fail
  refine (List_any none 0 0 _).mono ?_
  rintro e w1 ⟨rfl, hb1⟩
  have hR1 := (hb1.block _ (Array.getElem?_eq_some_iff.1 HR.out).1).trans HR.out
  have hK1 := (hb1.block _ (Array.getElem?_eq_some_iff.1 HKB.out).1).trans HKB.out
  have hB1 := below_call HB.out HB.out.size hb1
  have hw1 : w.heap.size + 2 ≤ w1.heap.size := by rw [← HSZ.out]; exact hb1.size
  have hba : Below w1.heap.size w1 (w1.alloc (.cells #[.bool true, .string (bs []), .slice none 0 0] 45)) := (Below.refl _ _).alloc (Nat.le_refl _) _
  have HX2 := Lib.hid (heap_alloc_new w1 (.cells #[.bool true, .string (bs []), .slice none 0 0] 45))
  have HR2 := Lib.hid ((hba.block _ (Array.getElem?_eq_some_iff.1 hR1).1).trans hR1)
  have HK2 := Lib.hid ((hba.block _ (Array.getElem?_eq_some_iff.1 hK1).1).trans hK1)
  have HB2 := Lib.hid (below_call hB1 hB1.size hba)
  clear hR1 hK1 hB1 hba hb1 HB HR HKB HSZ
  go_wp2_with fail
  obtain ⟨X, hXe⟩ : ∃ X, w1.heap.size = X := ⟨_, rfl⟩
  have hX0 := HX2.out
  rw [hXe] at hw1 hX0 ⊢
  have HX0 := Lib.hid hX0
  clear hX0 HX2
  go_loopw [37] (fun a wr => ∃ (i : Nat) (ys : List Value) (u : Value), a = .int .i64 i ∧ i ≤ fs.length ∧ Hid ((List.range i).all ok = true) ∧ wr.heap[X]? = some (.cells #[.bool true, .string (bs []), u] 45 (0, 0)) ∧ wr.heap[w.heap.size + 1]? = some (.cells #[.bool false, .string ⟨#[]⟩, .slice none 0 0] 45 (0, 0)) ∧ wr.heap[w.heap.size]? = some (.cells #[.int .u8 40, .slice Ak ks.length ck] 103 (0, 0)) ∧
      wr.ownsRow (X + 1) 45 3 u i ys ∧ RepN (RowS (X + 1) u) wr 3 (itemsD ((List.range i).map it)) ys ∧ Below w.heap.size w wr) (fun a _ => fs.length - (intOf a).toNat)
  case atStart => exact ⟨0, [], _, rfl, Nat.zero_le _, Lib.hid rfl, HX0.out, HR2.out, HK2.out, World.ownsRow_nil _ _ _ _, .nil, HB2.out⟩
  case round =>
    clear HX0 HR2 HK2 HB2
    obtain ⟨i, ys, u, rfl, hi, hall, hX, hR, hKd, hown, hrep, hB⟩ := hrel
    obtain ⟨A', c', rfl⟩ := own_form hown
    have hXl := (Array.getElem?_eq_some_iff.1 hX).1
    by_cases hlt : i < fs.length
    · obtain ⟨f, hf⟩ := getElem_ex hlt
      obtain ⟨g, o, A2, c2, rfl, _, hlv, hcf⟩ := fds_at (HV.out.keep hB) hf
      have hltI : (i : Int) < fs.length := by omega
      have q0 := hcf 0 _ rfl
      have q1 := hcf 1 _ rfl
      have q2 := hcf 2 _ rfl
      simp only [Nat.add_zero] at q0
      have k0 : wr.cell? ⟨w.heap.size, 0, none⟩ = some (.int .u8 40) := rc hKd 0 rfl
      have k1 : wr.cell? ⟨w.heap.size, 1, none⟩ = some (.slice Ak ks.length ck) := rc hKd 1 rfl
      have hlk := HLEN.out
      obtain ⟨k0e, hk0e⟩ : ∃ k, ks[0]? = some k := getElem_ex (by omega)
      obtain ⟨kie, hkie⟩ : ∃ k, ks[i]? = some k := getElem_ex (by omega)
      obtain ⟨gk, og, s0, A0, n0, c0, hA0, _, z0, z1⟩ := kinds_at (Rep.keep HKV.out hB) hk0e
      obtain ⟨gk2, og2, s1, A1, n1, c1, hA1, hrk, y0, y1⟩ := kinds_at (Rep.keep HKV.out hB) hkie
      rw [hA0] at hA1
      injection hA1 with hA1
      injection hA1 with e1 e2
      subst e1; subst e2; subst hA0
      simp only [Nat.zero_mul, Nat.add_zero] at z0 z1
      have hnil : ¬ ks = [] := fun e => by have h0 : ks.length = 0 := (by rw [e]; rfl); omega
      have hikI : (i : Int) < ks.length := by omega
      have h0kI : (0 : Int) < ks.length := by omega
      have HRK : Hid (Rep Any wr (kdD (kd i)) [.int .u8 s1, .slice A1 n1 c1]) := Lib.hid (by rw [hkd i kie hkie]; exact hrk)
      have HSM : Hid ((ks[i]?).isSome = true) := Lib.hid (by rw [hkie]; rfl)
      clear hlk hk0e hkie hrk
      have k1a := ca k1 (.cells #[.int .u64 (f.n : Int), .string (bs f.b), .slice A2 f.l.length c2] 72)
      have k0b := ca (ca k0 (.cells #[.int .u64 (f.n : Int), .string (bs f.b), .slice A2 f.l.length c2] 72)) (.cells #[.int .u8 s0, .slice A0 n0 c0] 103)
      have z0a := ca z0 (.cells #[.int .u64 (f.n : Int), .string (bs f.b), .slice A2 f.l.length c2] 72)
      have z0b := ca z0a (.cells #[.int .u8 s0, .slice A0 n0 c0] 103)
      have z1a := ca z1 (.cells #[.int .u64 (f.n : Int), .string (bs f.b), .slice A2 f.l.length c2] 72)
      have z1b := ca z1a (.cells #[.int .u8 s0, .slice A0 n0 c0] 103)
      have y0a := ca y0 (.cells #[.int .u64 (f.n : Int), .string (bs f.b), .slice A2 f.l.length c2] 72)
      have y0b := ca y0a (.cells #[.int .u8 s0, .slice A0 n0 c0] 103)
      have y1a := ca y1 (.cells #[.int .u64 (f.n : Int), .string (bs f.b), .slice A2 f.l.length c2] 72)
      have y1b := ca y1a (.cells #[.int .u8 s0, .slice A0 n0 c0] 103)
      have k1b := ca k1a (.cells #[.int .u8 s0, .slice A0 n0 c0] 103)
      have HF := Lib.hid hf
      have HX := Lib.hid hX
      have HR := Lib.hid hR
      have HKD := Lib.hid hKd
      have HW := Lib.hid hown
      have HP := Lib.hid hrep
      have HB := Lib.hid hB
      have HLV := Lib.hid hlv
      clear hf hX hR hKd hown hrep hB hlv hcf
      go_wp2_with fail
      have hba : Below wr.heap.size wr ((wr.alloc (.cells #[.int .u64 (f.n : Int), .string (bs f.b), .slice A2 f.l.length c2] 72)).alloc (.cells #[.int .u8 s1, .slice A1 n1 c1] 103)) := ((Below.refl _ _).alloc (Nat.le_refl _) _).alloc (by simp) _
      have hC := HIT.out i f _ _ _ _ A2 c2 ((wr.alloc (.cells #[.int .u64 (f.n : Int), .string (bs f.b), .slice A2 f.l.length c2] 72)).alloc (.cells #[.int .u8 s1, .slice A1 n1 c1] 103)) HF.out HSM.out (Rep.keep HRK.out hba) (HLV.out.keep hba)
      have HX1 := Lib.hid ((hba.block _ (Array.getElem?_eq_some_iff.1 HX.out).1).trans HX.out)
      have HR1 := Lib.hid ((hba.block _ (Array.getElem?_eq_some_iff.1 HR.out).1).trans HR.out)
      have HK1 := Lib.hid ((hba.block _ (Array.getElem?_eq_some_iff.1 HKD.out).1).trans HKD.out)
      have HW1 := Lib.hid (own_keep HW.out hba)
      have HP1 := Lib.hid (HP.out.keep hba)
      have HB1 := Lib.hid (below_call HB.out HB.out.size hba)
      have hXl1 := Nat.lt_of_lt_of_le hXl hba.size
      refine hC.mono ?_
      clear hC hba HX HR HKD HW HP HB
      rintro e w4 ⟨y, Ay, cy, rfl, hy, hyx, hb4⟩
      have HX4 := Lib.hid ((hb4.block _ (Array.getElem?_eq_some_iff.1 HX1.out).1).trans HX1.out)
      have HR4 := Lib.hid ((hb4.block _ (Array.getElem?_eq_some_iff.1 HR1.out).1).trans HR1.out)
      have HK4 := Lib.hid ((hb4.block _ (Array.getElem?_eq_some_iff.1 HK1.out).1).trans HK1.out)
      have HW4 := Lib.hid (own_keep HW1.out hb4)
      have HB4 := Lib.hid (below_call HB1.out HB1.out.size hb4)
      have hXl4 := Nat.lt_of_lt_of_le hXl1 hb4.size
      have HP4 : Hid (RepN (RowS (X + 1) (.slice A' i c')) w4 3 (itemsD ((List.range i).map it ++ [y])) (ys ++ [.bool y.l, .string (bs y.b), .slice Ay y.ks.length cy])) := Lib.hid (by
        rw [itemsD_append]
        exact RepN.snoc (hy.mono fun b _ hb => ⟨⟨Nat.le_trans hXl1 hb, fun e => by have h1 := (HW1.out.lt _ e).2; have h2 : _ ≤ b := hb; omega⟩, rfl⟩) rfl (HP1.out.keep hb4))
      clear hy hb4 HX1 HR1 HK1 HW1 HP1 HB1
      cases hoki : ok i with
      | false =>
        have hno : OK = false := by
          rw [hOKi.out]
          refine Bool.eq_false_iff.2 fun h => ?_
          have := List.all_eq_true.1 h i (List.mem_range.2 hlt)
          rw [hoki] at this; cases this
        have r0 : w4.cell? ⟨w.heap.size + 1, 0, none⟩ = some (.bool false) := rc0 HR4.out
        have r1 : w4.cell? ⟨w.heap.size + 1, 1, none⟩ = some (.string ⟨#[]⟩) := rc1 HR4.out
        have r2 : w4.cell? ⟨w.heap.size + 1, 2, none⟩ = some (.slice none 0 0) := rc2 HR4.out
        have f0 := rf HR4.out 0
        have f1 := rf HR4.out 1
        have f2 := rf HR4.out 2
        have HNO := Lib.hid hno
        have hRl4 := (Array.getElem?_eq_some_iff.1 HR4.out).1
        clear hno hoki hyx
        go_wp2_with fail
        have hfin := heap_setCell_here (heap_setCell_here (heap_setCell_here HR4.out (i := 0) (.bool false)) (i := 1) (.string ⟨#[]⟩)) (i := 2) (.slice none 0 0)
        have hfin1 := (heap_alloc_old _ (.cells #[.bool y.l, .string (bs y.b), .slice Ay y.ks.length cy] 45) (by simpa using hRl4)).trans hfin
        refine bodyPost_ret (v := .tuple #[.agg #[.bool false, .string ⟨#[]⟩, .slice none 0 0], .bool false]) (results_row_tmp rfl _ _ (w.heap.size + 1) _ _ _ _ rfl hfin1 _ rfl Try.underlying45 rfl infoI) rfl ?_
        rw [HNO.out]
        exact ⟨leafIt [], none, 0, rfl, ItemV.leaf [] false, (fun h => by cases h), (((HB4.out.setCell (p := ⟨w.heap.size + 1, _, _⟩) (Nat.le_succ _) _).setCell (p := ⟨w.heap.size + 1, _, _⟩) (Nat.le_succ _) _).setCell (p := ⟨w.heap.size + 1, _, _⟩) (Nat.le_succ _) _).alloc (by have := HB4.out.size; simp; omega) _⟩
      | true =>
        have hyi := hyx hoki
        have HP5 : Hid (RepN (RowS (X + 1) (.slice A' i c')) w4 3 (itemsD ((List.range (i + 1)).map it)) (ys ++ [.bool y.l, .string (bs y.b), .slice Ay y.ks.length cy])) := Lib.hid (by
          rw [List.range_succ, List.map_append, List.map_cons, List.map_nil, ← hyi]; exact HP4.out)
        have hall1 : Hid ((List.range (i + 1)).all ok = true) := Lib.hid (by rw [List.range_succ, List.all_append, hall.out]; simp [hoki])
        have x2 : w4.cell? ⟨X, 2, none⟩ = some (.slice A' i c') := rc2 HX4.out
        have x2a := ca x2 (.cells #[.bool y.l, .string (bs y.b), .slice Ay y.ks.length cy] 45)
        clear hyi hyx hoki HP4 hall
        have hX5 := (heap_alloc_old w4 (.cells #[.bool y.l, .string (bs y.b), .slice Ay y.ks.length cy] 45) hXl4).trans HX4.out
        go_wp2_with (at_builtin; refine wpl_append elItem rfl rfl (X + 1) ((HW4.out.alloc _).alloc _) rfl (m := 1) [.bool y.l, .string (bs y.b), .slice Ay y.ks.length cy] rfl rfl ?_ ?_ ?_ ?_ ?_ ?_; exact (lies_new' _ _ (by simp) _ _); (intro u hu; simp at hu; rcases hu with rfl | rfl | rfl <;> rfl); (simp only [maxLen]; omega); omega; (simp; omega); intro v1 w8 hown1 hg1 hat1; obtain ⟨A3, c3, rfl⟩ := own_form hown1; have hX8 := (hg1.block X (by simp; omega) (fun e => by have := (HW4.out.lt _ e.symm).1; omega)).trans ((heap_alloc_old _ _ (by simp; omega)).trans hX5); have d2 := rc2 hX8; have df := rf hX8 2; have HX8 := Lib.hid hX8; clear hX8)
        have hba : Below w4.heap.size w4 ((w4.alloc (.cells #[.bool y.l, .string (bs y.b), .slice Ay y.ks.length cy] 45)).alloc (.cells #[.bool y.l, .string (bs y.b), .slice Ay y.ks.length cy] 45)) := ((Below.refl _ _).alloc (Nat.le_refl _) _).alloc (by simp) _
        have hsz : w4.heap.size ≤ ((w4.alloc (.cells #[.bool y.l, .string (bs y.b), .slice Ay y.ks.length cy] 45)).alloc (.cells #[.bool y.l, .string (bs y.b), .slice Ay y.ks.length cy] 45)).heap.size := hba.size
        have hR8 := (hg1.block (w.heap.size + 1) (by omega) (fun e => by have := (HW4.out.lt _ e.symm).1; omega)).trans ((hba.block (w.heap.size + 1) (by omega)).trans HR4.out)
        have hK8 := (hg1.block w.heap.size (by omega) (fun e => by have := (HW4.out.lt _ e.symm).1; omega)).trans ((hba.block w.heap.size (by omega)).trans HK4.out)
        have hB8 := below_app (below_call HB4.out HB4.out.size hba) (own_keep HW4.out hba) hg1 (by omega) (by omega)
        have hP8 := repN_app (HP5.out.keep hba) hg1 hat1
        go_roundw
        case rel => exact ⟨i + 1, ys ++ [.bool y.l, .string (bs y.b), .slice Ay y.ks.length cy], .slice A3 (i + 1) c3, by go_num, by omega, hall1, heap_setCell_here HX8.out _, (heap_set_ne (by omega) _).trans hR8, (heap_set_ne (by omega) _).trans hK8, own_setOther hown1 (by omega) _, RepN.mono hP8 (fun b _ hb => ⟨hb, heap_set_ne (by have := hb.1; omega) _⟩), hB8.setCell (p := ⟨X, 2, none⟩) (by simp; omega) _⟩
        case measure => simp [intOf]; omega
    · obtain rfl : i = fs.length := by omega
      have hOKt : OK = true := by rw [hOKi.out]; exact hall.out
      have r0 : wr.cell? ⟨w.heap.size + 1, 0, none⟩ = some (.bool false) := rc0 hR
      have r1 : wr.cell? ⟨w.heap.size + 1, 1, none⟩ = some (.string ⟨#[]⟩) := rc1 hR
      have r2 : wr.cell? ⟨w.heap.size + 1, 2, none⟩ = some (.slice none 0 0) := rc2 hR
      have f0 := rf hR 0
      have f1 := rf hR 1
      have f2 := rf hR 2
      have x0 : wr.cell? ⟨X, 0, none⟩ = some (.bool true) := rc0 hX
      have x1 : wr.cell? ⟨X, 1, none⟩ = some (.string (bs [])) := rc1 hX
      have x2 : wr.cell? ⟨X, 2, none⟩ = some (.slice A' fs.length c') := rc2 hX
      have HNO := Lib.hid hOKt
      have HR := Lib.hid hR
      have HW := Lib.hid hown
      have HP := Lib.hid hrep
      have HB := Lib.hid hB
      clear hOKt hR hown hrep hB hX hKd hall
      go_wp2_with fail
      have hfin := heap_setCell_here (heap_setCell_here (heap_setCell_here HR.out (i := 0) (.bool true)) (i := 1) (.string (bs []))) (i := 2) (.slice A' fs.length c')
      refine bodyPost_ret (v := .tuple #[.agg #[.bool true, .string (bs []), .slice A' fs.length c'], .bool true]) (results_row_tmp rfl _ _ (w.heap.size + 1) _ _ _ _ rfl hfin _ rfl Try.underlying45 rfl infoI) rfl ?_
      rw [HNO.out]
      have hO := own_setOther (g := w.heap.size + 1) (i := 2) (own_setOther (g := w.heap.size + 1) (i := 1) (own_setOther (g := w.heap.size + 1) (i := 0) HW.out (by omega) (.bool true)) (by omega) (.string (bs []))) (by omega) (.slice A' fs.length c')
      have hkl : ((List.range fs.length).map it).length = fs.length := by simp
      have hq : ItemV (From w.heap.size) (((wr.setCell ⟨w.heap.size + 1, 0, none⟩ (.bool true)).setCell ⟨w.heap.size + 1, 1, none⟩ (.string (bs []))).setCell ⟨w.heap.size + 1, 2, none⟩ (.slice A' fs.length c')) (listIt ((List.range fs.length).map it)) A' c' := by
        refine itemV_mk ?_
        show Rep _ _ (.sl 3 (itemsD ((List.range fs.length).map it))) [.slice A' ((List.range fs.length).map it).length c']
        rw [hkl]
        refine rep_own hO (RepN.mono HP.out fun b _ hb => ⟨?_, ?_⟩) (by rw [itemsD_len, hkl]) (fun b h1 _ => ?_)
        · have := hb.1; show w.heap.size ≤ b; omega
        · have := hb.1; rw [heap_set_ne (by omega), heap_set_ne (by omega), heap_set_ne (by omega)]
        · show w.heap.size ≤ b; omega
      refine ⟨listIt ((List.range fs.length).map it), A', c', ?_, hq, fun _ => rfl, ((HB.out.setCell (p := ⟨w.heap.size + 1, _, _⟩) (Nat.le_succ _) _).setCell (p := ⟨w.heap.size + 1, _, _⟩) (Nat.le_succ _) _).setCell (p := ⟨w.heap.size + 1, _, _⟩) (Nat.le_succ _) _⟩
      rw [show (listIt ((List.range fs.length).map it)).ks.length = fs.length from hkl]
      rfl
end Go.Proofs.Ytjanaholcjkceaa
/- The walk of frame.item at a list of plain kinds; items of any kind. -/
namespace Go.Proofs.Ytjanaholcjkceaa
set_option linter.unusedVariables false
set_option linter.unusedSimpArgs false
open Go.RowKit
set_option maxRecDepth 100000 in
set_option maxHeartbeats 4000000 in
theorem item_l000 (n : Int) (b : Bytes) (A : Option Addr) (m c : Nat) (Ak : Option Addr) (ck : Nat) (x : Item) (ok : Bool) (hok : ok = false) (w : World) (hn : (n == 0) = false)
    (hC : Calls Try.prog 46 #[.agg #[.int .u8 42, .slice Ak 1 ck], .slice A m c] (((w.alloc (.cells #[.int .u8 42, .slice Ak 1 ck] 103)).alloc (.cells #[.int .u64 n, .string (bs b), .slice A m c] 72)).alloc (.cells #[.bool false, .string ⟨#[]⟩, .slice none 0 0] 45)) (FitPost x ok (((w.alloc (.cells #[.int .u8 42, .slice Ak 1 ck] 103)).alloc (.cells #[.int .u64 n, .string (bs b), .slice A m c] 72)).alloc (.cells #[.bool false, .string ⟨#[]⟩, .slice none 0 0] 45)))) :
    Calls Try.prog 59 #[.agg #[.int .u8 42, .slice Ak 1 ck], .agg #[.int .u64 n, .string (bs b), .slice A m c]] w (FitPost x false w) := by
  subst hok
  have hB : Below w.heap.size w (((w.alloc (.cells #[.int .u8 42, .slice Ak 1 ck] 103)).alloc (.cells #[.int .u64 n, .string (bs b), .slice A m c] 72)).alloc (.cells #[.bool false, .string ⟨#[]⟩, .slice none 0 0] 45)) := (((Below.refl _ _).alloc (Nat.le_refl _) _).alloc (by simp) _).alloc (by simp; omega) _
  have hI := heap_alloc_new ((w.alloc (.cells #[.int .u8 42, .slice Ak 1 ck] 103)).alloc (.cells #[.int .u64 n, .string (bs b), .slice A m c] 72)) (.cells #[.bool false, .string ⟨#[]⟩, .slice none 0 0] 45)
  have hF := (heap_alloc_old ((w.alloc (.cells #[.int .u8 42, .slice Ak 1 ck] 103)).alloc (.cells #[.int .u64 n, .string (bs b), .slice A m c] 72)) (.cells #[.bool false, .string ⟨#[]⟩, .slice none 0 0] 45) (by simp)).trans (heap_alloc_new (w.alloc (.cells #[.int .u8 42, .slice Ak 1 ck] 103)) (.cells #[.int .u64 n, .string (bs b), .slice A m c] 72))
  have hsz : (((w.alloc (.cells #[.int .u8 42, .slice Ak 1 ck] 103)).alloc (.cells #[.int .u64 n, .string (bs b), .slice A m c] 72)).alloc (.cells #[.bool false, .string ⟨#[]⟩, .slice none 0 0] 45)).heap.size = w.heap.size + 3 := by simp
  simp only [World.size_alloc] at hI hF
  have HB := Lib.hid hB
  have HI := Lib.hid hI
  have HF := Lib.hid hF
  have HSZ := Lib.hid hsz
  have HC := Lib.hid hC
  clear hB hI hF hsz hC
  go_enter Try.func59, Try.ntmps59
  go_wp2_with fail
  refine HC.out.mono ?_
  clear HC
  rintro e w1 ⟨y, Ay, cy, rfl, hy1, hyx, hb1⟩
  have HYX := Lib.hid hyx
  have hy0 : ItemV (From (w.heap.size + 3)) w1 y Ay cy := by rw [← HSZ.out]; exact hy1
  have hba : Below w1.heap.size w1 (w1.alloc (.cells #[.bool y.l, .string (bs y.b), .slice Ay y.ks.length cy] 45)) := (Below.refl _ _).alloc (Nat.le_refl _) _
  have hw1 : w.heap.size + 3 ≤ w1.heap.size := by rw [← HSZ.out]; exact hb1.size
  have HF1 := Lib.hid ((hba.block (w.heap.size + 1) (by omega)).trans ((hb1.block (w.heap.size + 1) (by rw [HSZ.out]; omega)).trans HF.out))
  have HI1 := Lib.hid ((hba.block (w.heap.size + 1 + 1) (by omega)).trans ((hb1.block (w.heap.size + 1 + 1) (by rw [HSZ.out]; omega)).trans HI.out))
  have HB1 := Lib.hid (below_call (below_call HB.out HB.out.size hb1) (by omega) hba)
  have HY1 := Lib.hid (hy0.keep hba)
  have HV1 := Lib.hid (heap_alloc_new w1 (.cells #[.bool y.l, .string (bs y.b), .slice Ay y.ks.length cy] 45))
  clear hy1 hy0 hyx hb1 hba HB HI HF HSZ
  go_wp2_with fail
  have hbd : Below (w1.alloc (.cells #[.bool y.l, .string (bs y.b), .slice Ay y.ks.length cy] 45)).heap.size (w1.alloc (.cells #[.bool y.l, .string (bs y.b), .slice Ay y.ks.length cy] 45)) (w1.alloc (.cells #[.bool y.l, .string (bs y.b), .slice Ay y.ks.length cy] 45)).drew := (Below.refl _ _).drew
  have hF := (hbd.block _ (Array.getElem?_eq_some_iff.1 HF1.out).1).trans HF1.out
  have hI := (hbd.block _ (Array.getElem?_eq_some_iff.1 HI1.out).1).trans HI1.out
  have hV := (hbd.block _ (Array.getElem?_eq_some_iff.1 HV1.out).1).trans HV1.out
  have hB := below_call HB1.out HB1.out.size hbd
  have hy := HY1.out.keep hbd
  obtain ⟨V, hVe⟩ : ∃ V, w1.heap.size = V := ⟨_, rfl⟩
  rw [hVe] at hV hw1 ⊢
  refine wp_region_R [(99, fun w' => w'.heap[w.heap.size + 1]? = some (.cells #[.int .u64 n, .string (bs b), .slice A m c] 72 (0, 0)) ∧ w'.heap[V]? = some (.cells #[.bool y.l, .string (bs y.b), .slice Ay y.ks.length cy] 45 (0, 0)))] (by kernel_rfl) ?_
  generalize (w1.alloc (.cells #[.bool y.l, .string (bs y.b), .slice Ay y.ks.length cy] 45)).drew = w3 at hF hI hV hB hy ⊢
  clear hbd HF1 HI1 HV1 HB1 HY1
  refine R_l (i := 0) (v := .agg #[.bool y.l, .string (bs y.b), .slice Ay y.ks.length cy]) 99 _ List.mem_cons_self rfl (yieldsIf_load_row rfl rfl rfl (fun w' hS => hS.2) Try.underlying45 rfl infoI) (Meets.here ⟨hF, hV⟩ Meets.nil) ?_
  refine R_p (i := 1) (v := .bool false) (Meets.here ⟨hF, hV⟩ Meets.nil) ?_
  refine R_p (i := 2) (v := .bool false) (Meets.here ⟨hF, hV⟩ Meets.nil) ?_
  refine R_s (i := 3) (Meets.here ⟨hF, hV⟩ Meets.nil) ?_
  refine R_s (i := 4) (Meets.here ⟨hF, hV⟩ Meets.nil) ?_
  refine R_s (i := 5) (Meets.here ⟨hF, hV⟩ Meets.nil) ?_
  refine R_p (i := 6) (v := .bool false) (Meets.here ⟨hF, hV⟩ Meets.nil) ?_
  refine R_p (i := 7) (v := .bool false) (Meets.here ⟨hF, hV⟩ Meets.nil) ?_
  refine R_s (i := 8) (Meets.here ⟨hF, hV⟩ Meets.nil) ?_
  refine R_s (i := 9) (Meets.here ⟨hF, hV⟩ Meets.nil) ?_
  refine R_s (i := 10) (Meets.here ⟨hF, hV⟩ Meets.nil) ?_
  refine R_p (i := 11) (v := .bool false) (Meets.here ⟨hF, hV⟩ Meets.nil) ?_
  have d0 : w3.cell? ⟨w.heap.size + 1 + 1, 0, none⟩ = some (.bool false) := rc0 hI
  have d1 : w3.cell? ⟨w.heap.size + 1 + 1, 1, none⟩ = some (.string ⟨#[]⟩) := rc1 hI
  have d2 : w3.cell? ⟨w.heap.size + 1 + 1, 2, none⟩ = some (.slice none 0 0) := rc2 hI
  have f0 := rf hI 0
  have f1 := rf hI 1
  have f2 := rf hI 2
  refine R_now 12 fun K hK => ?_
  obtain ⟨W9, hW9⟩ : ∃ W9, W9 = (((w3.setCell ⟨w.heap.size + 1 + 1, 0, none⟩ (.bool y.l)).setCell ⟨w.heap.size + 1 + 1, 1, none⟩ (.string (bs y.b))).setCell ⟨w.heap.size + 1 + 1, 2, none⟩ (.slice Ay y.ks.length cy)) := ⟨_, rfl⟩
  have hI9 : W9.heap[w.heap.size + 1 + 1]? = some (.cells #[.bool y.l, .string (bs y.b), .slice Ay y.ks.length cy] 45 (0, 0)) := by rw [hW9]; exact heap_setCell_here (heap_setCell_here (heap_setCell_here hI _) _) _
  have hF9 : W9.heap[w.heap.size + 1]? = some (.cells #[.int .u64 n, .string (bs b), .slice A m c] 72 (0, 0)) := by rw [hW9]; exact (heap_set_ne (by omega) _).trans ((heap_set_ne (by omega) _).trans ((heap_set_ne (by omega) _).trans hF))
  have hV9 : W9.heap[V]? = some (.cells #[.bool y.l, .string (bs y.b), .slice Ay y.ks.length cy] 45 (0, 0)) := by rw [hW9]; exact (heap_set_ne (by omega) _).trans ((heap_set_ne (by omega) _).trans ((heap_set_ne (by omega) _).trans hV))
  have hB9 : Below w.heap.size w W9 := by rw [hW9]; exact ((hB.setCell (p := ⟨w.heap.size + 1 + 1, _, _⟩) (by simp; omega) _).setCell (p := ⟨w.heap.size + 1 + 1, _, _⟩) (by simp; omega) _).setCell (p := ⟨w.heap.size + 1 + 1, _, _⟩) (by simp; omega) _
  have hy9 : ItemV (From w.heap.size) W9 y Ay cy := by rw [hW9]; exact hy.mono fun k _ hk => ⟨by have : w.heap.size + 3 ≤ k := hk; show w.heap.size ≤ k; omega, by have : w.heap.size + 3 ≤ k := hk; rw [heap_set_ne (by omega), heap_set_ne (by omega), heap_set_ne (by omega)]⟩
  have HI9 := Lib.hid hI9
  have HB9 := Lib.hid hB9
  have HY9 := Lib.hid hy9
  clear hI9 hB9 hy9 hy
  go_simp
  rw [← hW9]
  clear hW9 d0 d1 d2 f0 f1 f2
  refine hK.out _ _ (Meets.here ⟨hF9, hV9⟩ Meets.nil) (fun hMeets => ?_)
  clear hK K hMeets
  refine lay_R ?_
  refine R_p (i := 13) (v := .bool false) (Meets.here ⟨hF9, hV9⟩ Meets.nil) ?_
  refine R_done (by kernel_rfl) ?_ _
  go_wp2_with fail
  refine bodyPost_ret (v := .tuple #[.agg #[.bool y.l, .string (bs y.b), .slice Ay y.ks.length cy], .bool false]) (results_row_tmp rfl _ _ (w.heap.size + 1 + 1) _ _ _ _ rfl HI9.out _ rfl Try.underlying45 rfl infoI) rfl ?_
  exact ⟨y, Ay, cy, rfl, HY9.out, (fun h => by cases h), HB9.out⟩
set_option maxRecDepth 100000 in
set_option maxHeartbeats 4000000 in
theorem item_l010 (n : Int) (b : Bytes) (A : Option Addr) (m c : Nat) (Ak : Option Addr) (ck : Nat) (x : Item) (ok : Bool) (hok : ok = true) (w : World) (hn : (n == 0) = false)
    (hC : Calls Try.prog 46 #[.agg #[.int .u8 42, .slice Ak 1 ck], .slice A m c] (((w.alloc (.cells #[.int .u8 42, .slice Ak 1 ck] 103)).alloc (.cells #[.int .u64 n, .string (bs b), .slice A m c] 72)).alloc (.cells #[.bool false, .string ⟨#[]⟩, .slice none 0 0] 45)) (FitPost x ok (((w.alloc (.cells #[.int .u8 42, .slice Ak 1 ck] 103)).alloc (.cells #[.int .u64 n, .string (bs b), .slice A m c] 72)).alloc (.cells #[.bool false, .string ⟨#[]⟩, .slice none 0 0] 45)))) :
    Calls Try.prog 59 #[.agg #[.int .u8 42, .slice Ak 1 ck], .agg #[.int .u64 n, .string (bs b), .slice A m c]] w (FitPost x false w) := by
  subst hok
  have hB : Below w.heap.size w (((w.alloc (.cells #[.int .u8 42, .slice Ak 1 ck] 103)).alloc (.cells #[.int .u64 n, .string (bs b), .slice A m c] 72)).alloc (.cells #[.bool false, .string ⟨#[]⟩, .slice none 0 0] 45)) := (((Below.refl _ _).alloc (Nat.le_refl _) _).alloc (by simp) _).alloc (by simp; omega) _
  have hI := heap_alloc_new ((w.alloc (.cells #[.int .u8 42, .slice Ak 1 ck] 103)).alloc (.cells #[.int .u64 n, .string (bs b), .slice A m c] 72)) (.cells #[.bool false, .string ⟨#[]⟩, .slice none 0 0] 45)
  have hF := (heap_alloc_old ((w.alloc (.cells #[.int .u8 42, .slice Ak 1 ck] 103)).alloc (.cells #[.int .u64 n, .string (bs b), .slice A m c] 72)) (.cells #[.bool false, .string ⟨#[]⟩, .slice none 0 0] 45) (by simp)).trans (heap_alloc_new (w.alloc (.cells #[.int .u8 42, .slice Ak 1 ck] 103)) (.cells #[.int .u64 n, .string (bs b), .slice A m c] 72))
  have hsz : (((w.alloc (.cells #[.int .u8 42, .slice Ak 1 ck] 103)).alloc (.cells #[.int .u64 n, .string (bs b), .slice A m c] 72)).alloc (.cells #[.bool false, .string ⟨#[]⟩, .slice none 0 0] 45)).heap.size = w.heap.size + 3 := by simp
  simp only [World.size_alloc] at hI hF
  have HB := Lib.hid hB
  have HI := Lib.hid hI
  have HF := Lib.hid hF
  have HSZ := Lib.hid hsz
  have HC := Lib.hid hC
  clear hB hI hF hsz hC
  go_enter Try.func59, Try.ntmps59
  go_wp2_with fail
  refine HC.out.mono ?_
  clear HC
  rintro e w1 ⟨y, Ay, cy, rfl, hy1, hyx, hb1⟩
  have HYX := Lib.hid hyx
  have hy0 : ItemV (From (w.heap.size + 3)) w1 y Ay cy := by rw [← HSZ.out]; exact hy1
  have hba : Below w1.heap.size w1 (w1.alloc (.cells #[.bool y.l, .string (bs y.b), .slice Ay y.ks.length cy] 45)) := (Below.refl _ _).alloc (Nat.le_refl _) _
  have hw1 : w.heap.size + 3 ≤ w1.heap.size := by rw [← HSZ.out]; exact hb1.size
  have HF1 := Lib.hid ((hba.block (w.heap.size + 1) (by omega)).trans ((hb1.block (w.heap.size + 1) (by rw [HSZ.out]; omega)).trans HF.out))
  have HI1 := Lib.hid ((hba.block (w.heap.size + 1 + 1) (by omega)).trans ((hb1.block (w.heap.size + 1 + 1) (by rw [HSZ.out]; omega)).trans HI.out))
  have HB1 := Lib.hid (below_call (below_call HB.out HB.out.size hb1) (by omega) hba)
  have HY1 := Lib.hid (hy0.keep hba)
  have HV1 := Lib.hid (heap_alloc_new w1 (.cells #[.bool y.l, .string (bs y.b), .slice Ay y.ks.length cy] 45))
  clear hy1 hy0 hyx hb1 hba HB HI HF HSZ
  go_wp2_with fail
  have hbd : Below (w1.alloc (.cells #[.bool y.l, .string (bs y.b), .slice Ay y.ks.length cy] 45)).heap.size (w1.alloc (.cells #[.bool y.l, .string (bs y.b), .slice Ay y.ks.length cy] 45)) (w1.alloc (.cells #[.bool y.l, .string (bs y.b), .slice Ay y.ks.length cy] 45)).drew := (Below.refl _ _).drew
  have hF := (hbd.block _ (Array.getElem?_eq_some_iff.1 HF1.out).1).trans HF1.out
  have hI := (hbd.block _ (Array.getElem?_eq_some_iff.1 HI1.out).1).trans HI1.out
  have hV := (hbd.block _ (Array.getElem?_eq_some_iff.1 HV1.out).1).trans HV1.out
  have hB := below_call HB1.out HB1.out.size hbd
  have hy := HY1.out.keep hbd
  obtain ⟨V, hVe⟩ : ∃ V, w1.heap.size = V := ⟨_, rfl⟩
  rw [hVe] at hV hw1 ⊢
  refine wp_region_R [(99, fun w' => w'.heap[w.heap.size + 1]? = some (.cells #[.int .u64 n, .string (bs b), .slice A m c] 72 (0, 0)) ∧ w'.heap[V]? = some (.cells #[.bool y.l, .string (bs y.b), .slice Ay y.ks.length cy] 45 (0, 0)))] (by kernel_rfl) ?_
  generalize (w1.alloc (.cells #[.bool y.l, .string (bs y.b), .slice Ay y.ks.length cy] 45)).drew = w3 at hF hI hV hB hy ⊢
  clear hbd HF1 HI1 HV1 HB1 HY1
  refine R_l (i := 0) (v := .agg #[.bool y.l, .string (bs y.b), .slice Ay y.ks.length cy]) 99 _ List.mem_cons_self rfl (yieldsIf_load_row rfl rfl rfl (fun w' hS => hS.2) Try.underlying45 rfl infoI) (Meets.here ⟨hF, hV⟩ Meets.nil) ?_
  refine R_p (i := 1) (v := .bool true) (Meets.here ⟨hF, hV⟩ Meets.nil) ?_
  refine R_p (i := 2) (v := .bool true) (Meets.here ⟨hF, hV⟩ Meets.nil) ?_
  refine R_p (i := 3) (v := .pointer (some ⟨w.heap.size + 1, 0, none⟩)) (Meets.here ⟨hF, hV⟩ Meets.nil) ?_
  refine R_l (i := 4) (v := .int .u64 n) 99 _ List.mem_cons_self rfl (yieldsIf_load_cell rfl rfl rfl (fun w' hS => rc hS.1 0 rfl) Try.underlying22 rfl) (Meets.here ⟨hF, hV⟩ Meets.nil) ?_
  refine R_p (i := 5) (v := .bool false) (Meets.here ⟨hF, hV⟩ Meets.nil) ?_
  refine R_p (i := 6) (v := .bool false) (Meets.here ⟨hF, hV⟩ Meets.nil) ?_
  refine R_p (i := 7) (v := .bool false) (Meets.here ⟨hF, hV⟩ Meets.nil) ?_
  refine R_s (i := 8) (Meets.here ⟨hF, hV⟩ Meets.nil) ?_
  refine R_s (i := 9) (Meets.here ⟨hF, hV⟩ Meets.nil) ?_
  refine R_s (i := 10) (Meets.here ⟨hF, hV⟩ Meets.nil) ?_
  refine R_p (i := 11) (v := .bool false) (Meets.here ⟨hF, hV⟩ Meets.nil) ?_
  have d0 : w3.cell? ⟨w.heap.size + 1 + 1, 0, none⟩ = some (.bool false) := rc0 hI
  have d1 : w3.cell? ⟨w.heap.size + 1 + 1, 1, none⟩ = some (.string ⟨#[]⟩) := rc1 hI
  have d2 : w3.cell? ⟨w.heap.size + 1 + 1, 2, none⟩ = some (.slice none 0 0) := rc2 hI
  have f0 := rf hI 0
  have f1 := rf hI 1
  have f2 := rf hI 2
  refine R_now 12 fun K hK => ?_
  obtain ⟨W9, hW9⟩ : ∃ W9, W9 = (((w3.setCell ⟨w.heap.size + 1 + 1, 0, none⟩ (.bool y.l)).setCell ⟨w.heap.size + 1 + 1, 1, none⟩ (.string (bs y.b))).setCell ⟨w.heap.size + 1 + 1, 2, none⟩ (.slice Ay y.ks.length cy)) := ⟨_, rfl⟩
  have hI9 : W9.heap[w.heap.size + 1 + 1]? = some (.cells #[.bool y.l, .string (bs y.b), .slice Ay y.ks.length cy] 45 (0, 0)) := by rw [hW9]; exact heap_setCell_here (heap_setCell_here (heap_setCell_here hI _) _) _
  have hF9 : W9.heap[w.heap.size + 1]? = some (.cells #[.int .u64 n, .string (bs b), .slice A m c] 72 (0, 0)) := by rw [hW9]; exact (heap_set_ne (by omega) _).trans ((heap_set_ne (by omega) _).trans ((heap_set_ne (by omega) _).trans hF))
  have hV9 : W9.heap[V]? = some (.cells #[.bool y.l, .string (bs y.b), .slice Ay y.ks.length cy] 45 (0, 0)) := by rw [hW9]; exact (heap_set_ne (by omega) _).trans ((heap_set_ne (by omega) _).trans ((heap_set_ne (by omega) _).trans hV))
  have hB9 : Below w.heap.size w W9 := by rw [hW9]; exact ((hB.setCell (p := ⟨w.heap.size + 1 + 1, _, _⟩) (by simp; omega) _).setCell (p := ⟨w.heap.size + 1 + 1, _, _⟩) (by simp; omega) _).setCell (p := ⟨w.heap.size + 1 + 1, _, _⟩) (by simp; omega) _
  have hy9 : ItemV (From w.heap.size) W9 y Ay cy := by rw [hW9]; exact hy.mono fun k _ hk => ⟨by have : w.heap.size + 3 ≤ k := hk; show w.heap.size ≤ k; omega, by have : w.heap.size + 3 ≤ k := hk; rw [heap_set_ne (by omega), heap_set_ne (by omega), heap_set_ne (by omega)]⟩
  have HI9 := Lib.hid hI9
  have HB9 := Lib.hid hB9
  have HY9 := Lib.hid hy9
  clear hI9 hB9 hy9 hy
  go_simp
  rw [← hW9]
  clear hW9 d0 d1 d2 f0 f1 f2
  refine hK.out _ _ (Meets.here ⟨hF9, hV9⟩ Meets.nil) (fun hMeets => ?_)
  clear hK K hMeets
  refine lay_R ?_
  refine R_p (i := 13) (v := .bool false) (Meets.here ⟨hF9, hV9⟩ Meets.nil) ?_
  refine R_done (by kernel_rfl) ?_ _
  go_wp2_with fail
  refine bodyPost_ret (v := .tuple #[.agg #[.bool y.l, .string (bs y.b), .slice Ay y.ks.length cy], .bool false]) (results_row_tmp rfl _ _ (w.heap.size + 1 + 1) _ _ _ _ rfl HI9.out _ rfl Try.underlying45 rfl infoI) rfl ?_
  exact ⟨y, Ay, cy, rfl, HY9.out, (fun h => by cases h), HB9.out⟩
set_option maxRecDepth 100000 in
set_option maxHeartbeats 4000000 in
theorem item_l100 (n : Int) (b : Bytes) (A : Option Addr) (m c : Nat) (Ak : Option Addr) (ck : Nat) (x : Item) (ok : Bool) (hok : ok = false) (w : World) (hn : (n == 0) = true)
    (hC : Calls Try.prog 46 #[.agg #[.int .u8 42, .slice Ak 1 ck], .slice A m c] (((w.alloc (.cells #[.int .u8 42, .slice Ak 1 ck] 103)).alloc (.cells #[.int .u64 n, .string (bs b), .slice A m c] 72)).alloc (.cells #[.bool false, .string ⟨#[]⟩, .slice none 0 0] 45)) (FitPost x ok (((w.alloc (.cells #[.int .u8 42, .slice Ak 1 ck] 103)).alloc (.cells #[.int .u64 n, .string (bs b), .slice A m c] 72)).alloc (.cells #[.bool false, .string ⟨#[]⟩, .slice none 0 0] 45)))) :
    Calls Try.prog 59 #[.agg #[.int .u8 42, .slice Ak 1 ck], .agg #[.int .u64 n, .string (bs b), .slice A m c]] w (FitPost x false w) := by
  subst hok
  have hB : Below w.heap.size w (((w.alloc (.cells #[.int .u8 42, .slice Ak 1 ck] 103)).alloc (.cells #[.int .u64 n, .string (bs b), .slice A m c] 72)).alloc (.cells #[.bool false, .string ⟨#[]⟩, .slice none 0 0] 45)) := (((Below.refl _ _).alloc (Nat.le_refl _) _).alloc (by simp) _).alloc (by simp; omega) _
  have hI := heap_alloc_new ((w.alloc (.cells #[.int .u8 42, .slice Ak 1 ck] 103)).alloc (.cells #[.int .u64 n, .string (bs b), .slice A m c] 72)) (.cells #[.bool false, .string ⟨#[]⟩, .slice none 0 0] 45)
  have hF := (heap_alloc_old ((w.alloc (.cells #[.int .u8 42, .slice Ak 1 ck] 103)).alloc (.cells #[.int .u64 n, .string (bs b), .slice A m c] 72)) (.cells #[.bool false, .string ⟨#[]⟩, .slice none 0 0] 45) (by simp)).trans (heap_alloc_new (w.alloc (.cells #[.int .u8 42, .slice Ak 1 ck] 103)) (.cells #[.int .u64 n, .string (bs b), .slice A m c] 72))
  have hsz : (((w.alloc (.cells #[.int .u8 42, .slice Ak 1 ck] 103)).alloc (.cells #[.int .u64 n, .string (bs b), .slice A m c] 72)).alloc (.cells #[.bool false, .string ⟨#[]⟩, .slice none 0 0] 45)).heap.size = w.heap.size + 3 := by simp
  simp only [World.size_alloc] at hI hF
  have HB := Lib.hid hB
  have HI := Lib.hid hI
  have HF := Lib.hid hF
  have HSZ := Lib.hid hsz
  have HC := Lib.hid hC
  clear hB hI hF hsz hC
  go_enter Try.func59, Try.ntmps59
  go_wp2_with fail
  refine HC.out.mono ?_
  clear HC
  rintro e w1 ⟨y, Ay, cy, rfl, hy1, hyx, hb1⟩
  have HYX := Lib.hid hyx
  have hy0 : ItemV (From (w.heap.size + 3)) w1 y Ay cy := by rw [← HSZ.out]; exact hy1
  have hba : Below w1.heap.size w1 (w1.alloc (.cells #[.bool y.l, .string (bs y.b), .slice Ay y.ks.length cy] 45)) := (Below.refl _ _).alloc (Nat.le_refl _) _
  have hw1 : w.heap.size + 3 ≤ w1.heap.size := by rw [← HSZ.out]; exact hb1.size
  have HF1 := Lib.hid ((hba.block (w.heap.size + 1) (by omega)).trans ((hb1.block (w.heap.size + 1) (by rw [HSZ.out]; omega)).trans HF.out))
  have HI1 := Lib.hid ((hba.block (w.heap.size + 1 + 1) (by omega)).trans ((hb1.block (w.heap.size + 1 + 1) (by rw [HSZ.out]; omega)).trans HI.out))
  have HB1 := Lib.hid (below_call (below_call HB.out HB.out.size hb1) (by omega) hba)
  have HY1 := Lib.hid (hy0.keep hba)
  have HV1 := Lib.hid (heap_alloc_new w1 (.cells #[.bool y.l, .string (bs y.b), .slice Ay y.ks.length cy] 45))
  clear hy1 hy0 hyx hb1 hba HB HI HF HSZ
  go_wp2_with fail
  have hbd : Below (w1.alloc (.cells #[.bool y.l, .string (bs y.b), .slice Ay y.ks.length cy] 45)).heap.size (w1.alloc (.cells #[.bool y.l, .string (bs y.b), .slice Ay y.ks.length cy] 45)) (w1.alloc (.cells #[.bool y.l, .string (bs y.b), .slice Ay y.ks.length cy] 45)).drew := (Below.refl _ _).drew
  have hF := (hbd.block _ (Array.getElem?_eq_some_iff.1 HF1.out).1).trans HF1.out
  have hI := (hbd.block _ (Array.getElem?_eq_some_iff.1 HI1.out).1).trans HI1.out
  have hV := (hbd.block _ (Array.getElem?_eq_some_iff.1 HV1.out).1).trans HV1.out
  have hB := below_call HB1.out HB1.out.size hbd
  have hy := HY1.out.keep hbd
  obtain ⟨V, hVe⟩ : ∃ V, w1.heap.size = V := ⟨_, rfl⟩
  rw [hVe] at hV hw1 ⊢
  refine wp_region_R [(99, fun w' => w'.heap[w.heap.size + 1]? = some (.cells #[.int .u64 n, .string (bs b), .slice A m c] 72 (0, 0)) ∧ w'.heap[V]? = some (.cells #[.bool y.l, .string (bs y.b), .slice Ay y.ks.length cy] 45 (0, 0)))] (by kernel_rfl) ?_
  generalize (w1.alloc (.cells #[.bool y.l, .string (bs y.b), .slice Ay y.ks.length cy] 45)).drew = w3 at hF hI hV hB hy ⊢
  clear hbd HF1 HI1 HV1 HB1 HY1
  refine R_l (i := 0) (v := .agg #[.bool y.l, .string (bs y.b), .slice Ay y.ks.length cy]) 99 _ List.mem_cons_self rfl (yieldsIf_load_row rfl rfl rfl (fun w' hS => hS.2) Try.underlying45 rfl infoI) (Meets.here ⟨hF, hV⟩ Meets.nil) ?_
  refine R_p (i := 1) (v := .bool false) (Meets.here ⟨hF, hV⟩ Meets.nil) ?_
  refine R_p (i := 2) (v := .bool false) (Meets.here ⟨hF, hV⟩ Meets.nil) ?_
  refine R_s (i := 3) (Meets.here ⟨hF, hV⟩ Meets.nil) ?_
  refine R_s (i := 4) (Meets.here ⟨hF, hV⟩ Meets.nil) ?_
  refine R_s (i := 5) (Meets.here ⟨hF, hV⟩ Meets.nil) ?_
  refine R_p (i := 6) (v := .bool false) (Meets.here ⟨hF, hV⟩ Meets.nil) ?_
  refine R_p (i := 7) (v := .bool false) (Meets.here ⟨hF, hV⟩ Meets.nil) ?_
  refine R_s (i := 8) (Meets.here ⟨hF, hV⟩ Meets.nil) ?_
  refine R_s (i := 9) (Meets.here ⟨hF, hV⟩ Meets.nil) ?_
  refine R_s (i := 10) (Meets.here ⟨hF, hV⟩ Meets.nil) ?_
  refine R_p (i := 11) (v := .bool false) (Meets.here ⟨hF, hV⟩ Meets.nil) ?_
  have d0 : w3.cell? ⟨w.heap.size + 1 + 1, 0, none⟩ = some (.bool false) := rc0 hI
  have d1 : w3.cell? ⟨w.heap.size + 1 + 1, 1, none⟩ = some (.string ⟨#[]⟩) := rc1 hI
  have d2 : w3.cell? ⟨w.heap.size + 1 + 1, 2, none⟩ = some (.slice none 0 0) := rc2 hI
  have f0 := rf hI 0
  have f1 := rf hI 1
  have f2 := rf hI 2
  refine R_now 12 fun K hK => ?_
  obtain ⟨W9, hW9⟩ : ∃ W9, W9 = (((w3.setCell ⟨w.heap.size + 1 + 1, 0, none⟩ (.bool y.l)).setCell ⟨w.heap.size + 1 + 1, 1, none⟩ (.string (bs y.b))).setCell ⟨w.heap.size + 1 + 1, 2, none⟩ (.slice Ay y.ks.length cy)) := ⟨_, rfl⟩
  have hI9 : W9.heap[w.heap.size + 1 + 1]? = some (.cells #[.bool y.l, .string (bs y.b), .slice Ay y.ks.length cy] 45 (0, 0)) := by rw [hW9]; exact heap_setCell_here (heap_setCell_here (heap_setCell_here hI _) _) _
  have hF9 : W9.heap[w.heap.size + 1]? = some (.cells #[.int .u64 n, .string (bs b), .slice A m c] 72 (0, 0)) := by rw [hW9]; exact (heap_set_ne (by omega) _).trans ((heap_set_ne (by omega) _).trans ((heap_set_ne (by omega) _).trans hF))
  have hV9 : W9.heap[V]? = some (.cells #[.bool y.l, .string (bs y.b), .slice Ay y.ks.length cy] 45 (0, 0)) := by rw [hW9]; exact (heap_set_ne (by omega) _).trans ((heap_set_ne (by omega) _).trans ((heap_set_ne (by omega) _).trans hV))
  have hB9 : Below w.heap.size w W9 := by rw [hW9]; exact ((hB.setCell (p := ⟨w.heap.size + 1 + 1, _, _⟩) (by simp; omega) _).setCell (p := ⟨w.heap.size + 1 + 1, _, _⟩) (by simp; omega) _).setCell (p := ⟨w.heap.size + 1 + 1, _, _⟩) (by simp; omega) _
  have hy9 : ItemV (From w.heap.size) W9 y Ay cy := by rw [hW9]; exact hy.mono fun k _ hk => ⟨by have : w.heap.size + 3 ≤ k := hk; show w.heap.size ≤ k; omega, by have : w.heap.size + 3 ≤ k := hk; rw [heap_set_ne (by omega), heap_set_ne (by omega), heap_set_ne (by omega)]⟩
  have HI9 := Lib.hid hI9
  have HB9 := Lib.hid hB9
  have HY9 := Lib.hid hy9
  clear hI9 hB9 hy9 hy
  go_simp
  rw [← hW9]
  clear hW9 d0 d1 d2 f0 f1 f2
  refine hK.out _ _ (Meets.here ⟨hF9, hV9⟩ Meets.nil) (fun hMeets => ?_)
  clear hK K hMeets
  refine lay_R ?_
  refine R_p (i := 13) (v := .bool false) (Meets.here ⟨hF9, hV9⟩ Meets.nil) ?_
  refine R_done (by kernel_rfl) ?_ _
  go_wp2_with fail
  refine bodyPost_ret (v := .tuple #[.agg #[.bool y.l, .string (bs y.b), .slice Ay y.ks.length cy], .bool false]) (results_row_tmp rfl _ _ (w.heap.size + 1 + 1) _ _ _ _ rfl HI9.out _ rfl Try.underlying45 rfl infoI) rfl ?_
  exact ⟨y, Ay, cy, rfl, HY9.out, (fun h => by cases h), HB9.out⟩
set_option maxRecDepth 100000 in
set_option maxHeartbeats 4000000 in
theorem item_l110 (n : Int) (b : Bytes) (A : Option Addr) (m c : Nat) (Ak : Option Addr) (ck : Nat) (x : Item) (ok : Bool) (hok : ok = true) (w : World) (hn : (n == 0) = true) (hb : (b == []) = false)
    (hC : Calls Try.prog 46 #[.agg #[.int .u8 42, .slice Ak 1 ck], .slice A m c] (((w.alloc (.cells #[.int .u8 42, .slice Ak 1 ck] 103)).alloc (.cells #[.int .u64 n, .string (bs b), .slice A m c] 72)).alloc (.cells #[.bool false, .string ⟨#[]⟩, .slice none 0 0] 45)) (FitPost x ok (((w.alloc (.cells #[.int .u8 42, .slice Ak 1 ck] 103)).alloc (.cells #[.int .u64 n, .string (bs b), .slice A m c] 72)).alloc (.cells #[.bool false, .string ⟨#[]⟩, .slice none 0 0] 45)))) :
    Calls Try.prog 59 #[.agg #[.int .u8 42, .slice Ak 1 ck], .agg #[.int .u64 n, .string (bs b), .slice A m c]] w (FitPost x false w) := by
  subst hok
  have hB : Below w.heap.size w (((w.alloc (.cells #[.int .u8 42, .slice Ak 1 ck] 103)).alloc (.cells #[.int .u64 n, .string (bs b), .slice A m c] 72)).alloc (.cells #[.bool false, .string ⟨#[]⟩, .slice none 0 0] 45)) := (((Below.refl _ _).alloc (Nat.le_refl _) _).alloc (by simp) _).alloc (by simp; omega) _
  have hI := heap_alloc_new ((w.alloc (.cells #[.int .u8 42, .slice Ak 1 ck] 103)).alloc (.cells #[.int .u64 n, .string (bs b), .slice A m c] 72)) (.cells #[.bool false, .string ⟨#[]⟩, .slice none 0 0] 45)
  have hF := (heap_alloc_old ((w.alloc (.cells #[.int .u8 42, .slice Ak 1 ck] 103)).alloc (.cells #[.int .u64 n, .string (bs b), .slice A m c] 72)) (.cells #[.bool false, .string ⟨#[]⟩, .slice none 0 0] 45) (by simp)).trans (heap_alloc_new (w.alloc (.cells #[.int .u8 42, .slice Ak 1 ck] 103)) (.cells #[.int .u64 n, .string (bs b), .slice A m c] 72))
  have hsz : (((w.alloc (.cells #[.int .u8 42, .slice Ak 1 ck] 103)).alloc (.cells #[.int .u64 n, .string (bs b), .slice A m c] 72)).alloc (.cells #[.bool false, .string ⟨#[]⟩, .slice none 0 0] 45)).heap.size = w.heap.size + 3 := by simp
  simp only [World.size_alloc] at hI hF
  have HB := Lib.hid hB
  have HI := Lib.hid hI
  have HF := Lib.hid hF
  have HSZ := Lib.hid hsz
  have HC := Lib.hid hC
  clear hB hI hF hsz hC
  go_enter Try.func59, Try.ntmps59
  go_wp2_with fail
  refine HC.out.mono ?_
  clear HC
  rintro e w1 ⟨y, Ay, cy, rfl, hy1, hyx, hb1⟩
  have HYX := Lib.hid hyx
  have hy0 : ItemV (From (w.heap.size + 3)) w1 y Ay cy := by rw [← HSZ.out]; exact hy1
  have hba : Below w1.heap.size w1 (w1.alloc (.cells #[.bool y.l, .string (bs y.b), .slice Ay y.ks.length cy] 45)) := (Below.refl _ _).alloc (Nat.le_refl _) _
  have hw1 : w.heap.size + 3 ≤ w1.heap.size := by rw [← HSZ.out]; exact hb1.size
  have HF1 := Lib.hid ((hba.block (w.heap.size + 1) (by omega)).trans ((hb1.block (w.heap.size + 1) (by rw [HSZ.out]; omega)).trans HF.out))
  have HI1 := Lib.hid ((hba.block (w.heap.size + 1 + 1) (by omega)).trans ((hb1.block (w.heap.size + 1 + 1) (by rw [HSZ.out]; omega)).trans HI.out))
  have HB1 := Lib.hid (below_call (below_call HB.out HB.out.size hb1) (by omega) hba)
  have HY1 := Lib.hid (hy0.keep hba)
  have HV1 := Lib.hid (heap_alloc_new w1 (.cells #[.bool y.l, .string (bs y.b), .slice Ay y.ks.length cy] 45))
  clear hy1 hy0 hyx hb1 hba HB HI HF HSZ
  go_wp2_with fail
  have hbd : Below (w1.alloc (.cells #[.bool y.l, .string (bs y.b), .slice Ay y.ks.length cy] 45)).heap.size (w1.alloc (.cells #[.bool y.l, .string (bs y.b), .slice Ay y.ks.length cy] 45)) (w1.alloc (.cells #[.bool y.l, .string (bs y.b), .slice Ay y.ks.length cy] 45)).drew := (Below.refl _ _).drew
  have hF := (hbd.block _ (Array.getElem?_eq_some_iff.1 HF1.out).1).trans HF1.out
  have hI := (hbd.block _ (Array.getElem?_eq_some_iff.1 HI1.out).1).trans HI1.out
  have hV := (hbd.block _ (Array.getElem?_eq_some_iff.1 HV1.out).1).trans HV1.out
  have hB := below_call HB1.out HB1.out.size hbd
  have hy := HY1.out.keep hbd
  obtain ⟨V, hVe⟩ : ∃ V, w1.heap.size = V := ⟨_, rfl⟩
  rw [hVe] at hV hw1 ⊢
  refine wp_region_R [(99, fun w' => w'.heap[w.heap.size + 1]? = some (.cells #[.int .u64 n, .string (bs b), .slice A m c] 72 (0, 0)) ∧ w'.heap[V]? = some (.cells #[.bool y.l, .string (bs y.b), .slice Ay y.ks.length cy] 45 (0, 0)))] (by kernel_rfl) ?_
  generalize (w1.alloc (.cells #[.bool y.l, .string (bs y.b), .slice Ay y.ks.length cy] 45)).drew = w3 at hF hI hV hB hy ⊢
  clear hbd HF1 HI1 HV1 HB1 HY1
  refine R_l (i := 0) (v := .agg #[.bool y.l, .string (bs y.b), .slice Ay y.ks.length cy]) 99 _ List.mem_cons_self rfl (yieldsIf_load_row rfl rfl rfl (fun w' hS => hS.2) Try.underlying45 rfl infoI) (Meets.here ⟨hF, hV⟩ Meets.nil) ?_
  refine R_p (i := 1) (v := .bool true) (Meets.here ⟨hF, hV⟩ Meets.nil) ?_
  refine R_p (i := 2) (v := .bool true) (Meets.here ⟨hF, hV⟩ Meets.nil) ?_
  refine R_p (i := 3) (v := .pointer (some ⟨w.heap.size + 1, 0, none⟩)) (Meets.here ⟨hF, hV⟩ Meets.nil) ?_
  refine R_l (i := 4) (v := .int .u64 n) 99 _ List.mem_cons_self rfl (yieldsIf_load_cell rfl rfl rfl (fun w' hS => rc hS.1 0 rfl) Try.underlying22 rfl) (Meets.here ⟨hF, hV⟩ Meets.nil) ?_
  refine R_p (i := 5) (v := .bool true) (Meets.here ⟨hF, hV⟩ Meets.nil) ?_
  refine R_p (i := 6) (v := .bool true) (Meets.here ⟨hF, hV⟩ Meets.nil) ?_
  refine R_p (i := 7) (v := .bool true) (Meets.here ⟨hF, hV⟩ Meets.nil) ?_
  refine R_p (i := 8) (v := .pointer (some ⟨w.heap.size + 1, 1, none⟩)) (Meets.here ⟨hF, hV⟩ Meets.nil) ?_
  refine R_l (i := 9) (v := .string (bs b)) 99 _ List.mem_cons_self rfl (yieldsIf_load_cell rfl rfl rfl (fun w' hS => rc hS.1 1 rfl) Try.underlying9 rfl) (Meets.here ⟨hF, hV⟩ Meets.nil) ?_
  refine R_p (i := 10) (v := .bool false) (Meets.here ⟨hF, hV⟩ Meets.nil) ?_
  refine R_p (i := 11) (v := .bool false) (Meets.here ⟨hF, hV⟩ Meets.nil) ?_
  have d0 : w3.cell? ⟨w.heap.size + 1 + 1, 0, none⟩ = some (.bool false) := rc0 hI
  have d1 : w3.cell? ⟨w.heap.size + 1 + 1, 1, none⟩ = some (.string ⟨#[]⟩) := rc1 hI
  have d2 : w3.cell? ⟨w.heap.size + 1 + 1, 2, none⟩ = some (.slice none 0 0) := rc2 hI
  have f0 := rf hI 0
  have f1 := rf hI 1
  have f2 := rf hI 2
  refine R_now 12 fun K hK => ?_
  obtain ⟨W9, hW9⟩ : ∃ W9, W9 = (((w3.setCell ⟨w.heap.size + 1 + 1, 0, none⟩ (.bool y.l)).setCell ⟨w.heap.size + 1 + 1, 1, none⟩ (.string (bs y.b))).setCell ⟨w.heap.size + 1 + 1, 2, none⟩ (.slice Ay y.ks.length cy)) := ⟨_, rfl⟩
  have hI9 : W9.heap[w.heap.size + 1 + 1]? = some (.cells #[.bool y.l, .string (bs y.b), .slice Ay y.ks.length cy] 45 (0, 0)) := by rw [hW9]; exact heap_setCell_here (heap_setCell_here (heap_setCell_here hI _) _) _
  have hF9 : W9.heap[w.heap.size + 1]? = some (.cells #[.int .u64 n, .string (bs b), .slice A m c] 72 (0, 0)) := by rw [hW9]; exact (heap_set_ne (by omega) _).trans ((heap_set_ne (by omega) _).trans ((heap_set_ne (by omega) _).trans hF))
  have hV9 : W9.heap[V]? = some (.cells #[.bool y.l, .string (bs y.b), .slice Ay y.ks.length cy] 45 (0, 0)) := by rw [hW9]; exact (heap_set_ne (by omega) _).trans ((heap_set_ne (by omega) _).trans ((heap_set_ne (by omega) _).trans hV))
  have hB9 : Below w.heap.size w W9 := by rw [hW9]; exact ((hB.setCell (p := ⟨w.heap.size + 1 + 1, _, _⟩) (by simp; omega) _).setCell (p := ⟨w.heap.size + 1 + 1, _, _⟩) (by simp; omega) _).setCell (p := ⟨w.heap.size + 1 + 1, _, _⟩) (by simp; omega) _
  have hy9 : ItemV (From w.heap.size) W9 y Ay cy := by rw [hW9]; exact hy.mono fun k _ hk => ⟨by have : w.heap.size + 3 ≤ k := hk; show w.heap.size ≤ k; omega, by have : w.heap.size + 3 ≤ k := hk; rw [heap_set_ne (by omega), heap_set_ne (by omega), heap_set_ne (by omega)]⟩
  have HI9 := Lib.hid hI9
  have HB9 := Lib.hid hB9
  have HY9 := Lib.hid hy9
  clear hI9 hB9 hy9 hy
  go_simp
  rw [← hW9]
  clear hW9 d0 d1 d2 f0 f1 f2
  refine hK.out _ _ (Meets.here ⟨hF9, hV9⟩ Meets.nil) (fun hMeets => ?_)
  clear hK K hMeets
  refine lay_R ?_
  refine R_p (i := 13) (v := .bool false) (Meets.here ⟨hF9, hV9⟩ Meets.nil) ?_
  refine R_done (by kernel_rfl) ?_ _
  go_wp2_with fail
  refine bodyPost_ret (v := .tuple #[.agg #[.bool y.l, .string (bs y.b), .slice Ay y.ks.length cy], .bool false]) (results_row_tmp rfl _ _ (w.heap.size + 1 + 1) _ _ _ _ rfl HI9.out _ rfl Try.underlying45 rfl infoI) rfl ?_
  exact ⟨y, Ay, cy, rfl, HY9.out, (fun h => by cases h), HB9.out⟩
set_option maxRecDepth 100000 in
set_option maxHeartbeats 4000000 in
theorem item_l111 (n : Int) (b : Bytes) (A : Option Addr) (m c : Nat) (Ak : Option Addr) (ck : Nat) (x : Item) (ok : Bool) (hok : ok = true) (w : World) (hn : (n == 0) = true) (hb : (b == []) = true)
    (hC : Calls Try.prog 46 #[.agg #[.int .u8 42, .slice Ak 1 ck], .slice A m c] (((w.alloc (.cells #[.int .u8 42, .slice Ak 1 ck] 103)).alloc (.cells #[.int .u64 n, .string (bs b), .slice A m c] 72)).alloc (.cells #[.bool false, .string ⟨#[]⟩, .slice none 0 0] 45)) (FitPost x ok (((w.alloc (.cells #[.int .u8 42, .slice Ak 1 ck] 103)).alloc (.cells #[.int .u64 n, .string (bs b), .slice A m c] 72)).alloc (.cells #[.bool false, .string ⟨#[]⟩, .slice none 0 0] 45)))) :
    Calls Try.prog 59 #[.agg #[.int .u8 42, .slice Ak 1 ck], .agg #[.int .u64 n, .string (bs b), .slice A m c]] w (FitPost x true w) := by
  subst hok
  have hB : Below w.heap.size w (((w.alloc (.cells #[.int .u8 42, .slice Ak 1 ck] 103)).alloc (.cells #[.int .u64 n, .string (bs b), .slice A m c] 72)).alloc (.cells #[.bool false, .string ⟨#[]⟩, .slice none 0 0] 45)) := (((Below.refl _ _).alloc (Nat.le_refl _) _).alloc (by simp) _).alloc (by simp; omega) _
  have hI := heap_alloc_new ((w.alloc (.cells #[.int .u8 42, .slice Ak 1 ck] 103)).alloc (.cells #[.int .u64 n, .string (bs b), .slice A m c] 72)) (.cells #[.bool false, .string ⟨#[]⟩, .slice none 0 0] 45)
  have hF := (heap_alloc_old ((w.alloc (.cells #[.int .u8 42, .slice Ak 1 ck] 103)).alloc (.cells #[.int .u64 n, .string (bs b), .slice A m c] 72)) (.cells #[.bool false, .string ⟨#[]⟩, .slice none 0 0] 45) (by simp)).trans (heap_alloc_new (w.alloc (.cells #[.int .u8 42, .slice Ak 1 ck] 103)) (.cells #[.int .u64 n, .string (bs b), .slice A m c] 72))
  have hsz : (((w.alloc (.cells #[.int .u8 42, .slice Ak 1 ck] 103)).alloc (.cells #[.int .u64 n, .string (bs b), .slice A m c] 72)).alloc (.cells #[.bool false, .string ⟨#[]⟩, .slice none 0 0] 45)).heap.size = w.heap.size + 3 := by simp
  simp only [World.size_alloc] at hI hF
  have HB := Lib.hid hB
  have HI := Lib.hid hI
  have HF := Lib.hid hF
  have HSZ := Lib.hid hsz
  have HC := Lib.hid hC
  clear hB hI hF hsz hC
  go_enter Try.func59, Try.ntmps59
  go_wp2_with fail
  refine HC.out.mono ?_
  clear HC
  rintro e w1 ⟨y, Ay, cy, rfl, hy1, hyx, hb1⟩
  have HYX := Lib.hid hyx
  have hy0 : ItemV (From (w.heap.size + 3)) w1 y Ay cy := by rw [← HSZ.out]; exact hy1
  have hba : Below w1.heap.size w1 (w1.alloc (.cells #[.bool y.l, .string (bs y.b), .slice Ay y.ks.length cy] 45)) := (Below.refl _ _).alloc (Nat.le_refl _) _
  have hw1 : w.heap.size + 3 ≤ w1.heap.size := by rw [← HSZ.out]; exact hb1.size
  have HF1 := Lib.hid ((hba.block (w.heap.size + 1) (by omega)).trans ((hb1.block (w.heap.size + 1) (by rw [HSZ.out]; omega)).trans HF.out))
  have HI1 := Lib.hid ((hba.block (w.heap.size + 1 + 1) (by omega)).trans ((hb1.block (w.heap.size + 1 + 1) (by rw [HSZ.out]; omega)).trans HI.out))
  have HB1 := Lib.hid (below_call (below_call HB.out HB.out.size hb1) (by omega) hba)
  have HY1 := Lib.hid (hy0.keep hba)
  have HV1 := Lib.hid (heap_alloc_new w1 (.cells #[.bool y.l, .string (bs y.b), .slice Ay y.ks.length cy] 45))
  clear hy1 hy0 hyx hb1 hba HB HI HF HSZ
  go_wp2_with fail
  have hbd : Below (w1.alloc (.cells #[.bool y.l, .string (bs y.b), .slice Ay y.ks.length cy] 45)).heap.size (w1.alloc (.cells #[.bool y.l, .string (bs y.b), .slice Ay y.ks.length cy] 45)) (w1.alloc (.cells #[.bool y.l, .string (bs y.b), .slice Ay y.ks.length cy] 45)).drew := (Below.refl _ _).drew
  have hF := (hbd.block _ (Array.getElem?_eq_some_iff.1 HF1.out).1).trans HF1.out
  have hI := (hbd.block _ (Array.getElem?_eq_some_iff.1 HI1.out).1).trans HI1.out
  have hV := (hbd.block _ (Array.getElem?_eq_some_iff.1 HV1.out).1).trans HV1.out
  have hB := below_call HB1.out HB1.out.size hbd
  have hy := HY1.out.keep hbd
  obtain ⟨V, hVe⟩ : ∃ V, w1.heap.size = V := ⟨_, rfl⟩
  rw [hVe] at hV hw1 ⊢
  refine wp_region_R [(99, fun w' => w'.heap[w.heap.size + 1]? = some (.cells #[.int .u64 n, .string (bs b), .slice A m c] 72 (0, 0)) ∧ w'.heap[V]? = some (.cells #[.bool y.l, .string (bs y.b), .slice Ay y.ks.length cy] 45 (0, 0)))] (by kernel_rfl) ?_
  generalize (w1.alloc (.cells #[.bool y.l, .string (bs y.b), .slice Ay y.ks.length cy] 45)).drew = w3 at hF hI hV hB hy ⊢
  clear hbd HF1 HI1 HV1 HB1 HY1
  refine R_l (i := 0) (v := .agg #[.bool y.l, .string (bs y.b), .slice Ay y.ks.length cy]) 99 _ List.mem_cons_self rfl (yieldsIf_load_row rfl rfl rfl (fun w' hS => hS.2) Try.underlying45 rfl infoI) (Meets.here ⟨hF, hV⟩ Meets.nil) ?_
  refine R_p (i := 1) (v := .bool true) (Meets.here ⟨hF, hV⟩ Meets.nil) ?_
  refine R_p (i := 2) (v := .bool true) (Meets.here ⟨hF, hV⟩ Meets.nil) ?_
  refine R_p (i := 3) (v := .pointer (some ⟨w.heap.size + 1, 0, none⟩)) (Meets.here ⟨hF, hV⟩ Meets.nil) ?_
  refine R_l (i := 4) (v := .int .u64 n) 99 _ List.mem_cons_self rfl (yieldsIf_load_cell rfl rfl rfl (fun w' hS => rc hS.1 0 rfl) Try.underlying22 rfl) (Meets.here ⟨hF, hV⟩ Meets.nil) ?_
  refine R_p (i := 5) (v := .bool true) (Meets.here ⟨hF, hV⟩ Meets.nil) ?_
  refine R_p (i := 6) (v := .bool true) (Meets.here ⟨hF, hV⟩ Meets.nil) ?_
  refine R_p (i := 7) (v := .bool true) (Meets.here ⟨hF, hV⟩ Meets.nil) ?_
  refine R_p (i := 8) (v := .pointer (some ⟨w.heap.size + 1, 1, none⟩)) (Meets.here ⟨hF, hV⟩ Meets.nil) ?_
  refine R_l (i := 9) (v := .string (bs b)) 99 _ List.mem_cons_self rfl (yieldsIf_load_cell rfl rfl rfl (fun w' hS => rc hS.1 1 rfl) Try.underlying9 rfl) (Meets.here ⟨hF, hV⟩ Meets.nil) ?_
  refine R_p (i := 10) (v := .bool true) (Meets.here ⟨hF, hV⟩ Meets.nil) ?_
  refine R_p (i := 11) (v := .bool true) (Meets.here ⟨hF, hV⟩ Meets.nil) ?_
  have d0 : w3.cell? ⟨w.heap.size + 1 + 1, 0, none⟩ = some (.bool false) := rc0 hI
  have d1 : w3.cell? ⟨w.heap.size + 1 + 1, 1, none⟩ = some (.string ⟨#[]⟩) := rc1 hI
  have d2 : w3.cell? ⟨w.heap.size + 1 + 1, 2, none⟩ = some (.slice none 0 0) := rc2 hI
  have f0 := rf hI 0
  have f1 := rf hI 1
  have f2 := rf hI 2
  refine R_now 12 fun K hK => ?_
  obtain ⟨W9, hW9⟩ : ∃ W9, W9 = (((w3.setCell ⟨w.heap.size + 1 + 1, 0, none⟩ (.bool y.l)).setCell ⟨w.heap.size + 1 + 1, 1, none⟩ (.string (bs y.b))).setCell ⟨w.heap.size + 1 + 1, 2, none⟩ (.slice Ay y.ks.length cy)) := ⟨_, rfl⟩
  have hI9 : W9.heap[w.heap.size + 1 + 1]? = some (.cells #[.bool y.l, .string (bs y.b), .slice Ay y.ks.length cy] 45 (0, 0)) := by rw [hW9]; exact heap_setCell_here (heap_setCell_here (heap_setCell_here hI _) _) _
  have hF9 : W9.heap[w.heap.size + 1]? = some (.cells #[.int .u64 n, .string (bs b), .slice A m c] 72 (0, 0)) := by rw [hW9]; exact (heap_set_ne (by omega) _).trans ((heap_set_ne (by omega) _).trans ((heap_set_ne (by omega) _).trans hF))
  have hV9 : W9.heap[V]? = some (.cells #[.bool y.l, .string (bs y.b), .slice Ay y.ks.length cy] 45 (0, 0)) := by rw [hW9]; exact (heap_set_ne (by omega) _).trans ((heap_set_ne (by omega) _).trans ((heap_set_ne (by omega) _).trans hV))
  have hB9 : Below w.heap.size w W9 := by rw [hW9]; exact ((hB.setCell (p := ⟨w.heap.size + 1 + 1, _, _⟩) (by simp; omega) _).setCell (p := ⟨w.heap.size + 1 + 1, _, _⟩) (by simp; omega) _).setCell (p := ⟨w.heap.size + 1 + 1, _, _⟩) (by simp; omega) _
  have hy9 : ItemV (From w.heap.size) W9 y Ay cy := by rw [hW9]; exact hy.mono fun k _ hk => ⟨by have : w.heap.size + 3 ≤ k := hk; show w.heap.size ≤ k; omega, by have : w.heap.size + 3 ≤ k := hk; rw [heap_set_ne (by omega), heap_set_ne (by omega), heap_set_ne (by omega)]⟩
  have HI9 := Lib.hid hI9
  have HB9 := Lib.hid hB9
  have HY9 := Lib.hid hy9
  clear hI9 hB9 hy9 hy
  go_simp
  rw [← hW9]
  clear hW9 d0 d1 d2 f0 f1 f2
  refine hK.out _ _ (Meets.here ⟨hF9, hV9⟩ Meets.nil) (fun hMeets => ?_)
  clear hK K hMeets
  refine lay_R ?_
  refine R_p (i := 13) (v := .bool true) (Meets.here ⟨hF9, hV9⟩ Meets.nil) ?_
  refine R_done (by kernel_rfl) ?_ _
  go_wp2_with fail
  refine bodyPost_ret (v := .tuple #[.agg #[.bool y.l, .string (bs y.b), .slice Ay y.ks.length cy], .bool true]) (results_row_tmp rfl _ _ (w.heap.size + 1 + 1) _ _ _ _ rfl HI9.out _ rfl Try.underlying45 rfl infoI) rfl ?_
  exact ⟨y, Ay, cy, rfl, HY9.out, fun _ => HYX.out (by simp), HB9.out⟩
theorem range_map {α β : Type} (l : List α) (d : α) (f : α → β) : (List.range l.length).map (fun i => f (l.getD i d)) = l.map f := by
  apply List.ext_getElem?
  intro i
  by_cases h : i < l.length
  · simp [h, List.getD_eq_getElem?_getD]
  · simp [h]
theorem range_all {α : Type} (l : List α) (d : α) (f : α → Bool) : (List.range l.length).all (fun i => f (l.getD i d)) = l.all f := by
  rw [Bool.eq_iff_iff, List.all_eq_true, List.all_eq_true]
  constructor
  · intro h x hx
    obtain ⟨i, hi⟩ := List.getElem?_of_mem hx
    have := h i (List.mem_range.2 (List.getElem?_eq_some_iff.1 hi).1)
    rw [List.getD_eq_getElem?_getD, hi] at this
    exact this
  · intro h i hi
    have hi := List.mem_range.1 hi
    rw [List.getD_eq_getElem?_getD, List.getElem?_eq_getElem hi]
    exact h _ (List.getElem_mem hi)
theorem getD_some {α : Type} {l : List α} {i : Nat} {d x : α} (h : l[i]? = some x) : l.getD i d = x := by rw [List.getD_eq_getElem?_getD, h]; rfl
theorem lfs_up {S : Nat → Prop} {w : World} {l : List Lf} {A : Option Addr} {c : Nat} (h : LfsV S w l A c) : FdsV S w (l.map upF) A c := by
  unfold FdsV; rw [fdsD_up, List.length_map]; exact h
theorem rep_star_form {S : Nat → Prop} {w : World} {c : UInt8} {cs : List Value} (h : Rep S w (kdD ⟨c, true⟩) cs) : ∃ g o ck, cs = [.int .u8 42, .slice (some ⟨g, o, none⟩) 1 ck] ∧ w.cell? ⟨g, o, none⟩ = some (.int .u8 c.toNat) ∧ w.cell? ⟨g, o + 1, none⟩ = some (.slice none 0 0) := by
  obtain ⟨a, b, rfl, h1, h2⟩ := h.st_form.cons_form
  obtain ⟨c0, d0, rfl, h3, h4⟩ := h2.cons_form
  obtain ⟨A, m, ck, rfl⟩ := h3.slice_form
  obtain ⟨g, o, ci, hA, _, r1, r2, r3⟩ := Rep.slice_at h3 (by omega) (i := 0) (d := plainD c) rfl
  have hm := h3.slice_len.1
  have hci := rep_plain_form r1
  subst hA; subst hm; subst hci
  rw [h1.v_form, h4.nil_form]
  exact ⟨g, o, ck, rfl, by simpa using r3 0 _ rfl, by simpa using r3 1 _ rfl⟩
theorem item_star_any (kc : UInt8) (hkc : okC kc) (f : Fd) (hn : f.n < 18446744073709551616) (hs : ∀ x ∈ f.l, x.1 < 18446744073709551616) (hl : f.l.length ≤ 100000) (s : Int) (A1 : Option Addr) (n1 c1 : Nat) (A : Option Addr) (c : Nat) (w : World)
    (hk : Rep Any w (kdD ⟨kc, true⟩) [.int .u8 s, .slice A1 n1 c1]) (hv : LfsV Any w f.l A c) :
    Calls Try.prog 59 #[.agg #[.int .u8 s, .slice A1 n1 c1], .agg (fdC f A c).toArray] w (FitPost (itemF ⟨kc, true⟩ f) (fitF ⟨kc, true⟩ f) w) := by
  obtain ⟨g, o, ck, hcs, z0, z1⟩ := rep_star_form hk
  simp only [List.cons.injEq, Value.int.injEq, Value.slice.injEq, true_and, and_true] at hcs
  obtain ⟨rfl, rfl, rfl, rfl⟩ := hcs
  obtain ⟨n, b, l⟩ := f
  simp only [] at hn hs hl hv
  obtain ⟨W, hW⟩ : ∃ W, W = ((w.alloc (.cells #[.int .u8 42, .slice (some ⟨g, o, none⟩) 1 c1] 103)).alloc (.cells #[.int .u64 (n : Int), .string (bs b), .slice A l.length c] 72)).alloc (.cells #[.bool false, .string ⟨#[]⟩, .slice none 0 0] 45) := ⟨_, rfl⟩
  have hB : Below w.heap.size w W := by rw [hW]; exact (((Below.refl _ _).alloc (Nat.le_refl _) _).alloc (by simp) _).alloc (by simp; omega) _
  have hit := items_star (l.map upF) (fun i => lfI kc (l.getD i (0, []))) (fun i => fitC kc (l.getD i (0, []))) kc (fun _ => ⟨kc, false⟩) (fun _ => rfl) (some ⟨g, o, none⟩) c1 A c W
    (fun W' hb' => ⟨g, o, rfl, ((hB.trans (hb'.mono hB.size)).cell (p := ⟨g, o, none⟩) (lt_of_cell z0)).trans z0, ((hB.trans (hb'.mono hB.size)).cell (p := ⟨g, o + 1, none⟩) (lt_of_cell z1)).trans z1⟩)
    (Rep.keep (lfs_up hv) hB) (fun i f s A1 n1 c1 A2 c2 W' hf hr hlv => by
      rw [List.getElem?_map] at hf
      obtain ⟨x, hx, rfl⟩ := Option.map_eq_some_iff.1 hf
      have hcs := rep_plain_form (c := kc) hr
      simp only [cellK, List.cons.injEq, Value.int.injEq, Value.slice.injEq, true_and, and_true] at hcs
      obtain ⟨rfl, rfl, rfl, rfl⟩ := hcs
      rw [getD_some hx]
      exact item_plain_any kc hkc x.1 (hs x (List.mem_of_getElem? hx)) x.2 A2 0 c2 W')
  rw [List.length_map, range_map, range_all] at hit
  rw [hW] at hit
  have hx : itemF ⟨kc, true⟩ ⟨n, b, l⟩ = listIt (l.map (lfI kc)) := rfl
  have hf : fitF ⟨kc, true⟩ ⟨n, b, l⟩ = ((n == 0) && b.isEmpty && (decide (l.length ≤ 40) && l.all (fitC kc))) := by simp [fitF, Bool.and_assoc]
  have hnB : ((n : Int) == 0) = (n == 0) := by rw [Bool.eq_iff_iff]; simp only [beq_iff_eq]; omega
  rw [hx, hf]
  obtain ⟨OK, hOK⟩ : ∃ OK, (decide (l.length ≤ 40) && l.all (fitC kc)) = OK := ⟨_, rfl⟩
  rw [hOK] at hit ⊢
  cases hA : (n == 0)
  · cases OK
    · exact item_l000 n b A l.length c (some ⟨g, o, none⟩) c1 _ _ rfl w (by rw [hnB, hA]) hit
    · exact item_l010 n b A l.length c (some ⟨g, o, none⟩) c1 _ _ rfl w (by rw [hnB, hA]) hit
  · cases OK
    · rw [Bool.and_false]; exact item_l100 n b A l.length c (some ⟨g, o, none⟩) c1 _ _ rfl w (by rw [hnB, hA]) hit
    · cases hC : b.isEmpty
      · exact item_l110 n b A l.length c (some ⟨g, o, none⟩) c1 _ _ rfl w (by rw [hnB, hA]) (by cases b <;> simp_all) hit
      · exact item_l111 n b A l.length c (some ⟨g, o, none⟩) c1 _ _ rfl w (by rw [hnB, hA]) (by cases b <;> simp_all) hit
theorem fitem_any (k : Kd) (hkc : okC k.c) (f : Fd) (hn : f.n < 18446744073709551616) (hs : ∀ x ∈ f.l, x.1 < 18446744073709551616) (hl : f.l.length ≤ 100000) (s : Int) (A1 : Option Addr) (n1 c1 : Nat) (A : Option Addr) (c : Nat) (w : World)
    (hk : Rep Any w (kdD k) [.int .u8 s, .slice A1 n1 c1]) (hv : LfsV Any w f.l A c) :
    Calls Try.prog 59 #[.agg #[.int .u8 s, .slice A1 n1 c1], .agg (fdC f A c).toArray] w (FitPost (itemF k f) (fitF k f) w) := by
  obtain ⟨kc, st⟩ := k
  cases st with
  | true => exact item_star_any kc hkc f hn hs hl s A1 n1 c1 A c w hk hv
  | false =>
    have hcs := rep_plain_form (c := kc) hk
    simp only [cellK, List.cons.injEq, Value.int.injEq, Value.slice.injEq, true_and, and_true] at hcs
    obtain ⟨rfl, rfl, rfl, rfl⟩ := hcs
    have := item_plain_any kc hkc f.n hn f.b A f.l.length c w
    have hf : fitF ⟨kc, false⟩ f = ((f.l.length == 0) && fitC kc (f.n, f.b)) := by
      unfold fitF; rw [if_neg (by simp)]; cases f.l <;> simp
    rw [hf]
    exact this
end Go.Proofs.Ytjanaholcjkceaa
