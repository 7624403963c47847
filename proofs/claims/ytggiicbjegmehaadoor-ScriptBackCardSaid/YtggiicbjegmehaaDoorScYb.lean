/- The walk of ecclesialaw27.ScriptBack. -/
import Derived.Test.YtggiicbjegmehaaDoorScY
namespace Go.Proofs.YtggiicbjegmehaaDoor
set_option linter.unusedVariables false
set_option linter.unusedSimpArgs false
open Go.RowKit

theorem Parse_ex (s : Bytes) (hs : s.length ≤ 10000000) (w : World) (he : Env w) :
    Calls Tryd.prog 7 #[.string (bs s)] w fun e w' => (∃ (zm zs ze zh : Int) (M : List Dd) (A : Option Addr) (c : Nat) (r n : Int), e = .returned (.tuple #[.agg #[.int .i64 zm, .int .i64 zs, .int .u64 ze, .int .u64 zh, .slice A M.length c], .int .i64 r, .int .i64 n]) ∧ DdsV Any w' M A c ∧
      ((parseP s = (some ⟨zm, zs, ze, zh, M⟩, 0) ∧ r = 0 ∧ n = 0) ∨ (parseP s = (none, n) ∧ zm = 0 ∧ zs = 0 ∧ ze = 0 ∧ zh = 0 ∧ M = [] ∧ A = none ∧ c = 0 ∧ r = 250))) ∧ Below w.heap.size w w' := by
  refine (Parse_any s hs w he).mono ?_
  rintro e w1 ⟨⟨v, rfl, ⟨zm, zs, ze, zh, M⟩, A, c, r, n, rfl, hd, hq⟩, hb⟩
  refine ⟨⟨zm, zs, ze, zh, M, A, c, r, n, rfl, hd, ?_⟩, hb⟩
  rcases hq with h | ⟨h1, h2, h3, h4, h5⟩
  · exact .inl h
  · unfold zeroP at h2
    injection h2 with a1 a2 a3 a4 a5
    exact .inr ⟨h1, a1, a2, a3, a4, a5, h3, h4, h5⟩
theorem ds_ok {p : Pl} (hw : WfP p) (hok : okP p = true) : DsOk p.ds := ⟨hw.ds, fun d hd => by
  have := okD_ranges (List.all_eq_true.1 (okP_parts hok).2 d hd)
  omega⟩

set_option maxRecDepth 100000 in
set_option maxHeartbeats 16000000 in
theorem scriptBack_any (p : Pl) (hw : WfP p) (hp63 : ∀ d ∈ p.ds, d.b.length ≤ 9223372036854775807) (A : Option Addr) (c : Nat) (k : Bytes) (hk63 : k.length ≤ 9223372036854775807) (w : World) (he : Env w) (hv : DdsV Any w p.ds A c) :
    Calls Tryd.prog 5 #[.agg (plC p A c).toArray, .string (bs k)] w fun e w' => e = .returned (.bool true) ∧ Below w.heap.size w w' := by
  obtain ⟨m, hm, hmm⟩ : ∃ m : Nat, min (k.length : Int) 9000 = m ∧ m = min k.length 9000 := ⟨min k.length 9000, by omega, rfl⟩
  have hm1 : (m : Int) ≤ k.length := by omega
  have hk63I : (k.length : Int) ≤ 9223372036854775807 := by omega
  have hkl : (k.take m).length ≤ 9000 := by rw [List.length_take]; omega
  obtain ⟨many, set, ep, has, ds⟩ := p
  have hF : ∀ (W : World), DdsV Any W ds A c → Calls Tryd.prog 11 #[.agg #[.int .i64 many, .int .i64 set, .int .u64 ep, .int .u64 has, .slice A ds.length c]] W fun e w' => (∃ A2 c2, e = .returned (.agg (plC (fewP ⟨many, set, ep, has, ds⟩) A2 c2).toArray) ∧ DdsV (Fresh W.heap.size) w' (fewP ⟨many, set, ep, has, ds⟩).ds A2 c2) ∧ Below W.heap.size W w' := fun W h => few_any ⟨many, set, ep, has, ds⟩ hp63 A c W h
  have hqw := fewP_wf hw
  have hqo := fewP_ok hw
  have hql := fewP_len ⟨many, set, ep, has, ds⟩
  obtain ⟨q, hqe⟩ : ∃ q, fewP ⟨many, set, ep, has, ds⟩ = q := ⟨_, rfl⟩
  rw [hqe] at hF hqw hqo hql
  have hA := fun (W : World) (hb : Below w.heap.size w W) => alive_any W (he.keep hb)
  have hPA := fun (s : Bytes) (hs : s.length ≤ 10000000) (W : World) (hb : Below w.heap.size w W) => Parse_ex s hs W (he.keep hb)
  have hN := fun (h : okP q = false) A2 c2 (W : World) (hd : DdsV Any W q.ds A2 c2) => Print_no q hqw hqo h A2 c2 W hd
  have hY := fun (h : okP q = true) A2 c2 (W : World) (hb : Below w.heap.size w W) (hd : DdsV Any W q.ds A2 c2) => Print_any q hqw hqo h A2 c2 W (he.keep hb) hd
  have hPY := fun (z : Pl) (hw : WfP z) (h : okP z = true) A2 c2 (W : World) (hb : Below w.heap.size w W) (hd : DdsV Any W z.ds A2 c2) => Print_any z hw (ds_ok hw h) h A2 c2 W (he.keep hb) hd
  have hB := (Below.refl w.heap.size w).alloc (Nat.le_refl _) (.cells #[.int .i64 many, .int .i64 set, .int .u64 ep, .int .u64 has, .slice A ds.length c] 25)
  have hv0 := Rep.keep hv hB
  have hXL : w.heap.size < (w.alloc (.cells #[.int .i64 many, .int .i64 set, .int .u64 ep, .int .u64 has, .slice A ds.length c] 25)).heap.size := by simp
  have hX := heap_alloc_new w (.cells #[.int .i64 many, .int .i64 set, .int .u64 ep, .int .u64 has, .slice A ds.length c] 25)
  have hB := hB.drew
  have hv0 : DdsV Any (w.alloc (.cells #[.int .i64 many, .int .i64 set, .int .u64 ep, .int .u64 has, .slice A ds.length c] 25)).drew ds A c := Rep.keep hv0 (Below.refl _ _).drew
  have HF := Lib.hid (hF _ hv0)
  have HN := Lib.hid hN
  have HY := Lib.hid hY
  have HA := Lib.hid hA
  have HPA := Lib.hid hPA
  have HPY := Lib.hid hPY
  have HX := Lib.hid hX
  have HB := Lib.hid hB
  have HXL := Lib.hid hXL
  have HQW := Lib.hid hqw
  clear hF hN hY hA hPA hX hB hv0 hXL hqw hqo hqe he hv hp63 hw hPY hmm
  show Calls _ _ #[.agg #[.int .i64 many, .int .i64 set, .int .u64 ep, .int .u64 has, .slice A ds.length c], .string (bs k)] _ _
  obtain ⟨qm, qs, qe, qh, L⟩ := q
  simp only [] at hql
  have hF1 : Calls Tryd.prog 11 #[.agg #[.int .i64 many, .int .i64 set, .int .u64 ep, .int .u64 has, .slice A ds.length c]] (w.alloc (.cells #[.int .i64 many, .int .i64 set, .int .u64 ep, .int .u64 has, .slice A ds.length c] 25)).drew fun e w' => (∃ A2 c2, e = .returned (.agg #[.int .i64 qm, .int .i64 qs, .int .u64 qe, .int .u64 qh, .slice A2 L.length c2]) ∧ DdsV (Fresh (w.alloc (.cells #[.int .i64 many, .int .i64 set, .int .u64 ep, .int .u64 has, .slice A ds.length c] 25)).drew.heap.size) w' L A2 c2) ∧ Below (w.alloc (.cells #[.int .i64 many, .int .i64 set, .int .u64 ep, .int .u64 has, .slice A ds.length c] 25)).drew.heap.size (w.alloc (.cells #[.int .i64 many, .int .i64 set, .int .u64 ep, .int .u64 has, .slice A ds.length c] 25)).drew w' := HF.out
  have HF := Lib.hid hF1
  clear hF1
  go_enter Tryd.func5, Tryd.ntmps5
  go_wp2_with fail
  have hX : (w.alloc (.cells #[.int .i64 many, .int .i64 set, .int .u64 ep, .int .u64 has, .slice A ds.length c] 25)).drew.heap[w.heap.size]? = _ := HX.out
  refine wp_region_R [(7, fun w' => w'.heap[w.heap.size]? = some (.cells #[.int .i64 many, .int .i64 set, .int .u64 ep, .int .u64 has, .slice A ds.length c] 25 (0, 0)))] (by kernel_rfl) ?_
  refine R_p (i := 2) (v := .string (bs k)) (Meets.here hX Meets.nil) ?_
  refine R_p (i := 3) (v := .string (bs k)) (Meets.here hX Meets.nil) ?_
  refine R_p (i := 4) (v := .int .i64 (k.length : Int)) (Meets.here hX Meets.nil) ?_
  refine R_p (i := 5) (v := .int .i64 (m : Int)) (Meets.here hX Meets.nil) ?_
  refine R_p (i := 6) (v := .string (bs (k.take m))) (Meets.here hX Meets.nil) ?_
  refine R_l (i := 0) (v := .agg #[.int .i64 many, .int .i64 set, .int .u64 ep, .int .u64 has, .slice A ds.length c]) 7 _ List.mem_cons_self rfl (yieldsIf_load_row rfl rfl rfl (fun w' hS => hS) Tryd.underlying25 rfl infoPl) (Meets.here hX Meets.nil) ?_
  refine R_now 1 fun K hK => ?_
  go_simp
  refine (HF.out).mono ?_
  rintro e w1 ⟨⟨A2, c2, rfl, hd⟩, hb1⟩
  replace hX := (hb1.block _ (Array.getElem?_eq_some_iff.1 hX).1).trans hX
  have HB1 := Lib.hid (below_call HB.out HB.out.size hb1)
  clear hb1
  refine hK.out _ _ (Meets.here hX Meets.nil) (fun hMeets => ?_)
  clear hK K hMeets
  refine lay_R ?_
  have HX1 := Lib.hid hX
  have HBS := box_set (a' := .int .i64 qm) (b' := .int .i64 qs) (c' := .int .u64 qe) (d' := .int .u64 qh) (e' := .slice A2 L.length c2) HX1.out HB1.out (Nat.le_refl _)
  have HBX := Lib.hid HBS.1
  have HBB := Lib.hid HBS.2
  have HD := Lib.hid (dds_set5 (a' := .int .i64 qm) (b' := .int .i64 qs) (c' := .int .u64 qe) (d' := .int .u64 qh) (e' := .slice A2 L.length c2) (X := w.heap.size) hd HXL.out)
  clear HBS hd HF HX HB HXL
  have x0 := rc HX1.out 0 rfl
  have fx0 := rf HX1.out 0
  have x1 := rc HX1.out 1 rfl
  have fx1 := rf HX1.out 1
  have x2 := rc HX1.out 2 rfl
  have fx2 := rf HX1.out 2
  have x3 := rc HX1.out 3 rfl
  have fx3 := rf HX1.out 3
  have x4 := rc HX1.out 4 rfl
  have fx4 := rf HX1.out 4
  refine R_now 7 fun K hK => ?_
  go_simp
  show K _ (set5 w1 w.heap.size (.int .i64 qm) (.int .i64 qs) (.int .u64 qe) (.int .u64 qh) (.slice A2 L.length c2))
  refine hK.out _ _ (Meets.past (by rfl) Meets.nil) (fun hMeets => ?_)
  clear hK K hMeets
  refine lay_R ?_
  refine R_p (i := 8) (v := .string (bs (k.take m))) (Meets.past (by rfl) Meets.nil) ?_
  refine R_done (by kernel_rfl) ?_ _
  clear x0 x1 x2 x3 x4 fx0 fx1 fx2 fx3 fx4
  obtain ⟨s, hs⟩ : ∃ s, k.take m = s := ⟨_, rfl⟩
  rw [hs] at hkl ⊢
  generalize (set5 w1 w.heap.size (.int .i64 qm) (.int .i64 qs) (.int .u64 qe) (.int .u64 qh) (.slice A2 L.length c2)) = W1 at HBX HBB HD ⊢
  have y0 := rc HBX.out 0 rfl
  have y1 := rc HBX.out 1 rfl
  have y2 := rc HBX.out 2 rfl
  have y3 := rc HBX.out 3 rfl
  have y4 := rc HBX.out 4 rfl
  cases hok : okP ⟨qm, qs, qe, qh, L⟩
  case' false =>
    have hN1 : Calls Tryd.prog 12 #[.agg #[.int .i64 qm, .int .i64 qs, .int .u64 qe, .int .u64 qh, .slice A2 L.length c2]] W1 fun e w' => e = .returned (.tuple #[.string (bs []), .int .i64 1]) ∧ Below W1.heap.size W1 w' := HN.out hok A2 c2 _ HD.out
    have HN1 := Lib.hid hN1
    clear hN1 HN HY hok
    go_wp2_with fail
    refine HN1.out.mono ?_
    rintro e w6 ⟨rfl, hb6⟩
    have HB6 := Lib.hid (below_call HBB.out HBB.out.size hb6)
    clear hb6 HN1 y0 y1 y2 y3 y4 HX1 HB1 HBX HBB HD HQW
    go_wp2_with fail
  case' true =>
    have hY1 : Calls Tryd.prog 12 #[.agg #[.int .i64 qm, .int .i64 qs, .int .u64 qe, .int .u64 qh, .slice A2 L.length c2]] W1 fun e w' => e = .returned (.tuple #[.string (bs (textP ⟨qm, qs, qe, qh, L⟩)), .int .i64 0]) ∧ Below W1.heap.size W1 w' := HY.out hok A2 c2 _ HBB.out HD.out
    have htl := (text_len HQW.out hok).1
    have hpt := parse_text HQW.out hok
    obtain ⟨T, hT⟩ : ∃ T, textP ⟨qm, qs, qe, qh, L⟩ = T := ⟨_, rfl⟩
    rw [hT] at hY1 htl hpt
    have hPT : ∀ (W : World), Below w.heap.size w W → Calls Tryd.prog 7 #[.string (bs T)] W fun e w' => (∃ A3 c3, e = .returned (.tuple #[.agg #[.int .i64 qm, .int .i64 qs, .int .u64 qe, .int .u64 qh, .slice A3 L.length c3], .int .i64 0, .int .i64 0]) ∧ DdsV Any w' L A3 c3) ∧ Below W.heap.size W w' := fun W hb => by
      refine (HPA.out T (by omega) W hb).mono ?_
      rintro e w' ⟨⟨zm, zs, ze, zh, M, A3, c3, r, n, h1, h2, h3⟩, h4⟩
      rw [hpt] at h3
      rcases h3 with ⟨h3, hr, hn⟩ | ⟨h3, _⟩
      · have h5 : (⟨qm, qs, qe, qh, L⟩ : Pl) = ⟨zm, zs, ze, zh, M⟩ := by
          have := congrArg Prod.fst h3
          exact Option.some.inj this
        have a1 : qm = zm := congrArg Pl.many h5
        have a2 : qs = zs := congrArg Pl.set h5
        have a3 : qe = ze := congrArg Pl.ep h5
        have a4 : qh = zh := congrArg Pl.has h5
        have a5 : L = M := congrArg Pl.ds h5
        rw [a1, a2, a3, a4, a5]
        rw [hr, hn] at h1
        exact ⟨⟨A3, c3, h1, h2⟩, h4⟩
      · cases h3
    have HPT := Lib.hid hPT
    clear hPT
    have hLK : ∀ A2 c2 A3 c3 (W : World), DdsV Any W L A2 c2 → DdsV Any W L A3 c3 → Calls Tryd.prog 10 #[.agg #[.int .i64 qm, .int .i64 qs, .int .u64 qe, .int .u64 qh, .slice A2 L.length c2], .agg #[.int .i64 qm, .int .i64 qs, .int .u64 qe, .int .u64 qh, .slice A3 L.length c3]] W fun e w' => e = .returned (.bool true) ∧ Below W.heap.size W w' := fun A2 c2 A3 c3 W h h' => Like_yes ⟨qm, qs, qe, qh, L⟩ (by simp only []; omega) A2 A3 c2 c3 W h h'
    have HLK := Lib.hid hLK
    have HY1 := Lib.hid hY1
    clear hY1 HN HY hok hLK hT htl hpt
    go_wp2_with fail
    refine HY1.out.mono ?_
    rintro e w2 ⟨rfl, hb2⟩
    have HX2 := Lib.hid ((hb2.block _ (Array.getElem?_eq_some_iff.1 HBX.out).1).trans HBX.out)
    have HB2 := Lib.hid (below_call HBB.out HBB.out.size hb2)
    have HD2 := Lib.hid (Rep.keep HD.out hb2)
    clear hb2 HY1 y0 y1 y2 y3 y4 HX1 HB1 HBX HBB HD HQW
    go_wp2_with fail
    refine (HPT.out _ HB2.out).mono ?_
    rintro e w3 ⟨⟨A3, c3, rfl, hd3⟩, hb3⟩
    have hbb := (Below.refl w3.heap.size w3).alloc (Nat.le_refl _) (.cells #[.int .i64 qm, .int .i64 qs, .int .u64 qe, .int .u64 qh, .slice A3 L.length c3] 25)
    have hXL3 := Nat.lt_of_lt_of_le (Array.getElem?_eq_some_iff.1 HX2.out).1 hb3.size
    have hX3 := (hb3.block _ (Array.getElem?_eq_some_iff.1 HX2.out).1).trans HX2.out
    have y0 := rc hX3 0 rfl
    have y1 := rc hX3 1 rfl
    have y2 := rc hX3 2 rfl
    have y3 := rc hX3 3 rfl
    have y4 := rc hX3 4 rfl
    have HB3 := Lib.hid (below_call (below_call HB2.out HB2.out.size hb3) (below_call HB2.out HB2.out.size hb3).size hbb)
    have HL3 := Lib.hid (HLK.out A2 c2 A3 c3 _ (Rep.keep (Rep.keep HD2.out hb3) hbb) (Rep.keep hd3 hbb))
    clear hb3 hbb hX3 hd3 HPT HLK HX2 HB2 HD2
    go_wp2_with fail
    refine HL3.out.mono ?_
    rintro e w6 ⟨rfl, hb6⟩
    have HB6 := Lib.hid (below_call HB3.out HB3.out.size hb6)
    clear hb6 HL3 HB3 y0 y1 y2 y3 y4 hXL3
    go_wp2_with fail
  all_goals (
    refine (HPA.out s (by omega) _ HB6.out).mono ?_
    rintro e w7 ⟨⟨zm, zs, ze, zh, M, A7, c7, r7, n7, rfl, hd7, hz⟩, hb7⟩
    have HB7 := Lib.hid ((below_call HB6.out HB6.out.size hb7).alloc (below_call HB6.out HB6.out.size hb7).size (.cells #[.int .i64 zm, .int .i64 zs, .int .u64 ze, .int .u64 zh, .slice A7 M.length c7] 25))
    have HX7 := Lib.hid (heap_alloc_new w7 (.cells #[.int .i64 zm, .int .i64 zs, .int .u64 ze, .int .u64 zh, .slice A7 M.length c7] 25))
    have HD7 := Lib.hid (Rep.alloc hd7 (.cells #[.int .i64 zm, .int .i64 zs, .int .u64 ze, .int .u64 zh, .slice A7 M.length c7] 25))
    clear hb7 hd7 HB6 HPA
    rcases hz with ⟨hz, rfl, rfl⟩ | ⟨hz, rfl, rfl, rfl, rfl, rfl, rfl, rfl, rfl⟩
    · obtain ⟨_, hzo, hzw, hzt⟩ := parse_sound hz
      have hPZ : Calls Tryd.prog 12 #[.agg #[.int .i64 zm, .int .i64 zs, .int .u64 ze, .int .u64 zh, .slice A7 M.length c7]] (w7.alloc (.cells #[.int .i64 zm, .int .i64 zs, .int .u64 ze, .int .u64 zh, .slice A7 M.length c7] 25)) fun e w' => e = .returned (.tuple #[.string (bs (textP ⟨zm, zs, ze, zh, M⟩)), .int .i64 0]) ∧ Below (w7.alloc (.cells #[.int .i64 zm, .int .i64 zs, .int .u64 ze, .int .u64 zh, .slice A7 M.length c7] 25)).heap.size (w7.alloc (.cells #[.int .i64 zm, .int .i64 zs, .int .u64 ze, .int .u64 zh, .slice A7 M.length c7] 25)) w' := HPY.out ⟨zm, zs, ze, zh, M⟩ hzw hzo A7 c7 _ HB7.out HD7.out
      rw [hzt] at hPZ
      have hRZ : ∀ W, DdsV Any W M A7 c7 → Calls Tryd.prog 14 #[.agg #[.int .i64 zm, .int .i64 zs, .int .u64 ze, .int .u64 zh, .slice A7 M.length c7]] W fun e w' => e = .returned (.bool true) ∧ Below W.heap.size W w' := fun W h => by
        have := RightP_any ⟨zm, zs, ze, zh, M⟩ hzw (ds_ok hzw hzo) A7 c7 W h
        rw [hzo] at this
        exact this
      have HPZ := Lib.hid hPZ
      have HRZ := Lib.hid hRZ
      clear hPZ hRZ hz hzo hzw hzt HPY
      go_wp2_with fail
      refine HPZ.out.mono ?_
      rintro e w8 ⟨rfl, hb8⟩
      have HX8 := Lib.hid ((hb8.block _ (Array.getElem?_eq_some_iff.1 HX7.out).1).trans HX7.out)
      have HB8 := Lib.hid (below_call HB7.out HB7.out.size hb8)
      have HD8 := Lib.hid (Rep.keep HD7.out hb8)
      clear hb8 HX7 HB7 HD7 HPZ
      go_wp2_with fail
      refine (HA.out _ HB8.out).mono ?_
      rintro e w9 ⟨rfl, hb9⟩
      have hX9 := (hb9.block _ (Array.getElem?_eq_some_iff.1 HX8.out).1).trans HX8.out
      have HB9 := Lib.hid (below_call HB8.out HB8.out.size hb9)
      have HR9 := Lib.hid (HRZ.out _ (Rep.keep HD8.out hb9))
      have z0 := rc hX9 0 rfl
      have z1 := rc hX9 1 rfl
      have z2 := rc hX9 2 rfl
      have z3 := rc hX9 3 rfl
      have z4 := rc hX9 4 rfl
      clear hb9 hX9 HX8 HB8 HD8 HA HRZ
      go_wp2_with fail
      refine HR9.out.mono ?_
      rintro e w10 ⟨rfl, hb10⟩
      have HB10 := Lib.hid (below_call HB9.out HB9.out.size hb10)
      clear hb10 z0 z1 z2 z3 z4 HR9 HB9
      go_wp2_with fail
      go_ret
      exact ⟨rfl, HB10.out⟩
    · have hL0 : ∀ W, Calls Tryd.prog 10 #[.agg #[.int .i64 0, .int .i64 0, .int .u64 0, .int .u64 0, .slice none 0 0], .agg #[.int .i64 0, .int .i64 0, .int .u64 0, .int .u64 0, .slice none 0 0]] W fun e w' => e = .returned (.bool true) ∧ Below W.heap.size W w' := fun W => Like_yes zeroP (by simp [zeroP]) none none 0 0 W (Rep.nil_slice 8) (Rep.nil_slice 8)
      have HL0 := Lib.hid hL0
      clear hL0 hz HPY HD7
      go_wp2_with fail
      refine (HA.out _ HB7.out).mono ?_
      rintro e w8 ⟨rfl, hb8⟩
      have hX8 := (hb8.block _ (Array.getElem?_eq_some_iff.1 HX7.out).1).trans HX7.out
      have HB8 := Lib.hid (below_call HB7.out HB7.out.size hb8)
      have z0 := rc hX8 0 rfl
      have z1 := rc hX8 1 rfl
      have z2 := rc hX8 2 rfl
      have z3 := rc hX8 3 rfl
      have z4 := rc hX8 4 rfl
      clear hb8 hX8 HX7 HB7 HA
      go_wp2_with fail
      refine (HL0.out _).mono ?_
      rintro e w9 ⟨rfl, hb9⟩
      have HB9 := Lib.hid (below_call HB8.out HB8.out.size hb9)
      clear hb9 z0 z1 z2 z3 z4 HL0 HB8
      go_wp2_with fail
      go_ret
      exact ⟨rfl, HB9.out⟩)
end Go.Proofs.YtggiicbjegmehaaDoor
