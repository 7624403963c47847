/- The walk of ecclesialaw27.ScriptReads. -/
import Derived.Test.YtggiicbjegmehaaDoorScVh
import Derived.Test.YtggiicbjegmehaaDoorScY
namespace Go.Proofs.YtggiicbjegmehaaDoor
set_option linter.unusedVariables false
set_option linter.unusedSimpArgs false
open Go.RowKit

/-- how a text reads -/
def Res (s : Bytes) (zm zs ze zh : Int) (M : List Dd) (r n : Int) : Prop := (parseP s = (some ⟨zm, zs, ze, zh, M⟩, 0) ∧ r = 0 ∧ n = 0) ∨ (parseP s = (none, n) ∧ zm = 0 ∧ zs = 0 ∧ ze = 0 ∧ zh = 0 ∧ M = [] ∧ r = 250)
theorem parseR_ex {s : Bytes} {v : Value} {w : World} (h : ParseR s v w) : ∃ (zm zs ze zh : Int) (M : List Dd) (A3 : Option Addr) (c3 : Nat) (r n : Int), v = .tuple #[.agg #[.int .i64 zm, .int .i64 zs, .int .u64 ze, .int .u64 zh, .slice A3 M.length c3], .int .i64 r, .int .i64 n] ∧ DdsV Any w M A3 c3 ∧ Hid (Res s zm zs ze zh M r n) := by
  obtain ⟨⟨zm, zs, ze, zh, M⟩, A3, c3, r, n, rfl, hd, hq⟩ := h
  refine ⟨zm, zs, ze, zh, M, A3, c3, r, n, rfl, hd, Lib.hid ?_⟩
  rcases hq with h | ⟨h1, h2, _, _, h5⟩
  · exact .inl h
  · unfold zeroP at h2
    injection h2 with a1 a2 a3 a4 a5
    exact .inr ⟨h1, a1, a2, a3, a4, a5, h5⟩
theorem res_same {s : Bytes} {zm zs ze zh ym ys ye yh : Int} {M N : List Dd} {r n r' n' : Int} (h : Res s zm zs ze zh M r n) (h' : Res s ym ys ye yh N r' n') : zm = ym ∧ zs = ys ∧ ze = ye ∧ zh = yh ∧ M = N ∧ r = r' ∧ n = n' ∧ M.length ≤ 1000000 := by
  rcases h with ⟨h1, h2, h3⟩ | ⟨h1, h2, h3, h4, h5, h6, h7⟩
  · rcases h' with ⟨k1, k2, k3⟩ | ⟨k1, _⟩
    · obtain ⟨_, hok, _, _⟩ := parse_sound h1
      have hl := (headOk_ranges (okP_parts hok).1).2.2.2.2.2.2.2
      simp only [] at hl
      rw [h1] at k1
      have h5 := Option.some.inj (congrArg Prod.fst k1)
      exact ⟨congrArg Pl.many h5, congrArg Pl.set h5, congrArg Pl.ep h5, congrArg Pl.has h5, congrArg Pl.ds h5, by omega, by omega, by omega⟩
    · rw [h1] at k1; cases k1
  · rcases h' with ⟨k1, _⟩ | ⟨k1, k2, k3, k4, k5, k6, k7⟩
    · rw [h1] at k1; cases k1
    · rw [h1] at k1
      have hn : n = n' := congrArg Prod.snd k1
      exact ⟨by omega, by omega, by omega, by omega, by rw [h6, k6], by omega, hn, by rw [h6]; simp⟩

set_option maxRecDepth 100000 in
set_option maxHeartbeats 16000000 in
theorem scriptReads_any (k : Bytes) (hk63 : k.length ≤ 9223372036854775807) (w : World) (he : Env w) :
    Calls Tryd.prog 3 #[.string (bs k)] w fun e w' => e = .returned (.bool true) ∧ Below w.heap.size w w' := by
  obtain ⟨m, hm, hmm⟩ : ∃ m : Nat, min (k.length : Int) 9000 = m ∧ m = min k.length 9000 := ⟨min k.length 9000, by omega, rfl⟩
  have hm1 : (m : Int) ≤ k.length := by omega
  have hk63I : (k.length : Int) ≤ 9223372036854775807 := by omega
  have hkl : (k.take m).length ≤ 9000 := by rw [List.length_take]; omega
  have hA := fun (W : World) (hb : Below w.heap.size w W) => alive_any W (he.keep hb)
  have hP := fun (W : World) (hb : Below w.heap.size w W) => Parse_any (k.take m) (by omega) W (he.keep hb)
  have hR := fun (W : World) (hb : Below w.heap.size w W) => rParse_any (k.take m) (by omega) W (he.keep hb)
  obtain ⟨s, hs⟩ : ∃ s, k.take m = s := ⟨_, rfl⟩
  rw [hs] at hP hR
  have HA := Lib.hid hA
  have HP := Lib.hid hP
  have HR := Lib.hid hR
  have HS := Lib.hid hs
  clear hA hP hR he hmm hs
  go_enter Tryd.func3, Tryd.ntmps3
  go_wp2_with fail
  rw [HS.out]
  refine (HP.out _ (Below.refl _ _)).mono ?_
  rintro e w1 ⟨⟨v, rfl, hv⟩, hb1⟩
  obtain ⟨zm, zs, ze, zh, M, A3, c3, r, n, rfl, hd3, HZ⟩ := parseR_ex hv
  have HB1 := Lib.hid (hb1.alloc hb1.size (.cells #[.int .i64 zm, .int .i64 zs, .int .u64 ze, .int .u64 zh, .slice A3 M.length c3] 25))
  have HX1 := Lib.hid (heap_alloc_new w1 (.cells #[.int .i64 zm, .int .i64 zs, .int .u64 ze, .int .u64 zh, .slice A3 M.length c3] 25))
  have HD1 := Lib.hid (Rep.alloc hd3 (.cells #[.int .i64 zm, .int .i64 zs, .int .u64 ze, .int .u64 zh, .slice A3 M.length c3] 25))
  clear hb1 HP hd3 hv
  go_wp2_with fail
  refine (HR.out _ HB1.out).mono ?_
  rintro e w2 ⟨⟨u, rfl, hu⟩, hb2⟩
  obtain ⟨ym, ys, ye, yh, N, A4, c4, r', n', rfl, hd4, HY⟩ := parseR_ex hu
  obtain ⟨rfl, rfl, rfl, rfl, rfl, rfl, rfl, hML⟩ := res_same HZ.out HY.out
  have hbb := (Below.refl w2.heap.size w2).alloc (Nat.le_refl _) (.cells #[.int .i64 zm, .int .i64 zs, .int .u64 ze, .int .u64 zh, .slice A4 M.length c4] 25)
  have HX2 := Lib.hid ((hbb.block _ (by have := (Array.getElem?_eq_some_iff.1 HX1.out).1; have := hb2.size; omega)).trans ((hb2.block _ (Array.getElem?_eq_some_iff.1 HX1.out).1).trans HX1.out))
  have HY2 := Lib.hid (heap_alloc_new w2 (.cells #[.int .i64 zm, .int .i64 zs, .int .u64 ze, .int .u64 zh, .slice A4 M.length c4] 25))
  have HB2 := Lib.hid (below_call (below_call HB1.out HB1.out.size hb2) (below_call HB1.out HB1.out.size hb2).size hbb)
  have HD2 := Lib.hid (Rep.keep (Rep.keep HD1.out hb2) hbb)
  have HE2 := Lib.hid (Rep.alloc hd4 (.cells #[.int .i64 zm, .int .i64 zs, .int .u64 ze, .int .u64 zh, .slice A4 M.length c4] 25))
  have hLK : ∀ W, DdsV Any W M A3 c3 → DdsV Any W M A4 c4 → Calls Tryd.prog 10 #[.agg #[.int .i64 zm, .int .i64 zs, .int .u64 ze, .int .u64 zh, .slice A3 M.length c3], .agg #[.int .i64 zm, .int .i64 zs, .int .u64 ze, .int .u64 zh, .slice A4 M.length c4]] W fun e w' => e = .returned (.bool true) ∧ Below W.heap.size W w' := fun W h h' => Like_yes ⟨zm, zs, ze, zh, M⟩ hML A3 A4 c3 c4 W h h'
  have HLK := Lib.hid hLK
  clear hbb hb2 hd4 hu HZ HY hLK HX1 HB1 HD1 HR hML
  go_wp2_with fail
  refine (HA.out _ HB2.out).mono ?_
  rintro e w3 ⟨rfl, hb3⟩
  have hX3 := (hb3.block _ (Array.getElem?_eq_some_iff.1 HX2.out).1).trans HX2.out
  have hY3 := (hb3.block _ (Array.getElem?_eq_some_iff.1 HY2.out).1).trans HY2.out
  have HB3 := Lib.hid (below_call HB2.out HB2.out.size hb3)
  have HL3 := Lib.hid (HLK.out _ (Rep.keep HD2.out hb3) (Rep.keep HE2.out hb3))
  have x0 := rc hX3 0 rfl
  have x1 := rc hX3 1 rfl
  have x2 := rc hX3 2 rfl
  have x3 := rc hX3 3 rfl
  have x4 := rc hX3 4 rfl
  have y0 := rc hY3 0 rfl
  have y1 := rc hY3 1 rfl
  have y2 := rc hY3 2 rfl
  have y3 := rc hY3 3 rfl
  have y4 := rc hY3 4 rfl
  clear hb3 hX3 hY3 HX2 HY2 HB2 HD2 HE2 HLK HA
  go_wp2_with fail
  refine HL3.out.mono ?_
  rintro e w4 ⟨rfl, hb4⟩
  have HB4 := Lib.hid (below_call HB3.out HB3.out.size hb4)
  clear hb4 HL3 HB3 x0 x1 x2 x3 x4 y0 y1 y2 y3 y4
  go_wp2_with fail
  go_ret
  exact ⟨rfl, HB4.out⟩
end Go.Proofs.YtggiicbjegmehaaDoor
