/- The walk of ecclesiaref08.Read. -/
import Derived.Test.YtggiicbjegmehaaRlpI
import Derived.Test.YtggiicbjegmehaaRlpH
namespace Go.Proofs.Ytggiicbjegmehaa
set_option linter.unusedVariables false
set_option linter.unusedSimpArgs false
open Go.RowKit

/-- what Read says of a text -/
def RdPost (s : Bytes) (w : World) (e : Ending) (w' : World) : Prop :=
  Below w.heap.size w w' ∧ ∃ (ok : Bool) (x : Item) (A : Option Addr) (c n : Nat),
    e = .returned (.tuple #[.agg #[.bool x.l, .string (bs x.b), .slice A x.ks.length c], .int .i64 n, .bool ok]) ∧ ItemV (Fresh w.heap.size) w' x A c ∧
    (ok = true → 1 ≤ n ∧ n ≤ s.length ∧ pureP x = true ∧ (writeP x).length ≤ 4 * n) ∧
    (∀ y r, pureP y = true → s = writeP y ++ r → ok = true ∧ x = y ∧ n = (writeP y).length)

/-- the head of an item that is written, by size -/
theorem item_size {s : Bytes} {y : Item} {r : Bytes} (hs : s.length < 65536) (hy : pureP y = true) (e : s = writeP y ++ r) :
    ∃ H L : Nat, sizeP s = ((H : Int), (L : Int)) ∧ H + L = (writeP y).length ∧ H + L ≤ s.length ∧ (y.l = true → L = (writesP y.ks).length ∧ s.drop H = writesP y.ks ++ r ∧ 192 ≤ (s.headD 0).toNat) ∧
      (y.l = false → L = y.b.length ∧ s.drop H = y.b ++ r ∧ (s.headD 0).toNat < 192) := by
  subst e
  have hl : (writeP y).length < 65536 := by rw [List.length_append] at hs; omega
  rw [List.length_append]
  rcases cutP_write hy hl r with ⟨h0, H, e, e2, e3⟩ | ⟨h0, c, h1, h2, e, e2⟩ | ⟨h0, h1, H, h2, e, e2, e3⟩
  · obtain ⟨z, _, c, t, hc, hd⟩ := sizeP_cut e
    refine ⟨H, (writesP y.ks).length, by rw [z, Prod.mk.injEq]; exact ⟨rfl, by omega⟩, e2, by omega, fun _ => ⟨rfl, e3, ?_⟩, (fun h => by rw [h0] at h; cases h)⟩
    rw [hc]; exact of_decide_eq_true hd.symm
  · obtain ⟨z, _, c', t, hc, hd⟩ := sizeP_cut e
    refine ⟨0, 1, by rw [z]; rfl, by rw [e2]; rfl, by rw [e2]; simp, (fun h => by rw [h0] at h; cases h), fun _ => ⟨by rw [h1]; rfl, by rw [e2, h1]; rfl, ?_⟩⟩
    rw [hc]; have := of_decide_eq_false hd.symm; simp only [List.headD_cons]; omega
  · obtain ⟨z, _, c', t, hc, hd⟩ := sizeP_cut e
    refine ⟨H, y.b.length, by rw [z, Prod.mk.injEq]; exact ⟨rfl, by omega⟩, e2, by omega, (fun h => by rw [h0] at h; cases h), fun _ => ⟨rfl, e3, ?_⟩⟩
    rw [hc]; have := of_decide_eq_false hd.symm; simp only [List.headD_cons]; omega
theorem noItem_size {s : Bytes} {z : Int × Int} (hs : s.length < 65536) (h : sizeP s = z) (hz : z.1 < 0 ∨ (s.length : Int) < z.1 + z.2) : NoItem s := by
  intro x r hx e
  obtain ⟨H, L, e1, e2, e3, _⟩ := item_size hs hx e
  rw [h] at e1
  subst e1
  simp only [] at hz
  omega

theorem rd_zero {s : Bytes} {w W : World} (hb : Below w.heap.size w W) (h : NoItem s) :
    RdPost s w (.returned (.tuple #[.agg #[.bool false, .string (bs []), .slice none 0 0], .int .i64 0, .bool false])) W :=
  ⟨hb, false, zeroI, none, 0, 0, rfl, ItemV.leaf _ _, (fun h => nomatch h), fun y r hy e => absurd e (h y r hy)⟩

theorem rd_ret {x : Item} {A : Option Addr} {c : Nat} {m : Int} {n : Nat} (h : m = n) : Ending.returned (.tuple #[.agg #[.bool x.l, .string (bs x.b), .slice A x.ks.length c], .int .i64 m, .bool true]) =
    Ending.returned (.tuple #[.agg #[.bool x.l, .string (bs x.b), .slice A x.ks.length c], .int .i64 n, .bool true]) := by rw [h]

theorem rd_leaf {s : Bytes} {w W : World} {bi fi : Int} (hs : s.length < 65536) (hz : sizeP s = (bi, fi)) (h0 : 0 ≤ bi) (h1 : 0 ≤ fi) (h2 : 1 ≤ bi + fi) (h3 : bi + fi ≤ s.length) (h4 : bi = 0 → fi = 1 ∧ (s.headD 0).toNat < 128)
    (h5 : (s.headD 0).toNat < 192) (hb : Below w.heap.size w W) :
    RdPost s w (.returned (.tuple #[.agg #[.bool false, .string (bs ((s.drop bi.toNat).take ((bi + fi).toNat - bi.toNat))), .slice none 0 0], .int .i64 (bi + fi), .bool true])) W := by
  have hlen : ((s.drop bi.toNat).take ((bi + fi).toNat - bi.toNat)).length = fi.toNat := by rw [List.length_take, List.length_drop]; omega
  refine ⟨hb, true, .mk false ((s.drop bi.toNat).take ((bi + fi).toNat - bi.toNat)) [], none, 0, (bi + fi).toNat, rd_ret (x := .mk false _ []) (by omega), ItemV.leaf _ _, fun _ => ⟨by omega, by omega, by simp [pureP, puresP], ?_⟩, fun y r hy e => ?_⟩
  · simp only [writeP]
    split
    · omega
    · rename_i hn
      rw [List.length_append]
      have := headP_len_le 128 ((s.drop bi.toNat).take ((bi + fi).toNat - bi.toNat)).length (by omega)
      by_cases hb0 : bi = 0
      · exfalso
        obtain ⟨hf1, hc⟩ := h4 hb0
        subst hb0 hf1
        apply hn
        cases s with
        | nil => simp at h3
        | cons c s => exact ⟨rfl, hc⟩
      · omega
  · obtain ⟨H, L, e1, e2, e3, e4, e5⟩ := item_size hs hy e
    rw [hz] at e1
    obtain ⟨rfl, rfl⟩ := Prod.mk.inj e1
    have hl : y.l = false := by
      cases hyl : y.l with
      | false => rfl
      | true => have := (e4 hyl).2.2; omega
    obtain ⟨e6, e7, _⟩ := e5 hl
    have hk := pureP_leaf hy hl
    refine ⟨rfl, ?_, by omega⟩
    rw [show ((H : Int)).toNat = H by omega, e7, List.take_left' (by omega), ← hk, ← hl]
    exact y.eta

/-- how far the reading of a list has come -/
def RdLoop (s : Bytes) (bi ei : Int) (a : Int) (ks : List Item) : Prop :=
  puresP ks = true ∧ (writesP ks).length ≤ 4 * (a - bi).toNat ∧
  ∀ y r, pureP y = true → s = writeP y ++ r → y.l = true ∧ ∃ todo, y.ks = ks ++ todo ∧ (s.drop a.toNat).take (ei.toNat - a.toNat) = writesP todo

theorem rdLoop_start {s : Bytes} {bi fi : Int} (hs : s.length < 65536) (hz : sizeP s = (bi, fi)) (h0 : 0 ≤ bi) (h1 : 0 ≤ fi) (h5 : 192 ≤ (s.headD 0).toNat) : RdLoop s bi (bi + fi) bi [] := by
  refine ⟨rfl, by simp [writesP], fun y r hy e => ?_⟩
  obtain ⟨H, L, e1, e2, e3, e4, e5⟩ := item_size hs hy e
  rw [hz] at e1
  obtain ⟨rfl, rfl⟩ := Prod.mk.inj e1
  have hl : y.l = true := by
    cases hyl : y.l with
    | true => rfl
    | false => have := (e5 hyl).2.2; omega
  obtain ⟨e6, e7, _⟩ := e4 hl
  refine ⟨hl, y.ks, rfl, ?_⟩
  rw [show ((H : Int)).toNat = H by omega, e7, List.take_left' (by omega)]

theorem rdLoop_step {s : Bytes} {bi ei a : Int} {ks : List Item} {x : Item} {n : Nat} {ok : Bool} (hs : s.length < 65536) (h : RdLoop s bi ei a ks) (ha : bi ≤ a) (h0 : 0 ≤ bi) (hae : a < ei) (hei : ei ≤ s.length)
    (h1 : ok = true → 1 ≤ n ∧ n ≤ ((s.drop a.toNat).take (ei.toNat - a.toNat)).length ∧ pureP x = true ∧ (writeP x).length ≤ 4 * n)
    (h2 : ∀ y r, pureP y = true → (s.drop a.toNat).take (ei.toNat - a.toNat) = writeP y ++ r → ok = true ∧ x = y ∧ n = (writeP y).length) :
    (ok = true → RdLoop s bi ei (a + n) (ks ++ [x])) ∧ (ok = false → NoItem s) := by
  obtain ⟨g1, g2, g3⟩ := h
  have hlen : ((s.drop a.toNat).take (ei.toNat - a.toNat)).length = ei.toNat - a.toNat := by rw [List.length_take, List.length_drop]; omega
  have key : ∀ y r, pureP y = true → s = writeP y ++ r → y.l = true ∧ ∃ k todo, y.ks = ks ++ k :: todo ∧ (s.drop a.toNat).take (ei.toNat - a.toNat) = writeP k ++ writesP todo ∧ pureP k = true := by
    intro y r hy e
    obtain ⟨hl, todo, e1, e2⟩ := g3 y r hy e
    cases todo with
    | nil => rw [e2] at hlen; simp [writesP] at hlen; omega
    | cons k todo =>
      refine ⟨hl, k, todo, e1, e2, pureP_mem (x := y) (i := ks.length) hy (by rw [e1]; simp)⟩
  refine ⟨fun ho => ?_, fun ho y r hy e => ?_⟩
  · obtain ⟨f1, f2, f3, f4⟩ := h1 ho
    refine ⟨by rw [puresP_append, g1]; simp [puresP, f3], ?_, fun y r hy e => ?_⟩
    · rw [writesP_append, List.length_append]
      simp only [writesP, List.append_nil]
      omega
    · obtain ⟨hl, k, todo, e1, e2, hk⟩ := key y r hy e
      obtain ⟨_, rfl, hn⟩ := h2 k _ hk e2
      refine ⟨hl, todo, by rw [e1]; simp, ?_⟩
      have e3 := congrArg (List.drop n) e2
      rw [List.drop_left' hn.symm, List.drop_take, List.drop_drop] at e3
      rw [← e3, show (a + (n : Int)).toNat = a.toNat + n by omega, show ei.toNat - a.toNat - n = ei.toNat - (a.toNat + n) by omega]
  · obtain ⟨hl, k, todo, e1, e2, hk⟩ := key y r hy e
    have := (h2 k _ hk e2).1
    rw [ho] at this; cases this

theorem rd_list {s : Bytes} {w W : World} {bi fi : Int} {ks : List Item} {A : Option Addr} {c : Nat} (hs : s.length < 65536) (hz : sizeP s = (bi, fi)) (h0 : 1 ≤ bi) (h1 : 0 ≤ fi) (h3 : bi + fi ≤ s.length)
    (h : RdLoop s bi (bi + fi) (bi + fi) ks) (hb : Below w.heap.size w W) (hw : (writesP ks).length < 65536) (hv : ItemV (Fresh w.heap.size) W (.mk true [] ks) A c) :
    RdPost s w (.returned (.tuple #[.agg #[.bool true, .string (bs []), .slice A ks.length c], .int .i64 (bi + fi), .bool true])) W := by
  obtain ⟨g1, g2, g3⟩ := h
  refine ⟨hb, true, .mk true [] ks, A, c, (bi + fi).toNat, rd_ret (x := .mk true [] ks) (by omega), hv, fun _ => ⟨by omega, by omega, by simp [pureP, g1], ?_⟩, fun y r hy e => ?_⟩
  · simp only [writeP, List.length_append]
    have := headP_len_le 192 (writesP ks).length hw
    omega
  · obtain ⟨hl, todo, e1, e2⟩ := g3 y r hy e
    obtain ⟨H, L, e3, e4, _⟩ := item_size hs hy e
    rw [hz] at e3
    obtain ⟨rfl, rfl⟩ := Prod.mk.inj e3
    cases todo with
    | cons k todo =>
      have := congrArg List.length e2
      have h2 := writeP_len k
      simp only [writesP, List.length_append, List.length_take] at this
      omega
    | nil =>
      rw [List.append_nil] at e1
      refine ⟨rfl, ?_, by omega⟩
      rw [← e1, ← pureP_list hy hl, ← hl]
      exact y.eta

set_option maxHeartbeats 1000000 in
theorem Read_any (N : Nat) : ∀ (s : Bytes) (w : World), s.length < N → s.length ≤ 4100 →
    Calls Try.prog 52 #[.string (bs s)] w (RdPost s w) := by
  induction N with
  | zero => intro s w hN; omega
  | succ N ih =>
    intro s w hN hM
    cases s with
    | nil =>
      go_enter Try.func52, Try.ntmps52
      go_wp2_with fail
      refine bodyPost_ret (v := .tuple #[.agg #[.bool false, .string (bs []), .slice none 0 0], .int .i64 0, .bool false]) (by simp [results, Try.results52, go_sem]; rfl) rfl ?_
      exact rd_zero ((Below.refl _ _).alloc (Nat.le_refl _) _) (noItem_cut (by simp) rfl)
    | cons c0 t0 =>
      go_enter Try.func52, Try.ntmps52
      go_wp2_with fail
      refine (size_any c0 t0 _ (by simp at hM; omega)).mono ?_
      rintro e w1 ⟨rfl, hb1⟩
      have hw := below_box (hb1.mono (by simp))
      have hb1s := hb1.size
      simp at hb1s
      obtain ⟨q1, q2⟩ := bcell hb1
      have r0 : w1.cell? ⟨w.heap.size, 0, none⟩ = some (.bool false) := by rw [q1 _ _ (by simp)]; simp
      have r1 : w1.cell? ⟨w.heap.size, 1, none⟩ = some (.string ⟨#[]⟩) := by rw [q1 _ _ (by simp)]; simp
      have r2 : w1.cell? ⟨w.heap.size, 2, none⟩ = some (.slice none 0 0) := by rw [q1 _ _ (by simp)]; simp
      have rf : ∀ o, w1.frozen? ⟨w.heap.size, o, none⟩ = false := fun o => by rw [q2 _ _ (by simp)]; simp
      clear q1 q2 hb1
      have HN := Lib.hid (And.intro hN hM)
      have hM' : (t0.length : Int) ≤ 4099 := by simp only [List.length_cons] at hM; omega
      have hs : (c0 :: t0).length < 65536 := by omega
      clear hN hM
      have hz := sizeP_le c0 t0
      generalize hz2 : sizeP (c0 :: t0) = z at *
      obtain ⟨bi, fi⟩ := z
      simp only [] at hz ⊢
      rcases hz with hz | ⟨hz0, hz1, hz3, hz4, hz5, hz6⟩
      · have hno := noItem_size hs hz2 (.inl (by rw [hz]; decide))
        obtain ⟨rfl, rfl⟩ := Prod.mk.inj hz
        clear hz hz2 hs
        go_wp2_with fail
        refine bodyPost_ret (v := .tuple #[.agg #[.bool false, .string (bs []), .slice none 0 0], .int .i64 0, .bool false]) (by simp [results, Try.results52, go_sem, r0, r1, r2]; rfl) rfl ?_
        exact rd_zero ((((hw.setCell (p := ⟨w.heap.size, 0, none⟩) (Nat.le_refl _) _).setCell (p := ⟨w.heap.size, 1, none⟩) (Nat.le_refl _) _).setCell (p := ⟨w.heap.size, 2, none⟩) (Nat.le_refl _) _)) hno
      · have hz7 : bi ≤ bi + fi := by omega
        have hd0 : decide (bi < 0) = false := by rw [decide_eq_false_iff_not]; omega
        by_cases hlt : (t0.length : Int) + 1 < bi + fi
        · have hno := noItem_size hs hz2 (.inr (by simp only [List.length_cons]; omega))
          clear hz2 hz6 hs
          go_wp2_with fail
          refine bodyPost_ret (v := .tuple #[.agg #[.bool false, .string (bs []), .slice none 0 0], .int .i64 0, .bool false]) (by simp [results, Try.results52, go_sem, r0, r1, r2]; rfl) rfl ?_
          exact rd_zero ((((hw.setCell (p := ⟨w.heap.size, 0, none⟩) (Nat.le_refl _) _).setCell (p := ⟨w.heap.size, 1, none⟩) (Nat.le_refl _) _).setCell (p := ⟨w.heap.size, 2, none⟩) (Nat.le_refl _) _)) hno
        · have Hz := Lib.hid (And.intro hz2 hz6)
          clear hz2 hz6 hs
          have hd1 : decide ((t0.length : Int) + 1 < bi + fi) = false := by rw [decide_eq_false_iff_not]; exact hlt
          by_cases hle : (c0.toNat : Int) < 192
          · go_wp2_with fail
            have hz := Hz.out
            have hN := HN.out
            have hbd := fun (W : World) (hW : Below w.heap.size w W) => rd_leaf (s := c0 :: t0) (w := w) (W := W) (by omega) hz.1 hz0 hz1 hz3 (by simp only [List.length_cons]; omega) hz.2 (by simp only [List.headD_cons]; omega) hW
            generalize (List.take ((bi + fi).toNat - bi.toNat) (List.drop bi.toNat (c0 :: t0))) = body at *
            refine bodyPost_ret (v := .tuple #[.agg #[.bool false, .string (bs body), .slice none 0 0], .int .i64 (bi + fi), .bool true]) (by simp [results, Try.results52, go_sem, r0, r1, r2]) rfl ?_
            exact hbd _ (((hw.setCell (p := ⟨w.heap.size, 0, none⟩) (Nat.le_refl _) _).setCell (p := ⟨w.heap.size, 1, none⟩) (Nat.le_refl _) _).setCell (p := ⟨w.heap.size, 2, none⟩) (Nat.le_refl _) _)
          · go_wp2_with fail
            have hl1 : 1 ≤ bi := by
              rcases Int.lt_or_le 0 bi with h | h
              · omega
              · have := (Hz.out.2 (by omega)).2; omega
            have hstart := rdLoop_start (s := c0 :: t0) (by have := HN.out.2; omega) Hz.out.1 hz0 hz1 (by simp only [List.headD_cons]; omega)
            have Hst := Lib.hid hstart
            clear hstart hle hd1 hd0 hz3 hz4
            go_loopw [8] (fun a wr => ∃ (ai : Int) (ks : List Item) (xs : List Value) (v : Value), a = .int .i64 ai ∧ bi ≤ ai ∧ ai ≤ bi + fi ∧ Hid (RdLoop (c0 :: t0) bi (bi + fi) ai ks) ∧ wr.heap[w1.heap.size]? = some (.cells #[.bool true, .string ⟨#[]⟩, v] 49 (0, 0)) ∧
                wr.ownsRow (w1.heap.size + 1) 49 3 v ks.length xs ∧ RepN (RowS (w1.heap.size + 1) v) wr 3 (itemsD ks) xs ∧ Below w1.heap.size w1 wr)
              (fun a _ => (bi + fi - intOf a).toNat)
            case atStart => exact ⟨bi, [], [], .slice none 0 0, rfl, Int.le_refl _, hz7, Hst, heap_alloc_new w1 _, World.ownsRow_nil _ _ _ _, .nil, (Below.refl _ _).alloc (Nat.le_refl _) _⟩
            case round =>
              obtain ⟨ai, ks, xs, v, rfl, ha1, ha2, HL, hbx, hown, hr, hb⟩ := hrel
              obtain ⟨A, c, rfl⟩ := own_form hown
              have hbs := hb.size
              have hlt1 : w.heap.size < w1.heap.size := lt_of_cell r0
              obtain ⟨q1, q2⟩ := bcell hb
              have s0 : wr.cell? ⟨w.heap.size, 0, none⟩ = some (.bool false) := by rw [q1 _ _ hlt1]; exact r0
              have s1 : wr.cell? ⟨w.heap.size, 1, none⟩ = some (.string ⟨#[]⟩) := by rw [q1 _ _ hlt1]; exact r1
              have s2 : wr.cell? ⟨w.heap.size, 2, none⟩ = some (.slice none 0 0) := by rw [q1 _ _ hlt1]; exact r2
              have sf : ∀ o, wr.frozen? ⟨w.heap.size, o, none⟩ = false := fun o => by rw [q2 _ _ hlt1]; exact rf o
              have x0 : wr.cell? ⟨w1.heap.size, 0, none⟩ = some (.bool true) := by rw [cell_of_row _ _ 0 _ _ _ hbx]; rfl
              have x1 : wr.cell? ⟨w1.heap.size, 1, none⟩ = some (.string ⟨#[]⟩) := by rw [cell_of_row _ _ 1 _ _ _ hbx]; rfl
              have x2 : wr.cell? ⟨w1.heap.size, 2, none⟩ = some (.slice A ks.length c) := by rw [cell_of_row _ _ 2 _ _ _ hbx]; rfl
              have xf : ∀ o, wr.frozen? ⟨w1.heap.size, o, none⟩ = false := fun o => by simp [World.frozen?, hbx]
              clear q1 q2 r0 r1 r2 rf
              have Hbx := Lib.hid hbx
              clear hbx
              by_cases hne : ai = bi + fi
              · have hni : ¬ ai < bi + fi := by omega
                go_wp2_with fail
                have hHL := HL.out
                rw [hne] at hHL
                refine bodyPost_ret (v := .tuple #[.agg #[.bool true, .string (bs []), .slice A ks.length c], .int .i64 (bi + fi), .bool true]) (by simp [results, Try.results52, go_sem, s0, s1, s2]; rfl) rfl ?_
                refine rd_list (s := c0 :: t0) (by have := HN.out.2; omega) Hz.out.1 hl1 hz1 (by simp only [List.length_cons]; omega) hHL (((((hw.trans (hb.mono (by omega))).setCell (p := ⟨w.heap.size, 0, none⟩) (Nat.le_refl _) _).setCell (p := ⟨w.heap.size, 1, none⟩) (Nat.le_refl _) _).setCell (p := ⟨w.heap.size, 2, none⟩) (Nat.le_refl _) _)) (by have := hHL.2.1; omega) ?_
                have h1 : Rep (Fresh (w1.heap.size + 1)) wr (.sl 3 (itemsD ks)) [.slice A ks.length c] := rep_own hown (hr.mono fun b _ hs => ⟨hs.1, rfl⟩) (itemsD_len ks) (fun g hg _ => hg)
                refine itemV_mk (h1.mono fun b hlt hs => ⟨?_, ?_⟩)
                · have : w1.heap.size + 1 ≤ b := hs
                  show w.heap.size ≤ b
                  omega
                · have : w1.heap.size + 1 ≤ b := hs
                  rw [Below.heap_setCell _ _ _ _ (by show b ≠ w.heap.size; omega), Below.heap_setCell _ _ _ _ (by show b ≠ w.heap.size; omega), Below.heap_setCell _ _ _ _ (by show b ≠ w.heap.size; omega)]
              · have hni : ai < bi + fi := by omega
                have ha0 : 0 ≤ ai := by omega
                clear hne
                go_wp2_with fail
                have hs65 : (c0 :: t0).length < 65536 := by have := HN.out.2; omega
                have hei : bi + fi ≤ (c0 :: t0).length := by simp only [List.length_cons]; omega
                have hpl : (List.take ((bi + fi).toNat - ai.toNat) (List.drop ai.toNat (c0 :: t0))).length = (bi + fi).toNat - ai.toNat := by rw [List.length_take, List.length_drop]; omega
                refine (ih _ wr (by have := HN.out.1; omega) (by have := HN.out.2; omega)).mono ?_
                rintro e w3 ⟨hb3, ok, x, A', c', n, rfl, hvx, hp1, hp2⟩
                have hstep := rdLoop_step (ok := ok) hs65 HL.out ha1 hz0 hni hei hp1 hp2
                clear hs65 hei
                have hb3s := hb3.size
                obtain ⟨q1, q2⟩ := bcell hb3
                have hxl : w1.heap.size < wr.heap.size := lt_of_cell x0
                have hrl : w.heap.size < wr.heap.size := lt_of_cell s0
                cases ok with
                | false =>
                  have hno := hstep.2 rfl
                  have y0 := (q1 _ _ hrl).trans s0
                  have y1 := (q1 _ _ hrl).trans s1
                  have y2 := (q1 _ _ hrl).trans s2
                  have yf : ∀ o, w3.frozen? ⟨w.heap.size, o, none⟩ = false := fun o => (q2 _ _ hrl).trans (sf o)
                  have z0 := ca y0 (.cells #[.bool x.l, .string (bs x.b), .slice A' x.ks.length c'] 49)
                  have z1 := ca y1 (.cells #[.bool x.l, .string (bs x.b), .slice A' x.ks.length c'] 49)
                  have z2 := ca y2 (.cells #[.bool x.l, .string (bs x.b), .slice A' x.ks.length c'] 49)
                  have zf0 := fa (lt_of_cell y0) (yf 0) (.cells #[.bool x.l, .string (bs x.b), .slice A' x.ks.length c'] 49)
                  have zf1 := fa (lt_of_cell y0) (yf 1) (.cells #[.bool x.l, .string (bs x.b), .slice A' x.ks.length c'] 49)
                  have zf2 := fa (lt_of_cell y0) (yf 2) (.cells #[.bool x.l, .string (bs x.b), .slice A' x.ks.length c'] 49)
                  have hw3 : Below w.heap.size w w3 := (hw.trans (hb.mono (by omega))).trans (hb3.mono (by omega))
                  clear q1 q2 s0 s1 s2 sf x0 x1 x2 xf hpl hstep hp1 hp2
                  go_wp2_with fail
                  refine bodyPost_ret (v := .tuple #[.agg #[.bool false, .string (bs []), .slice none 0 0], .int .i64 0, .bool false]) (by simp [results, Try.results52, go_sem, y0, y1, y2, z0, z1, z2]; rfl) rfl ?_
                  exact rd_zero ((((hw3.alloc (by omega) _).setCell (p := ⟨w.heap.size, 0, none⟩) (Nat.le_refl _) _).setCell (p := ⟨w.heap.size, 1, none⟩) (Nat.le_refl _) _).setCell (p := ⟨w.heap.size, 2, none⟩) (Nat.le_refl _) _) hno
                | true =>
                  have HS := Lib.hid (hstep.1 rfl)
                  have hp1' := hp1 rfl
                  have Hp1 := Lib.hid hp1'
                  obtain ⟨ni, hni2⟩ : ∃ ni : Int, ni = n := ⟨_, rfl⟩
                  rw [← hni2]
                  have hn1 : 1 ≤ ni := by omega
                  have hn2 : ai + ni ≤ bi + fi := by omega
                  have HNI := Lib.hid hni2
                  have z0 : w3.cell? ⟨w1.heap.size, 0, none⟩ = some (.bool true) := (q1 _ _ hxl).trans x0
                  have z1 : w3.cell? ⟨w1.heap.size, 1, none⟩ = some (.string ⟨#[]⟩) := (q1 _ _ hxl).trans x1
                  have z2 : w3.cell? ⟨w1.heap.size, 2, none⟩ = some (.slice A ks.length c) := (q1 _ _ hxl).trans x2
                  have zf : ∀ o, w3.frozen? ⟨w1.heap.size, o, none⟩ = false := fun o => (q2 _ _ hxl).trans (xf o)
                  have k0 := ca z0 (.cells #[.bool x.l, .string (bs x.b), .slice A' x.ks.length c'] 49)
                  have k1 := ca z1 (.cells #[.bool x.l, .string (bs x.b), .slice A' x.ks.length c'] 49)
                  have k2 := ca z2 (.cells #[.bool x.l, .string (bs x.b), .slice A' x.ks.length c'] 49)
                  have kf2 := fa (lt_of_cell z0) (zf 2) (.cells #[.bool x.l, .string (bs x.b), .slice A' x.ks.length c'] 49)
                  have hkl : ks.length ≤ 1000000 := by
                    have h1 := HL.out.2.1
                    have h2 := writesP_len ks
                    omega
                  have hVb : Below wr.heap.size wr ((w3.alloc (.cells #[.bool x.l, .string (bs x.b), .slice A' x.ks.length c'] 49)).alloc (.cells #[.bool x.l, .string (bs x.b), .slice A' x.ks.length c'] 49)) := (hb3.alloc hb3s _).alloc (by simp; omega) _
                  have hownV := own_keep hown hVb
                  have hVs := hVb.size
                  have g2 := Lib.hid (((bcell hVb).1 w1.heap.size 2 hxl).trans x2)
                  have gf := Lib.hid (((bcell hVb).2 w1.heap.size 2 hxl).trans (xf 2))
                  have HVb := Lib.hid hVb
                  clear hVb q1 q2 s0 s1 s2 sf x0 x1 x2 xf hpl hstep hp1 hp2 hp1' hni2
                  go_wp2_with (at_builtin; refine wpl_append elItem rfl rfl (w1.heap.size + 1) hownV rfl (m := 1) (itemC x A' c') rfl rfl (lies_new' _ _ (by simp) #[.bool x.l, .string (bs x.b), .slice A' x.ks.length c'] _) (itemC_one _ _ _) (by simp only [maxLen]; omega) (by omega) (by omega) ?_; intro v1 w4 hown1 hg1 hat1; obtain ⟨A1, c1, rfl⟩ := own_form hown1; have hb4 := below_app (Below.refl _ _) hownV hg1 (by omega) (Nat.le_refl _); have e2 := ((bcell hb4).1 w1.heap.size 2 (by omega)).trans g2.out; have ef := ((bcell hb4).2 w1.heap.size 2 (by omega)).trans gf.out; have Hb4 := Lib.hid hb4; clear hb4)
                  go_roundw
                  case rel =>
                    have hVb := HVb.out
                    have hb4 := Hb4.out
                    have hrV : RepN (RowS (w1.heap.size + 1) (.slice A ks.length c)) _ 3 (itemsD ks) xs := hr.keep hVb
                    have hxV := ItemV.mono (S' := RowS (w1.heap.size + 1) (.slice A ks.length c)) hvx (w' := (w3.alloc (.cells #[.bool x.l, .string (bs x.b), .slice A' x.ks.length c'] 49)).alloc (.cells #[.bool x.l, .string (bs x.b), .slice A' x.ks.length c'] 49)) (fun b hlt2 hs => by
                      have hs' : wr.heap.size ≤ b := hs
                      refine ⟨⟨by omega, fun he => by have := (hown.lt b he).2; omega⟩, ?_⟩
                      rw [Below.heap_alloc _ _ _ (by simp; omega), Below.heap_alloc _ _ _ hlt2])
                    have hr4 := repN_app (sz := 3) (RepN.append (.cons (sz := 3) hxV rfl .nil) hrV) hg1 hat1
                    refine ⟨ai + ni, ks ++ [x], xs ++ itemC x A' c', .slice A1 (ks.length + 1) c1, rfl, by omega, by omega, ?_, ?_, ?_, ?_, ?_⟩
                    · show RdLoop _ _ _ _ _
                      rw [HNI.out]; exact HS.out
                    · exact heap_setCell_here (((hb4.block _ (by omega)).trans (hVb.block _ (by omega))).trans Hbx.out) _
                    · have := ownsRow_setCell_below hown1 (a := ⟨w1.heap.size, 2, none⟩) (by show w1.heap.size < _; omega) (.slice A1 (ks.length + 1) c1)
                      simpa using this
                    · rw [itemsD_append]
                      refine RepN.mono (by simpa [itemsD] using hr4) fun b _ hs => ⟨hs, Below.heap_setCell _ _ _ _ (by show b ≠ w1.heap.size; have := hs.1; omega)⟩
                    · exact ((hb.trans (hVb.mono hbs)).trans (hb4.mono (by omega))).setCell (p := ⟨w1.heap.size, 2, none⟩) (Nat.le_refl _) _
                  case measure =>
                    simp only [intOf]
                    omega

end Go.Proofs.Ytggiicbjegmehaa
