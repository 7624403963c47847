/- The walks of tx.fields, Right, Bytes, Sum. -/
import Derived.Test.YtjanaholcjkceaaZ36
import Derived.Test.YtjanaholcjkceaaZ37
import Derived.Test.YtjanaholcjkceaaZ11
namespace Go.Proofs.Ytjanaholcjkceaa
set_option linter.unusedVariables false
set_option linter.unusedSimpArgs false
open Go.RowKit
theorem eqFields_step {P : Program} {w : World} {d : Nat} {xs ys : Array Value} {f : Field} {fs : List Field} (hne : f.name ≠ "_") {a b : Value} {r : Bool} (ha : (part f.type xs f.offset).run P w = .ok a w) (hb : (part f.type ys f.offset).run P w = .ok b w)
    (hr : (Op.equalIn d f.type a b).run P w = .ok r w) : (Op.eqFields d xs ys (f :: fs)).run P w = if r = true then (Op.eqFields d xs ys fs).run P w else .ok false w := by
  rw [Op.eqFields, if_pos hne]
  cases r with
  | true => simp [Sem.run_bind, ha, hb, hr]
  | false => simp [Sem.run_bind, ha, hb, hr]
theorem fieldsSg : Try.prog.underlying 49 = some (.struct (Try.prog.fieldsOf 49)) := by kernel_rfl
theorem stoodSg : Try.prog.stoodInHeld 49 = false := by kernel_rfl
theorem guardSg : Try.prog.eqGuardType Try.prog.depth 49 = false := by kernel_rfl
theorem partU {cs : Array Value} {o : Nat} {ds : Array Value} (h : cs.extract o (o + 4) = ds) (w : World) : (part 47 cs o).run Try.prog w = .ok (.agg ds) w := by
  have hz : (sizeOf 47).run Try.prog w = .ok 4 w := by
    obtain ⟨i, hi⟩ := info_of_underlying Try.underlying47
    rw [run_sizeOf w hi, show Try.prog.cellsOf 47 = 4 by kernel_rfl]
  simp only [part, isAgg, Sem.run_bind, run_underlying Try.underlying47, Result.andThen_ok, Sem.run_pure, if_true, hz, h]
def eqSg (x y : Sg) : Bool := eqU x.r y.r && (eqU x.s y.s && x.v == y.v)
theorem eqSg_iff (x y : Sg) : eqSg x y = true ↔ x = y := by
  unfold eqSg eqU
  simp only [Bool.and_eq_true, decide_eq_true_eq, beq_iff_eq]
  obtain ⟨a, b, c⟩ := x
  obtain ⟨a', b', c'⟩ := y
  simp
set_option maxRecDepth 100000 in
theorem run_eqSg (x y : Sg) (w : World) : (Op.equalIn 10000 49 (.agg #[.int .u64 (x.r.a : Int), .int .u64 (x.r.b : Int), .int .u64 (x.r.c : Int), .int .u64 (x.r.d : Int), .int .u64 (x.s.a : Int), .int .u64 (x.s.b : Int), .int .u64 (x.s.c : Int), .int .u64 (x.s.d : Int), .int .i64 x.v]) (.agg #[.int .u64 (y.r.a : Int), .int .u64 (y.r.b : Int), .int .u64 (y.r.c : Int), .int .u64 (y.r.d : Int), .int .u64 (y.s.a : Int), .int .u64 (y.s.b : Int), .int .u64 (y.s.c : Int), .int .u64 (y.s.d : Int), .int .i64 y.v])).run Try.prog w = .ok (eqSg x y) w := by
  rw [show (10000 : Nat) = 9999 + 1 from rfl, run_equalIn_agg w 9999 _ _ _ fieldsSg stoodSg]
  have h1 : (Op.eqFields 9999 #[.int .u64 (x.r.a : Int), .int .u64 (x.r.b : Int), .int .u64 (x.r.c : Int), .int .u64 (x.r.d : Int), .int .u64 (x.s.a : Int), .int .u64 (x.s.b : Int), .int .u64 (x.s.c : Int), .int .u64 (x.s.d : Int), .int .i64 x.v] #[.int .u64 (y.r.a : Int), .int .u64 (y.r.b : Int), .int .u64 (y.r.c : Int), .int .u64 (y.r.d : Int), .int .u64 (y.s.a : Int), .int .u64 (y.s.b : Int), .int .u64 (y.s.c : Int), .int .u64 (y.s.d : Int), .int .i64 y.v] (Try.prog.fieldsOf 49).toList).run Try.prog w = .ok (eqSg x y) w := by
    simp only [Program.fieldsOf, Try.underlying49]
    refine Eq.trans (eqFields_step (by decide) (partU rfl w) (partU rfl w) (run_eqU 9997 x.r y.r w)) ?_
    unfold eqSg
    cases h1 : eqU x.r y.r with
    | false => rfl
    | true =>
      refine Eq.trans (eqFields_step (by decide) (partU rfl w) (partU rfl w) (run_eqU 9997 x.s y.s w)) ?_
      cases h2 : eqU x.s y.s with
      | false => rfl
      | true =>
        have p2 : ∀ z : Sg, (part 3 #[.int .u64 (z.r.a : Int), .int .u64 (z.r.b : Int), .int .u64 (z.r.c : Int), .int .u64 (z.r.d : Int), .int .u64 (z.s.a : Int), .int .u64 (z.s.b : Int), .int .u64 (z.s.c : Int), .int .u64 (z.s.d : Int), .int .i64 z.v] 8).run Try.prog w = .ok (.int .i64 z.v) w := fun z => by simp [part, isAgg, run_underlying Try.underlying3, Sem.run_bind]
        refine Eq.trans (eqFields_step (r := (x.v == y.v)) (by decide) (p2 x) (p2 y) (by
          rw [show (9999 : Nat) = 9998 + 1 from rfl, run_equalIn_int w 9998 _ .i64 .i64 _ _ Try.underlying3])) ?_
        cases x.v == y.v <;> rfl
  exact h1
theorem sbytes_yes1 (x : Sg) (h : x.Wf) (hk : okSg x = true) (w : World) : Calls Try.prog 26 #[.agg #[.int .u64 (x.r.a : Int), .int .u64 (x.r.b : Int), .int .u64 (x.r.c : Int), .int .u64 (x.r.d : Int), .int .u64 (x.s.a : Int), .int .u64 (x.s.b : Int), .int .u64 (x.s.c : Int), .int .u64 (x.s.d : Int), .int .i64 x.v]] w fun e w' => e = .returned (.tuple #[.string (bs (sgB x)), .int .i64 0]) ∧ Below w.heap.size w w' := by
  have := sbytes_any x h w
  rw [if_pos hk, if_pos hk] at this
  exact this
theorem sbytes_no1 (x : Sg) (h : x.Wf) (hk : okSg x = false) (w : World) : Calls Try.prog 26 #[.agg #[.int .u64 (x.r.a : Int), .int .u64 (x.r.b : Int), .int .u64 (x.r.c : Int), .int .u64 (x.r.d : Int), .int .u64 (x.s.a : Int), .int .u64 (x.s.b : Int), .int .u64 (x.s.c : Int), .int .u64 (x.s.d : Int), .int .i64 x.v]] w fun e w' => e = .returned (.tuple #[.string (bs []), .int .i64 1]) ∧ Below w.heap.size w w' := by
  have := sbytes_any x h w
  rw [hk, if_neg (by decide), if_neg (by decide)] at this
  exact this
set_option maxRecDepth 100000 in
set_option maxHeartbeats 4000000 in
theorem tright_any (t : Tr) (h : t.Wf) (h63 : t.to.length ≤ 9223372036854775807) (w : World) : Calls Try.prog 25 #[.agg #[.string (bs t.to), .int .u64 (t.am : Int), .int .u64 (t.no : Int), .int .u64 (t.sg.r.a : Int), .int .u64 (t.sg.r.b : Int), .int .u64 (t.sg.r.c : Int), .int .u64 (t.sg.r.d : Int), .int .u64 (t.sg.s.a : Int), .int .u64 (t.sg.s.b : Int), .int .u64 (t.sg.s.c : Int), .int .u64 (t.sg.s.d : Int), .int .i64 t.sg.v]] w fun e w' => e = .returned (.bool (okTr t)) ∧ Below w.heap.size w w' := by
  have hY := fun (hk : okSg t.sg = true) (W : World) => sbytes_yes1 t.sg h.sg hk W
  have hN := fun (hk : okSg t.sg = false) (W : World) => sbytes_no1 t.sg h.sg hk W
  have hok : okTr t = (t.to.length == 20 && okSg t.sg) := rfl
  have heqz : eqSg t.sg zeroSg = true → okSg t.sg = false := fun e => by rw [(eqSg_iff _ _).1 e]; exact zeroSg_no
  obtain ⟨z, hz⟩ : ∃ z, eqSg t.sg zeroSg = z := ⟨_, rfl⟩
  have heq : ∀ W : World, (Op.equalIn 10000 49 (.agg #[.int .u64 (t.sg.r.a : Int), .int .u64 (t.sg.r.b : Int), .int .u64 (t.sg.r.c : Int), .int .u64 (t.sg.r.d : Int), .int .u64 (t.sg.s.a : Int), .int .u64 (t.sg.s.b : Int), .int .u64 (t.sg.s.c : Int), .int .u64 (t.sg.s.d : Int), .int .i64 t.sg.v]) (.agg #[.int .u64 0, .int .u64 0, .int .u64 0, .int .u64 0, .int .u64 0, .int .u64 0, .int .u64 0, .int .u64 0, .int .i64 0])).run Try.prog W = .ok z W := fun W => by
    have := run_eqSg t.sg zeroSg W
    rw [hz] at this
    exact this
  rw [hz] at heqz
  obtain ⟨ok, hk⟩ : ∃ ok, okSg t.sg = ok := ⟨_, rfl⟩
  rw [hk] at hok heqz hY hN
  have hlI : ((t.to.length : Int) == 20) = (t.to.length == 20) := by rw [Bool.eq_iff_iff]; simp only [beq_iff_eq]; omega
  have h63I : (t.to.length : Int) ≤ 9223372036854775807 := by omega
  have HOK := Lib.hid hok
  have HY := Lib.hid hY
  have HN := Lib.hid hN
  have HLI := Lib.hid hlI
  have hX := heap_alloc_new w (.cells #[.string (bs t.to), .int .u64 (t.am : Int), .int .u64 (t.no : Int), .int .u64 (t.sg.r.a : Int), .int .u64 (t.sg.r.b : Int), .int .u64 (t.sg.r.c : Int), .int .u64 (t.sg.r.d : Int), .int .u64 (t.sg.s.a : Int), .int .u64 (t.sg.s.b : Int), .int .u64 (t.sg.s.c : Int), .int .u64 (t.sg.s.d : Int), .int .i64 t.sg.v] 51)
  have HX0 := Lib.hid hX
  have HB0 := Lib.hid ((Below.refl w.heap.size w).alloc (Nat.le_refl _) (.cells #[.string (bs t.to), .int .u64 (t.am : Int), .int .u64 (t.no : Int), .int .u64 (t.sg.r.a : Int), .int .u64 (t.sg.r.b : Int), .int .u64 (t.sg.r.c : Int), .int .u64 (t.sg.r.d : Int), .int .u64 (t.sg.s.a : Int), .int .u64 (t.sg.s.b : Int), .int .u64 (t.sg.s.c : Int), .int .u64 (t.sg.s.d : Int), .int .i64 t.sg.v] 51))
  have c0 := rc (u := .string (bs t.to)) hX 0 rfl
  have c1 := rc (u := .int .u64 (t.am : Int)) hX 1 rfl
  have c2 := rc (u := .int .u64 (t.no : Int)) hX 2 rfl
  have c3 := rc (u := .int .u64 (t.sg.r.a : Int)) hX 3 rfl
  have c4 := rc (u := .int .u64 (t.sg.r.b : Int)) hX 4 rfl
  have c5 := rc (u := .int .u64 (t.sg.r.c : Int)) hX 5 rfl
  have c6 := rc (u := .int .u64 (t.sg.r.d : Int)) hX 6 rfl
  have c7 := rc (u := .int .u64 (t.sg.s.a : Int)) hX 7 rfl
  have c8 := rc (u := .int .u64 (t.sg.s.b : Int)) hX 8 rfl
  have c9 := rc (u := .int .u64 (t.sg.s.c : Int)) hX 9 rfl
  have c10 := rc (u := .int .u64 (t.sg.s.d : Int)) hX 10 rfl
  have c11 := rc (u := .int .i64 t.sg.v) hX 11 rfl
  clear hX hok hY hN hlI h hz hk h63
  cases z with
  | true =>
    obtain rfl : ok = false := heqz rfl
    clear heqz
    go_enter Try.func25, Try.ntmps25
    go_wp2_with fail
    go_ret
    exact ⟨by rw [HOK.out, Bool.and_false]; rfl, HB0.out⟩
  | false =>
    clear heqz
    cases ok with
    | false =>
      go_enter Try.func25, Try.ntmps25
      go_wp2_with fail
      refine (HN.out trivial _).mono ?_
      rintro e w1 ⟨rfl, hb1⟩
      have HB1 := Lib.hid (below_call HB0.out HB0.out.size hb1)
      clear hb1 HB0 HX0
      go_wp2_with fail
      go_ret
      exact ⟨by rw [HOK.out, Bool.and_false]; rfl, HB1.out⟩
    | true =>
      go_enter Try.func25, Try.ntmps25
      go_wp2_with fail
      refine (HY.out trivial _).mono ?_
      rintro e w1 ⟨rfl, hb1⟩
      have hX1 := (hb1.block _ (Array.getElem?_eq_some_iff.1 HX0.out).1).trans HX0.out
      have HB1 := Lib.hid (below_call HB0.out HB0.out.size hb1)
      have d0 := rc hX1 0 rfl
      clear hb1 HB0 HX0 hX1
      go_wp2_with fail
      go_ret
      exact ⟨by rw [HOK.out, Bool.and_true]; exact congrArg (fun b => Ending.returned (.bool b)) HLI.out, HB1.out⟩
def trF3 (t : Tr) : List Fd := [⟨0, t.to, []⟩, ⟨t.am, [], []⟩, ⟨t.no, [], []⟩]
def trC3 (t : Tr) : List Value := [.int .u64 0, .string (bs t.to), .slice none 0 0, .int .u64 (t.am : Int), .string (bs []), .slice none 0 0, .int .u64 (t.no : Int), .string (bs []), .slice none 0 0]
theorem fd_repz {S : Nat → Prop} {w : World} (n : Nat) (b : Bytes) : Rep S w (fdD ⟨n, b, []⟩) [.int .u64 (n : Int), .string (bs b), .slice none 0 0] := fd_rep (f := ⟨n, b, []⟩) (A := none) (c := 0) (Rep.nil_slice 3)
theorem trC3_rep {S : Nat → Prop} {w : World} (t : Tr) : RepN S w 3 (fdsD (trF3 t)) (trC3 t) :=
  .cons (fd_repz 0 t.to) rfl (.cons (fd_repz t.am []) rfl (.cons (cs' := []) (fd_repz t.no []) rfl .nil))
def FieldsPost (t : Tr) (w : World) (e : Ending) (w' : World) : Prop := ∃ g, e = .returned (.slice (some ⟨g, 0, none⟩) 3 3) ∧ w'.ownsRow w.heap.size 72 3 (.slice (some ⟨g, 0, none⟩) 3 3) 3 (trC3 t) ∧ Below w.heap.size w w'
set_option maxRecDepth 100000 in
set_option maxHeartbeats 4000000 in
theorem tfields_any (t : Tr) (w : World) : Calls Try.prog 28 #[.agg #[.string (bs t.to), .int .u64 (t.am : Int), .int .u64 (t.no : Int), .int .u64 (t.sg.r.a : Int), .int .u64 (t.sg.r.b : Int), .int .u64 (t.sg.r.c : Int), .int .u64 (t.sg.r.d : Int), .int .u64 (t.sg.s.a : Int), .int .u64 (t.sg.s.b : Int), .int .u64 (t.sg.s.c : Int), .int .u64 (t.sg.s.d : Int), .int .i64 t.sg.v]] w (FieldsPost t w) := by
  have hX := heap_alloc_new w (.cells #[.string (bs t.to), .int .u64 (t.am : Int), .int .u64 (t.no : Int), .int .u64 (t.sg.r.a : Int), .int .u64 (t.sg.r.b : Int), .int .u64 (t.sg.r.c : Int), .int .u64 (t.sg.r.d : Int), .int .u64 (t.sg.s.a : Int), .int .u64 (t.sg.s.b : Int), .int .u64 (t.sg.s.c : Int), .int .u64 (t.sg.s.d : Int), .int .i64 t.sg.v] 51)
  have HX0 := Lib.hid hX
  have HB0 := Lib.hid ((Below.refl w.heap.size w).alloc (Nat.le_refl _) (.cells #[.string (bs t.to), .int .u64 (t.am : Int), .int .u64 (t.no : Int), .int .u64 (t.sg.r.a : Int), .int .u64 (t.sg.r.b : Int), .int .u64 (t.sg.r.c : Int), .int .u64 (t.sg.r.d : Int), .int .u64 (t.sg.s.a : Int), .int .u64 (t.sg.s.b : Int), .int .u64 (t.sg.s.c : Int), .int .u64 (t.sg.s.d : Int), .int .i64 t.sg.v] 51))
  have c0 := rc (u := .string (bs t.to)) hX 0 rfl
  have c1 := rc (u := .int .u64 (t.am : Int)) hX 1 rfl
  have c2 := rc (u := .int .u64 (t.no : Int)) hX 2 rfl
  have c3 := rc (u := .int .u64 (t.sg.r.a : Int)) hX 3 rfl
  have c4 := rc (u := .int .u64 (t.sg.r.b : Int)) hX 4 rfl
  have c5 := rc (u := .int .u64 (t.sg.r.c : Int)) hX 5 rfl
  have c6 := rc (u := .int .u64 (t.sg.r.d : Int)) hX 6 rfl
  have c7 := rc (u := .int .u64 (t.sg.s.a : Int)) hX 7 rfl
  have c8 := rc (u := .int .u64 (t.sg.s.b : Int)) hX 8 rfl
  have c9 := rc (u := .int .u64 (t.sg.s.c : Int)) hX 9 rfl
  have c10 := rc (u := .int .u64 (t.sg.s.d : Int)) hX 10 rfl
  have c11 := rc (u := .int .i64 t.sg.v) hX 11 rfl
  clear hX
  go_enter Try.func28, Try.ntmps28
  go_wp2_with fail
  go_ret
  refine ⟨w.heap.size + 1, rfl, ?_, ((Below.refl _ _).alloc (Nat.le_refl _) _).alloc (by simp) _⟩
  have := World.ownsRow_lit (base := w.heap.size) (e := 72) (size := 3) (w.alloc (.cells #[.string (bs t.to), .int .u64 (t.am : Int), .int .u64 (t.no : Int), .int .u64 (t.sg.r.a : Int), .int .u64 (t.sg.r.b : Int), .int .u64 (t.sg.r.c : Int), .int .u64 (t.sg.r.d : Int), .int .u64 (t.sg.s.a : Int), .int .u64 (t.sg.s.b : Int), .int .u64 (t.sg.s.c : Int), .int .u64 (t.sg.s.d : Int), .int .i64 t.sg.v] 51)) (trC3 t).toArray 3 (by simp) (by simp [maxLen]) rfl
  simp only [World.size_alloc] at this
  exact this
theorem twrite_lit (t : Tr) (h : t.Wf) (hk : okTr t = true) (A : Option Addr) (c : Nat) (w : World) (hv : FdsV Any w (trF t) A c) :
    Calls Try.prog 27 #[.string ⟨#[97, 110, 110, 115]⟩, .slice A 4 c] w fun e w' => e = .returned (.tuple #[.string (bs (trB t)), .int .i64 0]) ∧ Below w.heap.size w w' := by
  have h1 := fWrite_any trK trK_ok (by decide) (by decide) (trF t) (trF_small h) (by show 4 ≤ 1000; decide) (fun f hf => by simp only [trF, List.mem_cons, List.not_mem_nil, or_false] at hf; rcases hf with rfl | rfl | rfl | rfl <;> exact Nat.zero_le _) A c w hv
  have h2 : fwP trK (trF t) = (trB t, 0) := by
    unfold fwP
    rw [if_pos (trF_fits hk), encR_fine (by decide) (trF_fits hk) (trF_small h) (by have := trB_len hk h; unfold trB at this; omega)]
    rfl
  rw [h2] at h1
  exact h1
set_option maxRecDepth 100000 in
set_option maxHeartbeats 4000000 in
theorem tbytes_no (t : Tr) (h : t.Wf) (h63 : t.to.length ≤ 9223372036854775807) (hk : okTr t = false) (w : World) : Calls Try.prog 13 #[.agg #[.string (bs t.to), .int .u64 (t.am : Int), .int .u64 (t.no : Int), .int .u64 (t.sg.r.a : Int), .int .u64 (t.sg.r.b : Int), .int .u64 (t.sg.r.c : Int), .int .u64 (t.sg.r.d : Int), .int .u64 (t.sg.s.a : Int), .int .u64 (t.sg.s.b : Int), .int .u64 (t.sg.s.c : Int), .int .u64 (t.sg.s.d : Int), .int .i64 t.sg.v]] w fun e w' => e = .returned (.tuple #[.string (bs []), .int .i64 1]) ∧ Below w.heap.size w w' := by
  have hR := fun W : World => tright_any t h h63 W
  rw [hk] at hR
  have HR := Lib.hid hR
  have HB0 := Lib.hid ((Below.refl w.heap.size w).alloc (Nat.le_refl _) (.cells #[.string (bs t.to), .int .u64 (t.am : Int), .int .u64 (t.no : Int), .int .u64 (t.sg.r.a : Int), .int .u64 (t.sg.r.b : Int), .int .u64 (t.sg.r.c : Int), .int .u64 (t.sg.r.d : Int), .int .u64 (t.sg.s.a : Int), .int .u64 (t.sg.s.b : Int), .int .u64 (t.sg.s.c : Int), .int .u64 (t.sg.s.d : Int), .int .i64 t.sg.v] 51))
  clear hR hk h h63
  go_enter Try.func13, Try.ntmps13
  go_wp2_with fail
  refine (HR.out _).mono ?_
  rintro e w1 ⟨rfl, hb1⟩
  have HB1 := Lib.hid (below_call HB0.out HB0.out.size hb1)
  clear hb1 HB0
  go_wp2_with fail
  go_ret2
  exact ⟨rfl, HB1.out⟩
set_option maxRecDepth 100000 in
set_option maxHeartbeats 4000000 in
theorem tbytes_yes (t : Tr) (h : t.Wf) (hk : okTr t = true) (w : World) : Calls Try.prog 13 #[.agg #[.string (bs t.to), .int .u64 (t.am : Int), .int .u64 (t.no : Int), .int .u64 (t.sg.r.a : Int), .int .u64 (t.sg.r.b : Int), .int .u64 (t.sg.r.c : Int), .int .u64 (t.sg.r.d : Int), .int .u64 (t.sg.s.a : Int), .int .u64 (t.sg.s.b : Int), .int .u64 (t.sg.s.c : Int), .int .u64 (t.sg.s.d : Int), .int .i64 t.sg.v]] w fun e w' => e = .returned (.tuple #[.string (bs (trB t)), .int .i64 0]) ∧ Below w.heap.size w w' := by
  have hk2 := hk
  unfold okTr at hk2
  simp only [Bool.and_eq_true, beq_iff_eq] at hk2
  have hR := fun W : World => tright_any t h (by rw [hk2.1]; decide) W
  rw [hk] at hR
  have HR := Lib.hid hR
  have HS := Lib.hid (fun W : World => sbytes_yes1 t.sg h.sg hk2.2 W)
  have HF := Lib.hid (fun W : World => tfields_any t W)
  have HW := Lib.hid (fun A c (W : World) hv => twrite_lit t h hk A c W hv)
  have hX := heap_alloc_new w (.cells #[.string (bs t.to), .int .u64 (t.am : Int), .int .u64 (t.no : Int), .int .u64 (t.sg.r.a : Int), .int .u64 (t.sg.r.b : Int), .int .u64 (t.sg.r.c : Int), .int .u64 (t.sg.r.d : Int), .int .u64 (t.sg.s.a : Int), .int .u64 (t.sg.s.b : Int), .int .u64 (t.sg.s.c : Int), .int .u64 (t.sg.s.d : Int), .int .i64 t.sg.v] 51)
  have HX0 := Lib.hid hX
  have HB0 := Lib.hid ((Below.refl w.heap.size w).alloc (Nat.le_refl _) (.cells #[.string (bs t.to), .int .u64 (t.am : Int), .int .u64 (t.no : Int), .int .u64 (t.sg.r.a : Int), .int .u64 (t.sg.r.b : Int), .int .u64 (t.sg.r.c : Int), .int .u64 (t.sg.r.d : Int), .int .u64 (t.sg.s.a : Int), .int .u64 (t.sg.s.b : Int), .int .u64 (t.sg.s.c : Int), .int .u64 (t.sg.s.d : Int), .int .i64 t.sg.v] 51))
  clear hX hR hk h hk2
  go_enter Try.func13, Try.ntmps13
  go_wp2_with fail
  refine (HR.out _).mono ?_
  rintro e w1 ⟨rfl, hb1⟩
  have hX1 := (hb1.block _ (Array.getElem?_eq_some_iff.1 HX0.out).1).trans HX0.out
  have HB1 := Lib.hid (below_call HB0.out HB0.out.size hb1)
  have c0 := rc (u := .string (bs t.to)) hX1 0 rfl
  have c1 := rc (u := .int .u64 (t.am : Int)) hX1 1 rfl
  have c2 := rc (u := .int .u64 (t.no : Int)) hX1 2 rfl
  have c3 := rc (u := .int .u64 (t.sg.r.a : Int)) hX1 3 rfl
  have c4 := rc (u := .int .u64 (t.sg.r.b : Int)) hX1 4 rfl
  have c5 := rc (u := .int .u64 (t.sg.r.c : Int)) hX1 5 rfl
  have c6 := rc (u := .int .u64 (t.sg.r.d : Int)) hX1 6 rfl
  have c7 := rc (u := .int .u64 (t.sg.s.a : Int)) hX1 7 rfl
  have c8 := rc (u := .int .u64 (t.sg.s.b : Int)) hX1 8 rfl
  have c9 := rc (u := .int .u64 (t.sg.s.c : Int)) hX1 9 rfl
  have c10 := rc (u := .int .u64 (t.sg.s.d : Int)) hX1 10 rfl
  have c11 := rc (u := .int .i64 t.sg.v) hX1 11 rfl
  have HX1 := Lib.hid hX1
  clear hb1 HB0 HX0 hX1
  go_wp2_with fail
  refine (HS.out _).mono ?_
  rintro e w2 ⟨rfl, hb2⟩
  have hX2 := (hb2.block _ (Array.getElem?_eq_some_iff.1 HX1.out).1).trans HX1.out
  have HB2 := Lib.hid (below_call HB1.out HB1.out.size hb2)
  clear hb2 HB1 HX1 c0 c1 c2 c3 c4 c5 c6 c7 c8 c9 c10 c11
  have c0 := rc (u := .string (bs t.to)) hX2 0 rfl
  have c1 := rc (u := .int .u64 (t.am : Int)) hX2 1 rfl
  have c2 := rc (u := .int .u64 (t.no : Int)) hX2 2 rfl
  have c3 := rc (u := .int .u64 (t.sg.r.a : Int)) hX2 3 rfl
  have c4 := rc (u := .int .u64 (t.sg.r.b : Int)) hX2 4 rfl
  have c5 := rc (u := .int .u64 (t.sg.r.c : Int)) hX2 5 rfl
  have c6 := rc (u := .int .u64 (t.sg.r.d : Int)) hX2 6 rfl
  have c7 := rc (u := .int .u64 (t.sg.s.a : Int)) hX2 7 rfl
  have c8 := rc (u := .int .u64 (t.sg.s.b : Int)) hX2 8 rfl
  have c9 := rc (u := .int .u64 (t.sg.s.c : Int)) hX2 9 rfl
  have c10 := rc (u := .int .u64 (t.sg.s.d : Int)) hX2 10 rfl
  have c11 := rc (u := .int .i64 t.sg.v) hX2 11 rfl
  clear hX2
  go_wp2_with fail
  refine (HF.out _).mono ?_
  rintro e w3 ⟨g, rfl, hown, hb3⟩
  have HB3 := Lib.hid (below_call HB2.out HB2.out.size hb3)
  have hle : w2.heap.size ≤ w3.heap.size := hb3.size
  have hle2 : w.heap.size ≤ w2.heap.size := HB2.out.size
  have HO := Lib.hid hown
  clear hb3 HB2 hown c0 c1 c2 c3 c4 c5 c6 c7 c8 c9 c10 c11
  go_wp2_with (at_builtin; refine wpl_append elField rfl rfl w2.heap.size (HO.out.alloc _) rfl (m := 1) [.int .u64 0, .string (bs (sgB t.sg)), .slice none 0 0] rfl rfl (lies_new _ _ _) ?_ ?_ ?_ ?_ ?_; (intro u hu; simp at hu; rcases hu with rfl | rfl | rfl <;> rfl); (simp [maxLen]); omega; (simp; omega); intro v1 w4 hown1 hg1 hat1; obtain ⟨A4, c4, rfl⟩ := own_form hown1)
  have hba : Below w3.heap.size w3 (w3.alloc (.cells #[.int .u64 0, .string (bs (sgB t.sg)), .slice none 0 0] 72)) := (Below.refl _ _).alloc (Nat.le_refl _) _
  have hb4 := below_app (below_call HB3.out HB3.out.size hba) (own_keep HO.out hba) hg1 (by simp; have := HB3.out.size; omega) hle2
  have hv : FdsV Any w4 (trF t) A4 c4 := by
    have := rep_own (S := Any) hown1 (RepN.snoc (fd_repz 0 (sgB t.sg)) rfl (trC3_rep t)) (by rfl) (fun _ _ _ => trivial)
    exact this
  have HB4 := Lib.hid hb4
  have HV := Lib.hid hv
  clear hba hb4 hv hown1 hg1 hat1 HB3 HO
  refine (HW.out A4 c4 w4 HV.out).mono ?_
  rintro e w5 ⟨rfl, hb5⟩
  have HB5 := Lib.hid (below_call HB4.out HB4.out.size hb5)
  clear hb5 HB4 HV
  go_wp2_with fail
  go_ret2
  exact ⟨rfl, HB5.out⟩
set_option maxRecDepth 100000 in
set_option maxHeartbeats 4000000 in
theorem tsum_no (t : Tr) (h : t.Wf) (h63 : t.to.length ≤ 9223372036854775807) (hk : okTr t = false) (w : World) : Calls Try.prog 36 #[.agg #[.string (bs t.to), .int .u64 (t.am : Int), .int .u64 (t.no : Int), .int .u64 (t.sg.r.a : Int), .int .u64 (t.sg.r.b : Int), .int .u64 (t.sg.r.c : Int), .int .u64 (t.sg.r.d : Int), .int .u64 (t.sg.s.a : Int), .int .u64 (t.sg.s.b : Int), .int .u64 (t.sg.s.c : Int), .int .u64 (t.sg.s.d : Int), .int .i64 t.sg.v]] w fun e w' => e = .returned (.tuple #[.string (bs []), .int .i64 1]) ∧ Below w.heap.size w w' := by
  have HR := Lib.hid (fun W : World => tbytes_no t h h63 hk W)
  have HB0 := Lib.hid ((Below.refl w.heap.size w).alloc (Nat.le_refl _) (.cells #[.string (bs t.to), .int .u64 (t.am : Int), .int .u64 (t.no : Int), .int .u64 (t.sg.r.a : Int), .int .u64 (t.sg.r.b : Int), .int .u64 (t.sg.r.c : Int), .int .u64 (t.sg.r.d : Int), .int .u64 (t.sg.s.a : Int), .int .u64 (t.sg.s.b : Int), .int .u64 (t.sg.s.c : Int), .int .u64 (t.sg.s.d : Int), .int .i64 t.sg.v] 51))
  clear hk h h63
  go_enter Try.func36, Try.ntmps36
  go_wp2_with fail
  refine (HR.out _).mono ?_
  rintro e w1 ⟨rfl, hb1⟩
  have HB1 := Lib.hid (below_call HB0.out HB0.out.size hb1)
  clear hb1 HB0
  go_wp2_with fail
  go_ret2
  exact ⟨rfl, HB1.out⟩
set_option maxRecDepth 100000 in
set_option maxHeartbeats 4000000 in
theorem tsum_yes (t : Tr) (h : t.Wf) (hk : okTr t = true) (w : World) : Calls Try.prog 36 #[.agg #[.string (bs t.to), .int .u64 (t.am : Int), .int .u64 (t.no : Int), .int .u64 (t.sg.r.a : Int), .int .u64 (t.sg.r.b : Int), .int .u64 (t.sg.r.c : Int), .int .u64 (t.sg.r.d : Int), .int .u64 (t.sg.s.a : Int), .int .u64 (t.sg.s.b : Int), .int .u64 (t.sg.s.c : Int), .int .u64 (t.sg.s.d : Int), .int .i64 t.sg.v]] w fun e w' => e = .returned (.tuple #[.string (bs (sumK (trB t))), .int .i64 0]) ∧ Below w.heap.size w w' := by
  have HR := Lib.hid (fun W : World => tbytes_yes t h hk W)
  have HS := Lib.hid (fun W : World => sum_any (trB t) (by have := trB_len hk h; omega) W)
  have HB0 := Lib.hid ((Below.refl w.heap.size w).alloc (Nat.le_refl _) (.cells #[.string (bs t.to), .int .u64 (t.am : Int), .int .u64 (t.no : Int), .int .u64 (t.sg.r.a : Int), .int .u64 (t.sg.r.b : Int), .int .u64 (t.sg.r.c : Int), .int .u64 (t.sg.r.d : Int), .int .u64 (t.sg.s.a : Int), .int .u64 (t.sg.s.b : Int), .int .u64 (t.sg.s.c : Int), .int .u64 (t.sg.s.d : Int), .int .i64 t.sg.v] 51))
  clear hk h
  go_enter Try.func36, Try.ntmps36
  go_wp2_with fail
  refine (HR.out _).mono ?_
  rintro e w1 ⟨rfl, hb1⟩
  have HB1 := Lib.hid (below_call HB0.out HB0.out.size hb1)
  clear hb1 HB0
  go_wp2_with fail
  refine (HS.out _).mono ?_
  rintro e w2 ⟨rfl, hb2⟩
  have HB2 := Lib.hid (below_call HB1.out HB1.out.size hb2)
  clear hb2 HB1
  go_wp2_with fail
  go_ret2
  exact ⟨rfl, HB2.out⟩
end Go.Proofs.Ytjanaholcjkceaa
