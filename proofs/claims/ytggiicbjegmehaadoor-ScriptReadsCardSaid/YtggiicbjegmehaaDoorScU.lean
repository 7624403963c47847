/- script.Print refused; the walk of script.Parse. -/
import Derived.Test.YtggiicbjegmehaaDoorScRf
import Derived.Test.YtggiicbjegmehaaDoorScS
namespace Go.Proofs.YtggiicbjegmehaaDoor
set_option linter.unusedVariables false
set_option linter.unusedSimpArgs false
open Go.RowKit

set_option maxRecDepth 100000 in
theorem Print_no (p : Pl) (hw : WfP p) (ho : DsOk p.ds) (hok : okP p = false) (A : Option Addr) (c : Nat) (w : World) (hv : DdsV Any w p.ds A c) :
    Calls Tryd.prog 12 #[.agg (plC p A c).toArray] w fun e w' => e = .returned (.tuple #[.string (bs []), .int .i64 1]) ∧ Below w.heap.size w w' := by
  have hR := fun (W : World) hb => RightP_any p hw ho A c W (Rep.keep hv hb)
  rw [hok] at hR
  have hR : ∀ (W : World), Below w.heap.size w W → Calls Tryd.prog 14 #[.agg #[.int .i64 p.many, .int .i64 p.set, .int .u64 p.ep, .int .u64 p.has, .slice A p.ds.length c]] W fun e w' => e = .returned (.bool false) ∧ Below W.heap.size W w' := hR
  show Calls _ _ #[.agg #[.int .i64 p.many, .int .i64 p.set, .int .u64 p.ep, .int .u64 p.has, .slice A p.ds.length c]] _ _
  have hB0 : Below w.heap.size w (w.alloc (.cells #[.int .i64 p.many, .int .i64 p.set, .int .u64 p.ep, .int .u64 p.has, .slice A p.ds.length c] 25)) := (Below.refl _ _).alloc (Nat.le_refl _) _
  have HR := Lib.hid (hR _ hB0)
  have HB0 := Lib.hid hB0
  clear hR hB0 hv hw ho hok
  obtain ⟨many, set, ep, has, ds⟩ := p
  simp only [] at HR HB0 ⊢
  go_enter Tryd.func12, Tryd.ntmps12
  go_wp2_with fail
  refine HR.out.mono ?_
  rintro e w1 ⟨rfl, hb1⟩
  have HB1 := Lib.hid (below_call HB0.out HB0.out.size hb1)
  clear hb1
  go_wp2_with fail
  go_ret2
  exact ⟨rfl, HB1.out⟩

theorem cutS_any (s : Bytes) (hs : s.length ≤ 100000000) (w : World) (he : Env w) :
    Calls Tryd.prog 16 #[.string (bs s), .string ⟨#[10]⟩] w fun e w' => e = .returned (.tuple #[.string (bs (cutP 10 s).1), .string (bs (cutP 10 s).2.1), .bool (cutP 10 s).2.2]) ∧ Below w.heap.size w w' := by
  refine (strings_Cut_shaped (bs s) (bs [10]) w he.shaped (by rw [size_bs]; omega)).mono ?_
  rintro e w1 ⟨rfl, n, rfl⟩
  have h := cut_lib 10 s
  exact ⟨by rw [show (bs s).data.toList = s from rfl, show (bs [10]).data.toList = [10] from rfl, h]; rfl, below_drewN (Below.refl _ _) n⟩

theorem results_row_tmp2 {P : Program} {fn : Func} {p u z : Tmp} {ty : TypeId} (h : fn.results = #[.cell p ty, .tmp u, .tmp z]) (tmps : Array Value) (w : World) (g : Nat) (t : TypeId) (cs : Array Value) (fr : Nat × Nat) (d : TypeDesc)
    (hp : tmps.getD p undef = .pointer (some ⟨g, 0, none⟩)) (hg : w.heap[g]? = some (.cells cs t fr)) (v x : Value) (hv : tmps.getD u undef = v) (hx : tmps.getD z undef = x)
    (hu : P.underlying ty = some d) (hd : (match d with | .struct _ | .array _ _ => true | _ => false) = true) (hi : (P.info? ty).map (·.size) = some cs.size) :
    (results fn tmps).run P w = .ok (.tuple #[.agg cs, v, x]) w := by
  have e : (results fn tmps).run P w = ((asAddr (tmps.getD p undef)).run P w).andThen fun a w₁ => ((loadVar ty a).run P w₁).andThen fun v w₂ => .ok (.tuple #[v, tmps.getD u undef, tmps.getD z undef]) w₂ := by
    simp only [results, h]
    simp [Sem.run_bind, Result.andThen]
  rw [e, hp, hv, hx]
  simp [asAddr, Sem.run_pure, run_loadVar_row w g t ty cs fr d hg hu hd hi]
theorem own_heap {w w' : World} {base : Nat} {e : TypeId} {size : Nat} {v : Value} {n : Nat} {xs : List Value} (h : w.ownsRow base e size v n xs) (hg : ∀ g, base ≤ g → w'.heap[g]? = w.heap[g]?) : w'.ownsRow base e size v n xs :=
  ⟨h.1, h.2.imp id fun ⟨g, cap, cur, hv, hb, hh, hr⟩ => ⟨g, cap, cur, hv, hb, (hg g hb).trans hh, hr⟩⟩
/-- deeds' cells -/
def ddsC (l : List Dd) : List Value := l.flatMap ddC
theorem ddsC_len (l : List Dd) : (ddsC l).length = l.length * 8 := by
  induction l with
  | nil => rfl
  | cons a l ih => show (ddC a ++ ddsC l).length = _; rw [List.length_append, ih, List.length_cons, Nat.add_mul]; show 8 + _ = _; omega
theorem ddsC_append (a b : List Dd) : ddsC (a ++ b) = ddsC a ++ ddsC b := by simp [ddsC]
theorem ddsC_one (l : List Dd) : ∀ u ∈ ddsC l, u.oneCell' = true := fun u hu => by
  obtain ⟨a, _, hu⟩ := List.mem_flatMap.1 hu
  simp [ddC] at hu
  rcases hu with rfl | rfl | rfl | rfl | rfl | rfl | rfl | rfl <;> rfl
theorem repN_ddsC {S : Nat → Prop} {w : World} : ∀ (l : List Dd), RepN S w 8 (l.map ddD) (ddsC l)
  | [] => .nil
  | a :: l => .cons (dd_rep a) rfl (repN_ddsC l)
theorem dds_own {w : World} {base : Nat} {e : TypeId} {A : Option Addr} {c : Nat} {l : List Dd} (h : w.ownsRow base e 8 (.slice A l.length c) l.length (ddsC l)) : DdsV Any w l A c :=
  .sl (repN_ddsC l) (by simp) (lies_own h (fun _ _ _ => trivial)) (own_cap h).1 (own_cap h).2
theorem elDd : ElemOk Tryd.prog 23 46 (.agg #[.int .i64 0, .int .i64 0, .int .i64 0, .int .i64 0, .int .u64 0, .int .u64 0, .bool false, .string (bs [])]) 8 72 := ⟨Tryd.underlying23, by kernel_rfl, rfl, by omega⟩
def zeroP : Pl := ⟨0, 0, 0, 0, []⟩

/-- what is kept of memory in Parse: the result's block, the plan's block, the deeds' row -/
structure PS (w : World) (q : Pl) (A : Option Addr) (c : Nat) (W : World) : Prop where
  x : W.heap[w.heap.size]? = some (.cells #[.int .i64 0, .int .i64 0, .int .u64 0, .int .u64 0, .slice none 0 0] 25 (0, 0))
  y : W.heap[w.heap.size + 1]? = some (.cells #[.int .i64 q.many, .int .i64 q.set, .int .u64 q.ep, .int .u64 q.has, .slice A q.ds.length c] 25 (0, 0))
  own : W.ownsRow (w.heap.size + 2) 46 8 (.slice A q.ds.length c) q.ds.length (ddsC q.ds)
  b : Below w.heap.size w W
  le : w.heap.size + 2 ≤ W.heap.size
theorem PS.keep {w : World} {q : Pl} {A : Option Addr} {c : Nat} {W W' : World} (h : PS w q A c W) (hb : Below W.heap.size W W') : PS w q A c W' :=
  ⟨(hb.block _ (by have := h.le; omega)).trans h.x, (hb.block _ (by have := h.le; omega)).trans h.y, own_keep h.own hb, below_call h.b h.b.size hb, Nat.le_trans h.le hb.size⟩
theorem PS.alloc {w : World} {q : Pl} {A : Option Addr} {c : Nat} {W : World} (h : PS w q A c W) (o : Obj) : PS w q A c (W.alloc o) := h.keep ((Below.refl _ _).alloc (Nat.le_refl _) _)
theorem PS.dds {w : World} {q : Pl} {A : Option Addr} {c : Nat} {W : World} (h : PS w q A c W) : DdsV Any W q.ds A c := dds_own h.own

/-- what Parse gives back -/
def ParseR (s : Bytes) (v : Value) (w : World) : Prop :=
  ∃ (q : Pl) (A : Option Addr) (c : Nat) (r n : Int), v = .tuple #[.agg (plC q A c).toArray, .int .i64 r, .int .i64 n] ∧ DdsV Any w q.ds A c ∧ ((parseP s = (some q, 0) ∧ r = 0 ∧ n = 0) ∨ (parseP s = (none, n) ∧ q = zeroP ∧ A = none ∧ c = 0 ∧ r = 250))

theorem ex1 {w : World} {q : Pl} {A : Option Addr} {c : Nat} {W : World} (h : PS w q A c W) {g : Nat} (hg : g < w.heap.size + 2) : g < W.heap.size := by have := h.le; omega
/-- five cells set in a block -/
def set5 (W : World) (g : Nat) (a b c d e : Value) : World := ((((W.setCell ⟨g, 0, none⟩ a).setCell ⟨g, 1, none⟩ b).setCell ⟨g, 2, none⟩ c).setCell ⟨g, 3, none⟩ d).setCell ⟨g, 4, none⟩ e
theorem set5_here {W : World} {g : Nat} {x0 x1 x2 x3 x4 a b c d e : Value} {t : TypeId} (h : W.heap[g]? = some (.cells #[x0, x1, x2, x3, x4] t (0, 0))) : (set5 W g a b c d e).heap[g]? = some (.cells #[a, b, c, d, e] t (0, 0)) :=
  heap_setCell_here (heap_setCell_here (heap_setCell_here (heap_setCell_here (heap_setCell_here h (i := 0) a) (i := 1) b) (i := 2) c) (i := 3) d) (i := 4) e
theorem set5_other {W : World} {g k : Nat} {a b c d e : Value} (h : k ≠ g) : (set5 W g a b c d e).heap[k]? = W.heap[k]? := by
  unfold set5
  rw [heap_set_ne h, heap_set_ne h, heap_set_ne h, heap_set_ne h, heap_set_ne h]
theorem set5_below {B : Nat} {w W : World} {g : Nat} {a b c d e : Value} (h : Below B w W) (hg : B ≤ g) : Below B w (set5 W g a b c d e) :=
  ((((h.setCell (p := ⟨g, 0, none⟩) hg _).setCell (p := ⟨g, 1, none⟩) hg _).setCell (p := ⟨g, 2, none⟩) hg _).setCell (p := ⟨g, 3, none⟩) hg _).setCell (p := ⟨g, 4, none⟩) hg _
theorem set5_size {W : World} {g : Nat} {a b c d e : Value} : (set5 W g a b c d e).heap.size = W.heap.size := by
  unfold set5; simp
/-- the plan is laid -/
theorem PS.first {w W : World} (h : PS w zeroP none 0 W) (m s e a : Int) : PS w ⟨m, s, e, a, []⟩ none 0 (set5 W (w.heap.size + 1) (.int .i64 m) (.int .i64 s) (.int .u64 e) (.int .u64 a) (.slice none 0 0)) :=
  ⟨(set5_other (by omega)).trans h.x, set5_here h.y, World.ownsRow_nil _ _ _ _, set5_below h.b (by omega), by rw [set5_size]; exact h.le⟩
/-- the result is laid -/
theorem PS.out {w W : World} {q : Pl} {A : Option Addr} {c : Nat} (h : PS w q A c W) (a b e d f : Value) :
    (set5 W w.heap.size a b e d f).heap[w.heap.size]? = some (.cells #[a, b, e, d, f] 25 (0, 0)) ∧ DdsV Any (set5 W w.heap.size a b e d f) q.ds A c ∧ Below w.heap.size w (set5 W w.heap.size a b e d f) :=
  ⟨set5_here h.x, dds_own (own_heap h.own fun g hg => set5_other (by omega)), set5_below h.b (Nat.le_refl _)⟩
/-- behind an append to the deeds' row -/
theorem PS.app {w W w5 : World} {q : Pl} {A : Option Addr} {c : Nat} {o : Obj} (h : PS w q A c W) (hg : (W.alloc o).grownBy w5 (Value.slice A q.ds.length c).ownBlock) :
    w5.heap[w.heap.size]? = some (.cells #[.int .i64 0, .int .i64 0, .int .u64 0, .int .u64 0, .slice none 0 0] 25 (0, 0)) ∧
    w5.heap[w.heap.size + 1]? = some (.cells #[.int .i64 q.many, .int .i64 q.set, .int .u64 q.ep, .int .u64 q.has, .slice A q.ds.length c] 25 (0, 0)) ∧ Below w.heap.size w w5 ∧ w.heap.size + 2 ≤ w5.heap.size := by
  have ha := h.alloc o
  have hb : Below (w.heap.size + 2) (W.alloc o) w5 := below_app (Below.refl _ _) ha.own hg ha.le (Nat.le_refl _)
  have hbb : Below w.heap.size w w5 := ha.b.trans (hb.mono (by omega))
  exact ⟨(hb.block _ (by omega)).trans ha.x, (hb.block _ (by omega)).trans ha.y, hbb, Nat.le_trans ha.le hb.size⟩
/-- and the row is laid in the plan -/
theorem PS.snoc {w w5 : World} {q : Pl} {A A2 : Option Addr} {c c2 : Nat} {d : Dd} (hx : w5.heap[w.heap.size]? = some (.cells #[.int .i64 0, .int .i64 0, .int .u64 0, .int .u64 0, .slice none 0 0] 25 (0, 0)))
    (hy : w5.heap[w.heap.size + 1]? = some (.cells #[.int .i64 q.many, .int .i64 q.set, .int .u64 q.ep, .int .u64 q.has, .slice A q.ds.length c] 25 (0, 0))) (hb : Below w.heap.size w w5) (hl : w.heap.size + 2 ≤ w5.heap.size)
    (ho : w5.ownsRow (w.heap.size + 2) 46 8 (.slice A2 (q.ds.length + 1) c2) (q.ds.length + 1) (ddsC q.ds ++ ddC d)) : PS w (withDs q (q.ds ++ [d])) A2 c2 (w5.setCell ⟨w.heap.size + 1, 4, none⟩ (.slice A2 (q.ds.length + 1) c2)) := by
  have hn : (q.ds ++ [d]).length = q.ds.length + 1 := by simp
  refine ⟨(heap_set_ne (by omega) _).trans hx, ?_, ?_, hb.setCell (p := ⟨w.heap.size + 1, 4, none⟩) (by show w.heap.size ≤ w.heap.size + 1; omega) _, by simpa using hl⟩
  · show _ = some (Obj.cells #[.int .i64 q.many, .int .i64 q.set, .int .u64 q.ep, .int .u64 q.has, .slice A2 (q.ds ++ [d]).length c2] _ _)
    rw [hn]
    exact heap_setCell_here hy _
  · show (w5.setCell _ _).ownsRow _ _ _ (.slice A2 (q.ds ++ [d]).length c2) (q.ds ++ [d]).length (ddsC (q.ds ++ [d]))
    rw [hn, ddsC_append]
    refine own_heap ?_ fun g hg => heap_set_ne (by omega) _
    rw [show ddsC [d] = ddC d by simp [ddsC]]
    exact ho

set_option maxRecDepth 100000 in
set_option maxHeartbeats 16000000 in
theorem Parse_any (s : Bytes) (hs : s.length ≤ 10000000) (w : World) (he : Env w) :
    Calls Tryd.prog 7 #[.string (bs s)] w fun e w' => (∃ v, e = .returned v ∧ ParseR s v w') ∧ Below w.heap.size w w' := by
  have hPS0 : PS w zeroP none 0 ((w.alloc (.cells #[.int .i64 0, .int .i64 0, .int .u64 0, .int .u64 0, .slice none 0 0] 25)).alloc (.cells #[.int .i64 0, .int .i64 0, .int .u64 0, .int .u64 0, .slice none 0 0] 25)) := by
    have h1 := heap_alloc_new w (.cells #[.int .i64 0, .int .i64 0, .int .u64 0, .int .u64 0, .slice none 0 0] 25)
    have h2 := heap_alloc_new (w.alloc (.cells #[.int .i64 0, .int .i64 0, .int .u64 0, .int .u64 0, .slice none 0 0] 25)) (.cells #[.int .i64 0, .int .i64 0, .int .u64 0, .int .u64 0, .slice none 0 0] 25)
    have hz : (w.alloc (.cells #[.int .i64 0, .int .i64 0, .int .u64 0, .int .u64 0, .slice none 0 0] 25)).heap.size = w.heap.size + 1 := by simp
    rw [hz] at h2
    exact ⟨(heap_alloc_old _ _ (by simp)).trans h1, h2, World.ownsRow_nil _ _ _ _, ((Below.refl _ _).alloc (Nat.le_refl _) _).alloc (by simp) _, by simp⟩
  have HPS0 := Lib.hid hPS0
  have HE := Lib.hid (fun W (h : Below w.heap.size w W) => he.keep h)
  clear hPS0 he
  go_enter Tryd.func7, Tryd.ntmps7
  go_wp2_with fail
  go_loopw [0, 6] (fun x y wr => ∃ (r : Bytes) (no : Int) (q : Pl) (A : Option Addr) (c : Nat), x = .string (bs r) ∧ y = .int .i64 no ∧ r.length ≤ s.length ∧ Hid (PS w q A c wr) ∧ Hid ((no = 1 ∧ r = s ∧ q = zeroP ∧ A = none ∧ c = 0) ∨ (2 ≤ no ∧ no ≤ 402 ∧ no = q.ds.length + 2 ∧ parseP s = ((restS no q.ds r).1.map (withDs q), (restS no q.ds r).2)))) (fun x _ _ => strLen x)
  case atStart => exact ⟨s, 1, zeroP, none, 0, rfl, rfl, Nat.le_refl _, HPS0, Lib.hid (.inl ⟨rfl, rfl, rfl, rfl, rfl⟩)⟩
  case round =>
    clear HPS0
    obtain ⟨r, no, q, A, c, rfl, rfl, hr, HPS, HI⟩ := hrel
    rcases HI.out with ⟨rfl, hrs, rfl, rfl, rfl⟩ | ⟨h2, h402, hno, hpp⟩
    · clear HI
      obtain rfl : r = s := hrs
      have hCUT := cutS_any r (by omega) wr (HE.out _ HPS.out.b)
      have hlen := cutP_len 10 r
      have hne : (cutP 10 r).2.2 = true → r ≠ [] := fun e h => by rw [h] at e; cases e
      have hPP : parseP r = if ((cutP 10 r).2.2 && goodF (cutP 10 r).1) = true then ((restS 2 [] (cutP 10 r).2.1).1.map (withDs (headP (cutP 10 r).1)), (restS 2 [] (cutP 10 r).2.1).2) else (none, 1) := rfl
      obtain ⟨t, ht⟩ : ∃ t, (cutP 10 r).1 = t := ⟨_, rfl⟩
      obtain ⟨b, hb⟩ : ∃ b, (cutP 10 r).2.1 = b := ⟨_, rfl⟩
      obtain ⟨is, his⟩ : ∃ q, (cutP 10 r).2.2 = q := ⟨_, rfl⟩
      rw [ht, hb, his] at hCUT hPP
      rw [ht, hb] at hlen
      rw [his] at hne
      have htl : t.length ≤ 50000000 := by omega
      have HCUT := Lib.hid hCUT
      have HLN := Lib.hid hlen
      have HNE := Lib.hid hne
      have HPP := Lib.hid hPP
      clear hCUT hlen hne hPP ht hb his
      go_wp2_with fail
      refine HCUT.out.mono ?_
      rintro e w1 ⟨rfl, hb1⟩
      have HP1 := Lib.hid (HPS.out.keep hb1)
      clear hb1 HCUT
      have HSP := Lib.hid (split_any t (by omega) w1 (HE.out _ HP1.out.b))
      go_wp2_with fail
      refine HSP.out.mono ?_
      rintro e w2 ⟨⟨A2, rfl, hv2⟩, hb2⟩
      have HP2 := Lib.hid (HP1.out.keep hb2)
      clear hb2 HSP
      have hhd : headP t = ⟨getI (splitP t) 1, getI (splitP t) 2, getU (splitP t) 3, getU (splitP t) 4, []⟩ := rfl
      have hle := splitP_le t
      have hpl := fun p h => (Nat.le_trans (splitP_piece t p h) (by omega) : p.length ≤ 100000000)
      obtain ⟨ps, hps⟩ : ∃ ps, splitP t = ps := ⟨_, rfl⟩
      rw [hps] at hv2 hhd hle hpl ⊢
      have hg1 := fun W (h : Below w2.heap.size w2 W) => getI_any ps (by omega) hpl 1 (by omega) A2 ps.length W (HE.out _ (below_call HP2.out.b HP2.out.b.size h)) (StrV.keep hv2 h)
      have hg2 := fun W (h : Below w2.heap.size w2 W) => getI_any ps (by omega) hpl 2 (by omega) A2 ps.length W (HE.out _ (below_call HP2.out.b HP2.out.b.size h)) (StrV.keep hv2 h)
      have hg3 := fun W (h : Below w2.heap.size w2 W) => getU_any ps (by omega) hpl 3 (by omega) A2 ps.length W (HE.out _ (below_call HP2.out.b HP2.out.b.size h)) (StrV.keep hv2 h)
      have hg4 := fun W (h : Below w2.heap.size w2 W) => getU_any ps (by omega) hpl 4 (by omega) A2 ps.length W (HE.out _ (below_call HP2.out.b HP2.out.b.size h)) (StrV.keep hv2 h)
      obtain ⟨m1, hm1⟩ : ∃ m, getI ps 1 = m := ⟨_, rfl⟩
      rw [hm1] at hg1 hhd
      obtain ⟨m2, hm2⟩ : ∃ m, getI ps 2 = m := ⟨_, rfl⟩
      rw [hm2] at hg2 hhd
      obtain ⟨m3, hm3⟩ : ∃ m, getU ps 3 = m := ⟨_, rfl⟩
      rw [hm3] at hg3 hhd
      obtain ⟨m4, hm4⟩ : ∃ m, getU ps 4 = m := ⟨_, rfl⟩
      rw [hm4] at hg4 hhd
      have HG1 := Lib.hid hg1
      have HG2 := Lib.hid hg2
      have HG3 := Lib.hid hg3
      have HG4 := Lib.hid hg4
      have hwf := headP_wf t
      obtain ⟨hd, hhe⟩ : ∃ hd, headP t = hd := ⟨_, rfl⟩
      rw [hhe] at hhd hwf
      have HHD := Lib.hid hhd
      have HWF := Lib.hid hwf
      have HHE := Lib.hid hhe
      clear hg1 hg2 hg3 hg4 hm1 hm2 hm3 hm4 hhd hps hle hpl hv2 hwf hhe
      go_wp2_with fail
      refine (HG1.out w2 (Below.refl _ _)).mono ?_
      rintro e w3 ⟨rfl, hb3⟩
      have HP3 := Lib.hid (HP2.out.keep hb3)
      have HQ3 := Lib.hid hb3
      clear hb3 HG1
      go_wp2_with fail
      refine (HG2.out w3 HQ3.out).mono ?_
      rintro e w4 ⟨rfl, hb4⟩
      have HP4 := Lib.hid (HP3.out.keep hb4)
      have HQ4 := Lib.hid (below_call HQ3.out HQ3.out.size hb4)
      clear hb4 HG2
      go_wp2_with fail
      refine (HG3.out w4 HQ4.out).mono ?_
      rintro e w5 ⟨rfl, hb5⟩
      have HP5 := Lib.hid (HP4.out.keep hb5)
      have HQ5 := Lib.hid (below_call HQ4.out HQ4.out.size hb5)
      clear hb5 HG3
      go_wp2_with fail
      refine (HG4.out w5 HQ5.out).mono ?_
      rintro e w6 ⟨rfl, hb6⟩
      have HP6 := Lib.hid (HP5.out.keep hb6)
      have HQ6 := Lib.hid (below_call HQ5.out HQ5.out.size hb6)
      clear hb6 HG4
      have x0 := rc HP6.out.x 0 rfl
      have fx0 := rf HP6.out.x 0
      have x1 := rc HP6.out.x 1 rfl
      have fx1 := rf HP6.out.x 1
      have x2 := rc HP6.out.x 2 rfl
      have fx2 := rf HP6.out.x 2
      have x3 := rc HP6.out.x 3 rfl
      have fx3 := rf HP6.out.x 3
      have x4 := rc HP6.out.x 4 rfl
      have fx4 := rf HP6.out.x 4
      have y0 := rc HP6.out.y 0 rfl
      have fy0 := rf HP6.out.y 0
      have y1 := rc HP6.out.y 1 rfl
      have fy1 := rf HP6.out.y 1
      have y2 := rc HP6.out.y 2 rfl
      have fy2 := rf HP6.out.y 2
      have y3 := rc HP6.out.y 3 rfl
      have fy3 := rf HP6.out.y 3
      have y4 := rc HP6.out.y 4 rfl
      have fy4 := rf HP6.out.y 4
      have HP7 := Lib.hid (HP6.out.first m1 m2 m3 m4)
      cases is with
      | false =>
        go_wp2_with fail
        have hf := (HP7.out).out (.int .i64 0) (.int .i64 0) (.int .u64 0) (.int .u64 0) (.slice none 0 0)
        exact bodyPost_ret (v := .tuple #[.agg (plC zeroP none 0).toArray, .int .i64 250, .int .i64 1]) (results_row_tmp2 rfl _ _ w.heap.size _ _ _ _ rfl hf.1 _ _ rfl rfl Tryd.underlying25 rfl infoPl) rfl ⟨⟨_, rfl, zeroP, none, 0, 250, 1, rfl, Rep.nil_slice 8, .inr ⟨by rw [HPP.out]; rfl, rfl, rfl, rfl, rfl⟩⟩, hf.2.2⟩
      | true =>
        have hRT := fun W (h : PS w ⟨m1, m2, m3, m4, []⟩ none 0 W) => RightP_any hd HWF.out ⟨fun d h => (by rw [HHD.out] at h; cases h), fun d h => (by rw [HHD.out] at h; cases h)⟩ none 0 W (by rw [HHD.out]; exact h.dds)
        obtain ⟨ok, hok⟩ : ∃ ok, okP hd = ok := ⟨_, rfl⟩
        rw [hok] at hRT
        have hgf : goodF t = (ok && (firstP hd == t)) := by unfold goodF; rw [HHE.out, hok]
        have hRT : ∀ W, PS w ⟨m1, m2, m3, m4, []⟩ none 0 W → Calls Tryd.prog 14 #[.agg #[.int .i64 m1, .int .i64 m2, .int .u64 m3, .int .u64 m4, .slice none 0 0]] W fun e w' => e = .returned (.bool ok) ∧ Below W.heap.size W w' := fun W h => by have := hRT W h; rw [HHD.out] at this; exact this
        have HRT := Lib.hid hRT
        have HOK := Lib.hid hok
        have HGF := Lib.hid hgf
        clear hRT hok hgf
        go_wp2_with fail
        refine (HRT.out _ HP7.out).mono ?_
        rintro e w8 ⟨rfl, hb8⟩
        have HP8 := Lib.hid (HP7.out.keep hb8)
        clear x0 fx0 y0 fy0 x1 fx1 y1 fy1 x2 fx2 y2 fy2 x3 fx3 y3 fy3 x4 fx4 y4 fy4
        clear hb8 HRT
        have x0 := rc HP8.out.x 0 rfl
        have fx0 := rf HP8.out.x 0
        have x1 := rc HP8.out.x 1 rfl
        have fx1 := rf HP8.out.x 1
        have x2 := rc HP8.out.x 2 rfl
        have fx2 := rf HP8.out.x 2
        have x3 := rc HP8.out.x 3 rfl
        have fx3 := rf HP8.out.x 3
        have x4 := rc HP8.out.x 4 rfl
        have fx4 := rf HP8.out.x 4
        have y0 := rc HP8.out.y 0 rfl
        have fy0 := rf HP8.out.y 0
        have y1 := rc HP8.out.y 1 rfl
        have fy1 := rf HP8.out.y 1
        have y2 := rc HP8.out.y 2 rfl
        have fy2 := rf HP8.out.y 2
        have y3 := rc HP8.out.y 3 rfl
        have fy3 := rf HP8.out.y 3
        have y4 := rc HP8.out.y 4 rfl
        have fy4 := rf HP8.out.y 4
        cases ok with
        | false =>
          go_wp2_with fail
          have hf := (HP8.out).out (.int .i64 0) (.int .i64 0) (.int .u64 0) (.int .u64 0) (.slice none 0 0)
          exact bodyPost_ret (v := .tuple #[.agg (plC zeroP none 0).toArray, .int .i64 250, .int .i64 1]) (results_row_tmp2 rfl _ _ w.heap.size _ _ _ _ rfl hf.1 _ _ rfl rfl Tryd.underlying25 rfl infoPl) rfl ⟨⟨_, rfl, zeroP, none, 0, 250, 1, rfl, Rep.nil_slice 8, .inr ⟨by rw [HPP.out, HGF.out]; rfl, rfl, rfl, rfl, rfl⟩⟩, hf.2.2⟩
        | true =>
          have hF := fun W (h : Below w.heap.size w W) => by have h0 := headOk_ranges (okP_parts HOK.out).1; have h1 := HWF.out.ep; have h2 := HWF.out.has; rw [HHD.out] at h0 h1 h2; simp only [] at h0 h1 h2; exact first_any m1 m2 m3 m4 none 0 0 (by omega) (by omega) (by omega) (by omega) W (HE.out W h)
          have hfp : Lib.join [[110, 111, 100, 101, 115], decI m1, decI m2, decI m3, decI m4] [32] = firstP hd := by rw [HHD.out]; rfl
          rw [hfp] at hF
          obtain ⟨fp, hfe⟩ : ∃ fp, firstP hd = fp := ⟨_, rfl⟩
          rw [hfe] at hF
          obtain ⟨q, hq⟩ : ∃ q, (fp == t) = q := ⟨_, rfl⟩
          have hgq : goodF t = q := by rw [HGF.out, hfe, hq]; rfl
          have HF := Lib.hid hF
          have HGQ := Lib.hid hgq
          clear hF hfp hfe hgq HGF
          go_wp2_with fail
          refine (HF.out _ HP8.out.b).mono ?_
          rintro e w9 ⟨rfl, hb9⟩
          have HP9 := Lib.hid (HP8.out.keep hb9)
          clear x0 fx0 y0 fy0 x1 fx1 y1 fy1 x2 fx2 y2 fy2 x3 fx3 y3 fy3 x4 fx4 y4 fy4
          clear hb9 HF
          have x0 := rc HP9.out.x 0 rfl
          have fx0 := rf HP9.out.x 0
          have x1 := rc HP9.out.x 1 rfl
          have fx1 := rf HP9.out.x 1
          have x2 := rc HP9.out.x 2 rfl
          have fx2 := rf HP9.out.x 2
          have x3 := rc HP9.out.x 3 rfl
          have fx3 := rf HP9.out.x 3
          have x4 := rc HP9.out.x 4 rfl
          have fx4 := rf HP9.out.x 4
          have y0 := rc HP9.out.y 0 rfl
          have fy0 := rf HP9.out.y 0
          have y1 := rc HP9.out.y 1 rfl
          have fy1 := rf HP9.out.y 1
          have y2 := rc HP9.out.y 2 rfl
          have fy2 := rf HP9.out.y 2
          have y3 := rc HP9.out.y 3 rfl
          have fy3 := rf HP9.out.y 3
          have y4 := rc HP9.out.y 4 rfl
          have fy4 := rf HP9.out.y 4
          cases q with
          | false =>
            go_wp2_with fail
            have hf := (HP9.out).out (.int .i64 0) (.int .i64 0) (.int .u64 0) (.int .u64 0) (.slice none 0 0)
            exact bodyPost_ret (v := .tuple #[.agg (plC zeroP none 0).toArray, .int .i64 250, .int .i64 1]) (results_row_tmp2 rfl _ _ w.heap.size _ _ _ _ rfl hf.1 _ _ rfl rfl Tryd.underlying25 rfl infoPl) rfl ⟨⟨_, rfl, zeroP, none, 0, 250, 1, rfl, Rep.nil_slice 8, .inr ⟨by rw [HPP.out, HGQ.out]; rfl, rfl, rfl, rfl, rfl⟩⟩, hf.2.2⟩
          | true =>
            go_wp2_with fail
            go_roundw
            case rel => exact ⟨b, 2, ⟨m1, m2, m3, m4, []⟩, none, 0, rfl, rfl, by have := HLN.out; omega, HP9, Lib.hid (.inr ⟨by omega, by omega, rfl, by rw [HPP.out, HGQ.out, HHE.out, HHD.out]; rfl⟩)⟩
            case measure => exact (show (bs b).size < (bs r).size by rw [size_bs, size_bs]; exact HLN.out.2.2 (HNE.out trivial))
    · clear HI
      by_cases hr0 : r = []
      · subst hr0
        have hn1 : (no == 1) = false := beq_eq_false_iff_ne.2 (by omega)
        have hRR : parseP s = (some q, 0) := by rw [hpp, restS_nil]; rfl
        have HRR := Lib.hid hRR
        clear hRR hpp hno h2 h402
        have x0 := rc HPS.out.x 0 rfl
        have fx0 := rf HPS.out.x 0
        have x1 := rc HPS.out.x 1 rfl
        have fx1 := rf HPS.out.x 1
        have x2 := rc HPS.out.x 2 rfl
        have fx2 := rf HPS.out.x 2
        have x3 := rc HPS.out.x 3 rfl
        have fx3 := rf HPS.out.x 3
        have x4 := rc HPS.out.x 4 rfl
        have fx4 := rf HPS.out.x 4
        have y0 := rc HPS.out.y 0 rfl
        have fy0 := rf HPS.out.y 0
        have y1 := rc HPS.out.y 1 rfl
        have fy1 := rf HPS.out.y 1
        have y2 := rc HPS.out.y 2 rfl
        have fy2 := rf HPS.out.y 2
        have y3 := rc HPS.out.y 3 rfl
        have fy3 := rf HPS.out.y 3
        have y4 := rc HPS.out.y 4 rfl
        have fy4 := rf HPS.out.y 4
        go_wp2_with fail
        have hf := HPS.out.out (.int .i64 q.many) (.int .i64 q.set) (.int .u64 q.ep) (.int .u64 q.has) (.slice A q.ds.length c)
        exact bodyPost_ret (v := .tuple #[.agg (plC q A c).toArray, .int .i64 0, .int .i64 0]) (results_row_tmp2 rfl _ _ w.heap.size _ _ _ _ rfl hf.1 _ _ rfl rfl Tryd.underlying25 rfl infoPl) rfl ⟨⟨_, rfl, q, A, c, 0, 0, rfl, hf.2.1, .inl ⟨HRR.out, rfl, rfl⟩⟩, hf.2.2⟩
      · have hE : (r == []) = false := beq_eq_false_iff_ne.2 hr0
        have hn1 : (no == 1) = false := beq_eq_false_iff_ne.2 (by omega)
        have hnw : IntKind.i64.wrap (no + 1) = no + 1 := IntWalk.i64_in _ (by omega)
        have hCUT := cutS_any r (by omega) wr (HE.out _ HPS.out.b)
        have hlen := cutP_len 10 r
        have hst := restS_step (no := no) (acc := q.ds) hr0
        obtain ⟨t, ht⟩ : ∃ t, (cutP 10 r).1 = t := ⟨_, rfl⟩
        obtain ⟨b, hb⟩ : ∃ b, (cutP 10 r).2.1 = b := ⟨_, rfl⟩
        obtain ⟨is, his⟩ : ∃ q, (cutP 10 r).2.2 = q := ⟨_, rfl⟩
        rw [ht, hb, his] at hCUT hst
        rw [ht, hb] at hlen
        have hbl := hlen.2.2 hr0
        have hDD := fun W (h : Below w.heap.size w W) => deed_any t (by omega) W (HE.out W h)
        have hwf := deedP_wf t
        have hdb := Nat.le_trans (deedP_b t) hlen.1
        have hgl : goodL no t = (decide (no ≤ 401) && (okD (deedP t) && (lineP (deedP t) == t))) := rfl
        rw [hst] at hpp
        obtain ⟨d, hd⟩ : ∃ d, deedP t = d := ⟨_, rfl⟩
        rw [hd] at hDD hwf hdb hgl hpp
        obtain ⟨ok, hok⟩ : ∃ ok, okD d = ok := ⟨_, rfl⟩
        have hRT := fun W => right_any d hwf (by omega) W
        have hLN := fun (h : okD d = true) W (hb : Below w.heap.size w W) => line_any d hwf h W (HE.out W hb)
        obtain ⟨ld, hld⟩ : ∃ ld, lineP d = ld := ⟨_, rfl⟩
        obtain ⟨lq, hlq⟩ : ∃ lq, (ld == t) = lq := ⟨_, rfl⟩
        rw [hok] at hRT hLN hgl
        rw [hld] at hLN hgl
        rw [hlq] at hgl
        rw [hgl] at hpp
        have hON : ∀ u ∈ ddC d, u.oneCell' = true := fun u hu => ddsC_one [d] u (by simpa [ddsC] using hu)
        obtain ⟨dk, da, dm, dt, dn, dc, dad, db⟩ := d
        have hDD : ∀ (W : World), Below w.heap.size w W → Calls Tryd.prog 22 #[.string (bs t)] W fun e w' => e = .returned (.agg #[.int .i64 dk, .int .i64 da, .int .i64 dm, .int .i64 dt, .int .u64 dn, .int .u64 dc, .bool dad, .string (bs db)]) ∧ Below W.heap.size W w' := hDD
        have hRT : ∀ (W : World), Calls Tryd.prog 23 #[.agg #[.int .i64 dk, .int .i64 da, .int .i64 dm, .int .i64 dt, .int .u64 dn, .int .u64 dc, .bool dad, .string (bs db)]] W fun e w' => e = .returned (.bool ok) ∧ Below W.heap.size W w' := hRT
        have hLN : ok = true → ∀ (W : World), Below w.heap.size w W → Calls Tryd.prog 24 #[.agg #[.int .i64 dk, .int .i64 da, .int .i64 dm, .int .i64 dt, .int .u64 dn, .int .u64 dc, .bool dad, .string (bs db)]] W fun e w' => e = .returned (.string (bs ld)) ∧ Below W.heap.size W w' := hLN
        have hql : (q.ds.length : Int) ≤ 400 := by omega
        have HDD := Lib.hid hDD
        have HRT := Lib.hid hRT
        have HLN := Lib.hid hLN
        have HON := Lib.hid hON
        have HPP := Lib.hid hpp
        have HCUT := Lib.hid hCUT
        have HNO := Lib.hid hno
        clear hDD hRT hLN hON hpp hCUT hwf hdb hgl hst ht hb his hd hok hld hr0 hno hlen
        go_wp2_with fail
        refine HCUT.out.mono ?_
        rintro e w1 ⟨rfl, hb1⟩
        have HP1 := Lib.hid (HPS.out.keep hb1)
        clear hb1 HCUT
        go_wp2_with fail
        refine (HDD.out _ HP1.out.b).mono ?_
        rintro e w2 ⟨rfl, hb2⟩
        have HP2 := Lib.hid (HP1.out.keep hb2)
        have HP3 := Lib.hid (HP2.out.alloc (.cells #[.int .i64 dk, .int .i64 da, .int .i64 dm, .int .i64 dt, .int .u64 dn, .int .u64 dc, .bool dad, .string (bs db)] 46))
        clear hb2 HDD
        cases is with
        | false =>
          have y4 := rc HP3.out.y 4 rfl
          go_wp2_with (at_builtin; refine wpl_append elDd rfl rfl (w.heap.size + 2) (HP3.out.alloc _).own rfl (m := 1) [.int .i64 dk, .int .i64 da, .int .i64 dm, .int .i64 dt, .int .u64 dn, .int .u64 dc, .bool dad, .string (bs db)] rfl rfl ?_ ?_ ?_ ?_ ?_ ?_; exact (lies_new' _ _ (by simp) #[.int .i64 dk, .int .i64 da, .int .i64 dm, .int .i64 dt, .int .u64 dn, .int .u64 dc, .bool dad, .string (bs db)] _); exact HON.out; (simp only [maxLen]; omega); omega; exact (HP3.out.alloc _).le; intro v1 w20 hown1 hg1 hat1; obtain ⟨A3, c3, rfl⟩ := own_form hown1; have hap := HP3.out.app hg1; have x0 := rc hap.1 0 rfl; have fx0 := rf hap.1 0; have x1 := rc hap.1 1 rfl; have fx1 := rf hap.1 1; have x2 := rc hap.1 2 rfl; have fx2 := rf hap.1 2; have x3 := rc hap.1 3 rfl; have fx3 := rf hap.1 3; have x4 := rc hap.1 4 rfl; have fx4 := rf hap.1 4; have y4 := rc hap.2.1 4 rfl; have fy4 := rf hap.2.1 4)
          have hsn := PS.snoc (q := q) (d := ⟨dk, da, dm, dt, dn, dc, dad, db⟩) hap.1 hap.2.1 hap.2.2.1 hap.2.2.2 hown1
          have hf := (hsn).out (.int .i64 0) (.int .i64 0) (.int .u64 0) (.int .u64 0) (.slice none 0 0)
          exact bodyPost_ret (v := .tuple #[.agg (plC zeroP none 0).toArray, .int .i64 250, .int .i64 no]) (results_row_tmp2 rfl _ _ w.heap.size _ _ _ _ rfl hf.1 _ _ rfl rfl Tryd.underlying25 rfl infoPl) rfl ⟨⟨_, rfl, zeroP, none, 0, 250, no, rfl, Rep.nil_slice 8, .inr ⟨by rw [HPP.out]; rfl, rfl, rfl, rfl, rfl⟩⟩, hf.2.2⟩
        | true =>
          by_cases h401 : no ≤ 401
          · skip
            go_wp2_with fail
            refine (HRT.out _).mono ?_
            rintro e w4 ⟨rfl, hb4⟩
            have HD := Lib.hid ((hb4.block _ (by simp)).trans (heap_alloc_new w2 (.cells #[.int .i64 dk, .int .i64 da, .int .i64 dm, .int .i64 dt, .int .u64 dn, .int .u64 dc, .bool dad, .string (bs db)] 46)))
            have HP4 := Lib.hid (HP3.out.keep hb4)
            clear hb4 HRT
            have d0 := rc HD.out 0 rfl
            have d1 := rc HD.out 1 rfl
            have d2 := rc HD.out 2 rfl
            have d3 := rc HD.out 3 rfl
            have d4 := rc HD.out 4 rfl
            have d5 := rc HD.out 5 rfl
            have d6 := rc HD.out 6 rfl
            have d7 := rc HD.out 7 rfl
            cases ok with
            | false =>
              have y4 := rc HP4.out.y 4 rfl
              go_wp2_with (at_builtin; refine wpl_append elDd rfl rfl (w.heap.size + 2) (HP4.out.alloc _).own rfl (m := 1) [.int .i64 dk, .int .i64 da, .int .i64 dm, .int .i64 dt, .int .u64 dn, .int .u64 dc, .bool dad, .string (bs db)] rfl rfl ?_ ?_ ?_ ?_ ?_ ?_; exact (lies_new' _ _ (by simp) #[.int .i64 dk, .int .i64 da, .int .i64 dm, .int .i64 dt, .int .u64 dn, .int .u64 dc, .bool dad, .string (bs db)] _); exact HON.out; (simp only [maxLen]; omega); omega; exact (HP4.out.alloc _).le; intro v1 w20 hown1 hg1 hat1; obtain ⟨A3, c3, rfl⟩ := own_form hown1; have hap := HP4.out.app hg1; have x0 := rc hap.1 0 rfl; have fx0 := rf hap.1 0; have x1 := rc hap.1 1 rfl; have fx1 := rf hap.1 1; have x2 := rc hap.1 2 rfl; have fx2 := rf hap.1 2; have x3 := rc hap.1 3 rfl; have fx3 := rf hap.1 3; have x4 := rc hap.1 4 rfl; have fx4 := rf hap.1 4; have y4 := rc hap.2.1 4 rfl; have fy4 := rf hap.2.1 4)
              have hsn := PS.snoc (q := q) (d := ⟨dk, da, dm, dt, dn, dc, dad, db⟩) hap.1 hap.2.1 hap.2.2.1 hap.2.2.2 hown1
              have hf := (hsn).out (.int .i64 0) (.int .i64 0) (.int .u64 0) (.int .u64 0) (.slice none 0 0)
              exact bodyPost_ret (v := .tuple #[.agg (plC zeroP none 0).toArray, .int .i64 250, .int .i64 no]) (results_row_tmp2 rfl _ _ w.heap.size _ _ _ _ rfl hf.1 _ _ rfl rfl Tryd.underlying25 rfl infoPl) rfl ⟨⟨_, rfl, zeroP, none, 0, 250, no, rfl, Rep.nil_slice 8, .inr ⟨by rw [HPP.out, decide_eq_true h401]; rfl, rfl, rfl, rfl, rfl⟩⟩, hf.2.2⟩
            | true =>
              go_wp2_with fail
              refine (HLN.out trivial _ HP4.out.b).mono ?_
              rintro e w5 ⟨rfl, hb5⟩
              clear d0 d1 d2 d3 d4 d5 d6 d7
              have HD := Lib.hid ((hb5.block _ (Array.getElem?_eq_some_iff.1 HD.out).1).trans HD.out)
              have HP5 := Lib.hid (HP4.out.keep hb5)
              clear hb5 HLN
              have d0 := rc HD.out 0 rfl
              have d1 := rc HD.out 1 rfl
              have d2 := rc HD.out 2 rfl
              have d3 := rc HD.out 3 rfl
              have d4 := rc HD.out 4 rfl
              have d5 := rc HD.out 5 rfl
              have d6 := rc HD.out 6 rfl
              have d7 := rc HD.out 7 rfl
              cases lq with
              | false =>
                have y4 := rc HP5.out.y 4 rfl
                go_wp2_with (at_builtin; refine wpl_append elDd rfl rfl (w.heap.size + 2) (HP5.out.alloc _).own rfl (m := 1) [.int .i64 dk, .int .i64 da, .int .i64 dm, .int .i64 dt, .int .u64 dn, .int .u64 dc, .bool dad, .string (bs db)] rfl rfl ?_ ?_ ?_ ?_ ?_ ?_; exact (lies_new' _ _ (by simp) #[.int .i64 dk, .int .i64 da, .int .i64 dm, .int .i64 dt, .int .u64 dn, .int .u64 dc, .bool dad, .string (bs db)] _); exact HON.out; (simp only [maxLen]; omega); omega; exact (HP5.out.alloc _).le; intro v1 w20 hown1 hg1 hat1; obtain ⟨A3, c3, rfl⟩ := own_form hown1; have hap := HP5.out.app hg1; have x0 := rc hap.1 0 rfl; have fx0 := rf hap.1 0; have x1 := rc hap.1 1 rfl; have fx1 := rf hap.1 1; have x2 := rc hap.1 2 rfl; have fx2 := rf hap.1 2; have x3 := rc hap.1 3 rfl; have fx3 := rf hap.1 3; have x4 := rc hap.1 4 rfl; have fx4 := rf hap.1 4; have y4 := rc hap.2.1 4 rfl; have fy4 := rf hap.2.1 4)
                have hsn := PS.snoc (q := q) (d := ⟨dk, da, dm, dt, dn, dc, dad, db⟩) hap.1 hap.2.1 hap.2.2.1 hap.2.2.2 hown1
                have hf := (hsn).out (.int .i64 0) (.int .i64 0) (.int .u64 0) (.int .u64 0) (.slice none 0 0)
                exact bodyPost_ret (v := .tuple #[.agg (plC zeroP none 0).toArray, .int .i64 250, .int .i64 no]) (results_row_tmp2 rfl _ _ w.heap.size _ _ _ _ rfl hf.1 _ _ rfl rfl Tryd.underlying25 rfl infoPl) rfl ⟨⟨_, rfl, zeroP, none, 0, 250, no, rfl, Rep.nil_slice 8, .inr ⟨by rw [HPP.out, decide_eq_true h401]; rfl, rfl, rfl, rfl, rfl⟩⟩, hf.2.2⟩
              | true =>
                have y4 := rc HP5.out.y 4 rfl
                go_wp2_with (at_builtin; refine wpl_append elDd rfl rfl (w.heap.size + 2) (HP5.out.alloc _).own rfl (m := 1) [.int .i64 dk, .int .i64 da, .int .i64 dm, .int .i64 dt, .int .u64 dn, .int .u64 dc, .bool dad, .string (bs db)] rfl rfl ?_ ?_ ?_ ?_ ?_ ?_; exact (lies_new' _ _ (by simp) #[.int .i64 dk, .int .i64 da, .int .i64 dm, .int .i64 dt, .int .u64 dn, .int .u64 dc, .bool dad, .string (bs db)] _); exact HON.out; (simp only [maxLen]; omega); omega; exact (HP5.out.alloc _).le; intro v1 w20 hown1 hg1 hat1; obtain ⟨A3, c3, rfl⟩ := own_form hown1; have hap := HP5.out.app hg1; have x0 := rc hap.1 0 rfl; have fx0 := rf hap.1 0; have x1 := rc hap.1 1 rfl; have fx1 := rf hap.1 1; have x2 := rc hap.1 2 rfl; have fx2 := rf hap.1 2; have x3 := rc hap.1 3 rfl; have fx3 := rf hap.1 3; have x4 := rc hap.1 4 rfl; have fx4 := rf hap.1 4; have y4 := rc hap.2.1 4 rfl; have fy4 := rf hap.2.1 4)
                have hsn := PS.snoc (q := q) (d := ⟨dk, da, dm, dt, dn, dc, dad, db⟩) hap.1 hap.2.1 hap.2.2.1 hap.2.2.2 hown1
                go_roundw
                case rel => exact ⟨b, no + 1, _, A3, c3, rfl, rfl, by omega, Lib.hid hsn, Lib.hid (.inr ⟨by omega, by omega, by have := HNO.out; show no + 1 = ((q.ds ++ [_]).length : Int) + 2; rw [List.length_append]; simp; omega, by rw [HPP.out, decide_eq_true h401]; rfl⟩)⟩
                case measure => exact (show (bs b).size < (bs r).size by rw [size_bs, size_bs]; exact hbl)
          · skip
            have y4 := rc HP3.out.y 4 rfl
            go_wp2_with (at_builtin; refine wpl_append elDd rfl rfl (w.heap.size + 2) (HP3.out.alloc _).own rfl (m := 1) [.int .i64 dk, .int .i64 da, .int .i64 dm, .int .i64 dt, .int .u64 dn, .int .u64 dc, .bool dad, .string (bs db)] rfl rfl ?_ ?_ ?_ ?_ ?_ ?_; exact (lies_new' _ _ (by simp) #[.int .i64 dk, .int .i64 da, .int .i64 dm, .int .i64 dt, .int .u64 dn, .int .u64 dc, .bool dad, .string (bs db)] _); exact HON.out; (simp only [maxLen]; omega); omega; exact (HP3.out.alloc _).le; intro v1 w20 hown1 hg1 hat1; obtain ⟨A3, c3, rfl⟩ := own_form hown1; have hap := HP3.out.app hg1; have x0 := rc hap.1 0 rfl; have fx0 := rf hap.1 0; have x1 := rc hap.1 1 rfl; have fx1 := rf hap.1 1; have x2 := rc hap.1 2 rfl; have fx2 := rf hap.1 2; have x3 := rc hap.1 3 rfl; have fx3 := rf hap.1 3; have x4 := rc hap.1 4 rfl; have fx4 := rf hap.1 4; have y4 := rc hap.2.1 4 rfl; have fy4 := rf hap.2.1 4)
            have hsn := PS.snoc (q := q) (d := ⟨dk, da, dm, dt, dn, dc, dad, db⟩) hap.1 hap.2.1 hap.2.2.1 hap.2.2.2 hown1
            have hf := (hsn).out (.int .i64 0) (.int .i64 0) (.int .u64 0) (.int .u64 0) (.slice none 0 0)
            exact bodyPost_ret (v := .tuple #[.agg (plC zeroP none 0).toArray, .int .i64 250, .int .i64 no]) (results_row_tmp2 rfl _ _ w.heap.size _ _ _ _ rfl hf.1 _ _ rfl rfl Tryd.underlying25 rfl infoPl) rfl ⟨⟨_, rfl, zeroP, none, 0, 250, no, rfl, Rep.nil_slice 8, .inr ⟨by rw [HPP.out, decide_eq_false (by omega : ¬ no ≤ 401)]; rfl, rfl, rfl, rfl, rfl⟩⟩, hf.2.2⟩
end Go.Proofs.YtggiicbjegmehaaDoor
