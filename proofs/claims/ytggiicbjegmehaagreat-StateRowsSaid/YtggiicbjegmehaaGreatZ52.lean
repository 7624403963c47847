/- The walks of few and alive at accounts. -/
import Derived.Test.YtggiicbjegmehaaGreatZ45
import Derived.Test.YtggiicbjegmehaaGreatZ46
import Derived.Test.YtggiicbjegmehaaGreatZ51
import Derived.ChangeKeysEq
import Derived.Test.YtggiicbjegmehaaGreatZ03
namespace Go.Proofs.YtggiicbjegmehaaGreat
set_option linter.unusedVariables false
set_option linter.unusedSimpArgs false
open Go.RowKit
/-- all accounts' cells -/
def acsC (l : List Ac) : List Value := l.flatMap acC
theorem acsC_append (a b : List Ac) : acsC (a ++ b) = acsC a ++ acsC b := by simp [acsC]
theorem acsC_len (l : List Ac) : (acsC l).length = l.length * 3 := by
  induction l with
  | nil => rfl
  | cons a l ih => show (acC a ++ acsC l).length = _; rw [List.length_append, ih, List.length_cons, Nat.add_mul]; show 3 + _ = _; omega
theorem acsC_get : ∀ {l : List Ac} {i : Nat} {a : Ac}, l[i]? = some a → ∀ j u, (acC a)[j]? = some u → (acsC l)[i * 3 + j]? = some u
  | b :: l, 0, a, h, j, u, hj => by
    simp at h; subst h
    have hl := (List.getElem?_eq_some_iff.1 hj).1
    show (acC b ++ acsC l)[0 * 3 + j]? = _
    rw [Nat.zero_mul, Nat.zero_add, List.getElem?_append_left hl]; exact hj
  | b :: l, i + 1, a, h, j, u, hj => by
    simp at h
    show (acC b ++ acsC l)[(i + 1) * 3 + j]? = _
    rw [List.getElem?_append_right (by show 3 ≤ _; omega)]
    show (acsC l)[(i + 1) * 3 + j - 3]? = _
    rw [show (i + 1) * 3 + j - 3 = i * 3 + j by omega]
    exact acsC_get h j u hj
theorem acsC_one (l : List Ac) : ∀ u ∈ acsC l, u.oneCell' = true := fun u hu => by
  obtain ⟨a, _, hu⟩ := List.mem_flatMap.1 hu
  simp [acC] at hu
  rcases hu with rfl | rfl | rfl <;> rfl
theorem repN_acsC {S : Nat → Prop} {w : World} : ∀ (l : List Ac), RepN S w 3 (l.map acD) (acsC l)
  | [] => .nil
  | a :: l => .cons (ac_rep a) rfl (repN_acsC l)
theorem acs_lies {S : Nat → Prop} {w : World} {l : List Ac} {A : Option Addr} {c : Nat} (h : AcsV S w l A c) : Lies S w A (acsC l) := by
  unfold AcsV at h
  obtain ⟨css, h1, h2, _, _⟩ := Rep.slice_open h
  have : ∀ (l : List Ac) (css : List Value), RepN S w 3 (l.map acD) css → css = acsC l := fun l => by
    induction l with
    | nil => intro css h; cases h; rfl
    | cons a l ih =>
      intro css h
      cases h with
      | cons h h0 h1 => rw [ih _ h1, rep_ac h]; rfl
  rw [this l css h1] at h2
  exact h2
theorem acs_own {w : World} {base : Nat} {e : TypeId} {A : Option Addr} {n c : Nat} {l : List Ac} (h : w.ownsRow base e 3 (.slice A n c) n (acsC l)) (hn : n = l.length) : AcsV Any w l A c := by
  subst hn
  exact .sl (repN_acsC l) (by simp) (lies_own h (fun _ _ _ => trivial)) (own_cap h).1 (own_cap h).2
theorem elAc : ElemOk Tryz.prog 22 31 (.agg #[.string (bs []), .int .u64 0, .int .u64 0]) 3 32 := ⟨Tryz.underlying22, by kernel_rfl, rfl, by omega⟩
def cutA (a : Ac) : Ac := ⟨a.addr.take 40, a.bal, a.non⟩
/-- accounts of which so many are cut -/
def cutsA (k : Nat) (l : List Ac) : List Ac := (l.take k).map cutA ++ l.drop k
theorem cutsA_all (l : List Ac) : cutsA l.length l = l.map cutA := by simp [cutsA]
theorem cutsA_get {k : Nat} {l : List Ac} {a : Ac} (h : l[k]? = some a) : (cutsA k l)[k]? = some a := by
  have hk := (List.getElem?_eq_some_iff.1 h).1
  unfold cutsA
  rw [List.getElem?_append_right (by simp; omega)]
  simp [Nat.min_eq_left (Nat.le_of_lt hk), h]
theorem cutsA_set {k : Nat} {l : List Ac} {a : Ac} (h : l[k]? = some a) : (acsC (cutsA k l)).set (k * 3) (.string (bs (a.addr.take 40))) = acsC (cutsA (k + 1) l) := by
  have hk := (List.getElem?_eq_some_iff.1 h).1
  unfold cutsA
  rw [take_snoc h, drop_cons h, acsC_append, List.map_append, acsC_append, acsC_append]
  have hl : (acsC ((l.take k).map cutA)).length = k * 3 := by rw [acsC_len]; simp; omega
  rw [List.set_append_right _ _ (by omega), hl, Nat.sub_self, List.append_assoc]
  rfl
/-- a row of the call's own, elements of any size: its cells, and one of them set -/
theorem own_ptr {w : World} {base m n c : Nat} {e : TypeId} {A : Option Addr} {xs : List Value} (h : w.ownsRow base e m (.slice A n c) n xs) (hn : 0 < n) : ∃ g, A = some ⟨g, 0, none⟩ ∧ base ≤ g ∧ g < w.heap.size := by
  rcases h.2 with ⟨_, h0⟩ | ⟨g, cap, cur, hv, hb, hh, _⟩
  · omega
  · injection hv with h1
    exact ⟨g, h1, hb, (Array.getElem?_eq_some_iff.1 hh).1⟩
theorem own_row {w : World} {base m n c g : Nat} {e : TypeId} {xs : List Value} (h : w.ownsRow base e m (.slice (some ⟨g, 0, none⟩) n c) n xs) : ∃ cur : Array Value, base ≤ g ∧ w.heap[g]? = some (.cells cur e (0, 0)) ∧ n ≤ c ∧ c ≤ maxLen ∧ cur.size = c * m ∧ cur.toList.take (n * m) = xs := by
  rcases h.2 with ⟨hv, _⟩ | ⟨g', cap, cur, hv, hb, hh, h1, h2, h3, h4⟩
  · cases hv
  · injection hv with a1 a2 a3
    injection a1 with a1
    injection a1 with a1
    subst a1; subst a3
    exact ⟨cur, hb, hh, h1, h2, h3, h4⟩
theorem own_cell {w : World} {base m n c g : Nat} {e : TypeId} {xs : List Value} (h : w.ownsRow base e m (.slice (some ⟨g, 0, none⟩) n c) n xs) {j : Nat} {u : Value} (hj : xs[j]? = some u) : w.cell? ⟨g, j, none⟩ = some u := by
  obtain ⟨cur, _, hh, _, _, _, h4⟩ := own_row h
  rw [cell_of_row _ _ _ _ _ _ hh]
  rw [← h4, List.getElem?_take] at hj
  split at hj
  · simpa using hj
  · cases hj
theorem own_free {w : World} {base m n c g : Nat} {e : TypeId} {xs : List Value} (h : w.ownsRow base e m (.slice (some ⟨g, 0, none⟩) n c) n xs) (j : Nat) : w.frozen? ⟨g, j, none⟩ = false := by
  obtain ⟨cur, _, hh, _⟩ := own_row h
  exact rf hh j
theorem own_set {w : World} {base m n c g : Nat} {e : TypeId} {xs : List Value} (h : w.ownsRow base e m (.slice (some ⟨g, 0, none⟩) n c) n xs) (j : Nat) (u : Value) : (w.setCell ⟨g, j, none⟩ u).ownsRow base e m (.slice (some ⟨g, 0, none⟩) n c) n (xs.set j u) := by
  obtain ⟨cur, hb, hh, h1, h2, h3, h4⟩ := own_row h
  refine ⟨by rw [List.length_set]; exact h.1, .inr ⟨g, c, cur.setIfInBounds j u, rfl, hb, heap_setCell_here hh u, h1, h2, by simpa using h3, ?_⟩⟩
  rw [Array.toList_setIfInBounds, List.take_set, h4]
set_option maxRecDepth 100000 in
set_option maxHeartbeats 4000000 in
theorem few15_any (l : List Ac) (hp63 : ∀ a ∈ l, a.addr.length ≤ 9223372036854775807) (A : Option Addr) (c : Nat) (w : World) (hv : AcsV Any w l A c) :
    Calls Tryz.prog 5 #[.slice A l.length c] w fun e w' => ∃ A2 c2, e = .returned (.slice A2 ((l.take 30).map cutA).length c2) ∧ AcsV Any w' ((l.take 30).map cutA) A2 c2 ∧ Below w.heap.size w w' := by
  have hl := (Rep.slice_len hv).2
  simp only [maxLen] at hl
  obtain ⟨m, hm, hmm⟩ : ∃ m : Nat, min (l.length : Int) 30 = m ∧ m = min l.length 30 := ⟨min l.length 30, by omega, rfl⟩
  have hlen63 : (l.length : Int) ≤ 9223372036854775807 := by omega
  have hm1 : (m : Int) ≤ l.length := by omega
  have hm2 : (m : Int) ≤ c := by omega
  have hm3 : (m : Int) ≤ 30 := by omega
  have hmq : l.take 30 = l.take m := by rw [hmm, List.take_eq_take_min, Nat.min_comm]
  have hq : (l.take m).length = m := by rw [List.length_take]; omega
  have hown0 : (w.alloc (.cells #[] 31)).ownsRow w.heap.size 31 3 (.slice (some ⟨w.heap.size, 0, none⟩) 0 0) 0 [] := World.ownsRow_lit w _ 0 (Nat.le_refl _) (by simp [maxLen]) rfl
  have hnews : Lies Any (w.alloc (.cells #[] 31)) A (acsC (l.take m)) := by
    have h0 := acs_lies (Rep.alloc hv (.cells #[] 31))
    rw [← List.take_append_drop m l, acsC_append] at h0
    intro hne
    obtain ⟨g, o, hA, hs, hc⟩ := h0 (by intro e; exact hne (List.append_eq_nil_iff.1 e).1)
    exact ⟨g, o, hA, hs, fun j u hj => hc j u (by rw [List.getElem?_append_left (List.getElem?_eq_some_iff.1 hj).1]; exact hj)⟩
  have hqp : ∀ p ∈ l.take m, p.addr.length ≤ 9223372036854775807 := fun p h => hp63 p (List.mem_of_mem_take h)
  rw [hmq]
  clear hmm hp63 hmq
  generalize l.take m = qs at hq hnews hqp ⊢
  subst hq
  have HL := Lib.hid (acsC_len qs)
  have HP := Lib.hid hqp
  clear hqp
  go_enter Tryz.func5, Tryz.ntmps5
  go_wp2_with (at_builtin; refine wpl_append elAc rfl rfl w.heap.size hown0 rfl (m := qs.length) (acsC qs) rfl HL.out hnews (acsC_one _) (by simp only [maxLen]; omega) (by omega) (by simp) ?_; intro v1 w1 hown1 hg1 hat1; rw [Nat.zero_add] at hown1; obtain ⟨A1, c1, rfl⟩ := own_form hown1)
  have hb1 : Below w.heap.size w w1 := below_app ((Below.refl _ _).alloc (Nat.le_refl _) _) hown0 hg1 (by simp) (Nat.le_refl _)
  clear hm hown0 hnews hg1 hat1
  go_loopw [14] (fun i wr => ∃ j : Nat, j ≤ qs.length ∧ i = .int .i64 j ∧ wr.ownsRow w.heap.size 31 3 (.slice A1 qs.length c1) qs.length (acsC (cutsA j qs)) ∧ Below w.heap.size w wr) (fun i _ => qs.length - (intOf i).toNat)
  case atStart => exact ⟨0, Nat.zero_le _, rfl, hown1, hb1⟩
  case round =>
    obtain ⟨j, hj, rfl, hown, hb⟩ := hrel
    clear hown1 hb1
    by_cases hlt : j < qs.length
    · obtain ⟨g, rfl, hg0, hg1⟩ := own_ptr hown (by omega)
      obtain ⟨a, ha⟩ := getElem_ex hlt
      have hpl := HP.out a (List.mem_of_getElem? ha)
      have Hs := Lib.hid (cutsA_set ha)
      have k0 := acsC_get (cutsA_get ha) 0 _ rfl
      have k1 := acsC_get (cutsA_get ha) 1 _ rfl
      have k2 := acsC_get (cutsA_get ha) 2 _ rfl
      have q0 := own_cell hown k0
      have q1 := own_cell hown k1
      have q2 := own_cell hown k2
      simp only [Nat.add_zero] at q0
      have hf := own_free hown (j * 3)
      obtain ⟨s, b, n⟩ := a
      simp only [] at hpl Hs q0 q1 q2
      have hlt' : (j : Int) < qs.length := by omega
      obtain ⟨m, hm, hmm⟩ : ∃ m : Nat, min (s.length : Int) 40 = m ∧ m = min s.length 40 := ⟨min s.length 40, by omega, rfl⟩
      have hm1 : (m : Int) ≤ s.length := by omega
      have Hm := Lib.hid (show s.take 40 = s.take m by rw [hmm, List.take_eq_take_min]; rw [Nat.min_comm])
      have HO := Lib.hid hown
      have hd0 := ca q0 (.cells #[.string (bs s), .int .u64 (b : Int), .int .u64 (n : Int)] 31)
      have hf0 := fa hg1 hf (.cells #[.string (bs s), .int .u64 (b : Int), .int .u64 (n : Int)] 31)
      clear ha hmm hown k0 k1 k2
      go_wp2_with fail
      go_roundw
      case rel =>
        have h := own_set HO.out (j * 3) (.string (bs (s.take 40)))
        rw [Hs.out, Hm.out] at h
        exact ⟨j + 1, hlt, by go_num, h.alloc _, (hb.setCell (p := ⟨g, j * 3, none⟩) hg0 _).alloc (by have := hb.size; simp; omega) _⟩
      case measure => simp [intOf]; omega
    · obtain rfl : j = qs.length := by omega
      rw [cutsA_all] at hown
      have hlen : qs.length = (qs.map cutA).length := by simp
      have HV := Lib.hid (acs_own hown hlen)
      have HB := Lib.hid hb
      clear hown hb hlen
      go_wp2_with fail
      go_ret
      exact ⟨A1, c1, by rw [show (qs.map cutA).length = qs.length by simp]; rfl, HV.out, HB.out⟩
theorem fieldsAc : Tryz.prog.underlying 31 = some (.struct (Tryz.prog.fieldsOf 31)) := by kernel_rfl
theorem stoodAc : Tryz.prog.stoodInHeld 31 = false := by kernel_rfl
theorem guardAc : Tryz.prog.eqGuardType Tryz.prog.depth 31 = false := by kernel_rfl
theorem eqA0 (s : ByteArray) (w : World) : (Op.equalIn 9999 9 (.string s) (.string s)).run Tryz.prog w = .ok true w := by
  rw [show (9999 : Nat) = 9998 + 1 from rfl, run_equalIn_string w 9998 _ _ _ Tryz.underlying9]; simp
theorem eqA1 (k : Int) (w : World) : (Op.equalIn 9999 28 (.int .u64 k) (.int .u64 k)).run Tryz.prog w = .ok true w := by
  rw [show (9999 : Nat) = 9998 + 1 from rfl, run_equalIn_int w 9998 _ .u64 .u64 _ _ Tryz.underlying28]; simp
theorem eqAcM (a : Ac) (w : World) : (Op.equalIn 10000 31 (.agg (acC a).toArray) (.agg (acC a).toArray)).run Tryz.prog w = .ok true w := by
  have p0 : (part 9 (acC a).toArray 0).run Tryz.prog w = .ok (.string (bs a.addr)) w := by simp [part, isAgg, run_underlying Tryz.underlying9, acC, Sem.run_bind]
  have p1 : (part 28 (acC a).toArray 1).run Tryz.prog w = .ok (.int .u64 a.bal) w := by simp [part, isAgg, run_underlying Tryz.underlying28, acC, Sem.run_bind]
  have p2 : (part 28 (acC a).toArray 2).run Tryz.prog w = .ok (.int .u64 a.non) w := by simp [part, isAgg, run_underlying Tryz.underlying28, acC, Sem.run_bind]
  have hm : (Op.eqFields 9999 (acC a).toArray (acC a).toArray (Tryz.prog.fieldsOf 31).toList).run Tryz.prog w = .ok true w := by
    simp only [Program.fieldsOf, Tryz.underlying31]
    refine eqFields_cons (by decide) p0 p0 (eqA0 _ w) ?_
    refine eqFields_cons (by decide) p1 p1 (eqA1 _ w) ?_
    refine eqFields_cons (by decide) p2 p2 (eqA1 _ w) ?_
    rfl
  rw [show (10000 : Nat) = 9999 + 1 from rfl, run_equalIn_agg w 9999 _ _ _ fieldsAc stoodAc, hm]
theorem neqAc (a : Ac) (w : World) : (binOp .neq 31 (.agg (acC a).toArray) (.agg (acC a).toArray)).run Tryz.prog w = .ok (.bool false) w := by
  rw [run_neq_struct, eqAcM]; rfl
theorem eqlAc (a : Ac) (w : World) : (binOp .eql 31 (.agg (acC a).toArray) (.agg (acC a).toArray)).run Tryz.prog w = .ok (.bool true) w := by
  rw [run_eql_struct, eqAcM]; rfl
def ac1 : Ac := ⟨[49, 50, 51, 52, 53, 54, 55, 56, 57, 48, 49, 50, 51, 52, 53, 54, 55, 56, 57, 48], 7, 0⟩
theorem acs_new (w : World) : AcsV Any (w.alloc (.cells (acC ac1).toArray 31)) [ac1] (some ⟨w.heap.size, 0, none⟩) 1 :=
  .sl (RepN.cons (ac_rep ac1) rfl .nil) rfl (lies_new w (acC ac1).toArray 31) (Nat.le_refl _) (by simp only [maxLen]; omega)
theorem ac1_right : rightS [ac1] = true := by decide
theorem ac1_total : totalS [ac1] = 7 := by decide
theorem ac1_of : ofS [ac1] ac1.addr = ac1 := rfl
theorem ac1_small : smallA [ac1] := fun a h => by
  obtain rfl : a = ac1 := by simpa using h
  decide
set_option maxRecDepth 100000 in
set_option maxHeartbeats 8000000 in
theorem alive15_any (w : World) : Calls Tryz.prog 13 #[] w fun e w' => e = .returned (.bool true) ∧ Below w.heap.size w w' := by
  obtain ⟨X, hXe⟩ : ∃ X, w.heap.size = X := ⟨_, rfl⟩
  have hv : AcsV Any (w.alloc (.cells #[.string ⟨#[49, 50, 51, 52, 53, 54, 55, 56, 57, 48, 49, 50, 51, 52, 53, 54, 55, 56, 57, 48]⟩, .int .u64 7, .int .u64 0] 31)) [ac1] (some ⟨w.heap.size, 0, none⟩) 1 := acs_new w
  have hX0 : (w.alloc (.cells #[.string ⟨#[49, 50, 51, 52, 53, 54, 55, 56, 57, 48, 49, 50, 51, 52, 53, 54, 55, 56, 57, 48]⟩, .int .u64 7, .int .u64 0] 31)).heap[w.heap.size]? = some (.cells #[.string ⟨#[49, 50, 51, 52, 53, 54, 55, 56, 57, 48, 49, 50, 51, 52, 53, 54, 55, 56, 57, 48]⟩, .int .u64 7, .int .u64 0] 31 (0, 0)) := heap_alloc_new w (.cells #[.string ⟨#[49, 50, 51, 52, 53, 54, 55, 56, 57, 48, 49, 50, 51, 52, 53, 54, 55, 56, 57, 48]⟩, .int .u64 7, .int .u64 0] 31)
  have hb0 : Below w.heap.size w (w.alloc (.cells #[.string ⟨#[49, 50, 51, 52, 53, 54, 55, 56, 57, 48, 49, 50, 51, 52, 53, 54, 55, 56, 57, 48]⟩, .int .u64 7, .int .u64 0] 31)) := (Below.refl _ _).alloc (Nat.le_refl _) _
  have hR : ∀ W, AcsV Any W [ac1] (some ⟨X, 0, none⟩) 1 → Calls Tryz.prog 7 #[.slice (some ⟨X, 0, none⟩) 1 1] W fun e w' => e = .returned (.bool true) ∧ Below W.heap.size W w' := fun W h => by
    have := Right15_any [ac1] (by decide) ac1_small (some ⟨X, 0, none⟩) 1 W h
    rw [ac1_right] at this
    exact this
  have hT : ∀ W, AcsV Any W [ac1] (some ⟨X, 0, none⟩) 1 → Calls Tryz.prog 9 #[.slice (some ⟨X, 0, none⟩) 1 1] W fun e w' => e = .returned (.int .u64 7) ∧ Below W.heap.size W w' := fun W h => by
    have := Total_any [ac1] (by decide) (some ⟨X, 0, none⟩) 1 W h
    rw [ac1_total] at this
    exact this
  have hO : ∀ W, AcsV Any W [ac1] (some ⟨X, 0, none⟩) 1 → Calls Tryz.prog 11 #[.slice (some ⟨X, 0, none⟩) 1 1, .string ⟨#[49, 50, 51, 52, 53, 54, 55, 56, 57, 48, 49, 50, 51, 52, 53, 54, 55, 56, 57, 48]⟩] W fun e w' => e = .returned (.agg #[.string ⟨#[49, 50, 51, 52, 53, 54, 55, 56, 57, 48, 49, 50, 51, 52, 53, 54, 55, 56, 57, 48]⟩, .int .u64 7, .int .u64 0]) ∧ Below W.heap.size W w' := fun W h => by
    have := Of15_any [ac1] (by decide) ac1.addr (some ⟨X, 0, none⟩) 1 W h
    rw [ac1_of] at this
    exact this
  have hE : ∀ w, (binOp .eql 31 (.agg #[.string ⟨#[49, 50, 51, 52, 53, 54, 55, 56, 57, 48, 49, 50, 51, 52, 53, 54, 55, 56, 57, 48]⟩, .int .u64 7, .int .u64 0]) (.agg #[.string ⟨#[49, 50, 51, 52, 53, 54, 55, 56, 57, 48, 49, 50, 51, 52, 53, 54, 55, 56, 57, 48]⟩, .int .u64 7, .int .u64 0])).run Tryz.prog w = .ok (.bool true) w := eqlAc ac1
  have hG : ∀ w x y, (eqGuard .eql 31 x y (.agg #[.string ⟨#[49, 50, 51, 52, 53, 54, 55, 56, 57, 48, 49, 50, 51, 52, 53, 54, 55, 56, 57, 48]⟩, .int .u64 7, .int .u64 0]) (.agg #[.string ⟨#[49, 50, 51, 52, 53, 54, 55, 56, 57, 48, 49, 50, 51, 52, 53, 54, 55, 56, 57, 48]⟩, .int .u64 7, .int .u64 0])).run Tryz.prog w = .ok () w := fun w x y => run_eqGuard_agg (P := Tryz.prog) w .eql 31 x y #[.string ⟨#[49, 50, 51, 52, 53, 54, 55, 56, 57, 48, 49, 50, 51, 52, 53, 54, 55, 56, 57, 48]⟩, .int .u64 7, .int .u64 0] #[.string ⟨#[49, 50, 51, 52, 53, 54, 55, 56, 57, 48, 49, 50, 51, 52, 53, 54, 55, 56, 57, 48]⟩, .int .u64 7, .int .u64 0] guardAc
  rw [hXe] at hv hX0
  have HV := Lib.hid hv
  have HX := Lib.hid hX0
  have HB := Lib.hid hb0
  have HR := Lib.hid hR
  have HT := Lib.hid hT
  have HO := Lib.hid hO
  have HE := Lib.hid hE
  have HG := Lib.hid hG
  clear hv hX0 hb0 hR hT hO hE hG
  go_enter Tryz.func13, Tryz.ntmps13
  go_wp2_with fail
  try rw [hXe]
  have hX : (w.alloc (.cells #[.string ⟨#[49, 50, 51, 52, 53, 54, 55, 56, 57, 48, 49, 50, 51, 52, 53, 54, 55, 56, 57, 48]⟩, .int .u64 7, .int .u64 0] 31)).drew.heap[X]? = some (.cells #[.string ⟨#[49, 50, 51, 52, 53, 54, 55, 56, 57, 48, 49, 50, 51, 52, 53, 54, 55, 56, 57, 48]⟩, .int .u64 7, .int .u64 0] 31 (0, 0)) := HX.out
  have hB : Below w.heap.size w (w.alloc (.cells #[.string ⟨#[49, 50, 51, 52, 53, 54, 55, 56, 57, 48, 49, 50, 51, 52, 53, 54, 55, 56, 57, 48]⟩, .int .u64 7, .int .u64 0] 31)).drew := HB.out.drew
  have hV : AcsV Any (w.alloc (.cells #[.string ⟨#[49, 50, 51, 52, 53, 54, 55, 56, 57, 48, 49, 50, 51, 52, 53, 54, 55, 56, 57, 48]⟩, .int .u64 7, .int .u64 0] 31)).drew [ac1] (some ⟨X, 0, none⟩) 1 := Rep.keep HV.out ((Below.refl _ _).drew)
  clear HX HB HV
  refine wp_region_R [(99, fun w' => w'.heap[X]? = some (.cells #[.string ⟨#[49, 50, 51, 52, 53, 54, 55, 56, 57, 48, 49, 50, 51, 52, 53, 54, 55, 56, 57, 48]⟩, .int .u64 7, .int .u64 0] 31 (0, 0)))] (by kernel_rfl) ?_
  generalize (w.alloc (.cells #[.string ⟨#[49, 50, 51, 52, 53, 54, 55, 56, 57, 48, 49, 50, 51, 52, 53, 54, 55, 56, 57, 48]⟩, .int .u64 7, .int .u64 0] 31)).drew = W at hX hB hV ⊢
  refine R_p (i := 0) (v := .slice (some ⟨X, 0, none⟩) 1 1) (Meets.here hX Meets.nil) ?_
  refine R_now 1 fun K hK => ?_
  go_simp
  refine (HR.out _ hV).mono ?_
  rintro e w2 ⟨rfl, hb2⟩
  replace hX := (hb2.block _ (Array.getElem?_eq_some_iff.1 hX).1).trans hX
  replace hB := below_call hB hB.size hb2
  replace hV := Rep.keep hV hb2
  clear hb2
  refine hK.out _ _ (Meets.here hX Meets.nil) (fun hMeets => ?_)
  clear hK K hMeets
  refine lay_R ?_
  refine R_p (i := 2) (v := .bool true) (Meets.here hX Meets.nil) ?_
  refine R_p (i := 3) (v := .slice (some ⟨X, 0, none⟩) 1 1) (Meets.here hX Meets.nil) ?_
  refine R_now 4 fun K hK => ?_
  go_simp
  refine (HT.out _ hV).mono ?_
  rintro e w3 ⟨rfl, hb3⟩
  replace hX := (hb3.block _ (Array.getElem?_eq_some_iff.1 hX).1).trans hX
  replace hB := below_call hB hB.size hb3
  replace hV := Rep.keep hV hb3
  clear hb3
  refine hK.out _ _ (Meets.here hX Meets.nil) (fun hMeets => ?_)
  clear hK K hMeets
  refine lay_R ?_
  refine R_p (i := 5) (v := .bool true) (Meets.here hX Meets.nil) ?_
  refine R_p (i := 6) (v := .bool true) (Meets.here hX Meets.nil) ?_
  refine R_p (i := 7) (v := .bool true) (Meets.here hX Meets.nil) ?_
  refine R_p (i := 8) (v := .slice (some ⟨X, 0, none⟩) 1 1) (Meets.here hX Meets.nil) ?_
  refine R_p (i := 9) (v := .slice (some ⟨X, 0, none⟩) 1 1) (Meets.here hX Meets.nil) ?_
  refine R_p (i := 10) (v := .pointer (some ⟨X, 0, none⟩)) (Meets.here hX Meets.nil) ?_
  refine R_p (i := 11) (v := .pointer (some ⟨X, 0, none⟩)) (Meets.here hX Meets.nil) ?_
  refine R_l (i := 12) (v := .string ⟨#[49, 50, 51, 52, 53, 54, 55, 56, 57, 48, 49, 50, 51, 52, 53, 54, 55, 56, 57, 48]⟩) 99 _ List.mem_cons_self rfl (yieldsIf_load_cell rfl rfl rfl (fun w' hS => rc hS 0 rfl) Tryz.underlying9 rfl) (Meets.here hX Meets.nil) ?_
  refine R_p (i := 14) (v := .slice (some ⟨X, 0, none⟩) 1 1) (Meets.here hX Meets.nil) ?_
  refine R_p (i := 15) (v := .pointer (some ⟨X, 0, none⟩)) (Meets.here hX Meets.nil) ?_
  refine R_l (i := 16) (v := .agg #[.string ⟨#[49, 50, 51, 52, 53, 54, 55, 56, 57, 48, 49, 50, 51, 52, 53, 54, 55, 56, 57, 48]⟩, .int .u64 7, .int .u64 0]) 99 _ List.mem_cons_self rfl (yieldsIf_load_row rfl rfl rfl (fun w' hS => hS) Tryz.underlying31 rfl infoA) (Meets.here hX Meets.nil) ?_
  refine R_now 13 fun K hK => ?_
  go_simp
  refine (HO.out _ hV).mono ?_
  rintro e w4 ⟨rfl, hb4⟩
  replace hX := (hb4.block _ (Array.getElem?_eq_some_iff.1 hX).1).trans hX
  replace hB := below_call hB hB.size hb4
  replace hV := Rep.keep hV hb4
  clear hb4
  refine hK.out _ _ (Meets.here hX Meets.nil) (fun hMeets => ?_)
  clear hK K hMeets
  refine lay_R ?_
  refine R_pure (i := 17) (v := .bool true) rfl ⟨by rfl, fun w' => by have h1 := HE.out w'; have h2 := HG.out w'; generalize Value.agg #[.string ⟨#[49, 50, 51, 52, 53, 54, 55, 56, 57, 48, 49, 50, 51, 52, 53, 54, 55, 56, 57, 48]⟩, .int .u64 7, .int .u64 0] = V at h1 h2 ⊢; go_simp⟩ (fun _ _ _ h => h) (by kernel_rfl) (by kernel_rfl) (by kernel_rfl) (by kernel_rfl) (by kernel_rfl) (Meets.here hX Meets.nil) ?_
  simp only [Act.put, List.setIfInBounds_toArray, List.set_cons_zero, List.set_cons_succ, List.getElem_toArray, List.getElem_cons_zero, List.getElem_cons_succ]
  refine R_p (i := 18) (v := .bool true) (Meets.here hX Meets.nil) ?_
  refine R_p (i := 19) (v := .bool true) (Meets.here hX Meets.nil) ?_
  refine R_done (by kernel_rfl) ?_ _
  go_wp2_with fail
  go_ret
  exact ⟨rfl, hB⟩
end Go.Proofs.YtggiicbjegmehaaGreat
/- The walk of ecclesialaw15.StateRows. -/
namespace Go.Proofs.YtggiicbjegmehaaGreat
set_option linter.unusedVariables false
set_option linter.unusedSimpArgs false
open Go.RowKit
theorem cut_small {l : List Ac} (h : smallA l) : smallA ((l.take 30).map cutA) := fun a ha => by
  obtain ⟨b, hb, rfl⟩ := List.mem_map.1 ha
  exact h b (List.mem_of_mem_take hb)
theorem cut_len (l : List Ac) : ∀ a ∈ (l.take 30).map cutA, a.addr.length ≤ 1000 := fun a ha => by
  obtain ⟨b, hb, rfl⟩ := List.mem_map.1 ha
  simp [cutA]; omega
set_option maxRecDepth 100000 in
set_option maxHeartbeats 8000000 in
theorem stateRows_any (l : List Ac) (hs : smallA l) (hp63 : ∀ a ∈ l, a.addr.length ≤ 9223372036854775807) (A : Option Addr) (c : Nat) (k : Bytes) (hk63 : k.length ≤ 9223372036854775807) (w : World) (hv : AcsV Any w l A c) :
    Calls Tryz.prog 3 #[.slice A l.length c, .string (bs k)] w fun e w' => e = .returned (.bool true) ∧ Below w.heap.size w w' := by
  obtain ⟨m, hm, hmm⟩ : ∃ m : Nat, min (k.length : Int) 40 = m ∧ m = min k.length 40 := ⟨min k.length 40, by omega, rfl⟩
  have hm1 : (m : Int) ≤ k.length := by omega
  have hk63I : (k.length : Int) ≤ 9223372036854775807 := by omega
  have hF := fun (W : World) hv => few15_any l hp63 A c W hv
  have hsm := cut_small hs
  have hal := cut_len l
  have hL30 : ((l.take 30).map cutA).length ≤ 30 := by simp; omega
  obtain ⟨L, hL⟩ : ∃ L, (l.take 30).map cutA = L := ⟨_, rfl⟩
  rw [hL] at hF hsm hal hL30
  have hR := fun A c (W : World) hv => Right15_any L (by omega) hsm A c W hv
  have hrR := fun A c (W : World) hv => refRight15_any L (by omega) hsm A c W hv
  have hT := fun A c (W : World) hv => Total_any L (by omega) A c W hv
  have hrT := fun A c (W : World) hv => refTotal_any L (by omega) A c W hv
  have hO := fun A c (W : World) hv => Of15_any L (by omega) (k.take m) A c W hv
  have hrO := fun A c (W : World) hv => refOf15_any L (by omega) (k.take m) A c W hv
  have hNE : ∀ w', (binOp .neq 31 (.agg (acC (ofS L (k.take m))).toArray) (.agg (acC (ofS L (k.take m))).toArray)).run Tryz.prog w' = .ok (.bool false) w' := fun w' => neqAc _ w'
  have hG : ∀ w' x y, (eqGuard .neq 31 x y (.agg (acC (ofS L (k.take m))).toArray) (.agg (acC (ofS L (k.take m))).toArray)).run Tryz.prog w' = .ok () w' := fun w' x y => run_eqGuard_agg (P := Tryz.prog) w' .neq 31 x y _ _ guardAc
  obtain ⟨V, hVe⟩ : ∃ V, Value.agg (acC (ofS L (k.take m))).toArray = V := ⟨_, rfl⟩
  rw [hVe] at hO hrO
  simp only [hVe] at hNE hG
  obtain ⟨T, hTe⟩ : ∃ T, totalS L = T := ⟨_, rfl⟩
  rw [hTe] at hT hrT
  have HF := Lib.hid hF
  have HR := Lib.hid hR
  have HRR := Lib.hid hrR
  have HT := Lib.hid hT
  have HRT := Lib.hid hrT
  have HO := Lib.hid hO
  have HRO := Lib.hid hrO
  have hYes : rightS L = true → Hid (∀ (A : Option Addr) (c : Nat) (W : World), AcsV Any W L A c → (Calls Tryz.prog 6 #[.slice A L.length c] W fun e w' => e = .returned (.tuple #[.string (bs (rootP (pairsA L))), .int .i64 0]) ∧ Below W.heap.size W w') ∧ (Calls Tryz.prog 14 #[.slice A L.length c] W fun e w' => e = .returned (.string (bs (rootP (pairsA L)))) ∧ Below W.heap.size W w')) := fun h => Lib.hid (fun A c W hv =>
    ⟨Root15_any L (by omega) hsm hal h A c W hv, refRoot15_any L (by unfold rightS at h; have := (Bool.and_eq_true_iff.1 h).1; simpa using this) hsm hal A c W hv⟩)
  have hNo : rightS L = false → Hid (∀ (A : Option Addr) (c : Nat) (W : World), AcsV Any W L A c → (Calls Tryz.prog 6 #[.slice A L.length c] W fun e w' => e = .returned (.tuple #[.string ⟨#[]⟩, .int .i64 1]) ∧ Below W.heap.size W w')) := fun h => Lib.hid (fun A c W hv => Root15_no L (by omega) hsm h A c W hv)
  have HYES := Lib.hid hYes
  have HNO := Lib.hid hNo
  have hB : Below w.heap.size w w.drew := (Below.refl _ _).drew
  have hV : AcsV Any w.drew l A c := Rep.keep hv hB
  clear hF hR hrR hT hrT hO hrO hYes hNo hVe hTe hL hal hsm hs hp63 hv hmm
  go_enter Tryz.func3, Tryz.ntmps3
  go_wp2_with fail
  refine wp_region_R [] (by kernel_rfl) ?_
  generalize w.drew = W at hB hV ⊢
  refine R_p (i := 0) (v := .slice A l.length c) Meets.nil ?_
  refine R_p (i := 2) (v := .string (bs k)) Meets.nil ?_
  refine R_p (i := 3) (v := .string (bs k)) Meets.nil ?_
  refine R_p (i := 4) (v := .int .i64 (k.length : Int)) Meets.nil ?_
  refine R_p (i := 5) (v := .int .i64 (m : Int)) Meets.nil ?_
  refine R_p (i := 6) (v := .string (bs (k.take m))) Meets.nil ?_
  refine R_now 1 fun K hK => ?_
  go_simp
  refine (HF.out W hV).mono ?_
  rintro e w2 ⟨A2, c2, rfl, hV2, hb2⟩
  clear hV
  replace hB := below_call hB hB.size hb2
  clear hb2
  refine hK.out _ _ Meets.nil (fun hMeets => ?_)
  clear hK K hMeets
  refine lay_R ?_
  refine R_p (i := 7) (v := .slice A2 L.length c2) Meets.nil ?_
  refine R_p (i := 8) (v := .string (bs (k.take m))) Meets.nil ?_
  refine R_done (by kernel_rfl) ?_ _
  have HB2 := Lib.hid hB
  have HV2 := Lib.hid hV2
  clear hB hV2
  obtain ⟨rr, hrr⟩ : ∃ rr, rightS L = rr := ⟨_, rfl⟩
  rw [hrr] at HR HRR HYES HNO
  obtain ⟨q, hq⟩ : ∃ q, k.take m = q := ⟨_, rfl⟩
  rw [hq] at HO HRO ⊢
  clear hrr hq
  cases rr with
  | false =>
    have HY := HNO.out rfl
    clear HYES HNO
    go_wp2_with fail
    refine ((HY.out _ _ w2 HV2.out)).mono ?_
    rintro e w3 ⟨rfl, hb3⟩
    have HB3 := Lib.hid (below_call HB2.out HB2.out.size hb3)
    have HV3 := Lib.hid (Rep.keep HV2.out hb3)
    clear hb3 HB2 HV2
    go_wp2_with fail
    refine (HR.out _ _ w3 HV3.out).mono ?_
    rintro e w4 ⟨rfl, hb4⟩
    have HB4 := Lib.hid (below_call HB3.out HB3.out.size hb4)
    have HV4 := Lib.hid (Rep.keep HV3.out hb4)
    clear hb4 HB3 HV3
    go_wp2_with fail
    refine (HRR.out _ _ w4 HV4.out).mono ?_
    rintro e w5 ⟨rfl, hb5⟩
    have HB5 := Lib.hid (below_call HB4.out HB4.out.size hb5)
    have HV5 := Lib.hid (Rep.keep HV4.out hb5)
    clear hb5 HB4 HV4
    go_wp2_with fail
    refine (HT.out _ _ w5 HV5.out).mono ?_
    rintro e w6 ⟨rfl, hb6⟩
    have HB6 := Lib.hid (below_call HB5.out HB5.out.size hb6)
    have HV6 := Lib.hid (Rep.keep HV5.out hb6)
    clear hb6 HB5 HV5
    go_wp2_with fail
    refine (HRT.out _ _ w6 HV6.out).mono ?_
    rintro e w7 ⟨rfl, hb7⟩
    have HB7 := Lib.hid (below_call HB6.out HB6.out.size hb7)
    have HV7 := Lib.hid (Rep.keep HV6.out hb7)
    clear hb7 HB6 HV6
    go_wp2_with fail
    refine (HO.out _ _ w7 HV7.out).mono ?_
    rintro e w8 ⟨rfl, hb8⟩
    have HB8 := Lib.hid (below_call HB7.out HB7.out.size hb8)
    have HV8 := Lib.hid (Rep.keep HV7.out hb8)
    clear hb8 HB7 HV7
    go_wp2_with fail
    refine (HRO.out _ _ w8 HV8.out).mono ?_
    rintro e w9 ⟨rfl, hb9⟩
    have HB9 := Lib.hid (below_call HB8.out HB8.out.size hb9)
    have HV9 := Lib.hid (Rep.keep HV8.out hb9)
    clear hb9 HB8 HV8
    go_wp2_with fail
    refine (alive15_any w9).mono ?_
    rintro e w10 ⟨rfl, hb10⟩
    have HB10 := Lib.hid (below_call HB9.out HB9.out.size hb10)
    have HV10 := Lib.hid (Rep.keep HV9.out hb10)
    clear hb10 HB9 HV9
    go_wp2_with fail
    refine (HRR.out _ _ w10 HV10.out).mono ?_
    rintro e w11 ⟨rfl, hb11⟩
    have HB11 := Lib.hid (below_call HB10.out HB10.out.size hb11)
    have HV11 := Lib.hid (Rep.keep HV10.out hb11)
    clear hb11 HB10 HV10
    go_wp2_with fail
    go_ret
    exact ⟨rfl, HB11.out⟩
  | true =>
    have HY := HYES.out rfl
    clear HYES HNO
    obtain ⟨Z, hZ⟩ : ∃ Z, rootP (pairsA L) = Z := ⟨_, rfl⟩
    rw [hZ] at HY
    clear hZ
    go_wp2_with fail
    refine ((HY.out _ _ w2 HV2.out).1).mono ?_
    rintro e w3 ⟨rfl, hb3⟩
    have HB3 := Lib.hid (below_call HB2.out HB2.out.size hb3)
    have HV3 := Lib.hid (Rep.keep HV2.out hb3)
    clear hb3 HB2 HV2
    go_wp2_with fail
    refine (HR.out _ _ w3 HV3.out).mono ?_
    rintro e w4 ⟨rfl, hb4⟩
    have HB4 := Lib.hid (below_call HB3.out HB3.out.size hb4)
    have HV4 := Lib.hid (Rep.keep HV3.out hb4)
    clear hb4 HB3 HV3
    go_wp2_with fail
    refine (HRR.out _ _ w4 HV4.out).mono ?_
    rintro e w5 ⟨rfl, hb5⟩
    have HB5 := Lib.hid (below_call HB4.out HB4.out.size hb5)
    have HV5 := Lib.hid (Rep.keep HV4.out hb5)
    clear hb5 HB4 HV4
    go_wp2_with fail
    refine (HT.out _ _ w5 HV5.out).mono ?_
    rintro e w6 ⟨rfl, hb6⟩
    have HB6 := Lib.hid (below_call HB5.out HB5.out.size hb6)
    have HV6 := Lib.hid (Rep.keep HV5.out hb6)
    clear hb6 HB5 HV5
    go_wp2_with fail
    refine (HRT.out _ _ w6 HV6.out).mono ?_
    rintro e w7 ⟨rfl, hb7⟩
    have HB7 := Lib.hid (below_call HB6.out HB6.out.size hb7)
    have HV7 := Lib.hid (Rep.keep HV6.out hb7)
    clear hb7 HB6 HV6
    go_wp2_with fail
    refine (HO.out _ _ w7 HV7.out).mono ?_
    rintro e w8 ⟨rfl, hb8⟩
    have HB8 := Lib.hid (below_call HB7.out HB7.out.size hb8)
    have HV8 := Lib.hid (Rep.keep HV7.out hb8)
    clear hb8 HB7 HV7
    go_wp2_with fail
    refine (HRO.out _ _ w8 HV8.out).mono ?_
    rintro e w9 ⟨rfl, hb9⟩
    have HB9 := Lib.hid (below_call HB8.out HB8.out.size hb9)
    have HV9 := Lib.hid (Rep.keep HV8.out hb9)
    clear hb9 HB8 HV8
    go_wp2_with fail
    refine (alive15_any w9).mono ?_
    rintro e w10 ⟨rfl, hb10⟩
    have HB10 := Lib.hid (below_call HB9.out HB9.out.size hb10)
    have HV10 := Lib.hid (Rep.keep HV9.out hb10)
    clear hb10 HB9 HV9
    go_wp2_with fail
    refine (HRR.out _ _ w10 HV10.out).mono ?_
    rintro e w11 ⟨rfl, hb11⟩
    have HB11 := Lib.hid (below_call HB10.out HB10.out.size hb11)
    have HV11 := Lib.hid (Rep.keep HV10.out hb11)
    clear hb11 HB10 HV10
    go_wp2_with fail
    refine ((HY.out _ _ w11 HV11.out).2).mono ?_
    rintro e w12 ⟨rfl, hb12⟩
    have HB12 := Lib.hid (below_call HB11.out HB11.out.size hb12)
    have HV12 := Lib.hid (Rep.keep HV11.out hb12)
    clear hb12 HB11 HV11
    go_wp2_with fail
    go_ret
    exact ⟨rfl, HB12.out⟩
end Go.Proofs.YtggiicbjegmehaaGreat
