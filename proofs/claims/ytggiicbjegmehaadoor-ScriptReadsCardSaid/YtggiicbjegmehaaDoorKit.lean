/- Words for memory and small laws, gathered for a seat that reaches few of the other texts. -/
import Derived.Test.YtggiicbjegmehaaDoorOrderC
import Derived.Test.YtggiicbjegmehaaDoorProg
import Derived.Laws.ResultCell
import Derived.OneCell
import Derived.BigQuiet
import Derived.StillTailTactics
import Derived.Deep.AppendLies
import Derived.Deep.QuietTactic
import Derived.ChangeKeysEq
namespace Go.Proofs.YtggiicbjegmehaaDoor
set_option linter.unusedVariables false
set_option linter.unusedSimpArgs false
open Go.RowKit
abbrev Bytes := List UInt8
theorem eqI (a b : Nat) : ((a : Int) == (b : Int)) = (a == b) := by rw [Bool.eq_iff_iff]; simp only [beq_iff_eq]; omega
theorem take_snoc {α : Type} {l : List α} {i : Nat} {a : α} (h : l[i]? = some a) : l.take (i + 1) = l.take i ++ [a] := by
  obtain ⟨hi, ha⟩ := List.getElem?_eq_some_iff.1 h
  rw [List.take_succ_eq_append_getElem hi, ha]
theorem drop_cons {α : Type} {l : List α} {i : Nat} {a : α} (h : l[i]? = some a) : l.drop i = a :: l.drop (i + 1) := by
  obtain ⟨hi, ha⟩ := List.getElem?_eq_some_iff.1 h
  rw [← ha]; exact List.drop_eq_getElem_cons hi
theorem getElem_ex {α : Type} {l : List α} {i : Nat} (h : i < l.length) : ∃ a, l[i]? = some a := ⟨l[i], List.getElem?_eq_getElem h⟩
theorem ca {w : World} {b o : Nat} {v : Value} (h : w.cell? ⟨b, o, none⟩ = some v) (x : Obj) : (w.alloc x).cell? ⟨b, o, none⟩ = some v := by
  rw [World.cell?_alloc_lt _ _ _ (lt_of_cell h)]; exact h
theorem fa {w : World} {b o : Nat} {u : Bool} (hl : b < w.heap.size) (h : w.frozen? ⟨b, o, none⟩ = u) (x : Obj) : (w.alloc x).frozen? ⟨b, o, none⟩ = u := by
  rw [← h]; exact ((bcell ((Below.refl w.heap.size w).alloc (Nat.le_refl _) x)).2 b o hl)
section
variable {w : World} {g : Nat}
theorem heap_set_ne {b i : Nat} (hb : g ≠ b) (u : Value) : (w.setCell ⟨b, i, none⟩ u).heap[g]? = w.heap[g]? := heap_setCell_other w ⟨b, i, none⟩ g u hb
end
/-- an aggregate is loaded, wherever it lies -/
theorem run_loadVar_at {P : Program} (w : World) (g o : Nat) (ty : TypeId) (cs : List Value) (d : TypeDesc) (hc : ∀ j u, cs[j]? = some u → w.cell? ⟨g, o + j, none⟩ = some u)
    (hu : P.underlying ty = some d) (hd : (match d with | .struct _ | .array _ _ => true | _ => false) = true) (hi : (P.info? ty).map (·.size) = some cs.length) :
    (loadVar ty ⟨g, o, none⟩).run P w = .ok (.agg cs.toArray) w := by
  have hl : (loadCells ⟨g, o, none⟩ cs.length).run P w = .ok cs.toArray w :=
    run_loadCells_list (P := P) w ⟨g, o, none⟩ cs (fun j v hv => by rw [add_lit]; exact hc j v hv)
  cases hq : P.info? ty with
  | none => simp [hq] at hi
  | some i =>
    have hs : i.size = cs.length := by simpa [hq] using hi
    have hagg : (isAgg ty).run P w = .ok true w := by
      unfold isAgg
      rw [Sem.run_bind, run_underlying hu w]
      cases d <;> simp_all
    simp [loadVar, Sem.run_bind, hagg, sizeOf, typeInfo, hq, hs, hl]
theorem wpl_load_at {P : Program} {ops : Array Oper} {rest : List Oper} {op : Oper} {a : Act} {w : World} {Q : Exit → Act → World → Prop} (hgd : op.guard = none) {ty : TypeId} {x : Operand} (ho : op.op = .load ty x)
    {g o : Nat} (hx : a.eval x = .pointer (some ⟨g, o, none⟩)) (cs : List Value) {d : TypeDesc} (hc : ∀ j u, cs[j]? = some u → w.cell? ⟨g, o + j, none⟩ = some u)
    (hu : P.underlying ty = some d) (hd : (match d with | .struct _ | .array _ _ => true | _ => false) = true) (hi : (P.info? ty).map (·.size) = some cs.length)
    (h : wpList P ops Q rest (a.put op.dst (.agg cs.toArray)) w) : wpList P ops Q (op :: rest) a w :=
  wpList_plain hgd fun _ hK => by
    unfold Oper.wp execOp
    simp only [ho, hx, Instr.loadAt, Instr.sureAddr, Sem.run_bind, Sem.run_pure, Result.andThen_ok, run_loadVar_at w g o ty cs d hc hu hd hi]
    exact hK _ _ h
section
variable {P : Program}
theorem yieldsIf_load_cell {ops : Array Oper} {S : World → Prop} {op : Oper} {a : Act} (hw : Region.wanted op (yielded ops a.tmps) = true) {ty : TypeId} {x : Operand} (ho : op.op = .load ty x)
    {b o : Nat} (hx : a.eval x = .pointer (some ⟨b, o, none⟩)) {v : Value} {d : TypeDesc} (hS : ∀ w, S w → w.cell? ⟨b, o, none⟩ = some v)
    (hu : P.underlying ty = some d) (hd : (match d with | .struct _ | .array _ _ => false | _ => true) = true) : YieldsIf P ops S op v a :=
  .inl ⟨hw, fun w hw' => by
    have hagg : (isAgg ty).run P w = .ok false w := by
      unfold isAgg
      rw [Sem.run_bind, run_underlying hu w]
      cases d <;> simp_all
    have hc := hS w hw'
    unfold execOp
    simp only [ho, hx, Instr.loadAt, Instr.sureAddr, loadVar, Sem.run_bind, Sem.run_pure, Result.andThen_ok, hagg, Bool.false_eq_true, if_false]
    have := run_load (P := P) w ⟨b, o, none⟩
    rw [hc] at this
    first
      | (rw [this]; rfl)
      | (simp only [this]; rfl)⟩
end
section
variable {P : Program}
/-- a load of a whole block, under an S that says what it holds -/
theorem yieldsIf_load_row {ops : Array Oper} {S : World → Prop} {op : Oper} {a : Act} (hw : Region.wanted op (yielded ops a.tmps) = true) {ty : TypeId} {x : Operand} (ho : op.op = .load ty x)
    {b : Nat} (hx : a.eval x = .pointer (some ⟨b, 0, none⟩)) {t : TypeId} {cs : Array Value} {fr : Nat × Nat} {d : TypeDesc} (hS : ∀ w, S w → w.heap[b]? = some (.cells cs t fr))
    (hu : P.underlying ty = some d) (hd : (match d with | .struct _ | .array _ _ => true | _ => false) = true) (hi : (P.info? ty).map (·.size) = some cs.size) : YieldsIf P ops S op (.agg cs) a :=
  .inl ⟨hw, fun w hw' => by
    unfold execOp
    simp only [ho, hx, Instr.loadAt, Instr.sureAddr, Sem.run_bind, Sem.run_pure, Result.andThen_ok, run_loadVar_row w b t ty cs fr d (hS w hw') hu hd hi]⟩
end
section
variable {P : Program}
/-- a load of an aggregate, wherever it lies, under an S that says what it holds -/
theorem yieldsIf_load_at {ops : Array Oper} {S : World → Prop} {op : Oper} {a : Act} (hw : Region.wanted op (yielded ops a.tmps) = true) {ty : TypeId} {x : Operand} (ho : op.op = .load ty x)
    {g o : Nat} (hx : a.eval x = .pointer (some ⟨g, o, none⟩)) (cs : List Value) {d : TypeDesc} (hS : ∀ w, S w → ∀ j u, cs[j]? = some u → w.cell? ⟨g, o + j, none⟩ = some u)
    (hu : P.underlying ty = some d) (hd : (match d with | .struct _ | .array _ _ => true | _ => false) = true) (hi : (P.info? ty).map (·.size) = some cs.length) : YieldsIf P ops S op (.agg cs.toArray) a :=
  .inl ⟨hw, fun w hw' => by
    unfold execOp
    simp only [ho, hx, Instr.loadAt, Instr.sureAddr, Sem.run_bind, Sem.run_pure, Result.andThen_ok, run_loadVar_at w g o ty cs d (hS w hw') hu hd hi]⟩
end
/-- blocks that are there -/
def Old (w : World) : Nat → Prop := fun b => b < w.heap.size
theorem Rep.old {S : Nat → Prop} {w : World} {d : D} {cs : List Value} (h : Rep S w d cs) : Rep (Old w) w d cs := h.mono fun b hb _ => ⟨hb, rfl⟩
/-- blocks from B on -/
def Fresh (B : Nat) : Nat → Prop := fun b => B ≤ b
def strD (p : Bytes) : D := .v (.string (bs p))
def strsD (ps : List Bytes) : List D := ps.map strD
/-- a row of texts as it lies in memory -/
def StrV (S : Nat → Prop) (w : World) (ps : List Bytes) (A : Option Addr) (c : Nat) : Prop := Rep S w (.sl 1 (strsD ps)) [.slice A ps.length c]
section
variable {S S' : Nat → Prop} {w w' : World} {ps : List Bytes} {A : Option Addr} {c : Nat}
theorem StrV.keep (h : StrV S w ps A c) (hb : Below w.heap.size w w') : StrV S w' ps A c := Rep.keep h hb
end
section
variable {S S' : Nat → Prop} {w w' : World} {ps : List Bytes} {A : Option Addr} {c : Nat}
theorem StrV.alloc (h : StrV S w ps A c) (o : Obj) : StrV S (w.alloc o) ps A c := Rep.alloc h o
end
section
variable {S S' : Nat → Prop} {w w' : World} {ps : List Bytes} {A : Option Addr} {c : Nat}
theorem StrV.any (h : StrV S w ps A c) : StrV Any w ps A c := Rep.any h
end
section
variable {S S' : Nat → Prop} {w w' : World} {ps : List Bytes} {A : Option Addr} {c : Nat}
theorem StrV.mono (h : StrV S w ps A c) (hb : ∀ b, b < w.heap.size → S b → S' b ∧ w'.heap[b]? = w.heap[b]?) : StrV S' w' ps A c := Rep.mono h hb
end
section
variable {S S' : Nat → Prop} {w w' : World} {ps : List Bytes} {A : Option Addr} {c : Nat}
theorem StrV.nil : StrV S w [] none 0 := Rep.nil_slice 1
end
section
variable {S S' : Nat → Prop} {w w' : World} {ps : List Bytes} {A : Option Addr} {c : Nat}
theorem StrV.len (h : StrV S w ps A c) : ps.length ≤ c ∧ c ≤ maxLen := h.slice_len.2
end
section
variable {S S' : Nat → Prop} {w w' : World} {ps : List Bytes} {A : Option Addr} {c : Nat}
theorem StrV.at_ {i : Nat} {p : Bytes} (h : StrV S w ps A c) (hi : ps[i]? = some p) : ∃ g o, A = some ⟨g, o, none⟩ ∧ S g ∧ w.cell? ⟨g, o + i, none⟩ = some (.string (bs p)) := by
  obtain ⟨g, o, ci, hA, hs, hr, _, hc⟩ := h.slice_at (i := i) (d := strD p) (by omega) (by simp [strsD, hi])
  have := hr.v_form; subst this
  have h0 := hc 0 _ rfl
  exact ⟨g, o, hA, hs, by simpa using h0⟩
end
/-- texts' cells -/
def strC (ps : List Bytes) : List Value := ps.map fun p => .string (bs p)
theorem strC_len (ps : List Bytes) : (strC ps).length = ps.length := by simp [strC]
theorem strC_get {ps : List Bytes} {i : Nat} {p : Bytes} (h : ps[i]? = some p) : (strC ps)[i]? = some (.string (bs p)) := by simp [strC, h]
theorem repN_strC {S : Nat → Prop} {w : World} : ∀ (ps : List Bytes), RepN S w 1 (strsD ps) (strC ps)
  | [] => .nil
  | p :: ps => .cons (cs := [_]) (.v _ rfl) rfl (repN_strC ps)
theorem strC_of {S : Nat → Prop} {w : World} : ∀ (ps : List Bytes) (cs : List Value), RepN S w 1 (strsD ps) cs → cs = strC ps
  | [], _, h => by cases h; rfl
  | p :: ps, _, h => by
    cases h with
    | cons h0 _ h1 =>
      have h0 : Rep S w (.v (.string (bs p))) _ := h0
      rw [h0.v_form, strC_of ps _ h1]; rfl
theorem StrV.lies {S : Nat → Prop} {w : World} {ps : List Bytes} {A : Option Addr} {c : Nat} (h : StrV S w ps A c) : Lies S w A (strC ps) := by
  obtain ⟨css, h1, h2, _, _⟩ := h.slice_open
  rwa [strC_of _ _ h1] at h2
theorem Lies.take {S : Nat → Prop} {w : World} {A : Option Addr} {cs : List Value} (h : Lies S w A cs) (n : Nat) : Lies S w A (cs.take n) := fun hne => by
  obtain ⟨g, o, hA, hs, hc⟩ := h (fun e => by rw [e] at hne; simp at hne)
  exact ⟨g, o, hA, hs, fun j u hj => hc j u (by rw [List.getElem?_take] at hj; split at hj; exact hj; cases hj)⟩
theorem strV_of {S : Nat → Prop} {w : World} {ps : List Bytes} {A : Option Addr} {c : Nat} (h : Lies S w A (strC ps)) (h1 : ps.length ≤ c) (h2 : c ≤ maxLen) : StrV S w ps A c :=
  .sl (repN_strC ps) (by simp [strsD]) h h1 h2
theorem one_strC (ps : List Bytes) : ∀ u ∈ strC ps, u.oneCell' = true := by
  intro u hu; obtain ⟨p, _, rfl⟩ := List.mem_map.1 hu; rfl
theorem own_strV {w : World} {base : Nat} {e : TypeId} {v : Value} {n : Nat} {ps : List Bytes} (h : w.ownsRow base e 1 v n (strC ps)) : ∃ A c, v = .slice A ps.length c ∧ n = ps.length ∧ StrV (Fresh base) w ps A c := by
  have hn : n = ps.length := by have := h.1; rw [strC_len] at this; omega
  subst hn
  obtain ⟨A, c, rfl⟩ := own_form h
  exact ⟨A, c, rfl, rfl, rep_own h (repN_strC ps) (by simp [strsD]) (fun g hg _ => hg)⟩
theorem own_strV' {w : World} {base : Nat} {e : TypeId} {A : Option Addr} {n c : Nat} {ps : List Bytes} (h : w.ownsRow base e 1 (.slice A n c) n (strC ps)) : StrV (Fresh base) w ps A c := by
  have hn : n = ps.length := by have := h.1; rw [strC_len] at this; omega
  subst hn
  exact rep_own h (repN_strC ps) (by simp [strsD]) (fun g hg _ => hg)
theorem elStr : ElemOk Tryd.prog 41 9 (.string (bs [])) 1 16 := ⟨Tryd.underlying41, by kernel_rfl, rfl, by omega⟩
theorem own_cap {w : World} {base : Nat} {e : TypeId} {size : Nat} {A : Option Addr} {n c : Nat} {xs : List Value} (h : w.ownsRow base e size (.slice A n c) n xs) : n ≤ c ∧ c ≤ maxLen := by
  rcases h.2 with ⟨h1, h2⟩ | ⟨g, cap, cur, h1, _, _, h2, h3, _⟩
  · injection h1 with _ _ h3; subst h2; subst h3; exact ⟨Nat.le_refl _, Nat.zero_le _⟩
  · injection h1 with _ _ h4; subst h4; exact ⟨h2, h3⟩
/-- a row of the call's own, elements of any size: its cells, and one of them set -/
theorem own_ptr {w : World} {base m n c : Nat} {e : TypeId} {A : Option Addr} {xs : List Value} (h : w.ownsRow base e m (.slice A n c) n xs) (hn : 0 < n) : ∃ g, A = some ⟨g, 0, none⟩ ∧ base ≤ g ∧ g < w.heap.size := by
  rcases h.2 with ⟨_, h0⟩ | ⟨g, cap, cur, hv, hb, hh, _⟩
  · omega
  · injection hv with h1
    exact ⟨g, h1, hb, (Array.getElem?_eq_some_iff.1 hh).1⟩
theorem own_row {w : World} {base m n c g : Nat} {e : TypeId} {xs : List Value} (h : w.ownsRow base e m (.slice (some ⟨g, 0, none⟩) n c) n xs) : ∃ cur : Array Value, base ≤ g ∧ w.heap[g]? = some (.cells cur e (0, 0)) ∧ n ≤ c ∧ c ≤ maxLen ∧ cur.size = c * m ∧ cur.toList.take (n * m) = xs := by
  rcases h.2 with ⟨hv, _⟩ | ⟨g', cap, cur, hv, hb, hh, h1, h2, h3, h4⟩
  · cases hv
  · injection hv with a1 a2 a3
    injection a1 with a1
    injection a1 with a1
    subst a1; subst a3
    exact ⟨cur, hb, hh, h1, h2, h3, h4⟩
theorem own_cell {w : World} {base m n c g : Nat} {e : TypeId} {xs : List Value} (h : w.ownsRow base e m (.slice (some ⟨g, 0, none⟩) n c) n xs) {j : Nat} {u : Value} (hj : xs[j]? = some u) : w.cell? ⟨g, j, none⟩ = some u := by
  obtain ⟨cur, _, hh, _, _, _, h4⟩ := own_row h
  rw [cell_of_row _ _ _ _ _ _ hh]
  rw [← h4, List.getElem?_take] at hj
  split at hj
  · simpa using hj
  · cases hj
theorem own_free {w : World} {base m n c g : Nat} {e : TypeId} {xs : List Value} (h : w.ownsRow base e m (.slice (some ⟨g, 0, none⟩) n c) n xs) (j : Nat) : w.frozen? ⟨g, j, none⟩ = false := by
  obtain ⟨cur, _, hh, _⟩ := own_row h
  exact rf hh j
theorem own_set {w : World} {base m n c g : Nat} {e : TypeId} {xs : List Value} (h : w.ownsRow base e m (.slice (some ⟨g, 0, none⟩) n c) n xs) (j : Nat) (u : Value) : (w.setCell ⟨g, j, none⟩ u).ownsRow base e m (.slice (some ⟨g, 0, none⟩) n c) n (xs.set j u) := by
  obtain ⟨cur, hb, hh, h1, h2, h3, h4⟩ := own_row h
  refine ⟨by rw [List.length_set]; exact h.1, .inr ⟨g, c, cur.setIfInBounds j u, rfl, hb, heap_setCell_here hh u, h1, h2, by simpa using h3, ?_⟩⟩
  rw [Array.toList_setIfInBounds, List.take_set, h4]
theorem results_row_tmp {P : Program} {fn : Func} {p u : Tmp} {ty : TypeId} (h : fn.results = #[.cell p ty, .tmp u]) (tmps : Array Value) (w : World) (g : Nat) (t : TypeId) (cs : Array Value) (fr : Nat × Nat) (d : TypeDesc)
    (hp : tmps.getD p undef = .pointer (some ⟨g, 0, none⟩)) (hg : w.heap[g]? = some (.cells cs t fr)) (v : Value) (hv : tmps.getD u undef = v)
    (hu : P.underlying ty = some d) (hd : (match d with | .struct _ | .array _ _ => true | _ => false) = true) (hi : (P.info? ty).map (·.size) = some cs.size) :
    (results fn tmps).run P w = .ok (.tuple #[.agg cs, v]) w := by
  rw [results_cell_tmp h, hp, hv]
  simp [asAddr, Sem.run_pure, run_loadVar_row w g t ty cs fr d hg hu hd hi]
end Go.Proofs.YtggiicbjegmehaaDoor
