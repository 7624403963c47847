/- The walks of few$1, txs and few. -/
import Derived.Test.YtjanaholcjkceaaZ44
namespace Go.Proofs.Ytjanaholcjkceaa
set_option linter.unusedVariables false
set_option linter.unusedSimpArgs false
open Go.RowKit
set_option maxRecDepth 100000 in
set_option maxHeartbeats 4000000 in
theorem cut50_any (s : Bytes) (hs : s.length ≤ 9223372036854775807) (w : World) : Calls Try.prog 10 #[.string (bs s)] w fun e w' => e = .returned (.string (bs (s.take 50))) ∧ Below w.heap.size w w' := by
  obtain ⟨m, hm, hmm⟩ : ∃ m : Nat, min (s.length : Int) 50 = m ∧ m = min s.length 50 := ⟨min s.length 50, by omega, rfl⟩
  have hm1 : (m : Int) ≤ s.length := by omega
  have Hm := Lib.hid (show s.take 50 = s.take m by rw [hmm, List.take_eq_take_min]; rw [Nat.min_comm])
  rw [Hm.out]
  clear hmm
  go_enter Try.func10, Try.ntmps10
  go_wp2_with fail
  go_ret
  exact ⟨rfl, Below.refl _ _⟩
theorem strL_len (ps : List Bytes) : (strL ps).length = ps.length := by simp [strL]
theorem strL_get {ps : List Bytes} {i : Nat} {p : Bytes} (h : ps[i]? = some p) : (strL ps)[i]? = some (.string (bs p)) := by simp [strL, h]
theorem strL_of {S : Nat → Prop} {w : World} : ∀ (ps : List Bytes) (cs : List Value), RepN S w 1 (strsD ps) cs → cs = strL ps
  | [], _, h => by cases h; rfl
  | p :: ps, _, h => by
    cases h with
    | cons h0 _ h1 =>
      have h0 : Rep S w (.v (.string (bs p))) _ := h0
      rw [h0.v_form, strL_of ps _ h1]; rfl
theorem StrV.lies {S : Nat → Prop} {w : World} {ps : List Bytes} {A : Option Addr} {c : Nat} (h : StrV S w ps A c) : Lies S w A (strL ps) := by
  obtain ⟨css, h1, h2, _, _⟩ := Rep.slice_open h
  rwa [strL_of _ _ h1] at h2
theorem Lies.take {S : Nat → Prop} {w : World} {A : Option Addr} {cs : List Value} (h : Lies S w A cs) (n : Nat) : Lies S w A (cs.take n) := by
  rw [← List.take_append_drop n cs] at h
  exact Lies.take' h
theorem strV_of {S : Nat → Prop} {w : World} {ps : List Bytes} {A : Option Addr} {c : Nat} (h : Lies S w A (strL ps)) (h1 : ps.length ≤ c) (h2 : c ≤ maxLen) : StrV S w ps A c :=
  .sl (repN_strL ps) (by simp [strsD]) h h1 h2
theorem one_strL (ps : List Bytes) : ∀ u ∈ strL ps, u.oneCell' = true := by
  intro u hu; obtain ⟨p, _, rfl⟩ := List.mem_map.1 hu; rfl
theorem wpl_load_cs {P : Program} {ops : Array Oper} {rest : List Oper} {op : Oper} {a : Act} {w : World} {Q : Exit → Act → World → Prop} (hgd : op.guard = none) {ty : TypeId} {x : Operand} (ho : op.op = .load ty x)
    {g o : Nat} (hx : a.eval x = .pointer (some ⟨g, o, none⟩)) (cs : List Value) {d : TypeDesc} (hc : ∀ j u, cs[j]? = some u → w.cell? ⟨g, o + j, none⟩ = some u)
    (hu : P.underlying ty = some d) (hd : (match d with | .struct _ | .array _ _ => true | _ => false) = true) (hi : (P.info? ty).map (·.size) = some cs.length)
    (h : wpList P ops Q rest (a.put op.dst (.agg cs.toArray)) w) : wpList P ops Q (op :: rest) a w :=
  wpList_plain hgd fun _ hK => by
    unfold Oper.wp execOp
    simp only [ho, hx, Instr.loadAt, Instr.sureAddr, Sem.run_bind, Sem.run_pure, Result.andThen_ok, run_loadVar_at w g o ty cs d hc hu hd hi]
    exact hK _ _ h
def cutTr (t : Tr) : Tr := ⟨t.to.take 40, t.am, t.no, t.sg⟩
def cutHd (h : Hd) : Hd := ⟨h.parent.take 50, h.height, h.root.take 50, h.txs.take 50, h.prop.take 50, h.van.take 50, (h.vals.take 20).map (·.take 50), h.vote.take 50, h.add, h.round, h.seals.take 20⟩
def cutBk (b : Bk) : Bk := ⟨cutHd b.hd, (b.txs.take 8).map cutTr⟩
theorem flat_get {sz : Nat} : ∀ {ls : List (List Value)} {i : Nat} {cs : List Value}, (∀ l ∈ ls, l.length = sz) → ls[i]? = some cs → ∀ j u, cs[j]? = some u → ls.flatten[i * sz + j]? = some u
  | b :: l, 0, a, hl, h, j, u, hj => by
    simp at h; subst h
    have h1 := (List.getElem?_eq_some_iff.1 hj).1
    rw [Nat.zero_mul, Nat.zero_add, List.flatten_cons, List.getElem?_append_left h1]; exact hj
  | b :: l, i + 1, a, hl, h, j, u, hj => by
    simp at h
    have hb := hl b (by simp)
    rw [List.flatten_cons, List.getElem?_append_right (by rw [Nat.add_mul]; omega), show (i + 1) * sz + j - b.length = i * sz + j by rw [Nat.add_mul]; omega]
    exact flat_get (fun l h => hl l (by simp [h])) h j u hj
theorem trs_flat_len (l : List Tr) : ((l.map trL).flatten).length = l.length * 12 := by
  induction l with
  | nil => rfl
  | cons a l ih => rw [List.map_cons, List.flatten_cons, List.length_append, ih, List.length_cons, Nat.add_mul]; show 12 + _ = _; omega
theorem trs_one (l : List Tr) : ∀ u ∈ (l.map trL).flatten, u.oneCell' = true := fun u hu => by
  obtain ⟨a, ha, hu⟩ := List.mem_flatten.1 hu
  obtain ⟨t, _, rfl⟩ := List.mem_map.1 ha
  exact (trL_ok t).2 u hu
/-- transfers of which so many are cut -/
def cutsT (k : Nat) (l : List Tr) : List Tr := (l.take k).map cutTr ++ l.drop k
theorem cutsT_all (l : List Tr) : cutsT l.length l = l.map cutTr := by simp [cutsT]
theorem cutsT_get {k : Nat} {l : List Tr} {a : Tr} (h : l[k]? = some a) : (cutsT k l)[k]? = some a := by
  have hk := (List.getElem?_eq_some_iff.1 h).1
  unfold cutsT
  rw [List.getElem?_append_right (by simp; omega)]
  simp [Nat.min_eq_left (Nat.le_of_lt hk), h]
theorem cutsT_set {k : Nat} {l : List Tr} {a : Tr} (h : l[k]? = some a) : ((cutsT k l).map trL).flatten.set (k * 12) (.string (bs (a.to.take 40))) = ((cutsT (k + 1) l).map trL).flatten := by
  have hk := (List.getElem?_eq_some_iff.1 h).1
  have hl : (((l.take k).map cutTr).map trL).flatten.length = k * 12 := by rw [trs_flat_len]; simp; omega
  unfold cutsT
  rw [take_snoc h, drop_cons h]
  simp only [List.map_append, List.flatten_append, List.map_cons, List.flatten_cons, List.map_nil, List.flatten_nil, List.append_nil]
  rw [List.set_append_right _ _ (by omega), hl, Nat.sub_self, List.append_assoc]
  rfl
/-- texts of which so many are cut -/
def cutsS (k : Nat) (l : List Bytes) : List Bytes := (l.take k).map (·.take 50) ++ l.drop k
theorem cutsS_all (l : List Bytes) : cutsS l.length l = l.map (·.take 50) := by simp [cutsS]
theorem cutsS_get {k : Nat} {l : List Bytes} {a : Bytes} (h : l[k]? = some a) : (cutsS k l)[k]? = some a := by
  have hk := (List.getElem?_eq_some_iff.1 h).1
  unfold cutsS
  rw [List.getElem?_append_right (by simp; omega)]
  simp [Nat.min_eq_left (Nat.le_of_lt hk), h]
theorem strL_append (a b : List Bytes) : strL (a ++ b) = strL a ++ strL b := by simp [strL]
theorem cutsS_set {k : Nat} {l : List Bytes} {a : Bytes} (h : l[k]? = some a) : (strL (cutsS k l)).set k (.string (bs (a.take 50))) = strL (cutsS (k + 1) l) := by
  have hk := (List.getElem?_eq_some_iff.1 h).1
  unfold cutsS
  rw [take_snoc h, drop_cons h, List.map_append, strL_append, strL_append, strL_append]
  have hl : (strL ((l.take k).map (·.take 50))).length = k := by rw [strL_len]; simp; omega
  rw [List.set_append_right _ _ (by omega), hl, Nat.sub_self, List.append_assoc]
  rfl
theorem PlV.take {S : Nat → Prop} {w : World} {sz : Nat} {ls : List (List Value)} {A : Option Addr} {c : Nat} (h : PlV S w sz ls A c) (hl : ∀ l ∈ ls, l.length = sz ∧ ∀ u ∈ l, u.oneCell' = true) (n : Nat) : PlV S w sz (ls.take n) A c := by
  have h1 := h.lies
  rw [← List.take_append_drop n ls, List.flatten_append] at h1
  have h2 := h.len
  exact .sl (plN_rep fun l hx => hl l (List.mem_of_mem_take hx)) (by simp) (Lies.take' h1) (by rw [List.length_take]; omega) h2.2
set_option maxRecDepth 100000 in
set_option maxHeartbeats 4000000 in
theorem txs18_any (l : List Tr) (hf : ∀ t ∈ l, t.Fine) (A : Option Addr) (c : Nat) (w : World) (hv : TrsV Any w l A c) :
    Calls Try.prog 11 #[.slice A l.length c] w fun e w' => ∃ A2 c2, e = .returned (.slice A2 ((l.take 8).map cutTr).length c2) ∧ TrsV (From w.heap.size) w' ((l.take 8).map cutTr) A2 c2 ∧ Below w.heap.size w w' := by
  have hl := PlV.len hv
  simp only [maxLen, List.length_map] at hl
  obtain ⟨m, hm, hmm⟩ : ∃ m : Nat, min (l.length : Int) 8 = m ∧ m = min l.length 8 := ⟨min l.length 8, by omega, rfl⟩
  have hlen63 : (l.length : Int) ≤ 9223372036854775807 := by omega
  have hm1 : (m : Int) ≤ l.length := by omega
  have hm2 : (m : Int) ≤ c := by omega
  have hm3 : (m : Int) ≤ 8 := by omega
  have hmq : l.take 8 = l.take m := by rw [hmm, List.take_eq_take_min, Nat.min_comm]
  have hq : (l.take m).length = m := by rw [List.length_take]; omega
  have hown0 : (w.alloc (.cells #[] 51)).ownsRow w.heap.size 51 12 (.slice (some ⟨w.heap.size, 0, none⟩) 0 0) 0 [] := World.ownsRow_lit w _ 0 (Nat.le_refl _) (by simp [maxLen]) rfl
  have hnews : Lies Any (w.alloc (.cells #[] 51)) A ((l.take m).map trL).flatten := by
    have h0 := PlV.lies (PlV.take (Rep.alloc hv (.cells #[] 51)) (fun x hx => by obtain ⟨y, _, rfl⟩ := List.mem_map.1 hx; exact trL_ok y) m)
    rw [← List.map_take] at h0
    exact h0
  have hqp : ∀ p ∈ l.take m, p.Fine := fun p h => hf p (List.mem_of_mem_take h)
  rw [hmq]
  clear hmm hf hmq
  generalize l.take m = qs at hq hnews hqp ⊢
  subst hq
  have HL := Lib.hid (trs_flat_len qs)
  have HP := Lib.hid hqp
  clear hqp
  go_enter Try.func11, Try.ntmps11
  go_wp2_with (at_builtin; refine wpl_append elTr rfl rfl w.heap.size hown0 rfl (m := qs.length) ((qs.map trL).flatten) rfl HL.out hnews (trs_one _) (by simp only [maxLen]; omega) (by omega) (by simp) ?_; intro v1 w1 hown1 hg1 hat1; rw [Nat.zero_add] at hown1; obtain ⟨A1, c1, rfl⟩ := own_form hown1)
  have hb1 : Below w.heap.size w w1 := below_app ((Below.refl _ _).alloc (Nat.le_refl _) _) hown0 hg1 (by simp) (Nat.le_refl _)
  clear hm hown0 hnews hg1 hat1
  go_loopw [14] (fun i wr => ∃ j : Nat, j ≤ qs.length ∧ i = .int .i64 j ∧ wr.ownsRow w.heap.size 51 12 (.slice A1 qs.length c1) qs.length ((cutsT j qs).map trL).flatten ∧ Below w.heap.size w wr) (fun i _ => qs.length - (intOf i).toNat)
  case atStart => exact ⟨0, Nat.zero_le _, rfl, hown1, hb1⟩
  case round =>
    obtain ⟨j, hj, rfl, hown, hb⟩ := hrel
    clear hown1 hb1
    by_cases hlt : j < qs.length
    · obtain ⟨g, rfl, hg0, hg1⟩ := own_ptr hown (by omega)
      obtain ⟨t, ha⟩ := getElem_ex hlt
      have hpl := (HP.out t (List.mem_of_getElem? ha)).to
      have Hs := Lib.hid (cutsT_set ha)
      have kk := fun j' u hj' => own_cell hown (flat_get (fun x hx => by obtain ⟨y, _, rfl⟩ := List.mem_map.1 hx; exact (trL_ok y).1) (by rw [List.getElem?_map, cutsT_get ha]; rfl : ((cutsT j qs).map trL)[j]? = some (trL t)) j' u hj')
      have HK := Lib.hid kk
      have HA := Lib.hid ha
      have hlt' : (j : Int) < qs.length := by omega
      obtain ⟨m, hm, hmm⟩ : ∃ m : Nat, min (t.to.length : Int) 40 = m ∧ m = min t.to.length 40 := ⟨min t.to.length 40, by omega, rfl⟩
      have hm1 : (m : Int) ≤ t.to.length := by omega
      have hto63 : (t.to.length : Int) ≤ 9223372036854775807 := by omega
      have Hm := Lib.hid (show t.to.take 40 = t.to.take m by rw [hmm, List.take_eq_take_min]; rw [Nat.min_comm])
      have HO := Lib.hid hown
      have hZ := heap_alloc_new wr (.cells #[.string ⟨#[]⟩, .int .u64 0, .int .u64 0, .int .u64 0, .int .u64 0, .int .u64 0, .int .u64 0, .int .u64 0, .int .u64 0, .int .u64 0, .int .u64 0, .int .i64 0] 51)
      have HZ := Lib.hid hZ
      have hba := below_setRow ((Below.refl wr.heap.size wr).alloc (Nat.le_refl _) (.cells #[.string ⟨#[]⟩, .int .u64 0, .int .u64 0, .int .u64 0, .int .u64 0, .int .u64 0, .int .u64 0, .int .u64 0, .int .u64 0, .int .u64 0, .int .u64 0, .int .i64 0] 51)) (Nat.le_refl wr.heap.size) #[.string (bs t.to), .int .u64 (t.am : Int), .int .u64 (t.no : Int), .int .u64 (t.sg.r.a : Int), .int .u64 (t.sg.r.b : Int), .int .u64 (t.sg.r.c : Int), .int .u64 (t.sg.r.d : Int), .int .u64 (t.sg.s.a : Int), .int .u64 (t.sg.s.b : Int), .int .u64 (t.sg.s.c : Int), .int .u64 (t.sg.s.d : Int), .int .i64 t.sg.v]
      have hT := setRow_heap (wr.alloc (.cells #[.string ⟨#[]⟩, .int .u64 0, .int .u64 0, .int .u64 0, .int .u64 0, .int .u64 0, .int .u64 0, .int .u64 0, .int .u64 0, .int .u64 0, .int .u64 0, .int .i64 0] 51)) wr.heap.size _ #[.string (bs t.to), .int .u64 (t.am : Int), .int .u64 (t.no : Int), .int .u64 (t.sg.r.a : Int), .int .u64 (t.sg.r.b : Int), .int .u64 (t.sg.r.c : Int), .int .u64 (t.sg.r.d : Int), .int .u64 (t.sg.s.a : Int), .int .u64 (t.sg.s.b : Int), .int .u64 (t.sg.s.c : Int), .int .u64 (t.sg.s.d : Int), .int .i64 t.sg.v] _ _ hZ
      clear ha hmm hown kk hZ
      go_wp2_with (first | (refine wpl_load_cs rfl rfl rfl [.string (bs t.to), .int .u64 (t.am : Int), .int .u64 (t.no : Int), .int .u64 (t.sg.r.a : Int), .int .u64 (t.sg.r.b : Int), .int .u64 (t.sg.r.c : Int), .int .u64 (t.sg.r.d : Int), .int .u64 (t.sg.s.a : Int), .int .u64 (t.sg.s.b : Int), .int .u64 (t.sg.s.c : Int), .int .u64 (t.sg.s.d : Int), .int .i64 t.sg.v] HK.out Try.underlying51 rfl infoTr ?_) | (refine wpList_store_row rfl _ _ _ rfl wr.heap.size #[.string (bs t.to), .int .u64 (t.am : Int), .int .u64 (t.no : Int), .int .u64 (t.sg.r.a : Int), .int .u64 (t.sg.r.b : Int), .int .u64 (t.sg.r.c : Int), .int .u64 (t.sg.r.d : Int), .int .u64 (t.sg.s.a : Int), .int .u64 (t.sg.s.b : Int), .int .u64 (t.sg.s.c : Int), .int .u64 (t.sg.s.d : Int), .int .i64 t.sg.v] rfl rfl _ _ HZ.out infoTr rfl (one12 _ _ _ _ _ _ _ _ _ _ _ _) ?_; generalize (wr.alloc (.cells #[.string ⟨#[]⟩, .int .u64 0, .int .u64 0, .int .u64 0, .int .u64 0, .int .u64 0, .int .u64 0, .int .u64 0, .int .u64 0, .int .u64 0, .int .u64 0, .int .i64 0] 51)).setRow wr.heap.size #[.string (bs t.to), .int .u64 (t.am : Int), .int .u64 (t.no : Int), .int .u64 (t.sg.r.a : Int), .int .u64 (t.sg.r.b : Int), .int .u64 (t.sg.r.c : Int), .int .u64 (t.sg.r.d : Int), .int .u64 (t.sg.s.a : Int), .int .u64 (t.sg.s.b : Int), .int .u64 (t.sg.s.c : Int), .int .u64 (t.sg.s.d : Int), .int .i64 t.sg.v] = W3 at hba hT ⊢; have hO3 := own_keep HO.out hba; have hB3 := below_call hb hb.size hba; have hs := hba.size; have x0 := rc (u := .string (bs t.to)) hT 0 rfl; have hf3 := own_free hO3 (j * 12); have kc := own_cell hO3 (j := j * 12) (flat_get (fun x hx => by obtain ⟨y, _, rfl⟩ := List.mem_map.1 hx; exact (trL_ok y).1) (by rw [List.getElem?_map, cutsT_get HA.out]; rfl : ((cutsT j qs).map trL)[j]? = some (trL t)) 0 (.string (bs t.to)) rfl); have hgl : g < W3.heap.size := (Nat.lt_of_lt_of_le hg1 hs); have HO3 := Lib.hid hO3; clear hT hO3 HO HZ hba))
      go_roundw
      case rel =>
        have h := own_set HO3.out (j * 12) (.string (bs (t.to.take 40)))
        rw [Hs.out, Hm.out] at h
        exact ⟨j + 1, hlt, by go_num, h, hB3.setCell (p := ⟨g, j * 12, none⟩) hg0 _⟩
      case measure => simp [intOf]; omega
    · obtain rfl : j = qs.length := by omega
      rw [cutsT_all] at hown
      have hv' : TrsV (From w.heap.size) wr (qs.map cutTr) A1 c1 := PlV.own hown (by simp) (fun x hx => by obtain ⟨y, _, rfl⟩ := List.mem_map.1 hx; exact trL_ok y) (fun b h1 _ => h1)
      have HV := Lib.hid hv'
      have HB := Lib.hid hb
      clear hown hb hv'
      go_wp2_with fail
      go_ret
      exact ⟨A1, c1, by rw [show (qs.map cutTr).length = qs.length by simp]; rfl, HV.out, HB.out⟩
set_option maxRecDepth 100000 in
set_option maxHeartbeats 4000000 in
theorem few18_any {S : Nat → Prop} (b : Bk) (hh : b.hd.Fine) (ht : ∀ t ∈ b.txs, t.Fine) (Av As At : Option Addr) (cv cs ct : Nat) (w : World) (hv : BkV S w b Av cv As cs At ct) :
    Calls Try.prog 4 #[.agg #[.string (bs b.hd.parent), .int .u64 (b.hd.height : Int), .string (bs b.hd.root), .string (bs b.hd.txs), .string (bs b.hd.prop), .string (bs b.hd.van), .slice Av b.hd.vals.length cv, .string (bs b.hd.vote), .bool b.hd.add, .int .u64 (b.hd.round : Int), .slice As b.hd.seals.length cs, .slice At b.txs.length ct]] w fun e w' => ∃ (Av' As' At' : Option Addr) (cv' cs' ct' : Nat), e = .returned (.agg #[.string (bs (cutBk b).hd.parent), .int .u64 ((cutBk b).hd.height : Int), .string (bs (cutBk b).hd.root), .string (bs (cutBk b).hd.txs), .string (bs (cutBk b).hd.prop), .string (bs (cutBk b).hd.van), .slice Av' (cutBk b).hd.vals.length cv', .string (bs (cutBk b).hd.vote), .bool (cutBk b).hd.add, .int .u64 ((cutBk b).hd.round : Int), .slice As' (cutBk b).hd.seals.length cs', .slice At' (cutBk b).txs.length ct']) ∧ BkV (fun g => S g ∨ w.heap.size ≤ g) w' (cutBk b) Av' cv' As' cs' At' ct' ∧ Below w.heap.size w w' := by
  have hvl := (Rep.slice_len hv.hd.vals).2
  have hsl := PlV.len hv.hd.seals
  simp only [maxLen, List.length_map] at hvl hsl
  obtain ⟨mv, hmv, hmv0⟩ : ∃ m : Nat, min (b.hd.vals.length : Int) 20 = m ∧ m = min b.hd.vals.length 20 := ⟨min b.hd.vals.length 20, by omega, rfl⟩
  obtain ⟨ms, hms, hms0⟩ : ∃ m : Nat, min (b.hd.seals.length : Int) 20 = m ∧ m = min b.hd.seals.length 20 := ⟨min b.hd.seals.length 20, by omega, rfl⟩
  have hv1 : (mv : Int) ≤ b.hd.vals.length := by omega
  have hv2 : (mv : Int) ≤ cv := by omega
  have hv3 : (mv : Int) ≤ 20 := by omega
  have hs1 : (ms : Int) ≤ b.hd.seals.length := by omega
  have hs2 : (ms : Int) ≤ cs := by omega
  have hvl63 : (b.hd.vals.length : Int) ≤ 9223372036854775807 := by omega
  have hsl63 : (b.hd.seals.length : Int) ≤ 9223372036854775807 := by omega
  have hvq : b.hd.vals.take 20 = b.hd.vals.take mv := by rw [hmv0, List.take_eq_take_min, Nat.min_comm]
  have hsq : b.hd.seals.take 20 = b.hd.seals.take ms := by rw [hms0, List.take_eq_take_min, Nat.min_comm]
  have hql : (b.hd.vals.take mv).length = mv := by rw [List.length_take]; omega
  have hsl' : (b.hd.seals.take ms).length = ms := by rw [List.length_take]; omega
  have HC : Hid (cutBk b = ⟨⟨b.hd.parent.take 50, b.hd.height, b.hd.root.take 50, b.hd.txs.take 50, b.hd.prop.take 50, b.hd.van.take 50, (b.hd.vals.take mv).map (·.take 50), b.hd.vote.take 50, b.hd.add, b.hd.round, b.hd.seals.take ms⟩, (b.txs.take 8).map cutTr⟩) := Lib.hid (by unfold cutBk cutHd; rw [hvq, hsq])
  have HF := Lib.hid hh
  have HT := Lib.hid ht
  have HV := Lib.hid hv
  have HQP : Hid (∀ a ∈ b.hd.vals.take mv, a.length ≤ 9223372036854775807) := Lib.hid fun a ha => hh.vals a (List.mem_of_mem_take ha)
  have HQV : Hid (StrV Any w (b.hd.vals.take mv) Av cv) := Lib.hid (strV_of (by have := (StrV.lies (StrV.any hv.hd.vals)).take mv; unfold strL at this ⊢; rwa [List.map_take]) (by omega) (by have := (Rep.slice_len hv.hd.vals).2; omega))
  have HSV : Hid (SgsV S w (b.hd.seals.take ms) As cs) := Lib.hid (by have := PlV.take hv.hd.seals (fun x hx => by obtain ⟨y, _, rfl⟩ := List.mem_map.1 hx; exact sgL_ok y) ms; unfold SgsV; rwa [List.map_take])
  have HQL := Lib.hid hql
  have HSL := Lib.hid hsl'
  clear hvq hsq hql hsl' hmv0 hms0 hh ht hv hvl hsl
  generalize b.hd.vals.take mv = qs at *
  obtain rfl := HQL.out
  have HLN : Hid ((strL qs).length = qs.length * 1) := Lib.hid (by rw [strL_len]; omega)
  have hA0 := heap_alloc_new w (.cells #[.string (bs b.hd.parent), .int .u64 (b.hd.height : Int), .string (bs b.hd.root), .string (bs b.hd.txs), .string (bs b.hd.prop), .string (bs b.hd.van), .slice Av b.hd.vals.length cv, .string (bs b.hd.vote), .bool b.hd.add, .int .u64 (b.hd.round : Int), .slice As b.hd.seals.length cs, .slice At b.txs.length ct] 29)
  have hA1 := heap_alloc_new (w.alloc (.cells #[.string (bs b.hd.parent), .int .u64 (b.hd.height : Int), .string (bs b.hd.root), .string (bs b.hd.txs), .string (bs b.hd.prop), .string (bs b.hd.van), .slice Av b.hd.vals.length cv, .string (bs b.hd.vote), .bool b.hd.add, .int .u64 (b.hd.round : Int), .slice As b.hd.seals.length cs, .slice At b.txs.length ct] 29)) (.cells #[.string ⟨#[]⟩, .int .u64 0, .string ⟨#[]⟩, .string ⟨#[]⟩, .string ⟨#[]⟩, .string ⟨#[]⟩, .slice none 0 0, .string ⟨#[]⟩, .bool false, .int .u64 0, .slice none 0 0, .slice none 0 0] 29)
  rw [show (w.alloc (.cells #[.string (bs b.hd.parent), .int .u64 (b.hd.height : Int), .string (bs b.hd.root), .string (bs b.hd.txs), .string (bs b.hd.prop), .string (bs b.hd.van), .slice Av b.hd.vals.length cv, .string (bs b.hd.vote), .bool b.hd.add, .int .u64 (b.hd.round : Int), .slice As b.hd.seals.length cs, .slice At b.txs.length ct] 29)).heap.size = w.heap.size + 1 by simp] at hA1
  have hA2 := heap_alloc_new ((w.alloc (.cells #[.string (bs b.hd.parent), .int .u64 (b.hd.height : Int), .string (bs b.hd.root), .string (bs b.hd.txs), .string (bs b.hd.prop), .string (bs b.hd.van), .slice Av b.hd.vals.length cv, .string (bs b.hd.vote), .bool b.hd.add, .int .u64 (b.hd.round : Int), .slice As b.hd.seals.length cs, .slice At b.txs.length ct] 29)).alloc (.cells #[.string ⟨#[]⟩, .int .u64 0, .string ⟨#[]⟩, .string ⟨#[]⟩, .string ⟨#[]⟩, .string ⟨#[]⟩, .slice none 0 0, .string ⟨#[]⟩, .bool false, .int .u64 0, .slice none 0 0, .slice none 0 0] 29)) (.cells #[.string ⟨#[]⟩, .int .u64 0, .string ⟨#[]⟩, .string ⟨#[]⟩, .string ⟨#[]⟩, .string ⟨#[]⟩, .slice none 0 0, .string ⟨#[]⟩, .bool false, .int .u64 0, .slice none 0 0] 26)
  rw [show ((w.alloc (.cells #[.string (bs b.hd.parent), .int .u64 (b.hd.height : Int), .string (bs b.hd.root), .string (bs b.hd.txs), .string (bs b.hd.prop), .string (bs b.hd.van), .slice Av b.hd.vals.length cv, .string (bs b.hd.vote), .bool b.hd.add, .int .u64 (b.hd.round : Int), .slice As b.hd.seals.length cs, .slice At b.txs.length ct] 29)).alloc (.cells #[.string ⟨#[]⟩, .int .u64 0, .string ⟨#[]⟩, .string ⟨#[]⟩, .string ⟨#[]⟩, .string ⟨#[]⟩, .slice none 0 0, .string ⟨#[]⟩, .bool false, .int .u64 0, .slice none 0 0, .slice none 0 0] 29)).heap.size = w.heap.size + 1 + 1 by simp] at hA2
  have hA01 := (heap_alloc_old (w.alloc (.cells #[.string (bs b.hd.parent), .int .u64 (b.hd.height : Int), .string (bs b.hd.root), .string (bs b.hd.txs), .string (bs b.hd.prop), .string (bs b.hd.van), .slice Av b.hd.vals.length cv, .string (bs b.hd.vote), .bool b.hd.add, .int .u64 (b.hd.round : Int), .slice As b.hd.seals.length cs, .slice At b.txs.length ct] 29)) (.cells #[.string ⟨#[]⟩, .int .u64 0, .string ⟨#[]⟩, .string ⟨#[]⟩, .string ⟨#[]⟩, .string ⟨#[]⟩, .slice none 0 0, .string ⟨#[]⟩, .bool false, .int .u64 0, .slice none 0 0, .slice none 0 0] 29) (by simp)).trans hA0
  have hA02 := (heap_alloc_old ((w.alloc (.cells #[.string (bs b.hd.parent), .int .u64 (b.hd.height : Int), .string (bs b.hd.root), .string (bs b.hd.txs), .string (bs b.hd.prop), .string (bs b.hd.van), .slice Av b.hd.vals.length cv, .string (bs b.hd.vote), .bool b.hd.add, .int .u64 (b.hd.round : Int), .slice As b.hd.seals.length cs, .slice At b.txs.length ct] 29)).alloc (.cells #[.string ⟨#[]⟩, .int .u64 0, .string ⟨#[]⟩, .string ⟨#[]⟩, .string ⟨#[]⟩, .string ⟨#[]⟩, .slice none 0 0, .string ⟨#[]⟩, .bool false, .int .u64 0, .slice none 0 0, .slice none 0 0] 29)) (.cells #[.string ⟨#[]⟩, .int .u64 0, .string ⟨#[]⟩, .string ⟨#[]⟩, .string ⟨#[]⟩, .string ⟨#[]⟩, .slice none 0 0, .string ⟨#[]⟩, .bool false, .int .u64 0, .slice none 0 0] 26) (by simp; omega)).trans hA01
  have hA12 := (heap_alloc_old ((w.alloc (.cells #[.string (bs b.hd.parent), .int .u64 (b.hd.height : Int), .string (bs b.hd.root), .string (bs b.hd.txs), .string (bs b.hd.prop), .string (bs b.hd.van), .slice Av b.hd.vals.length cv, .string (bs b.hd.vote), .bool b.hd.add, .int .u64 (b.hd.round : Int), .slice As b.hd.seals.length cs, .slice At b.txs.length ct] 29)).alloc (.cells #[.string ⟨#[]⟩, .int .u64 0, .string ⟨#[]⟩, .string ⟨#[]⟩, .string ⟨#[]⟩, .string ⟨#[]⟩, .slice none 0 0, .string ⟨#[]⟩, .bool false, .int .u64 0, .slice none 0 0, .slice none 0 0] 29)) (.cells #[.string ⟨#[]⟩, .int .u64 0, .string ⟨#[]⟩, .string ⟨#[]⟩, .string ⟨#[]⟩, .string ⟨#[]⟩, .slice none 0 0, .string ⟨#[]⟩, .bool false, .int .u64 0, .slice none 0 0] 26) (by simp)).trans hA1
  have hX0 := (heap_setRow_ne (((w.alloc (.cells #[.string (bs b.hd.parent), .int .u64 (b.hd.height : Int), .string (bs b.hd.root), .string (bs b.hd.txs), .string (bs b.hd.prop), .string (bs b.hd.van), .slice Av b.hd.vals.length cv, .string (bs b.hd.vote), .bool b.hd.add, .int .u64 (b.hd.round : Int), .slice As b.hd.seals.length cs, .slice At b.txs.length ct] 29)).alloc (.cells #[.string ⟨#[]⟩, .int .u64 0, .string ⟨#[]⟩, .string ⟨#[]⟩, .string ⟨#[]⟩, .string ⟨#[]⟩, .slice none 0 0, .string ⟨#[]⟩, .bool false, .int .u64 0, .slice none 0 0, .slice none 0 0] 29)).alloc (.cells #[.string ⟨#[]⟩, .int .u64 0, .string ⟨#[]⟩, .string ⟨#[]⟩, .string ⟨#[]⟩, .string ⟨#[]⟩, .slice none 0 0, .string ⟨#[]⟩, .bool false, .int .u64 0, .slice none 0 0] 26)) (show w.heap.size ≠ w.heap.size + 1 + 1 by omega) #[.string (bs b.hd.parent), .int .u64 (b.hd.height : Int), .string (bs b.hd.root), .string (bs b.hd.txs), .string (bs b.hd.prop), .string (bs b.hd.van), .slice Av b.hd.vals.length cv, .string (bs b.hd.vote), .bool b.hd.add, .int .u64 (b.hd.round : Int), .slice As b.hd.seals.length cs]).trans hA02
  have hX1 := (heap_setRow_ne (((w.alloc (.cells #[.string (bs b.hd.parent), .int .u64 (b.hd.height : Int), .string (bs b.hd.root), .string (bs b.hd.txs), .string (bs b.hd.prop), .string (bs b.hd.van), .slice Av b.hd.vals.length cv, .string (bs b.hd.vote), .bool b.hd.add, .int .u64 (b.hd.round : Int), .slice As b.hd.seals.length cs, .slice At b.txs.length ct] 29)).alloc (.cells #[.string ⟨#[]⟩, .int .u64 0, .string ⟨#[]⟩, .string ⟨#[]⟩, .string ⟨#[]⟩, .string ⟨#[]⟩, .slice none 0 0, .string ⟨#[]⟩, .bool false, .int .u64 0, .slice none 0 0, .slice none 0 0] 29)).alloc (.cells #[.string ⟨#[]⟩, .int .u64 0, .string ⟨#[]⟩, .string ⟨#[]⟩, .string ⟨#[]⟩, .string ⟨#[]⟩, .slice none 0 0, .string ⟨#[]⟩, .bool false, .int .u64 0, .slice none 0 0] 26)) (show w.heap.size + 1 ≠ w.heap.size + 1 + 1 by omega) #[.string (bs b.hd.parent), .int .u64 (b.hd.height : Int), .string (bs b.hd.root), .string (bs b.hd.txs), .string (bs b.hd.prop), .string (bs b.hd.van), .slice Av b.hd.vals.length cv, .string (bs b.hd.vote), .bool b.hd.add, .int .u64 (b.hd.round : Int), .slice As b.hd.seals.length cs]).trans hA12
  have hX2 := setRow_heap (((w.alloc (.cells #[.string (bs b.hd.parent), .int .u64 (b.hd.height : Int), .string (bs b.hd.root), .string (bs b.hd.txs), .string (bs b.hd.prop), .string (bs b.hd.van), .slice Av b.hd.vals.length cv, .string (bs b.hd.vote), .bool b.hd.add, .int .u64 (b.hd.round : Int), .slice As b.hd.seals.length cs, .slice At b.txs.length ct] 29)).alloc (.cells #[.string ⟨#[]⟩, .int .u64 0, .string ⟨#[]⟩, .string ⟨#[]⟩, .string ⟨#[]⟩, .string ⟨#[]⟩, .slice none 0 0, .string ⟨#[]⟩, .bool false, .int .u64 0, .slice none 0 0, .slice none 0 0] 29)).alloc (.cells #[.string ⟨#[]⟩, .int .u64 0, .string ⟨#[]⟩, .string ⟨#[]⟩, .string ⟨#[]⟩, .string ⟨#[]⟩, .slice none 0 0, .string ⟨#[]⟩, .bool false, .int .u64 0, .slice none 0 0] 26)) (w.heap.size + 1 + 1) _ #[.string (bs b.hd.parent), .int .u64 (b.hd.height : Int), .string (bs b.hd.root), .string (bs b.hd.txs), .string (bs b.hd.prop), .string (bs b.hd.van), .slice Av b.hd.vals.length cv, .string (bs b.hd.vote), .bool b.hd.add, .int .u64 (b.hd.round : Int), .slice As b.hd.seals.length cs] _ _ hA2
  have hB : Below w.heap.size w ((((w.alloc (.cells #[.string (bs b.hd.parent), .int .u64 (b.hd.height : Int), .string (bs b.hd.root), .string (bs b.hd.txs), .string (bs b.hd.prop), .string (bs b.hd.van), .slice Av b.hd.vals.length cv, .string (bs b.hd.vote), .bool b.hd.add, .int .u64 (b.hd.round : Int), .slice As b.hd.seals.length cs, .slice At b.txs.length ct] 29)).alloc (.cells #[.string ⟨#[]⟩, .int .u64 0, .string ⟨#[]⟩, .string ⟨#[]⟩, .string ⟨#[]⟩, .string ⟨#[]⟩, .slice none 0 0, .string ⟨#[]⟩, .bool false, .int .u64 0, .slice none 0 0, .slice none 0 0] 29)).alloc (.cells #[.string ⟨#[]⟩, .int .u64 0, .string ⟨#[]⟩, .string ⟨#[]⟩, .string ⟨#[]⟩, .string ⟨#[]⟩, .slice none 0 0, .string ⟨#[]⟩, .bool false, .int .u64 0, .slice none 0 0] 26)).setRow (w.heap.size + 1 + 1) #[.string (bs b.hd.parent), .int .u64 (b.hd.height : Int), .string (bs b.hd.root), .string (bs b.hd.txs), .string (bs b.hd.prop), .string (bs b.hd.van), .slice Av b.hd.vals.length cv, .string (bs b.hd.vote), .bool b.hd.add, .int .u64 (b.hd.round : Int), .slice As b.hd.seals.length cs]) := below_setRow ((((Below.refl _ _).alloc (Nat.le_refl _) _).alloc (by simp) _).alloc (by simp; omega) _) (by omega) _
  have HA2 := Lib.hid hA2
  have HK0 : Hid (∀ j u, ([.string (bs b.hd.parent), .int .u64 (b.hd.height : Int), .string (bs b.hd.root), .string (bs b.hd.txs), .string (bs b.hd.prop), .string (bs b.hd.van), .slice Av b.hd.vals.length cv, .string (bs b.hd.vote), .bool b.hd.add, .int .u64 (b.hd.round : Int), .slice As b.hd.seals.length cs] : List Value)[j]? = some u → ((w.alloc (.cells #[.string (bs b.hd.parent), .int .u64 (b.hd.height : Int), .string (bs b.hd.root), .string (bs b.hd.txs), .string (bs b.hd.prop), .string (bs b.hd.van), .slice Av b.hd.vals.length cv, .string (bs b.hd.vote), .bool b.hd.add, .int .u64 (b.hd.round : Int), .slice As b.hd.seals.length cs, .slice At b.txs.length ct] 29)).alloc (.cells #[.string ⟨#[]⟩, .int .u64 0, .string ⟨#[]⟩, .string ⟨#[]⟩, .string ⟨#[]⟩, .string ⟨#[]⟩, .slice none 0 0, .string ⟨#[]⟩, .bool false, .int .u64 0, .slice none 0 0, .slice none 0 0] 29)).cell? ⟨w.heap.size, 0 + j, none⟩ = some u) := Lib.hid fun j u hj => by
    rw [Nat.zero_add]
    refine rc hA01 j ?_
    have := (List.getElem?_eq_some_iff.1 hj).1
    match j, this with
    | 0, _ => exact hj
    | 1, _ => exact hj
    | 2, _ => exact hj
    | 3, _ => exact hj
    | 4, _ => exact hj
    | 5, _ => exact hj
    | 6, _ => exact hj
    | 7, _ => exact hj
    | 8, _ => exact hj
    | 9, _ => exact hj
    | 10, _ => exact hj
  have HX0 := Lib.hid hX0
  have HX1 := Lib.hid hX1
  have HX2 := Lib.hid hX2
  have HB := Lib.hid hB
  clear hA0 hA1 hA2 hA01 hA02 hA12 hX0 hX1 hX2 hB
  go_enter Try.func4, Try.ntmps4
  go_wp2_with (first | (refine wpl_load_cs rfl rfl rfl [.string (bs b.hd.parent), .int .u64 (b.hd.height : Int), .string (bs b.hd.root), .string (bs b.hd.txs), .string (bs b.hd.prop), .string (bs b.hd.van), .slice Av b.hd.vals.length cv, .string (bs b.hd.vote), .bool b.hd.add, .int .u64 (b.hd.round : Int), .slice As b.hd.seals.length cs] HK0.out Try.underlying26 rfl infoHd ?_) | (refine wpList_store_row rfl _ _ _ rfl (w.heap.size + 1 + 1) #[.string (bs b.hd.parent), .int .u64 (b.hd.height : Int), .string (bs b.hd.root), .string (bs b.hd.txs), .string (bs b.hd.prop), .string (bs b.hd.van), .slice Av b.hd.vals.length cv, .string (bs b.hd.vote), .bool b.hd.add, .int .u64 (b.hd.round : Int), .slice As b.hd.seals.length cs] rfl rfl _ _ HA2.out infoHd rfl (one11 _ [] _ _ _ _ _ _ _ _ _ _ _ _ _ _) ?_))
  clear HK0 HA2
  generalize (((w.alloc (.cells #[.string (bs b.hd.parent), .int .u64 (b.hd.height : Int), .string (bs b.hd.root), .string (bs b.hd.txs), .string (bs b.hd.prop), .string (bs b.hd.van), .slice Av b.hd.vals.length cv, .string (bs b.hd.vote), .bool b.hd.add, .int .u64 (b.hd.round : Int), .slice As b.hd.seals.length cs, .slice At b.txs.length ct] 29)).alloc (.cells #[.string ⟨#[]⟩, .int .u64 0, .string ⟨#[]⟩, .string ⟨#[]⟩, .string ⟨#[]⟩, .string ⟨#[]⟩, .slice none 0 0, .string ⟨#[]⟩, .bool false, .int .u64 0, .slice none 0 0, .slice none 0 0] 29)).alloc (.cells #[.string ⟨#[]⟩, .int .u64 0, .string ⟨#[]⟩, .string ⟨#[]⟩, .string ⟨#[]⟩, .string ⟨#[]⟩, .slice none 0 0, .string ⟨#[]⟩, .bool false, .int .u64 0, .slice none 0 0] 26)).setRow (w.heap.size + 1 + 1) #[.string (bs b.hd.parent), .int .u64 (b.hd.height : Int), .string (bs b.hd.root), .string (bs b.hd.txs), .string (bs b.hd.prop), .string (bs b.hd.van), .slice Av b.hd.vals.length cv, .string (bs b.hd.vote), .bool b.hd.add, .int .u64 (b.hd.round : Int), .slice As b.hd.seals.length cs] = W3 at HX0 HX1 HX2 HB ⊢
  obtain ⟨X0, hX0e⟩ : ∃ X0, w.heap.size = X0 := ⟨_, rfl⟩
  obtain ⟨X1, hX1e⟩ : ∃ X1, w.heap.size + 1 = X1 := ⟨_, rfl⟩
  obtain ⟨X2, hX2e⟩ : ∃ X2, w.heap.size + 1 + 1 = X2 := ⟨_, rfl⟩
  have hX0 := HX0.out
  have hX1 := HX1.out
  have hX2 := HX2.out
  have hB := HB.out
  rw [hX2e] at hX2 ⊢
  rw [hX1e] at hX1 ⊢
  rw [hX0e] at hX0 ⊢
  have h01 : X0 < X1 := by omega
  have h12 : X1 < X2 := by omega
  have hw0 : w.heap.size ≤ X0 := by omega
  clear HX0 HX1 HX2 HB hX0e hX1e hX2e
  replace hX0 := (show W3.drew.heap[X0]? = W3.heap[X0]? from rfl).trans hX0
  replace hX1 := (show W3.drew.heap[X1]? = W3.heap[X1]? from rfl).trans hX1
  replace hX2 := (show W3.drew.heap[X2]? = W3.heap[X2]? from rfl).trans hX2
  replace hB := hB.drew
  refine wp_region_R [(25, fun w' => w'.heap[X2]? = some (.cells #[.string (bs b.hd.parent), .int .u64 (b.hd.height : Int), .string (bs b.hd.root), .string (bs b.hd.txs), .string (bs b.hd.prop), .string (bs b.hd.van), .slice Av b.hd.vals.length cv, .string (bs b.hd.vote), .bool b.hd.add, .int .u64 (b.hd.round : Int), .slice As b.hd.seals.length cs] 26 (0, 0)))] (by kernel_rfl) ?_
  generalize W3.drew = WD at hX0 hX1 hX2 hB ⊢
  refine R_p (i := 0) (v := .func (.func 10) #[] #[]) (Meets.here hX2 Meets.nil) ?_
  refine R_p (i := 1) (v := .pointer (some ⟨X2, 0, none⟩)) (Meets.here hX2 Meets.nil) ?_
  refine R_p (i := 4) (v := .func (.func 10) #[] #[]) (Meets.here hX2 Meets.nil) ?_
  refine R_p (i := 5) (v := .pointer (some ⟨X2, 2, none⟩)) (Meets.here hX2 Meets.nil) ?_
  refine R_p (i := 8) (v := .func (.func 10) #[] #[]) (Meets.here hX2 Meets.nil) ?_
  refine R_p (i := 9) (v := .pointer (some ⟨X2, 3, none⟩)) (Meets.here hX2 Meets.nil) ?_
  refine R_p (i := 12) (v := .func (.func 10) #[] #[]) (Meets.here hX2 Meets.nil) ?_
  refine R_p (i := 13) (v := .pointer (some ⟨X2, 4, none⟩)) (Meets.here hX2 Meets.nil) ?_
  refine R_p (i := 16) (v := .func (.func 10) #[] #[]) (Meets.here hX2 Meets.nil) ?_
  refine R_p (i := 17) (v := .pointer (some ⟨X2, 5, none⟩)) (Meets.here hX2 Meets.nil) ?_
  refine R_p (i := 20) (v := .func (.func 10) #[] #[]) (Meets.here hX2 Meets.nil) ?_
  refine R_p (i := 21) (v := .pointer (some ⟨X2, 7, none⟩)) (Meets.here hX2 Meets.nil) ?_
  refine R_l (i := 2) (v := .string (bs b.hd.parent)) 25 _ List.mem_cons_self rfl (yieldsIf_load_cell rfl rfl rfl (fun w' hS => rc hS 0 rfl) Try.underlying9 rfl) (Meets.here hX2 Meets.nil) ?_
  refine R_l (i := 6) (v := .string (bs b.hd.root)) 25 _ List.mem_cons_self rfl (yieldsIf_load_cell rfl rfl rfl (fun w' hS => rc hS 2 rfl) Try.underlying9 rfl) (Meets.here hX2 Meets.nil) ?_
  refine R_l (i := 10) (v := .string (bs b.hd.txs)) 25 _ List.mem_cons_self rfl (yieldsIf_load_cell rfl rfl rfl (fun w' hS => rc hS 3 rfl) Try.underlying9 rfl) (Meets.here hX2 Meets.nil) ?_
  refine R_l (i := 14) (v := .string (bs b.hd.prop)) 25 _ List.mem_cons_self rfl (yieldsIf_load_cell rfl rfl rfl (fun w' hS => rc hS 4 rfl) Try.underlying9 rfl) (Meets.here hX2 Meets.nil) ?_
  refine R_l (i := 18) (v := .string (bs b.hd.van)) 25 _ List.mem_cons_self rfl (yieldsIf_load_cell rfl rfl rfl (fun w' hS => rc hS 5 rfl) Try.underlying9 rfl) (Meets.here hX2 Meets.nil) ?_
  refine R_l (i := 22) (v := .string (bs b.hd.vote)) 25 _ List.mem_cons_self rfl (yieldsIf_load_cell rfl rfl rfl (fun w' hS => rc hS 7 rfl) Try.underlying9 rfl) (Meets.here hX2 Meets.nil) ?_
  refine R_now 3 fun K hK => ?_
  go_simp
  refine (cut50_any b.hd.parent (by have := HF.out.parent; omega) _).mono ?_
  rintro e w3 ⟨rfl, hb3⟩
  replace hX0 := (hb3.block _ (Array.getElem?_eq_some_iff.1 hX0).1).trans hX0
  replace hX1 := (hb3.block _ (Array.getElem?_eq_some_iff.1 hX1).1).trans hX1
  replace hX2 := (hb3.block _ (Array.getElem?_eq_some_iff.1 hX2).1).trans hX2
  replace hB := below_call hB hB.size hb3
  clear hb3
  refine hK.out _ _ (Meets.here hX2 Meets.nil) (fun hMeets => ?_)
  clear hK K hMeets
  refine lay_R ?_
  refine R_p (i := 24) (v := .pointer (some ⟨X2, 0, none⟩)) (Meets.here hX2 Meets.nil) ?_
  refine R_now 7 fun K hK => ?_
  go_simp
  refine (cut50_any b.hd.root (by have := HF.out.root; omega) _).mono ?_
  rintro e w7 ⟨rfl, hb7⟩
  replace hX0 := (hb7.block _ (Array.getElem?_eq_some_iff.1 hX0).1).trans hX0
  replace hX1 := (hb7.block _ (Array.getElem?_eq_some_iff.1 hX1).1).trans hX1
  replace hX2 := (hb7.block _ (Array.getElem?_eq_some_iff.1 hX2).1).trans hX2
  replace hB := below_call hB hB.size hb7
  clear hb7
  refine hK.out _ _ (Meets.here hX2 Meets.nil) (fun hMeets => ?_)
  clear hK K hMeets
  refine lay_R ?_
  refine R_now 11 fun K hK => ?_
  go_simp
  refine (cut50_any b.hd.txs (by have := HF.out.txs; omega) _).mono ?_
  rintro e w11 ⟨rfl, hb11⟩
  replace hX0 := (hb11.block _ (Array.getElem?_eq_some_iff.1 hX0).1).trans hX0
  replace hX1 := (hb11.block _ (Array.getElem?_eq_some_iff.1 hX1).1).trans hX1
  replace hX2 := (hb11.block _ (Array.getElem?_eq_some_iff.1 hX2).1).trans hX2
  replace hB := below_call hB hB.size hb11
  clear hb11
  refine hK.out _ _ (Meets.here hX2 Meets.nil) (fun hMeets => ?_)
  clear hK K hMeets
  refine lay_R ?_
  refine R_now 15 fun K hK => ?_
  go_simp
  refine (cut50_any b.hd.prop (by have := HF.out.prop; omega) _).mono ?_
  rintro e w15 ⟨rfl, hb15⟩
  replace hX0 := (hb15.block _ (Array.getElem?_eq_some_iff.1 hX0).1).trans hX0
  replace hX1 := (hb15.block _ (Array.getElem?_eq_some_iff.1 hX1).1).trans hX1
  replace hX2 := (hb15.block _ (Array.getElem?_eq_some_iff.1 hX2).1).trans hX2
  replace hB := below_call hB hB.size hb15
  clear hb15
  refine hK.out _ _ (Meets.here hX2 Meets.nil) (fun hMeets => ?_)
  clear hK K hMeets
  refine lay_R ?_
  refine R_now 19 fun K hK => ?_
  go_simp
  refine (cut50_any b.hd.van (by have := HF.out.van; omega) _).mono ?_
  rintro e w19 ⟨rfl, hb19⟩
  replace hX0 := (hb19.block _ (Array.getElem?_eq_some_iff.1 hX0).1).trans hX0
  replace hX1 := (hb19.block _ (Array.getElem?_eq_some_iff.1 hX1).1).trans hX1
  replace hX2 := (hb19.block _ (Array.getElem?_eq_some_iff.1 hX2).1).trans hX2
  replace hB := below_call hB hB.size hb19
  clear hb19
  refine hK.out _ _ (Meets.here hX2 Meets.nil) (fun hMeets => ?_)
  clear hK K hMeets
  refine lay_R ?_
  refine R_now 23 fun K hK => ?_
  go_simp
  refine (cut50_any b.hd.vote (by have := HF.out.vote; omega) _).mono ?_
  rintro e w23 ⟨rfl, hb23⟩
  replace hX0 := (hb23.block _ (Array.getElem?_eq_some_iff.1 hX0).1).trans hX0
  replace hX1 := (hb23.block _ (Array.getElem?_eq_some_iff.1 hX1).1).trans hX1
  replace hX2 := (hb23.block _ (Array.getElem?_eq_some_iff.1 hX2).1).trans hX2
  replace hB := below_call hB hB.size hb23
  clear hb23
  refine hK.out _ _ (Meets.here hX2 Meets.nil) (fun hMeets => ?_)
  clear hK K hMeets
  refine lay_R ?_
  refine R_now 25 fun K hK => ?_
  have d := rc (u := .string (bs b.hd.parent)) hX2 0 rfl
  have df := rf hX2 0
  have hlX := (Array.getElem?_eq_some_iff.1 hX2).1
  go_simp
  have hrn : (w23.setCell ⟨X2, 0, none⟩ (.string (bs (b.hd.parent.take 50)))).heap[X2]? = some (.cells #[.string (bs (b.hd.parent.take 50)), .int .u64 (b.hd.height : Int), .string (bs b.hd.root), .string (bs b.hd.txs), .string (bs b.hd.prop), .string (bs b.hd.van), .slice Av b.hd.vals.length cv, .string (bs b.hd.vote), .bool b.hd.add, .int .u64 (b.hd.round : Int), .slice As b.hd.seals.length cs] 26 (0, 0)) := heap_setCell_here hX2 (i := 0) _
  replace hX0 := (heap_set_ne (w := w23) (b := X2) (i := 0) (show X0 ≠ X2 by omega) (.string (bs (b.hd.parent.take 50)))).trans hX0
  replace hX1 := (heap_set_ne (w := w23) (b := X2) (i := 0) (show X1 ≠ X2 by omega) (.string (bs (b.hd.parent.take 50)))).trans hX1
  replace hB := hB.setCell (p := ⟨X2, 0, none⟩) (show w.heap.size ≤ X2 by omega) (.string (bs (b.hd.parent.take 50)))
  generalize w23.setCell ⟨X2, 0, none⟩ (.string (bs (b.hd.parent.take 50))) = w25 at hrn hX0 hX1 hB ⊢
  clear hX2 d df hlX
  have hX2 := hrn
  clear hrn
  refine hK.out _ _ (Meets.past (by kernel_rfl) Meets.nil) (fun hMeets => ?_)
  clear hK K hMeets
  refine lay_R ?_
  refine R_p (i := 26) (v := .pointer (some ⟨X2, 2, none⟩)) (Meets.past (by kernel_rfl) Meets.nil) ?_
  refine R_now 27 fun K hK => ?_
  have d := rc (u := .string (bs b.hd.root)) hX2 2 rfl
  have df := rf hX2 2
  have hlX := (Array.getElem?_eq_some_iff.1 hX2).1
  go_simp
  have hrn : (w25.setCell ⟨X2, 2, none⟩ (.string (bs (b.hd.root.take 50)))).heap[X2]? = some (.cells #[.string (bs (b.hd.parent.take 50)), .int .u64 (b.hd.height : Int), .string (bs (b.hd.root.take 50)), .string (bs b.hd.txs), .string (bs b.hd.prop), .string (bs b.hd.van), .slice Av b.hd.vals.length cv, .string (bs b.hd.vote), .bool b.hd.add, .int .u64 (b.hd.round : Int), .slice As b.hd.seals.length cs] 26 (0, 0)) := heap_setCell_here hX2 (i := 2) _
  replace hX0 := (heap_set_ne (w := w25) (b := X2) (i := 2) (show X0 ≠ X2 by omega) (.string (bs (b.hd.root.take 50)))).trans hX0
  replace hX1 := (heap_set_ne (w := w25) (b := X2) (i := 2) (show X1 ≠ X2 by omega) (.string (bs (b.hd.root.take 50)))).trans hX1
  replace hB := hB.setCell (p := ⟨X2, 2, none⟩) (show w.heap.size ≤ X2 by omega) (.string (bs (b.hd.root.take 50)))
  generalize w25.setCell ⟨X2, 2, none⟩ (.string (bs (b.hd.root.take 50))) = w27 at hrn hX0 hX1 hB ⊢
  clear hX2 d df hlX
  have hX2 := hrn
  clear hrn
  refine hK.out _ _ (Meets.past (by kernel_rfl) Meets.nil) (fun hMeets => ?_)
  clear hK K hMeets
  refine lay_R ?_
  refine R_p (i := 28) (v := .pointer (some ⟨X2, 3, none⟩)) (Meets.past (by kernel_rfl) Meets.nil) ?_
  refine R_now 29 fun K hK => ?_
  have d := rc (u := .string (bs b.hd.txs)) hX2 3 rfl
  have df := rf hX2 3
  have hlX := (Array.getElem?_eq_some_iff.1 hX2).1
  go_simp
  have hrn : (w27.setCell ⟨X2, 3, none⟩ (.string (bs (b.hd.txs.take 50)))).heap[X2]? = some (.cells #[.string (bs (b.hd.parent.take 50)), .int .u64 (b.hd.height : Int), .string (bs (b.hd.root.take 50)), .string (bs (b.hd.txs.take 50)), .string (bs b.hd.prop), .string (bs b.hd.van), .slice Av b.hd.vals.length cv, .string (bs b.hd.vote), .bool b.hd.add, .int .u64 (b.hd.round : Int), .slice As b.hd.seals.length cs] 26 (0, 0)) := heap_setCell_here hX2 (i := 3) _
  replace hX0 := (heap_set_ne (w := w27) (b := X2) (i := 3) (show X0 ≠ X2 by omega) (.string (bs (b.hd.txs.take 50)))).trans hX0
  replace hX1 := (heap_set_ne (w := w27) (b := X2) (i := 3) (show X1 ≠ X2 by omega) (.string (bs (b.hd.txs.take 50)))).trans hX1
  replace hB := hB.setCell (p := ⟨X2, 3, none⟩) (show w.heap.size ≤ X2 by omega) (.string (bs (b.hd.txs.take 50)))
  generalize w27.setCell ⟨X2, 3, none⟩ (.string (bs (b.hd.txs.take 50))) = w29 at hrn hX0 hX1 hB ⊢
  clear hX2 d df hlX
  have hX2 := hrn
  clear hrn
  refine hK.out _ _ (Meets.past (by kernel_rfl) Meets.nil) (fun hMeets => ?_)
  clear hK K hMeets
  refine lay_R ?_
  refine R_p (i := 30) (v := .pointer (some ⟨X2, 4, none⟩)) (Meets.past (by kernel_rfl) Meets.nil) ?_
  refine R_now 31 fun K hK => ?_
  have d := rc (u := .string (bs b.hd.prop)) hX2 4 rfl
  have df := rf hX2 4
  have hlX := (Array.getElem?_eq_some_iff.1 hX2).1
  go_simp
  have hrn : (w29.setCell ⟨X2, 4, none⟩ (.string (bs (b.hd.prop.take 50)))).heap[X2]? = some (.cells #[.string (bs (b.hd.parent.take 50)), .int .u64 (b.hd.height : Int), .string (bs (b.hd.root.take 50)), .string (bs (b.hd.txs.take 50)), .string (bs (b.hd.prop.take 50)), .string (bs b.hd.van), .slice Av b.hd.vals.length cv, .string (bs b.hd.vote), .bool b.hd.add, .int .u64 (b.hd.round : Int), .slice As b.hd.seals.length cs] 26 (0, 0)) := heap_setCell_here hX2 (i := 4) _
  replace hX0 := (heap_set_ne (w := w29) (b := X2) (i := 4) (show X0 ≠ X2 by omega) (.string (bs (b.hd.prop.take 50)))).trans hX0
  replace hX1 := (heap_set_ne (w := w29) (b := X2) (i := 4) (show X1 ≠ X2 by omega) (.string (bs (b.hd.prop.take 50)))).trans hX1
  replace hB := hB.setCell (p := ⟨X2, 4, none⟩) (show w.heap.size ≤ X2 by omega) (.string (bs (b.hd.prop.take 50)))
  generalize w29.setCell ⟨X2, 4, none⟩ (.string (bs (b.hd.prop.take 50))) = w31 at hrn hX0 hX1 hB ⊢
  clear hX2 d df hlX
  have hX2 := hrn
  clear hrn
  refine hK.out _ _ (Meets.past (by kernel_rfl) Meets.nil) (fun hMeets => ?_)
  clear hK K hMeets
  refine lay_R ?_
  refine R_p (i := 32) (v := .pointer (some ⟨X2, 5, none⟩)) (Meets.past (by kernel_rfl) Meets.nil) ?_
  refine R_now 33 fun K hK => ?_
  have d := rc (u := .string (bs b.hd.van)) hX2 5 rfl
  have df := rf hX2 5
  have hlX := (Array.getElem?_eq_some_iff.1 hX2).1
  go_simp
  have hrn : (w31.setCell ⟨X2, 5, none⟩ (.string (bs (b.hd.van.take 50)))).heap[X2]? = some (.cells #[.string (bs (b.hd.parent.take 50)), .int .u64 (b.hd.height : Int), .string (bs (b.hd.root.take 50)), .string (bs (b.hd.txs.take 50)), .string (bs (b.hd.prop.take 50)), .string (bs (b.hd.van.take 50)), .slice Av b.hd.vals.length cv, .string (bs b.hd.vote), .bool b.hd.add, .int .u64 (b.hd.round : Int), .slice As b.hd.seals.length cs] 26 (0, 0)) := heap_setCell_here hX2 (i := 5) _
  replace hX0 := (heap_set_ne (w := w31) (b := X2) (i := 5) (show X0 ≠ X2 by omega) (.string (bs (b.hd.van.take 50)))).trans hX0
  replace hX1 := (heap_set_ne (w := w31) (b := X2) (i := 5) (show X1 ≠ X2 by omega) (.string (bs (b.hd.van.take 50)))).trans hX1
  replace hB := hB.setCell (p := ⟨X2, 5, none⟩) (show w.heap.size ≤ X2 by omega) (.string (bs (b.hd.van.take 50)))
  generalize w31.setCell ⟨X2, 5, none⟩ (.string (bs (b.hd.van.take 50))) = w33 at hrn hX0 hX1 hB ⊢
  clear hX2 d df hlX
  have hX2 := hrn
  clear hrn
  refine hK.out _ _ (Meets.past (by kernel_rfl) Meets.nil) (fun hMeets => ?_)
  clear hK K hMeets
  refine lay_R ?_
  refine R_p (i := 34) (v := .pointer (some ⟨X2, 7, none⟩)) (Meets.past (by kernel_rfl) Meets.nil) ?_
  refine R_now 35 fun K hK => ?_
  have d := rc (u := .string (bs b.hd.vote)) hX2 7 rfl
  have df := rf hX2 7
  have hlX := (Array.getElem?_eq_some_iff.1 hX2).1
  go_simp
  have hrn : (w33.setCell ⟨X2, 7, none⟩ (.string (bs (b.hd.vote.take 50)))).heap[X2]? = some (.cells #[.string (bs (b.hd.parent.take 50)), .int .u64 (b.hd.height : Int), .string (bs (b.hd.root.take 50)), .string (bs (b.hd.txs.take 50)), .string (bs (b.hd.prop.take 50)), .string (bs (b.hd.van.take 50)), .slice Av b.hd.vals.length cv, .string (bs (b.hd.vote.take 50)), .bool b.hd.add, .int .u64 (b.hd.round : Int), .slice As b.hd.seals.length cs] 26 (0, 0)) := heap_setCell_here hX2 (i := 7) _
  replace hX0 := (heap_set_ne (w := w33) (b := X2) (i := 7) (show X0 ≠ X2 by omega) (.string (bs (b.hd.vote.take 50)))).trans hX0
  replace hX1 := (heap_set_ne (w := w33) (b := X2) (i := 7) (show X1 ≠ X2 by omega) (.string (bs (b.hd.vote.take 50)))).trans hX1
  replace hB := hB.setCell (p := ⟨X2, 7, none⟩) (show w.heap.size ≤ X2 by omega) (.string (bs (b.hd.vote.take 50)))
  generalize w33.setCell ⟨X2, 7, none⟩ (.string (bs (b.hd.vote.take 50))) = w35 at hrn hX0 hX1 hB ⊢
  clear hX2 d df hlX
  have hX2 := hrn
  clear hrn
  refine hK.out _ _ (Meets.past (by kernel_rfl) Meets.nil) (fun hMeets => ?_)
  clear hK K hMeets
  refine lay_R ?_
  refine R_done (by kernel_rfl) ?_ _
  go_wp2_with fail
  have hX2l := (Array.getElem?_eq_some_iff.1 hX2).1
  obtain ⟨B4, hB4⟩ : ∃ B4, w35.heap.size = B4 := ⟨_, rfl⟩
  have hX2B : X2 < B4 := by omega
  have hB4w : w.heap.size ≤ B4 := by omega
  replace hX0 := (show w35.drew.heap[X0]? = w35.heap[X0]? from rfl).trans hX0
  replace hX1 := (show w35.drew.heap[X1]? = w35.heap[X1]? from rfl).trans hX1
  replace hX2 := (show w35.drew.heap[X2]? = w35.heap[X2]? from rfl).trans hX2
  replace hB := hB.drew
  have hle : B4 ≤ w35.drew.heap.size := Nat.le_of_eq hB4.symm
  have hlies := StrV.keep HQV.out hB
  refine wp_region_R [(17, fun w' => w'.heap[X2]? = some (.cells #[.string (bs (b.hd.parent.take 50)), .int .u64 (b.hd.height : Int), .string (bs (b.hd.root.take 50)), .string (bs (b.hd.txs.take 50)), .string (bs (b.hd.prop.take 50)), .string (bs (b.hd.van.take 50)), .slice Av b.hd.vals.length cv, .string (bs (b.hd.vote.take 50)), .bool b.hd.add, .int .u64 (b.hd.round : Int), .slice As b.hd.seals.length cs] 26 (0, 0)))] (by kernel_rfl) ?_
  generalize w35.drew = WD at hX0 hX1 hX2 hB hle hlies ⊢
  refine R_p (i := 1) (v := .pointer (some ⟨X2, 6, none⟩)) (Meets.here hX2 Meets.nil) ?_
  refine R_p (i := 3) (v := .pointer (some ⟨X2, 6, none⟩)) (Meets.here hX2 Meets.nil) ?_
  refine R_p (i := 9) (v := .pointer (some ⟨X2, 10, none⟩)) (Meets.here hX2 Meets.nil) ?_
  refine R_p (i := 11) (v := .pointer (some ⟨X2, 10, none⟩)) (Meets.here hX2 Meets.nil) ?_
  refine R_l (i := 2) (v := .slice Av b.hd.vals.length cv) 17 _ List.mem_cons_self rfl (yieldsIf_load_cell rfl rfl rfl (fun w' hS => rc hS 6 rfl) Try.underlying23 rfl) (Meets.here hX2 Meets.nil) ?_
  refine R_l (i := 4) (v := .slice Av b.hd.vals.length cv) 17 _ List.mem_cons_self rfl (yieldsIf_load_cell rfl rfl rfl (fun w' hS => rc hS 6 rfl) Try.underlying23 rfl) (Meets.here hX2 Meets.nil) ?_
  refine R_l (i := 10) (v := .slice As b.hd.seals.length cs) 17 _ List.mem_cons_self rfl (yieldsIf_load_cell rfl rfl rfl (fun w' hS => rc hS 10 rfl) Try.underlying24 rfl) (Meets.here hX2 Meets.nil) ?_
  refine R_l (i := 12) (v := .slice As b.hd.seals.length cs) 17 _ List.mem_cons_self rfl (yieldsIf_load_cell rfl rfl rfl (fun w' hS => rc hS 10 rfl) Try.underlying24 rfl) (Meets.here hX2 Meets.nil) ?_
  refine R_p (i := 5) (v := .int .i64 (b.hd.vals.length : Int)) (Meets.here hX2 Meets.nil) ?_
  refine R_p (i := 13) (v := .int .i64 (b.hd.seals.length : Int)) (Meets.here hX2 Meets.nil) ?_
  refine R_p (i := 6) (v := .int .i64 (qs.length : Int)) (Meets.here hX2 Meets.nil) ?_
  refine R_p (i := 14) (v := .int .i64 (ms : Int)) (Meets.here hX2 Meets.nil) ?_
  refine R_p (i := 7) (v := .slice Av qs.length cv) (Meets.here hX2 Meets.nil) ?_
  refine R_p (i := 15) (v := .slice As ms cs) (Meets.here hX2 Meets.nil) ?_
  refine R_now 0 fun K hK => ?_
  have hbb : Below WD.heap.size WD (WD.alloc (.cells #[] 9)) := (Below.refl _ _).alloc (Nat.le_refl _) _
  have hown := World.ownsRow_lit (base := B4) (e := 9) (size := 1) WD #[] 0 hle (by simp [maxLen]) rfl
  have hn0 : ∀ k, (Value.slice (some ⟨WD.heap.size, 0, none⟩) 0 0).ownBlock = some k → B4 ≤ k := fun k e => (hown.lt k e).1
  replace hX0 := (hbb.block _ (Array.getElem?_eq_some_iff.1 hX0).1).trans hX0
  replace hX1 := (hbb.block _ (Array.getElem?_eq_some_iff.1 hX1).1).trans hX1
  replace hX2 := (hbb.block _ (Array.getElem?_eq_some_iff.1 hX2).1).trans hX2
  replace hB := below_call hB hB.size hbb
  replace hle := Nat.le_trans hle hbb.size
  replace hlies := StrV.keep hlies hbb
  go_simp
  obtain ⟨N0, hN0⟩ : ∃ N0, WD.heap.size = N0 := ⟨_, rfl⟩
  rw [hN0] at hown hn0 ⊢
  generalize WD.alloc (.cells #[] 9) = w0 at hown hX0 hX1 hX2 hB hle hlies ⊢
  clear hbb hN0
  refine hK.out _ _ (Meets.here hX2 Meets.nil) (fun hMeets => ?_)
  clear hK K hMeets
  refine lay_R ?_
  refine R_now 8 fun K hK => ?_
  refine stl_append elStr rfl rfl B4 hown rfl (m := qs.length) (strL qs) rfl HLN.out (StrV.lies hlies) ?_ ?_ ?_ hle ?_
  . exact one_strL _
  . simp only [maxLen]; omega
  . omega
  intro v1 w8 hown1 hg1 hat1
  rw [Nat.zero_add] at hown1
  obtain ⟨A8, c8, rfl⟩ := own_form hown1
  have hbp := below_app (Below.refl B4 _) hown hg1 hle (Nat.le_refl _)
  replace hX0 := (hg1.block X0 (Array.getElem?_eq_some_iff.1 hX0).1 (fun e => by have := hn0 _ e.symm; omega)).trans hX0
  replace hX1 := (hg1.block X1 (Array.getElem?_eq_some_iff.1 hX1).1 (fun e => by have := hn0 _ e.symm; omega)).trans hX1
  replace hX2 := (hg1.block X2 (Array.getElem?_eq_some_iff.1 hX2).1 (fun e => by have := hn0 _ e.symm; omega)).trans hX2
  replace hB := hB.trans (hbp.mono hB4w)
  replace hle := Nat.le_trans hle hbp.size
  clear hown hlies
  have hown := hown1
  clear hown1 hg1 hat1 hbp hn0
  refine hK.out _ _ (Meets.here hX2 Meets.nil) (fun hMeets => ?_)
  clear hK K hMeets
  refine lay_R ?_
  refine R_p (i := 16) (v := .pointer (some ⟨X2, 6, none⟩)) (Meets.here hX2 Meets.nil) ?_
  refine R_now 17 fun K hK => ?_
  have d := rc (u := .slice Av b.hd.vals.length cv) hX2 6 rfl
  have df := rf hX2 6
  have hlX := (Array.getElem?_eq_some_iff.1 hX2).1
  go_simp
  have hrn : (w8.setCell ⟨X2, 6, none⟩ (.slice A8 qs.length c8)).heap[X2]? = some (.cells #[.string (bs (b.hd.parent.take 50)), .int .u64 (b.hd.height : Int), .string (bs (b.hd.root.take 50)), .string (bs (b.hd.txs.take 50)), .string (bs (b.hd.prop.take 50)), .string (bs (b.hd.van.take 50)), .slice A8 qs.length c8, .string (bs (b.hd.vote.take 50)), .bool b.hd.add, .int .u64 (b.hd.round : Int), .slice As b.hd.seals.length cs] 26 (0, 0)) := heap_setCell_here hX2 (i := 6) _
  replace hX0 := (heap_set_ne (w := w8) (b := X2) (i := 6) (show X0 ≠ X2 by omega) (.slice A8 qs.length c8)).trans hX0
  replace hX1 := (heap_set_ne (w := w8) (b := X2) (i := 6) (show X1 ≠ X2 by omega) (.slice A8 qs.length c8)).trans hX1
  replace hB := hB.setCell (p := ⟨X2, 6, none⟩) (show w.heap.size ≤ X2 by omega) (.slice A8 qs.length c8)
  replace hown := own_setOther hown (show X2 < B4 by omega) (i := 6) (.slice A8 qs.length c8)
  generalize w8.setCell ⟨X2, 6, none⟩ (.slice A8 qs.length c8) = w17 at hrn hX0 hX1 hB hown ⊢
  clear hX2 d df hlX
  have hX2 := hrn
  clear hrn
  refine hK.out _ _ (Meets.past (by kernel_rfl) Meets.nil) (fun hMeets => ?_)
  clear hK K hMeets
  refine lay_R ?_
  refine R_p (i := 18) (v := .pointer (some ⟨X2, 10, none⟩)) (Meets.past (by kernel_rfl) Meets.nil) ?_
  refine R_now 19 fun K hK => ?_
  have d := rc (u := .slice As b.hd.seals.length cs) hX2 10 rfl
  have df := rf hX2 10
  have hlX := (Array.getElem?_eq_some_iff.1 hX2).1
  go_simp
  have hrn : (w17.setCell ⟨X2, 10, none⟩ (.slice As ms cs)).heap[X2]? = some (.cells #[.string (bs (b.hd.parent.take 50)), .int .u64 (b.hd.height : Int), .string (bs (b.hd.root.take 50)), .string (bs (b.hd.txs.take 50)), .string (bs (b.hd.prop.take 50)), .string (bs (b.hd.van.take 50)), .slice A8 qs.length c8, .string (bs (b.hd.vote.take 50)), .bool b.hd.add, .int .u64 (b.hd.round : Int), .slice As ms cs] 26 (0, 0)) := heap_setCell_here hX2 (i := 10) _
  replace hX0 := (heap_set_ne (w := w17) (b := X2) (i := 10) (show X0 ≠ X2 by omega) (.slice As ms cs)).trans hX0
  replace hX1 := (heap_set_ne (w := w17) (b := X2) (i := 10) (show X1 ≠ X2 by omega) (.slice As ms cs)).trans hX1
  replace hB := hB.setCell (p := ⟨X2, 10, none⟩) (show w.heap.size ≤ X2 by omega) (.slice As ms cs)
  replace hown := own_setOther hown (show X2 < B4 by omega) (i := 10) (.slice As ms cs)
  generalize w17.setCell ⟨X2, 10, none⟩ (.slice As ms cs) = w19 at hrn hX0 hX1 hB hown ⊢
  clear hX2 d df hlX
  have hX2 := hrn
  clear hrn
  refine hK.out _ _ (Meets.past (by kernel_rfl) Meets.nil) (fun hMeets => ?_)
  clear hK K hMeets
  refine lay_R ?_
  refine R_done (by kernel_rfl) ?_ _
  replace hown : w19.ownsRow B4 9 1 (.slice A8 qs.length c8) qs.length (strL qs) := by simpa using hown
  have x6 := rc (u := .slice A8 qs.length c8) hX2 6 rfl
  clear hX2l hB4 hle
  go_wp2_with fail
  go_loopw [60] (fun i wr => ∃ j : Nat, j ≤ qs.length ∧ i = .int .i64 j ∧ wr.ownsRow B4 9 1 (.slice A8 qs.length c8) qs.length (strL (cutsS j qs)) ∧ wr.heap[X0]? = some (.cells #[.string (bs b.hd.parent), .int .u64 (b.hd.height : Int), .string (bs b.hd.root), .string (bs b.hd.txs), .string (bs b.hd.prop), .string (bs b.hd.van), .slice Av b.hd.vals.length cv, .string (bs b.hd.vote), .bool b.hd.add, .int .u64 (b.hd.round : Int), .slice As b.hd.seals.length cs, .slice At b.txs.length ct] 29 (0, 0)) ∧ wr.heap[X1]? = some (.cells #[.string ⟨#[]⟩, .int .u64 0, .string ⟨#[]⟩, .string ⟨#[]⟩, .string ⟨#[]⟩, .string ⟨#[]⟩, .slice none 0 0, .string ⟨#[]⟩, .bool false, .int .u64 0, .slice none 0 0, .slice none 0 0] 29 (0, 0)) ∧ wr.heap[X2]? = some (.cells #[.string (bs (b.hd.parent.take 50)), .int .u64 (b.hd.height : Int), .string (bs (b.hd.root.take 50)), .string (bs (b.hd.txs.take 50)), .string (bs (b.hd.prop.take 50)), .string (bs (b.hd.van.take 50)), .slice A8 qs.length c8, .string (bs (b.hd.vote.take 50)), .bool b.hd.add, .int .u64 (b.hd.round : Int), .slice As ms cs] 26 (0, 0)) ∧ Below w.heap.size w wr) (fun i _ => qs.length - (intOf i).toNat)
  case atStart => exact ⟨0, Nat.zero_le _, rfl, hown, hX0, hX1, hX2, hB⟩
  case round =>
    clear hown hX0 hX1 hX2 hB x6
    obtain ⟨j, hj, rfl, hown, hX0, hX1, hX2, hB⟩ := hrel
    by_cases hlt : j < qs.length
    · obtain ⟨g, rfl, hg0, hg1⟩ := own_ptr hown (by omega)
      obtain ⟨a, ha⟩ := getElem_ex hlt
      have q0 := own_cell hown (strL_get (cutsS_get ha))
      have hal := HQP.out a (List.mem_of_getElem? ha)
      have hlt' : (j : Int) < qs.length := by omega
      have HA := Lib.hid ha
      clear ha
      go_wp2_with fail
      clear q0
      replace hX0 := (show wr.drew.heap[X0]? = wr.heap[X0]? from rfl).trans hX0
      replace hX1 := (show wr.drew.heap[X1]? = wr.heap[X1]? from rfl).trans hX1
      replace hX2 := (show wr.drew.heap[X2]? = wr.heap[X2]? from rfl).trans hX2
      replace hB := hB.drew
      replace hown := own_keep hown (Below.refl wr.heap.size wr).drew
      refine wp_region_R [(7, fun w' => w'.heap[X2]? = some (.cells #[.string (bs (b.hd.parent.take 50)), .int .u64 (b.hd.height : Int), .string (bs (b.hd.root.take 50)), .string (bs (b.hd.txs.take 50)), .string (bs (b.hd.prop.take 50)), .string (bs (b.hd.van.take 50)), .slice (some ⟨g, 0, none⟩) qs.length c8, .string (bs (b.hd.vote.take 50)), .bool b.hd.add, .int .u64 (b.hd.round : Int), .slice As ms cs] 26 (0, 0)))] (by kernel_rfl) ?_
      generalize wr.drew = WD at hX0 hX1 hX2 hB hown ⊢
      refine R_p (i := 0) (v := .pointer (some ⟨X2, 6, none⟩)) (Meets.here hX2 Meets.nil) ?_
      refine R_p (i := 2) (v := .int .i64 (j : Int)) (Meets.here hX2 Meets.nil) ?_
      refine R_p (i := 3) (v := .func (.func 10) #[] #[]) (Meets.here hX2 Meets.nil) ?_
      refine R_p (i := 4) (v := .string (bs a)) (Meets.here hX2 Meets.nil) ?_
      refine R_l (i := 1) (v := .slice (some ⟨g, 0, none⟩) qs.length c8) 7 _ List.mem_cons_self rfl (yieldsIf_load_cell rfl rfl rfl (fun w' hS => rc hS 6 rfl) Try.underlying23 rfl) (Meets.here hX2 Meets.nil) ?_
      refine R_now 5 fun K hK => ?_
      go_simp
      refine (cut50_any a (by omega) _).mono ?_
      rintro e w5 ⟨rfl, hb5⟩
      replace hX0 := (hb5.block _ (Array.getElem?_eq_some_iff.1 hX0).1).trans hX0
      replace hX1 := (hb5.block _ (Array.getElem?_eq_some_iff.1 hX1).1).trans hX1
      replace hX2 := (hb5.block _ (Array.getElem?_eq_some_iff.1 hX2).1).trans hX2
      replace hB := below_call hB hB.size hb5
      replace hown := own_keep hown hb5
      clear hb5
      refine hK.out _ _ (Meets.here hX2 Meets.nil) (fun hMeets => ?_)
      clear hK K hMeets
      refine lay_R ?_
      refine R_p (i := 6) (v := .pointer (some ⟨g, j, none⟩)) (Meets.here hX2 Meets.nil) ?_
      refine R_now 7 fun K hK => ?_
      have d := own_cell hown (j := j) (strL_get (cutsS_get HA.out))
      have df := own_free hown j
      have hgl := lt_of_cell d
      go_simp
      replace hown := own_set hown j (.string (bs (a.take 50)))
      rw [cutsS_set HA.out] at hown
      replace hX0 := (heap_set_ne (w := w5) (b := g) (i := j) (show X0 ≠ g by omega) (.string (bs (a.take 50)))).trans hX0
      replace hX1 := (heap_set_ne (w := w5) (b := g) (i := j) (show X1 ≠ g by omega) (.string (bs (a.take 50)))).trans hX1
      replace hX2 := (heap_set_ne (w := w5) (b := g) (i := j) (show X2 ≠ g by omega) (.string (bs (a.take 50)))).trans hX2
      replace hB := hB.setCell (p := ⟨g, j, none⟩) (show w.heap.size ≤ g by omega) (.string (bs (a.take 50)))
      generalize w5.setCell ⟨g, j, none⟩ (.string (bs (a.take 50))) = w7 at hown hX0 hX1 hX2 hB ⊢
      clear d df hgl
      refine hK.out _ _ (Meets.past (by kernel_rfl) Meets.nil) (fun hMeets => ?_)
      clear hK K hMeets
      refine lay_R ?_
      refine R_done (by kernel_rfl) ?_ _
      go_wp2_with fail
      go_roundw
      case rel => exact ⟨j + 1, hlt, by go_num, hown, hX0, hX1, hX2, hB⟩
      case measure => simp [intOf]; omega
    · obtain rfl : j = qs.length := by omega
      rw [cutsS_all] at hown
      have hvv : StrV (fun b => X1 < b) wr (qs.map (·.take 50)) A8 c8 := by
        have := rep_own (S := fun b => X1 < b) (es := strsD (qs.map (·.take 50))) hown (repN_strL _) (by simp [strsD]) (fun b h1 _ => by show X1 < b; omega)
        unfold StrV
        rw [List.length_map]
        exact this
      clear hown
      go_wp2_with fail
      replace hX0 := (show wr.drew.heap[X0]? = wr.heap[X0]? from rfl).trans hX0
      replace hX1 := (show wr.drew.heap[X1]? = wr.heap[X1]? from rfl).trans hX1
      replace hX2 := (show wr.drew.heap[X2]? = wr.heap[X2]? from rfl).trans hX2
      replace hB := hB.drew
      replace hvv := StrV.keep hvv (Below.refl wr.heap.size wr).drew
      refine wp_region_R [(5, fun w' => w'.heap[X2]? = some (.cells #[.string (bs (b.hd.parent.take 50)), .int .u64 (b.hd.height : Int), .string (bs (b.hd.root.take 50)), .string (bs (b.hd.txs.take 50)), .string (bs (b.hd.prop.take 50)), .string (bs (b.hd.van.take 50)), .slice A8 qs.length c8, .string (bs (b.hd.vote.take 50)), .bool b.hd.add, .int .u64 (b.hd.round : Int), .slice As ms cs] 26 (0, 0)) ∧ w'.heap[X0]? = some (.cells #[.string (bs b.hd.parent), .int .u64 (b.hd.height : Int), .string (bs b.hd.root), .string (bs b.hd.txs), .string (bs b.hd.prop), .string (bs b.hd.van), .slice Av b.hd.vals.length cv, .string (bs b.hd.vote), .bool b.hd.add, .int .u64 (b.hd.round : Int), .slice As b.hd.seals.length cs, .slice At b.txs.length ct] 29 (0, 0)))] (by kernel_rfl) ?_
      generalize wr.drew = WD at hX0 hX1 hX2 hB hvv ⊢
      have hX1l : X1 < WD.heap.size := (Array.getElem?_eq_some_iff.1 hX1).1
      refine R_l (i := 0) (v := .agg #[.string (bs (b.hd.parent.take 50)), .int .u64 (b.hd.height : Int), .string (bs (b.hd.root.take 50)), .string (bs (b.hd.txs.take 50)), .string (bs (b.hd.prop.take 50)), .string (bs (b.hd.van.take 50)), .slice A8 qs.length c8, .string (bs (b.hd.vote.take 50)), .bool b.hd.add, .int .u64 (b.hd.round : Int), .slice As ms cs]) 5 _ List.mem_cons_self rfl (yieldsIf_load_row rfl rfl rfl (fun w' hS => hS.1) Try.underlying26 rfl infoHd) (Meets.here ⟨hX2, hX0⟩ Meets.nil) ?_
      refine R_p (i := 1) (v := .pointer (some ⟨X0, 11, none⟩)) (Meets.here ⟨hX2, hX0⟩ Meets.nil) ?_
      refine R_l (i := 2) (v := .slice At b.txs.length ct) 5 _ List.mem_cons_self rfl (yieldsIf_load_cell rfl rfl rfl (fun w' hS => rc hS.2 11 rfl) Try.underlying27 rfl) (Meets.here ⟨hX2, hX0⟩ Meets.nil) ?_
      refine R_now 3 fun K hK => ?_
      go_simp
      refine (txs18_any b.txs HT.out At ct _ (PlV.keep (PlV.any HV.out.txs) hB)).mono ?_
      rintro e w3 ⟨A3, c3, rfl, htv, hb3⟩
      replace hX0 := (hb3.block _ (Array.getElem?_eq_some_iff.1 hX0).1).trans hX0
      replace hX1 := (hb3.block _ (Array.getElem?_eq_some_iff.1 hX1).1).trans hX1
      replace hX2 := (hb3.block _ (Array.getElem?_eq_some_iff.1 hX2).1).trans hX2
      replace hB := below_call hB hB.size hb3
      replace hvv := StrV.keep hvv hb3
      replace htv : TrsV (fun b => X1 < b) w3 ((b.txs.take 8).map cutTr) A3 c3 := Rep.mono htv fun b _ hb => ⟨by show X1 < b; have hb : WD.heap.size ≤ b := hb; omega, rfl⟩
      clear hb3
      refine hK.out _ _ (Meets.here ⟨hX2, hX0⟩ Meets.nil) (fun hMeets => ?_)
      clear hK K hMeets
      refine lay_R ?_
      refine R_p (i := 4) (v := .agg #[.string (bs (b.hd.parent.take 50)), .int .u64 (b.hd.height : Int), .string (bs (b.hd.root.take 50)), .string (bs (b.hd.txs.take 50)), .string (bs (b.hd.prop.take 50)), .string (bs (b.hd.van.take 50)), .slice A8 qs.length c8, .string (bs (b.hd.vote.take 50)), .bool b.hd.add, .int .u64 (b.hd.round : Int), .slice As ms cs, .slice A3 ((b.txs.take 8).map cutTr).length c3]) (Meets.here ⟨hX2, hX0⟩ Meets.nil) ?_
      refine R_now 5 fun K hK => ?_
      refine ite_wanted (by rfl) ?_
      refine wp_store_row _ _ _ rfl X1 #[.string (bs (b.hd.parent.take 50)), .int .u64 (b.hd.height : Int), .string (bs (b.hd.root.take 50)), .string (bs (b.hd.txs.take 50)), .string (bs (b.hd.prop.take 50)), .string (bs (b.hd.van.take 50)), .slice A8 qs.length c8, .string (bs (b.hd.vote.take 50)), .bool b.hd.add, .int .u64 (b.hd.round : Int), .slice As ms cs, .slice A3 ((b.txs.take 8).map cutTr).length c3] rfl rfl _ #[.string ⟨#[]⟩, .int .u64 0, .string ⟨#[]⟩, .string ⟨#[]⟩, .string ⟨#[]⟩, .string ⟨#[]⟩, .slice none 0 0, .string ⟨#[]⟩, .bool false, .int .u64 0, .slice none 0 0, .slice none 0 0] hX1 infoBk rfl (one12B _ _ _ _ _ _ _ _ _ _ _ _ _ _ _ _ _ _) ?_
      have hXn := setRow_heap w3 X1 _ #[.string (bs (b.hd.parent.take 50)), .int .u64 (b.hd.height : Int), .string (bs (b.hd.root.take 50)), .string (bs (b.hd.txs.take 50)), .string (bs (b.hd.prop.take 50)), .string (bs (b.hd.van.take 50)), .slice A8 qs.length c8, .string (bs (b.hd.vote.take 50)), .bool b.hd.add, .int .u64 (b.hd.round : Int), .slice As ms cs, .slice A3 ((b.txs.take 8).map cutTr).length c3] _ _ hX1
      have hBn := below_setRow hB (show w.heap.size ≤ X1 by omega) #[.string (bs (b.hd.parent.take 50)), .int .u64 (b.hd.height : Int), .string (bs (b.hd.root.take 50)), .string (bs (b.hd.txs.take 50)), .string (bs (b.hd.prop.take 50)), .string (bs (b.hd.van.take 50)), .slice A8 qs.length c8, .string (bs (b.hd.vote.take 50)), .bool b.hd.add, .int .u64 (b.hd.round : Int), .slice As ms cs, .slice A3 ((b.txs.take 8).map cutTr).length c3]
      have htn : TrsV (fun g => S g ∨ w.heap.size ≤ g) (w3.setRow X1 #[.string (bs (b.hd.parent.take 50)), .int .u64 (b.hd.height : Int), .string (bs (b.hd.root.take 50)), .string (bs (b.hd.txs.take 50)), .string (bs (b.hd.prop.take 50)), .string (bs (b.hd.van.take 50)), .slice A8 qs.length c8, .string (bs (b.hd.vote.take 50)), .bool b.hd.add, .int .u64 (b.hd.round : Int), .slice As ms cs, .slice A3 ((b.txs.take 8).map cutTr).length c3]) ((b.txs.take 8).map cutTr) A3 c3 := Rep.mono htv fun b _ hb => ⟨.inr (by have hb : X1 < b := hb; omega), heap_setRow_ne _ (by have hb : X1 < b := hb; omega) _⟩
      have hvn : StrV (fun g => S g ∨ w.heap.size ≤ g) (w3.setRow X1 #[.string (bs (b.hd.parent.take 50)), .int .u64 (b.hd.height : Int), .string (bs (b.hd.root.take 50)), .string (bs (b.hd.txs.take 50)), .string (bs (b.hd.prop.take 50)), .string (bs (b.hd.van.take 50)), .slice A8 qs.length c8, .string (bs (b.hd.vote.take 50)), .bool b.hd.add, .int .u64 (b.hd.round : Int), .slice As ms cs, .slice A3 ((b.txs.take 8).map cutTr).length c3]) (qs.map (·.take 50)) A8 c8 := Rep.mono hvv fun b _ hb => ⟨.inr (by have hb : X1 < b := hb; omega), heap_setRow_ne _ (by have hb : X1 < b := hb; omega) _⟩
      generalize w3.setRow X1 #[.string (bs (b.hd.parent.take 50)), .int .u64 (b.hd.height : Int), .string (bs (b.hd.root.take 50)), .string (bs (b.hd.txs.take 50)), .string (bs (b.hd.prop.take 50)), .string (bs (b.hd.van.take 50)), .slice A8 qs.length c8, .string (bs (b.hd.vote.take 50)), .bool b.hd.add, .int .u64 (b.hd.round : Int), .slice As ms cs, .slice A3 ((b.txs.take 8).map cutTr).length c3] = W9 at hXn hBn htn hvn ⊢
      clear hB hX0 hX1 hX2 htv hvv
      refine hK.out _ _ (Meets.past (by kernel_rfl) Meets.nil) (fun hMeets => ?_)
      clear hK K hMeets
      refine lay_R ?_
      refine R_done (by kernel_rfl) ?_ _
      go_wp2_with fail
      refine bodyPost_ret (v := .agg #[.string (bs (b.hd.parent.take 50)), .int .u64 (b.hd.height : Int), .string (bs (b.hd.root.take 50)), .string (bs (b.hd.txs.take 50)), .string (bs (b.hd.prop.take 50)), .string (bs (b.hd.van.take 50)), .slice A8 qs.length c8, .string (bs (b.hd.vote.take 50)), .bool b.hd.add, .int .u64 (b.hd.round : Int), .slice As ms cs, .slice A3 ((b.txs.take 8).map cutTr).length c3]) (results_cell_row rfl _ _ X1 _ _ _ _ rfl hXn Try.underlying29 rfl infoBk) rfl ?_
      refine ⟨A8, As, A3, c8, cs, c3, ?_, ?_, hBn⟩
      · rw [HC.out]
        simp only [List.length_map]
        rw [HSL.out]
      · rw [HC.out]
        exact ⟨⟨hvn, Rep.mono (PlV.keep HSV.out hBn) fun b _ h => ⟨.inl h, rfl⟩⟩, htn⟩
end Go.Proofs.Ytjanaholcjkceaa
/- The walks of Like at blocks, and alive. -/
namespace Go.Proofs.Ytjanaholcjkceaa
set_option linter.unusedVariables false
set_option linter.unusedSimpArgs false
open Go.RowKit
theorem sumK_nil : (sumK []).take 4 = [197, 210, 70, 1] := by kernel_rfl
set_option maxRecDepth 100000 in
set_option maxHeartbeats 4000000 in
theorem like18_any (b : Bk) (Av As At Aw Ax Ay : Option Addr) (cv cs ct cw cx cy : Nat) (w : World) (hv : BkV Any w b Av cv As cs At ct) (hv' : BkV Any w b Aw cw Ax cx Ay cy) :
    Calls Try.prog 7 #[.agg #[.string (bs b.hd.parent), .int .u64 (b.hd.height : Int), .string (bs b.hd.root), .string (bs b.hd.txs), .string (bs b.hd.prop), .string (bs b.hd.van), .slice Av b.hd.vals.length cv, .string (bs b.hd.vote), .bool b.hd.add, .int .u64 (b.hd.round : Int), .slice As b.hd.seals.length cs, .slice At b.txs.length ct], .agg #[.string (bs b.hd.parent), .int .u64 (b.hd.height : Int), .string (bs b.hd.root), .string (bs b.hd.txs), .string (bs b.hd.prop), .string (bs b.hd.van), .slice Aw b.hd.vals.length cw, .string (bs b.hd.vote), .bool b.hd.add, .int .u64 (b.hd.round : Int), .slice Ax b.hd.seals.length cx, .slice Ay b.txs.length cy]] w fun e w' => e = .returned (.bool true) ∧ Below w.heap.size w w' := by
  have h0 := (heap_alloc_old (w.alloc (.cells #[.string (bs b.hd.parent), .int .u64 (b.hd.height : Int), .string (bs b.hd.root), .string (bs b.hd.txs), .string (bs b.hd.prop), .string (bs b.hd.van), .slice Av b.hd.vals.length cv, .string (bs b.hd.vote), .bool b.hd.add, .int .u64 (b.hd.round : Int), .slice As b.hd.seals.length cs, .slice At b.txs.length ct] 29)) (.cells #[.string (bs b.hd.parent), .int .u64 (b.hd.height : Int), .string (bs b.hd.root), .string (bs b.hd.txs), .string (bs b.hd.prop), .string (bs b.hd.van), .slice Aw b.hd.vals.length cw, .string (bs b.hd.vote), .bool b.hd.add, .int .u64 (b.hd.round : Int), .slice Ax b.hd.seals.length cx, .slice Ay b.txs.length cy] 29) (by simp)).trans (heap_alloc_new w (.cells #[.string (bs b.hd.parent), .int .u64 (b.hd.height : Int), .string (bs b.hd.root), .string (bs b.hd.txs), .string (bs b.hd.prop), .string (bs b.hd.van), .slice Av b.hd.vals.length cv, .string (bs b.hd.vote), .bool b.hd.add, .int .u64 (b.hd.round : Int), .slice As b.hd.seals.length cs, .slice At b.txs.length ct] 29))
  have h1 := heap_alloc_new (w.alloc (.cells #[.string (bs b.hd.parent), .int .u64 (b.hd.height : Int), .string (bs b.hd.root), .string (bs b.hd.txs), .string (bs b.hd.prop), .string (bs b.hd.van), .slice Av b.hd.vals.length cv, .string (bs b.hd.vote), .bool b.hd.add, .int .u64 (b.hd.round : Int), .slice As b.hd.seals.length cs, .slice At b.txs.length ct] 29)) (.cells #[.string (bs b.hd.parent), .int .u64 (b.hd.height : Int), .string (bs b.hd.root), .string (bs b.hd.txs), .string (bs b.hd.prop), .string (bs b.hd.van), .slice Aw b.hd.vals.length cw, .string (bs b.hd.vote), .bool b.hd.add, .int .u64 (b.hd.round : Int), .slice Ax b.hd.seals.length cx, .slice Ay b.txs.length cy] 29)
  rw [show (w.alloc (.cells #[.string (bs b.hd.parent), .int .u64 (b.hd.height : Int), .string (bs b.hd.root), .string (bs b.hd.txs), .string (bs b.hd.prop), .string (bs b.hd.van), .slice Av b.hd.vals.length cv, .string (bs b.hd.vote), .bool b.hd.add, .int .u64 (b.hd.round : Int), .slice As b.hd.seals.length cs, .slice At b.txs.length ct] 29)).heap.size = w.heap.size + 1 by simp] at h1
  have hb : Below w.heap.size w ((w.alloc (.cells #[.string (bs b.hd.parent), .int .u64 (b.hd.height : Int), .string (bs b.hd.root), .string (bs b.hd.txs), .string (bs b.hd.prop), .string (bs b.hd.van), .slice Av b.hd.vals.length cv, .string (bs b.hd.vote), .bool b.hd.add, .int .u64 (b.hd.round : Int), .slice As b.hd.seals.length cs, .slice At b.txs.length ct] 29)).alloc (.cells #[.string (bs b.hd.parent), .int .u64 (b.hd.height : Int), .string (bs b.hd.root), .string (bs b.hd.txs), .string (bs b.hd.prop), .string (bs b.hd.van), .slice Aw b.hd.vals.length cw, .string (bs b.hd.vote), .bool b.hd.add, .int .u64 (b.hd.round : Int), .slice Ax b.hd.seals.length cx, .slice Ay b.txs.length cy] 29)) := ((Below.refl _ _).alloc (Nat.le_refl _) _).alloc (by simp) _
  have HV1 := Lib.hid (hv.keep hb)
  have HV2 := Lib.hid (hv'.keep hb)
  have HB := Lib.hid hb
  have HX := Lib.hid h0
  have HY := Lib.hid h1
  have HK0 : Hid (∀ j u, ([.string (bs b.hd.parent), .int .u64 (b.hd.height : Int), .string (bs b.hd.root), .string (bs b.hd.txs), .string (bs b.hd.prop), .string (bs b.hd.van), .slice Av b.hd.vals.length cv, .string (bs b.hd.vote), .bool b.hd.add, .int .u64 (b.hd.round : Int), .slice As b.hd.seals.length cs] : List Value)[j]? = some u → ((w.alloc (.cells #[.string (bs b.hd.parent), .int .u64 (b.hd.height : Int), .string (bs b.hd.root), .string (bs b.hd.txs), .string (bs b.hd.prop), .string (bs b.hd.van), .slice Av b.hd.vals.length cv, .string (bs b.hd.vote), .bool b.hd.add, .int .u64 (b.hd.round : Int), .slice As b.hd.seals.length cs, .slice At b.txs.length ct] 29)).alloc (.cells #[.string (bs b.hd.parent), .int .u64 (b.hd.height : Int), .string (bs b.hd.root), .string (bs b.hd.txs), .string (bs b.hd.prop), .string (bs b.hd.van), .slice Aw b.hd.vals.length cw, .string (bs b.hd.vote), .bool b.hd.add, .int .u64 (b.hd.round : Int), .slice Ax b.hd.seals.length cx, .slice Ay b.txs.length cy] 29)).cell? ⟨w.heap.size, 0 + j, none⟩ = some u) := Lib.hid fun j u hj => by
    rw [Nat.zero_add]
    refine rc h0 j ?_
    have := (List.getElem?_eq_some_iff.1 hj).1
    match j, this with
    | 0, _ => exact hj
    | 1, _ => exact hj
    | 2, _ => exact hj
    | 3, _ => exact hj
    | 4, _ => exact hj
    | 5, _ => exact hj
    | 6, _ => exact hj
    | 7, _ => exact hj
    | 8, _ => exact hj
    | 9, _ => exact hj
    | 10, _ => exact hj
  have HK1 : Hid (∀ j u, ([.string (bs b.hd.parent), .int .u64 (b.hd.height : Int), .string (bs b.hd.root), .string (bs b.hd.txs), .string (bs b.hd.prop), .string (bs b.hd.van), .slice Aw b.hd.vals.length cw, .string (bs b.hd.vote), .bool b.hd.add, .int .u64 (b.hd.round : Int), .slice Ax b.hd.seals.length cx] : List Value)[j]? = some u → ((w.alloc (.cells #[.string (bs b.hd.parent), .int .u64 (b.hd.height : Int), .string (bs b.hd.root), .string (bs b.hd.txs), .string (bs b.hd.prop), .string (bs b.hd.van), .slice Av b.hd.vals.length cv, .string (bs b.hd.vote), .bool b.hd.add, .int .u64 (b.hd.round : Int), .slice As b.hd.seals.length cs, .slice At b.txs.length ct] 29)).alloc (.cells #[.string (bs b.hd.parent), .int .u64 (b.hd.height : Int), .string (bs b.hd.root), .string (bs b.hd.txs), .string (bs b.hd.prop), .string (bs b.hd.van), .slice Aw b.hd.vals.length cw, .string (bs b.hd.vote), .bool b.hd.add, .int .u64 (b.hd.round : Int), .slice Ax b.hd.seals.length cx, .slice Ay b.txs.length cy] 29)).cell? ⟨w.heap.size + 1, 0 + j, none⟩ = some u) := Lib.hid fun j u hj => by
    rw [Nat.zero_add]
    refine rc h1 j ?_
    have := (List.getElem?_eq_some_iff.1 hj).1
    match j, this with
    | 0, _ => exact hj
    | 1, _ => exact hj
    | 2, _ => exact hj
    | 3, _ => exact hj
    | 4, _ => exact hj
    | 5, _ => exact hj
    | 6, _ => exact hj
    | 7, _ => exact hj
    | 8, _ => exact hj
    | 9, _ => exact hj
    | 10, _ => exact hj
  clear h0 h1 hb hv hv'
  go_enter Try.func7, Try.ntmps7
  go_wp2_with (first | (refine wpl_load_cs rfl rfl rfl [.string (bs b.hd.parent), .int .u64 (b.hd.height : Int), .string (bs b.hd.root), .string (bs b.hd.txs), .string (bs b.hd.prop), .string (bs b.hd.van), .slice Av b.hd.vals.length cv, .string (bs b.hd.vote), .bool b.hd.add, .int .u64 (b.hd.round : Int), .slice As b.hd.seals.length cs] HK0.out Try.underlying26 rfl infoHd ?_) | (refine wpl_load_cs rfl rfl rfl [.string (bs b.hd.parent), .int .u64 (b.hd.height : Int), .string (bs b.hd.root), .string (bs b.hd.txs), .string (bs b.hd.prop), .string (bs b.hd.van), .slice Aw b.hd.vals.length cw, .string (bs b.hd.vote), .bool b.hd.add, .int .u64 (b.hd.round : Int), .slice Ax b.hd.seals.length cx] HK1.out Try.underlying26 rfl infoHd ?_))
  refine (like17_any b.hd Av As Aw Ax cv cs cw cx _ HV1.out.hd HV2.out.hd).mono ?_
  rintro e w1 ⟨rfl, hb1⟩
  have HB1 := Lib.hid (below_call HB.out HB.out.size hb1)
  have hX := (hb1.block _ (Array.getElem?_eq_some_iff.1 HX.out).1).trans HX.out
  have hY := (hb1.block _ (Array.getElem?_eq_some_iff.1 HY.out).1).trans HY.out
  have x11 := rc (u := .slice At b.txs.length ct) hX 11 rfl
  have y11 := rc (u := .slice Ay b.txs.length cy) hY 11 rfl
  have HT1 := Lib.hid (PlV.keep HV1.out.txs hb1)
  have HT2 := Lib.hid (PlV.keep HV2.out.txs hb1)
  clear hb1 hX hY HX HY HK0 HK1
  go_wp2_with fail
  refine (same16_any b.txs At Ay ct cy _ HT1.out HT2.out).mono ?_
  rintro e w2 ⟨rfl, hb2⟩
  have HB2 := Lib.hid (below_call HB1.out HB1.out.size hb2)
  clear hb2 x11 y11
  go_wp2_with fail
  go_ret
  exact ⟨rfl, HB2.out⟩
set_option maxRecDepth 100000 in
set_option maxHeartbeats 4000000 in
theorem alive18_any (w : World) : Calls Try.prog 8 #[] w fun e w' => e = .returned (.bool true) ∧ Below w.heap.size w w' := by
  have hS := bsum_any [] (by decide) (fun t ht => by cases ht) none 0 w PlV.nil
  rw [show bsumP [] = (sumsT [], 0) from rfl] at hS
  obtain ⟨s, hs⟩ : ∃ s, sumsT [] = s := ⟨_, rfl⟩
  have hs2 : s.length = 32 := by rw [← hs]; exact sumK_len _
  have hs3 : s.take 4 = [197, 210, 70, 1] := by rw [← hs]; exact sumK_nil
  rw [hs] at hS
  simp only [List.length_nil] at hS
  have HS := Lib.hid hS
  clear hS hs
  go_enter Try.func8, Try.ntmps8
  go_wp2_with fail
  refine HS.out.mono ?_
  rintro e w1 ⟨rfl, hb1⟩
  have HB1 := Lib.hid hb1
  clear hb1
  go_wp2_with fail
  go_ret
  exact ⟨rfl, HB1.out⟩
end Go.Proofs.Ytjanaholcjkceaa
