/- The walk of BlockBack. -/
import Derived.Test.YtjanaholcjkceaaZ45
namespace Go.Proofs.Ytjanaholcjkceaa
set_option linter.unusedVariables false
set_option linter.unusedSimpArgs false
open Go.RowKit
/-- a whole block loaded by a guarded operation that is wanted -/
theorem wpl_load_w {P : Program} {ops : Array Oper} {rest : List Oper} {op : Oper} {a : Act} {w : World} {Q : Exit → Act → World → Prop} (hw : Region.wanted op (yielded ops a.tmps) = true) {ty : TypeId} {x : Operand} (ho : op.op = .load ty x)
    {g : Nat} (hx : a.eval x = .pointer (some ⟨g, 0, none⟩)) {t : TypeId} {cs : Array Value} {fr : Nat × Nat} {d : TypeDesc} (hg : w.heap[g]? = some (.cells cs t fr))
    (hu : P.underlying ty = some d) (hd : (match d with | .struct _ | .array _ _ => true | _ => false) = true) (hi : (P.info? ty).map (·.size) = some cs.size)
    (h : wpList P ops Q rest (a.put op.dst (.agg cs)) w) : wpList P ops Q (op :: rest) a w :=
  wpList_step fun _ hK => by
    rw [if_pos hw]
    unfold Oper.wp execOp
    simp only [ho, hx, Instr.loadAt, Instr.sureAddr, Sem.run_bind, Sem.run_pure, Result.andThen_ok, run_loadVar_row w g t ty cs fr d hg hu hd hi]
    exact hK _ _ h
theorem cutBk_fine {b : Bk} (hh : b.hd.Fine) (ht : ∀ t ∈ b.txs, t.Fine) : (cutBk b).Fine := by
  have hl : ∀ (n : Nat) (s : Bytes), s.length ≤ 9223372036854775807 → (s.take n).length ≤ 9223372036854775807 := fun n s h => by rw [List.length_take]; omega
  refine ⟨⟨⟨hh.wf.height, hh.wf.round, fun x hx => hh.wf.seals x (List.mem_of_mem_take hx)⟩, hl _ _ hh.parent, hl _ _ hh.root, hl _ _ hh.txs, hl _ _ hh.prop, hl _ _ hh.van, hl _ _ hh.vote, fun a ha => ?_⟩, fun t h => ?_, ?_⟩
  · obtain ⟨y, hy, rfl⟩ := List.mem_map.1 (show a ∈ (b.hd.vals.take 20).map (·.take 50) from ha)
    exact hl _ _ (hh.vals y (List.mem_of_mem_take hy))
  · obtain ⟨y, hy, rfl⟩ := List.mem_map.1 (show t ∈ (b.txs.take 8).map cutTr from h)
    have := ht y (List.mem_of_mem_take hy)
    exact ⟨⟨this.wf.am, this.wf.no, this.wf.sg⟩, hl _ _ this.to⟩
  · show ((b.txs.take 8).map cutTr).length ≤ 10000
    rw [List.length_map, List.length_take]; omega
theorem okBk_fine {b : Bk} (hk : OkBk b) (hw : b.Wf) : b.Fine := ⟨hd_fine (s := hdB b.hd) (no := 0) (.inl ⟨rfl, hk.hd, hw.hd, rfl⟩), fun t ht => ⟨hw.txs t ht, by have := hk.each t ht; unfold okTr at this; simp only [Bool.and_eq_true, beq_iff_eq] at this; omega⟩, by have := hk.len; omega⟩
set_option maxRecDepth 100000 in
set_option maxHeartbeats 4000000 in
theorem blockBack_any (b : Bk) (hh : b.hd.Fine) (ht : ∀ t ∈ b.txs, t.Fine) (Av As At : Option Addr) (cv cs ct : Nat) (s : Bytes) (hs : s.length ≤ 9223372036854775807) (w : World) (hv : BkV Any w b Av cv As cs At ct) :
    Calls Try.prog 3 #[.agg #[.string (bs b.hd.parent), .int .u64 (b.hd.height : Int), .string (bs b.hd.root), .string (bs b.hd.txs), .string (bs b.hd.prop), .string (bs b.hd.van), .slice Av b.hd.vals.length cv, .string (bs b.hd.vote), .bool b.hd.add, .int .u64 (b.hd.round : Int), .slice As b.hd.seals.length cs, .slice At b.txs.length ct], .string (bs s)] w fun e w' => e = .returned (.bool true) ∧ Below w.heap.size w w' := by
  obtain ⟨m, hm, hmm⟩ : ∃ m : Nat, min (s.length : Int) 4100 = m ∧ m = min s.length 4100 := ⟨min s.length 4100, by omega, rfl⟩
  have hm1 : (m : Int) ≤ s.length := by omega
  have hs63 : (s.length : Int) ≤ 9223372036854775807 := by omega
  obtain ⟨t, ht0⟩ : ∃ t, s.take m = t := ⟨_, rfl⟩
  obtain ⟨c, hc⟩ : ∃ c, cutBk b = c := ⟨_, rfl⟩
  have hfc := cutBk_fine hh ht
  rw [hc] at hfc
  have HC := Lib.hid hc
  have HFC := Lib.hid hfc
  have HF := Lib.hid hh
  have HT := Lib.hid ht
  have hX0a := heap_alloc_new w (.cells #[.string (bs b.hd.parent), .int .u64 (b.hd.height : Int), .string (bs b.hd.root), .string (bs b.hd.txs), .string (bs b.hd.prop), .string (bs b.hd.van), .slice Av b.hd.vals.length cv, .string (bs b.hd.vote), .bool b.hd.add, .int .u64 (b.hd.round : Int), .slice As b.hd.seals.length cs, .slice At b.txs.length ct] 29)
  have hB := (Below.refl w.heap.size w).alloc (Nat.le_refl _) (.cells #[.string (bs b.hd.parent), .int .u64 (b.hd.height : Int), .string (bs b.hd.root), .string (bs b.hd.txs), .string (bs b.hd.prop), .string (bs b.hd.van), .slice Av b.hd.vals.length cv, .string (bs b.hd.vote), .bool b.hd.add, .int .u64 (b.hd.round : Int), .slice As b.hd.seals.length cs, .slice At b.txs.length ct] 29)
  have hv0 : BkV (fun g => g < w.heap.size) (w.alloc (.cells #[.string (bs b.hd.parent), .int .u64 (b.hd.height : Int), .string (bs b.hd.root), .string (bs b.hd.txs), .string (bs b.hd.prop), .string (bs b.hd.van), .slice Av b.hd.vals.length cv, .string (bs b.hd.vote), .bool b.hd.add, .int .u64 (b.hd.round : Int), .slice As b.hd.seals.length cs, .slice At b.txs.length ct] 29)).drew b Av cv As cs At ct := ⟨⟨Rep.mono hv.hd.vals fun g hg _ => ⟨hg, heap_alloc_old w (.cells #[.string (bs b.hd.parent), .int .u64 (b.hd.height : Int), .string (bs b.hd.root), .string (bs b.hd.txs), .string (bs b.hd.prop), .string (bs b.hd.van), .slice Av b.hd.vals.length cv, .string (bs b.hd.vote), .bool b.hd.add, .int .u64 (b.hd.round : Int), .slice As b.hd.seals.length cs, .slice At b.txs.length ct] 29) hg⟩, Rep.mono hv.hd.seals fun g hg _ => ⟨hg, heap_alloc_old w (.cells #[.string (bs b.hd.parent), .int .u64 (b.hd.height : Int), .string (bs b.hd.root), .string (bs b.hd.txs), .string (bs b.hd.prop), .string (bs b.hd.van), .slice Av b.hd.vals.length cv, .string (bs b.hd.vote), .bool b.hd.add, .int .u64 (b.hd.round : Int), .slice As b.hd.seals.length cs, .slice At b.txs.length ct] 29) hg⟩⟩, Rep.mono hv.txs fun g hg _ => ⟨hg, heap_alloc_old w (.cells #[.string (bs b.hd.parent), .int .u64 (b.hd.height : Int), .string (bs b.hd.root), .string (bs b.hd.txs), .string (bs b.hd.prop), .string (bs b.hd.van), .slice Av b.hd.vals.length cv, .string (bs b.hd.vote), .bool b.hd.add, .int .u64 (b.hd.round : Int), .slice As b.hd.seals.length cs, .slice At b.txs.length ct] 29) hg⟩⟩
  have hlX : w.heap.size < (w.alloc (.cells #[.string (bs b.hd.parent), .int .u64 (b.hd.height : Int), .string (bs b.hd.root), .string (bs b.hd.txs), .string (bs b.hd.prop), .string (bs b.hd.van), .slice Av b.hd.vals.length cv, .string (bs b.hd.vote), .bool b.hd.add, .int .u64 (b.hd.round : Int), .slice As b.hd.seals.length cs, .slice At b.txs.length ct] 29)).drew.heap.size := (Array.getElem?_eq_some_iff.1 hX0a).1
  clear hmm hc hfc hh ht hv
  have HXa := Lib.hid hX0a
  have HV0 := Lib.hid hv0
  have HLX := Lib.hid hlX
  have HB0 := Lib.hid hB
  clear hX0a hv0 hlX hB
  go_enter Try.func3, Try.ntmps3
  go_wp2_with fail
  have hX := HXa.out
  have hv0 := HV0.out
  have hlX := HLX.out
  have hB := HB0.out
  obtain ⟨X0, hX0e⟩ : ∃ X0, w.heap.size = X0 := ⟨_, rfl⟩
  rw [hX0e] at hX hlX hv0 ⊢
  have hX0 : w.heap.size ≤ X0 := Nat.le_of_eq hX0e
  clear HXa HV0 HLX HB0 hX0e
  replace hX := (show (w.alloc (.cells #[.string (bs b.hd.parent), .int .u64 (b.hd.height : Int), .string (bs b.hd.root), .string (bs b.hd.txs), .string (bs b.hd.prop), .string (bs b.hd.van), .slice Av b.hd.vals.length cv, .string (bs b.hd.vote), .bool b.hd.add, .int .u64 (b.hd.round : Int), .slice As b.hd.seals.length cs, .slice At b.txs.length ct] 29)).drew.heap[X0]? = (w.alloc (.cells #[.string (bs b.hd.parent), .int .u64 (b.hd.height : Int), .string (bs b.hd.root), .string (bs b.hd.txs), .string (bs b.hd.prop), .string (bs b.hd.van), .slice Av b.hd.vals.length cv, .string (bs b.hd.vote), .bool b.hd.add, .int .u64 (b.hd.round : Int), .slice As b.hd.seals.length cs, .slice At b.txs.length ct] 29)).heap[X0]? from rfl).trans hX
  replace hB := hB.drew
  refine wp_region_R [(7, fun w' => w'.heap[X0]? = some (.cells #[.string (bs b.hd.parent), .int .u64 (b.hd.height : Int), .string (bs b.hd.root), .string (bs b.hd.txs), .string (bs b.hd.prop), .string (bs b.hd.van), .slice Av b.hd.vals.length cv, .string (bs b.hd.vote), .bool b.hd.add, .int .u64 (b.hd.round : Int), .slice As b.hd.seals.length cs, .slice At b.txs.length ct] 29 (0, 0)))] (by kernel_rfl) ?_
  generalize (w.alloc (.cells #[.string (bs b.hd.parent), .int .u64 (b.hd.height : Int), .string (bs b.hd.root), .string (bs b.hd.txs), .string (bs b.hd.prop), .string (bs b.hd.van), .slice Av b.hd.vals.length cv, .string (bs b.hd.vote), .bool b.hd.add, .int .u64 (b.hd.round : Int), .slice As b.hd.seals.length cs, .slice At b.txs.length ct] 29)).drew = WD at hX hB hv0 hlX ⊢
  have hlX0 := hlX
  refine R_l (i := 0) (v := .agg #[.string (bs b.hd.parent), .int .u64 (b.hd.height : Int), .string (bs b.hd.root), .string (bs b.hd.txs), .string (bs b.hd.prop), .string (bs b.hd.van), .slice Av b.hd.vals.length cv, .string (bs b.hd.vote), .bool b.hd.add, .int .u64 (b.hd.round : Int), .slice As b.hd.seals.length cs, .slice At b.txs.length ct]) 7 _ List.mem_cons_self rfl (yieldsIf_load_row rfl rfl rfl (fun w' hS => hS) Try.underlying29 rfl infoBk) (Meets.here hX Meets.nil) ?_
  refine R_p (i := 2) (v := .string (bs s)) (Meets.here hX Meets.nil) ?_
  refine R_p (i := 3) (v := .string (bs s)) (Meets.here hX Meets.nil) ?_
  refine R_p (i := 4) (v := .int .i64 (s.length : Int)) (Meets.here hX Meets.nil) ?_
  refine R_p (i := 5) (v := .int .i64 (m : Int)) (Meets.here hX Meets.nil) ?_
  refine R_p (i := 6) (v := .string (bs t)) (Meets.here hX Meets.nil) ?_
  refine R_now 1 fun K hK => ?_
  go_simp
  refine (few18_any b HF.out HT.out Av As At cv cs ct _ (hv0.keep (Below.refl _ _))).mono ?_
  rintro e w1 ⟨Av1, As1, At1, cv1, cs1, ct1, rfl, hvc, hb1⟩
  replace hX := (hb1.block _ (Array.getElem?_eq_some_iff.1 hX).1).trans hX
  replace hB := below_call hB hB.size hb1
  replace hlX := Nat.lt_of_lt_of_le hlX hb1.size
  rw [HC.out] at hvc ⊢
  clear hb1
  refine hK.out _ _ (Meets.here hX Meets.nil) (fun hMeets => ?_)
  clear hK K hMeets
  refine lay_R ?_
  refine R_now 7 fun K hK => ?_
  refine ite_wanted (by rfl) ?_
  refine wp_store_row _ _ _ rfl X0 #[.string (bs c.hd.parent), .int .u64 (c.hd.height : Int), .string (bs c.hd.root), .string (bs c.hd.txs), .string (bs c.hd.prop), .string (bs c.hd.van), .slice Av1 c.hd.vals.length cv1, .string (bs c.hd.vote), .bool c.hd.add, .int .u64 (c.hd.round : Int), .slice As1 c.hd.seals.length cs1, .slice At1 c.txs.length ct1] rfl rfl _ #[.string (bs b.hd.parent), .int .u64 (b.hd.height : Int), .string (bs b.hd.root), .string (bs b.hd.txs), .string (bs b.hd.prop), .string (bs b.hd.van), .slice Av b.hd.vals.length cv, .string (bs b.hd.vote), .bool b.hd.add, .int .u64 (b.hd.round : Int), .slice As b.hd.seals.length cs, .slice At b.txs.length ct] hX infoBk rfl (one12B _ _ _ _ _ _ _ _ _ _ _ _ _ _ _ _ _ _) ?_
  have hXn := setRow_heap w1 X0 _ #[.string (bs c.hd.parent), .int .u64 (c.hd.height : Int), .string (bs c.hd.root), .string (bs c.hd.txs), .string (bs c.hd.prop), .string (bs c.hd.van), .slice Av1 c.hd.vals.length cv1, .string (bs c.hd.vote), .bool c.hd.add, .int .u64 (c.hd.round : Int), .slice As1 c.hd.seals.length cs1, .slice At1 c.txs.length ct1] _ _ hX
  have hBn := below_setRow hB hX0 #[.string (bs c.hd.parent), .int .u64 (c.hd.height : Int), .string (bs c.hd.root), .string (bs c.hd.txs), .string (bs c.hd.prop), .string (bs c.hd.van), .slice Av1 c.hd.vals.length cv1, .string (bs c.hd.vote), .bool c.hd.add, .int .u64 (c.hd.round : Int), .slice As1 c.hd.seals.length cs1, .slice At1 c.txs.length ct1]
  have hm : ∀ g, g < w1.heap.size → (g < X0 ∨ WD.heap.size ≤ g) → Any g ∧ (w1.setRow X0 #[.string (bs c.hd.parent), .int .u64 (c.hd.height : Int), .string (bs c.hd.root), .string (bs c.hd.txs), .string (bs c.hd.prop), .string (bs c.hd.van), .slice Av1 c.hd.vals.length cv1, .string (bs c.hd.vote), .bool c.hd.add, .int .u64 (c.hd.round : Int), .slice As1 c.hd.seals.length cs1, .slice At1 c.txs.length ct1]).heap[g]? = w1.heap[g]? := fun g _ hb => ⟨trivial, heap_setRow_ne _ (by omega) _⟩
  have hvn : BkV Any (w1.setRow X0 #[.string (bs c.hd.parent), .int .u64 (c.hd.height : Int), .string (bs c.hd.root), .string (bs c.hd.txs), .string (bs c.hd.prop), .string (bs c.hd.van), .slice Av1 c.hd.vals.length cv1, .string (bs c.hd.vote), .bool c.hd.add, .int .u64 (c.hd.round : Int), .slice As1 c.hd.seals.length cs1, .slice At1 c.txs.length ct1]) c Av1 cv1 As1 cs1 At1 ct1 := ⟨⟨Rep.mono hvc.hd.vals hm, Rep.mono hvc.hd.seals hm⟩, Rep.mono hvc.txs hm⟩
  clear hm
  generalize w1.setRow X0 #[.string (bs c.hd.parent), .int .u64 (c.hd.height : Int), .string (bs c.hd.root), .string (bs c.hd.txs), .string (bs c.hd.prop), .string (bs c.hd.van), .slice Av1 c.hd.vals.length cv1, .string (bs c.hd.vote), .bool c.hd.add, .int .u64 (c.hd.round : Int), .slice As1 c.hd.seals.length cs1, .slice At1 c.txs.length ct1] = W2 at hXn hBn hvn ⊢
  clear hX hB hvc
  have hX := hXn
  have hB := hBn
  have hvc := hvn
  clear hXn hBn hvn
  refine hK.out _ _ (Meets.past (by kernel_rfl) Meets.nil) (fun hMeets => ?_)
  clear hK K hMeets
  refine lay_R ?_
  refine R_p (i := 8) (v := .string (bs t)) (Meets.past (by kernel_rfl) Meets.nil) ?_
  refine R_done (by kernel_rfl) ?_ _
  clear hlX
  have HXX := Lib.hid hX
  have HVC := Lib.hid hvc
  have HBX := Lib.hid hB
  obtain ⟨ok, hok⟩ : ∃ ok, okBk c = ok := ⟨_, rfl⟩
  clear hX hvc hB hv0
  cases ok with
  | false =>
    have HOK := Lib.hid hok
    clear hok
    go_wp2_with (refine wpList_load_row rfl _ _ rfl X0 rfl _ _ _ _ HXX.out Try.underlying29 rfl infoBk ?_)
    refine (bbytes_no c HFC.out HOK.out Av1 As1 At1 cv1 cs1 ct1 _ HVC.out).mono ?_
    rintro e wq ⟨rfl, hbq⟩
    have hBq := below_call HBX.out HBX.out.size hbq
    clear hbq HXX HVC HBX
    have HBq := Lib.hid hBq
    clear hBq
    go_wp2_with fail
    refine (bread_any t _).mono ?_
    rintro e w5 ⟨x, Av3, As3, At3, cv3, cs3, ct3, no, rfl, hv3, hsaid, hb5⟩
    have hY5 := heap_alloc_new w5 (.cells #[.string ⟨#[]⟩, .int .u64 0, .string ⟨#[]⟩, .string ⟨#[]⟩, .string ⟨#[]⟩, .string ⟨#[]⟩, .slice none 0 0, .string ⟨#[]⟩, .bool false, .int .u64 0, .slice none 0 0, .slice none 0 0] 29)
    have HY5 := Lib.hid hY5
    have HB5 := Lib.hid (below_call HBq.out HBq.out.size hb5)
    have hY6 := setRow_heap (w5.alloc (.cells #[.string ⟨#[]⟩, .int .u64 0, .string ⟨#[]⟩, .string ⟨#[]⟩, .string ⟨#[]⟩, .string ⟨#[]⟩, .slice none 0 0, .string ⟨#[]⟩, .bool false, .int .u64 0, .slice none 0 0, .slice none 0 0] 29)) w5.heap.size _ #[.string (bs x.hd.parent), .int .u64 (x.hd.height : Int), .string (bs x.hd.root), .string (bs x.hd.txs), .string (bs x.hd.prop), .string (bs x.hd.van), .slice Av3 x.hd.vals.length cv3, .string (bs x.hd.vote), .bool x.hd.add, .int .u64 (x.hd.round : Int), .slice As3 x.hd.seals.length cs3, .slice At3 x.txs.length ct3] _ _ hY5
    have hB6 := below_setRow (HB5.out.alloc HB5.out.size (.cells #[.string ⟨#[]⟩, .int .u64 0, .string ⟨#[]⟩, .string ⟨#[]⟩, .string ⟨#[]⟩, .string ⟨#[]⟩, .slice none 0 0, .string ⟨#[]⟩, .bool false, .int .u64 0, .slice none 0 0, .slice none 0 0] 29)) HB5.out.size #[.string (bs x.hd.parent), .int .u64 (x.hd.height : Int), .string (bs x.hd.root), .string (bs x.hd.txs), .string (bs x.hd.prop), .string (bs x.hd.van), .slice Av3 x.hd.vals.length cv3, .string (bs x.hd.vote), .bool x.hd.add, .int .u64 (x.hd.round : Int), .slice As3 x.hd.seals.length cs3, .slice At3 x.txs.length ct3]
    have hm : ∀ g, g < w5.heap.size → From wq.heap.size g → Any g ∧ ((w5.alloc (.cells #[.string ⟨#[]⟩, .int .u64 0, .string ⟨#[]⟩, .string ⟨#[]⟩, .string ⟨#[]⟩, .string ⟨#[]⟩, .slice none 0 0, .string ⟨#[]⟩, .bool false, .int .u64 0, .slice none 0 0, .slice none 0 0] 29)).setRow w5.heap.size #[.string (bs x.hd.parent), .int .u64 (x.hd.height : Int), .string (bs x.hd.root), .string (bs x.hd.txs), .string (bs x.hd.prop), .string (bs x.hd.van), .slice Av3 x.hd.vals.length cv3, .string (bs x.hd.vote), .bool x.hd.add, .int .u64 (x.hd.round : Int), .slice As3 x.hd.seals.length cs3, .slice At3 x.txs.length ct3]).heap[g]? = w5.heap[g]? := fun g hb _ => ⟨trivial, (heap_setRow_ne _ (by omega) _).trans (heap_alloc_old _ _ hb)⟩
    have hv6 : BkV Any ((w5.alloc (.cells #[.string ⟨#[]⟩, .int .u64 0, .string ⟨#[]⟩, .string ⟨#[]⟩, .string ⟨#[]⟩, .string ⟨#[]⟩, .slice none 0 0, .string ⟨#[]⟩, .bool false, .int .u64 0, .slice none 0 0, .slice none 0 0] 29)).setRow w5.heap.size #[.string (bs x.hd.parent), .int .u64 (x.hd.height : Int), .string (bs x.hd.root), .string (bs x.hd.txs), .string (bs x.hd.prop), .string (bs x.hd.van), .slice Av3 x.hd.vals.length cv3, .string (bs x.hd.vote), .bool x.hd.add, .int .u64 (x.hd.round : Int), .slice As3 x.hd.seals.length cs3, .slice At3 x.txs.length ct3]) x Av3 cv3 As3 cs3 At3 ct3 := ⟨⟨Rep.mono hv3.hd.vals hm, Rep.mono hv3.hd.seals hm⟩, Rep.mono hv3.txs hm⟩
    clear hm hv3 hb5 hY5
    have hY6l := (Array.getElem?_eq_some_iff.1 hY6).1
    rcases hsaid with ⟨rfl, hk, hw, he⟩ | ⟨rfl, rfl, hne⟩
    · have HFX := Lib.hid (okBk_fine hk hw)
      have HK := Lib.hid hk
      have HE := Lib.hid he
      clear hk hw he
      go_wp2_with (first | (refine wpList_store_row rfl _ _ _ rfl w5.heap.size #[.string (bs x.hd.parent), .int .u64 (x.hd.height : Int), .string (bs x.hd.root), .string (bs x.hd.txs), .string (bs x.hd.prop), .string (bs x.hd.van), .slice Av3 x.hd.vals.length cv3, .string (bs x.hd.vote), .bool x.hd.add, .int .u64 (x.hd.round : Int), .slice As3 x.hd.seals.length cs3, .slice At3 x.txs.length ct3] rfl rfl _ _ HY5.out infoBk rfl (one12B _ _ _ _ _ _ _ _ _ _ _ _ _ _ _ _ _ _) ?_; generalize (w5.alloc (.cells #[.string ⟨#[]⟩, .int .u64 0, .string ⟨#[]⟩, .string ⟨#[]⟩, .string ⟨#[]⟩, .string ⟨#[]⟩, .slice none 0 0, .string ⟨#[]⟩, .bool false, .int .u64 0, .slice none 0 0, .slice none 0 0] 29)).setRow w5.heap.size #[.string (bs x.hd.parent), .int .u64 (x.hd.height : Int), .string (bs x.hd.root), .string (bs x.hd.txs), .string (bs x.hd.prop), .string (bs x.hd.van), .slice Av3 x.hd.vals.length cv3, .string (bs x.hd.vote), .bool x.hd.add, .int .u64 (x.hd.round : Int), .slice As3 x.hd.seals.length cs3, .slice At3 x.txs.length ct3] = W6 at hY6 hB6 hv6 hY6l ⊢; have HY6 := Lib.hid hY6; have HB6 := Lib.hid hB6; have HV6 := Lib.hid hv6; clear hY6 hB6 hv6) | (refine wpList_load_row rfl _ _ rfl w5.heap.size rfl _ _ _ _ HY6.out Try.underlying29 rfl infoBk ?_))
      refine (bbytes_yes x HFX.out HK.out Av3 As3 At3 cv3 cs3 ct3 _ HV6.out).mono ?_
      rintro e w7 ⟨rfl, hb7⟩
      have HY7 := Lib.hid ((hb7.block _ (Array.getElem?_eq_some_iff.1 HY6.out).1).trans HY6.out)
      have HB7 := Lib.hid (below_call HB6.out HB6.out.size hb7)
      have HV7 := Lib.hid (HV6.out.keep hb7)
      have he := HE.out
      obtain ⟨q, hq⟩ : ∃ q, bkB x = q := ⟨_, rfl⟩
      rw [hq] at he ⊢
      have HQ := Lib.hid hq
      subst he
      clear hb7 hq HY6 HB6 HV6 HY5 HB5
      go_wp2_with fail
      refine (alive18_any _).mono ?_
      rintro e w8 ⟨rfl, hb8⟩
      have HY8 := Lib.hid ((hb8.block _ (Array.getElem?_eq_some_iff.1 HY7.out).1).trans HY7.out)
      have HB8 := Lib.hid (below_call HB7.out HB7.out.size hb8)
      have hR := bright_any x HFX.out Av3 As3 At3 cv3 cs3 ct3 _ (HV7.out.keep hb8)
      rw [(okBk_iff _).2 HK.out] at hR
      have HR := Lib.hid hR
      clear hb8 hR HY7 HB7 HV7
      go_wp2_with (refine wpl_load_w (by rfl) rfl rfl HY8.out Try.underlying29 rfl infoBk ?_)
      refine HR.out.mono ?_
      rintro e w9 ⟨rfl, hb9⟩
      have HB9 := Lib.hid (below_call HB8.out HB8.out.size hb9)
      clear hb9
      go_wp2_with fail
      go_ret
      exact ⟨rfl, HB9.out⟩
    · clear hne
      go_wp2_with (first | (refine wpList_store_row rfl _ _ _ rfl w5.heap.size #[.string (bs zeroBk.hd.parent), .int .u64 (zeroBk.hd.height : Int), .string (bs zeroBk.hd.root), .string (bs zeroBk.hd.txs), .string (bs zeroBk.hd.prop), .string (bs zeroBk.hd.van), .slice Av3 zeroBk.hd.vals.length cv3, .string (bs zeroBk.hd.vote), .bool zeroBk.hd.add, .int .u64 (zeroBk.hd.round : Int), .slice As3 zeroBk.hd.seals.length cs3, .slice At3 zeroBk.txs.length ct3] rfl rfl _ _ HY5.out infoBk rfl (one12B _ _ _ _ _ _ _ _ _ _ _ _ _ _ _ _ _ _) ?_; generalize (w5.alloc (.cells #[.string ⟨#[]⟩, .int .u64 0, .string ⟨#[]⟩, .string ⟨#[]⟩, .string ⟨#[]⟩, .string ⟨#[]⟩, .slice none 0 0, .string ⟨#[]⟩, .bool false, .int .u64 0, .slice none 0 0, .slice none 0 0] 29)).setRow w5.heap.size #[.string (bs zeroBk.hd.parent), .int .u64 (zeroBk.hd.height : Int), .string (bs zeroBk.hd.root), .string (bs zeroBk.hd.txs), .string (bs zeroBk.hd.prop), .string (bs zeroBk.hd.van), .slice Av3 zeroBk.hd.vals.length cv3, .string (bs zeroBk.hd.vote), .bool zeroBk.hd.add, .int .u64 (zeroBk.hd.round : Int), .slice As3 zeroBk.hd.seals.length cs3, .slice At3 zeroBk.txs.length ct3] = W6 at hY6 hB6 hv6 hY6l ⊢; have HY6 := Lib.hid hY6; have HB6 := Lib.hid hB6; have HV6 := Lib.hid hv6; clear hY6 hB6 hv6))
      refine (alive18_any _).mono ?_
      rintro e w7 ⟨rfl, hb7⟩
      have HY7 := Lib.hid ((hb7.block _ (Array.getElem?_eq_some_iff.1 HY6.out).1).trans HY6.out)
      have HB7 := Lib.hid (below_call HB6.out HB6.out.size hb7)
      have HV7 := Lib.hid (HV6.out.keep hb7)
      have hL : Calls Try.prog 7 #[.agg #[.string (bs zeroBk.hd.parent), .int .u64 (zeroBk.hd.height : Int), .string (bs zeroBk.hd.root), .string (bs zeroBk.hd.txs), .string (bs zeroBk.hd.prop), .string (bs zeroBk.hd.van), .slice Av3 zeroBk.hd.vals.length cv3, .string (bs zeroBk.hd.vote), .bool zeroBk.hd.add, .int .u64 (zeroBk.hd.round : Int), .slice As3 zeroBk.hd.seals.length cs3, .slice At3 zeroBk.txs.length ct3], .agg #[.string ⟨#[]⟩, .int .u64 0, .string ⟨#[]⟩, .string ⟨#[]⟩, .string ⟨#[]⟩, .string ⟨#[]⟩, .slice none 0 0, .string ⟨#[]⟩, .bool false, .int .u64 0, .slice none 0 0, .slice none 0 0]] w7 fun e w' => e = .returned (.bool true) ∧ Below w7.heap.size w7 w' := like18_any zeroBk Av3 As3 At3 none none none cv3 cs3 ct3 0 0 0 w7 HV7.out ⟨⟨Rep.nil_slice 1, PlV.nil⟩, PlV.nil⟩
      have HL := Lib.hid hL
      clear hb7 hL HY6 HB6 HV6 HV7 HY5 HB5
      go_wp2_with (refine wpl_load_w (by rfl) rfl rfl HY7.out Try.underlying29 rfl infoBk ?_)
      refine HL.out.mono ?_
      rintro e w8 ⟨rfl, hb8⟩
      have HB8 := Lib.hid (below_call HB7.out HB7.out.size hb8)
      clear hb8
      go_wp2_with fail
      go_ret
      exact ⟨rfl, HB8.out⟩
  | true =>
    have hk := (okBk_iff c).1 hok
    have hwf : c.Wf := ⟨HFC.out.hd.wf, fun t h => (HFC.out.txs t h).wf⟩
    have HK := Lib.hid hk
    have HWF := Lib.hid hwf
    clear hok hk hwf
    go_wp2_with (refine wpList_load_row rfl _ _ rfl X0 rfl _ _ _ _ HXX.out Try.underlying29 rfl infoBk ?_)
    refine (bbytes_yes c HFC.out HK.out Av1 As1 At1 cv1 cs1 ct1 _ HVC.out).mono ?_
    rintro e w2 ⟨rfl, hb2⟩
    have HX2 := Lib.hid ((hb2.block _ (Array.getElem?_eq_some_iff.1 HXX.out).1).trans HXX.out)
    have HV2 := Lib.hid (HVC.out.keep hb2)
    have HB2 := Lib.hid (below_call HBX.out HBX.out.size hb2)
    clear hb2 HXX HVC HBX
    go_wp2_with fail
    refine (bread_any (bkB c) _).mono ?_
    rintro e w3 ⟨x, Av2, As2, At2, cv2, cs2, ct2, no, rfl, hv3, hsaid, hb3⟩
    obtain ⟨rfl, rfl⟩ := bkSaid_fun (show BkSaid (bkB c) c 0 from .inl ⟨rfl, HK.out, HWF.out, rfl⟩) hsaid
    have hY3 := heap_alloc_new w3 (.cells #[.string ⟨#[]⟩, .int .u64 0, .string ⟨#[]⟩, .string ⟨#[]⟩, .string ⟨#[]⟩, .string ⟨#[]⟩, .slice none 0 0, .string ⟨#[]⟩, .bool false, .int .u64 0, .slice none 0 0, .slice none 0 0] 29)
    have HY3 := Lib.hid hY3
    have hb3' : Below w2.heap.size w2 ((w3.alloc (.cells #[.string ⟨#[]⟩, .int .u64 0, .string ⟨#[]⟩, .string ⟨#[]⟩, .string ⟨#[]⟩, .string ⟨#[]⟩, .slice none 0 0, .string ⟨#[]⟩, .bool false, .int .u64 0, .slice none 0 0, .slice none 0 0] 29)).setRow w3.heap.size #[.string (bs c.hd.parent), .int .u64 (c.hd.height : Int), .string (bs c.hd.root), .string (bs c.hd.txs), .string (bs c.hd.prop), .string (bs c.hd.van), .slice Av2 c.hd.vals.length cv2, .string (bs c.hd.vote), .bool c.hd.add, .int .u64 (c.hd.round : Int), .slice As2 c.hd.seals.length cs2, .slice At2 c.txs.length ct2]) := below_setRow (hb3.alloc hb3.size (.cells #[.string ⟨#[]⟩, .int .u64 0, .string ⟨#[]⟩, .string ⟨#[]⟩, .string ⟨#[]⟩, .string ⟨#[]⟩, .slice none 0 0, .string ⟨#[]⟩, .bool false, .int .u64 0, .slice none 0 0, .slice none 0 0] 29)) hb3.size #[.string (bs c.hd.parent), .int .u64 (c.hd.height : Int), .string (bs c.hd.root), .string (bs c.hd.txs), .string (bs c.hd.prop), .string (bs c.hd.van), .slice Av2 c.hd.vals.length cv2, .string (bs c.hd.vote), .bool c.hd.add, .int .u64 (c.hd.round : Int), .slice As2 c.hd.seals.length cs2, .slice At2 c.txs.length ct2]
    have hY4 := setRow_heap (w3.alloc (.cells #[.string ⟨#[]⟩, .int .u64 0, .string ⟨#[]⟩, .string ⟨#[]⟩, .string ⟨#[]⟩, .string ⟨#[]⟩, .slice none 0 0, .string ⟨#[]⟩, .bool false, .int .u64 0, .slice none 0 0, .slice none 0 0] 29)) w3.heap.size _ #[.string (bs c.hd.parent), .int .u64 (c.hd.height : Int), .string (bs c.hd.root), .string (bs c.hd.txs), .string (bs c.hd.prop), .string (bs c.hd.van), .slice Av2 c.hd.vals.length cv2, .string (bs c.hd.vote), .bool c.hd.add, .int .u64 (c.hd.round : Int), .slice As2 c.hd.seals.length cs2, .slice At2 c.txs.length ct2] _ _ hY3
    have hX4 := (hb3'.block _ (Array.getElem?_eq_some_iff.1 HX2.out).1).trans HX2.out
    have hB4 := below_call HB2.out HB2.out.size hb3'
    have hm : ∀ g, g < w3.heap.size → From w2.heap.size g → Any g ∧ ((w3.alloc (.cells #[.string ⟨#[]⟩, .int .u64 0, .string ⟨#[]⟩, .string ⟨#[]⟩, .string ⟨#[]⟩, .string ⟨#[]⟩, .slice none 0 0, .string ⟨#[]⟩, .bool false, .int .u64 0, .slice none 0 0, .slice none 0 0] 29)).setRow w3.heap.size #[.string (bs c.hd.parent), .int .u64 (c.hd.height : Int), .string (bs c.hd.root), .string (bs c.hd.txs), .string (bs c.hd.prop), .string (bs c.hd.van), .slice Av2 c.hd.vals.length cv2, .string (bs c.hd.vote), .bool c.hd.add, .int .u64 (c.hd.round : Int), .slice As2 c.hd.seals.length cs2, .slice At2 c.txs.length ct2]).heap[g]? = w3.heap[g]? := fun g hb _ => ⟨trivial, (heap_setRow_ne _ (by omega) _).trans (heap_alloc_old _ _ hb)⟩
    have hv4 : BkV Any ((w3.alloc (.cells #[.string ⟨#[]⟩, .int .u64 0, .string ⟨#[]⟩, .string ⟨#[]⟩, .string ⟨#[]⟩, .string ⟨#[]⟩, .slice none 0 0, .string ⟨#[]⟩, .bool false, .int .u64 0, .slice none 0 0, .slice none 0 0] 29)).setRow w3.heap.size #[.string (bs c.hd.parent), .int .u64 (c.hd.height : Int), .string (bs c.hd.root), .string (bs c.hd.txs), .string (bs c.hd.prop), .string (bs c.hd.van), .slice Av2 c.hd.vals.length cv2, .string (bs c.hd.vote), .bool c.hd.add, .int .u64 (c.hd.round : Int), .slice As2 c.hd.seals.length cs2, .slice At2 c.txs.length ct2]) c Av2 cv2 As2 cs2 At2 ct2 := ⟨⟨Rep.mono hv3.hd.vals hm, Rep.mono hv3.hd.seals hm⟩, Rep.mono hv3.txs hm⟩
    have hc4 := HV2.out.keep hb3'
    clear hm hv3 hb3 hb3' hY3 hsaid
    go_wp2_with (first | (refine wpList_store_row rfl _ _ _ rfl w3.heap.size #[.string (bs c.hd.parent), .int .u64 (c.hd.height : Int), .string (bs c.hd.root), .string (bs c.hd.txs), .string (bs c.hd.prop), .string (bs c.hd.van), .slice Av2 c.hd.vals.length cv2, .string (bs c.hd.vote), .bool c.hd.add, .int .u64 (c.hd.round : Int), .slice As2 c.hd.seals.length cs2, .slice At2 c.txs.length ct2] rfl rfl _ _ HY3.out infoBk rfl (one12B _ _ _ _ _ _ _ _ _ _ _ _ _ _ _ _ _ _) ?_; generalize (w3.alloc (.cells #[.string ⟨#[]⟩, .int .u64 0, .string ⟨#[]⟩, .string ⟨#[]⟩, .string ⟨#[]⟩, .string ⟨#[]⟩, .slice none 0 0, .string ⟨#[]⟩, .bool false, .int .u64 0, .slice none 0 0, .slice none 0 0] 29)).setRow w3.heap.size #[.string (bs c.hd.parent), .int .u64 (c.hd.height : Int), .string (bs c.hd.root), .string (bs c.hd.txs), .string (bs c.hd.prop), .string (bs c.hd.van), .slice Av2 c.hd.vals.length cv2, .string (bs c.hd.vote), .bool c.hd.add, .int .u64 (c.hd.round : Int), .slice As2 c.hd.seals.length cs2, .slice At2 c.txs.length ct2] = W4 at hY4 hX4 hB4 hv4 hc4 ⊢; have HY4 := Lib.hid hY4; have HX4 := Lib.hid hX4; have HB4 := Lib.hid hB4; have HV4 := Lib.hid hv4; have HC4 := Lib.hid hc4; clear hY4 hX4 hB4 hv4 hc4) | (refine wpl_load_w (by rfl) rfl rfl HY4.out Try.underlying29 rfl infoBk ?_) | (refine wpl_load_w (by rfl) rfl rfl HX4.out Try.underlying29 rfl infoBk ?_))
    refine (like18_any c Av2 As2 At2 Av1 As1 At1 cv2 cs2 ct2 cv1 cs1 ct1 _ HV4.out HC4.out).mono ?_
    rintro e wq ⟨rfl, hbq⟩
    have hBq := below_call HB4.out HB4.out.size hbq
    clear hbq HX2 HV2 HB2 HY3 HY4 HX4 HB4 HV4 HC4
    have HBq := Lib.hid hBq
    clear hBq
    go_wp2_with fail
    refine (bread_any t _).mono ?_
    rintro e w5 ⟨x, Av3, As3, At3, cv3, cs3, ct3, no, rfl, hv3, hsaid, hb5⟩
    have hY5 := heap_alloc_new w5 (.cells #[.string ⟨#[]⟩, .int .u64 0, .string ⟨#[]⟩, .string ⟨#[]⟩, .string ⟨#[]⟩, .string ⟨#[]⟩, .slice none 0 0, .string ⟨#[]⟩, .bool false, .int .u64 0, .slice none 0 0, .slice none 0 0] 29)
    have HY5 := Lib.hid hY5
    have HB5 := Lib.hid (below_call HBq.out HBq.out.size hb5)
    have hY6 := setRow_heap (w5.alloc (.cells #[.string ⟨#[]⟩, .int .u64 0, .string ⟨#[]⟩, .string ⟨#[]⟩, .string ⟨#[]⟩, .string ⟨#[]⟩, .slice none 0 0, .string ⟨#[]⟩, .bool false, .int .u64 0, .slice none 0 0, .slice none 0 0] 29)) w5.heap.size _ #[.string (bs x.hd.parent), .int .u64 (x.hd.height : Int), .string (bs x.hd.root), .string (bs x.hd.txs), .string (bs x.hd.prop), .string (bs x.hd.van), .slice Av3 x.hd.vals.length cv3, .string (bs x.hd.vote), .bool x.hd.add, .int .u64 (x.hd.round : Int), .slice As3 x.hd.seals.length cs3, .slice At3 x.txs.length ct3] _ _ hY5
    have hB6 := below_setRow (HB5.out.alloc HB5.out.size (.cells #[.string ⟨#[]⟩, .int .u64 0, .string ⟨#[]⟩, .string ⟨#[]⟩, .string ⟨#[]⟩, .string ⟨#[]⟩, .slice none 0 0, .string ⟨#[]⟩, .bool false, .int .u64 0, .slice none 0 0, .slice none 0 0] 29)) HB5.out.size #[.string (bs x.hd.parent), .int .u64 (x.hd.height : Int), .string (bs x.hd.root), .string (bs x.hd.txs), .string (bs x.hd.prop), .string (bs x.hd.van), .slice Av3 x.hd.vals.length cv3, .string (bs x.hd.vote), .bool x.hd.add, .int .u64 (x.hd.round : Int), .slice As3 x.hd.seals.length cs3, .slice At3 x.txs.length ct3]
    have hm : ∀ g, g < w5.heap.size → From wq.heap.size g → Any g ∧ ((w5.alloc (.cells #[.string ⟨#[]⟩, .int .u64 0, .string ⟨#[]⟩, .string ⟨#[]⟩, .string ⟨#[]⟩, .string ⟨#[]⟩, .slice none 0 0, .string ⟨#[]⟩, .bool false, .int .u64 0, .slice none 0 0, .slice none 0 0] 29)).setRow w5.heap.size #[.string (bs x.hd.parent), .int .u64 (x.hd.height : Int), .string (bs x.hd.root), .string (bs x.hd.txs), .string (bs x.hd.prop), .string (bs x.hd.van), .slice Av3 x.hd.vals.length cv3, .string (bs x.hd.vote), .bool x.hd.add, .int .u64 (x.hd.round : Int), .slice As3 x.hd.seals.length cs3, .slice At3 x.txs.length ct3]).heap[g]? = w5.heap[g]? := fun g hb _ => ⟨trivial, (heap_setRow_ne _ (by omega) _).trans (heap_alloc_old _ _ hb)⟩
    have hv6 : BkV Any ((w5.alloc (.cells #[.string ⟨#[]⟩, .int .u64 0, .string ⟨#[]⟩, .string ⟨#[]⟩, .string ⟨#[]⟩, .string ⟨#[]⟩, .slice none 0 0, .string ⟨#[]⟩, .bool false, .int .u64 0, .slice none 0 0, .slice none 0 0] 29)).setRow w5.heap.size #[.string (bs x.hd.parent), .int .u64 (x.hd.height : Int), .string (bs x.hd.root), .string (bs x.hd.txs), .string (bs x.hd.prop), .string (bs x.hd.van), .slice Av3 x.hd.vals.length cv3, .string (bs x.hd.vote), .bool x.hd.add, .int .u64 (x.hd.round : Int), .slice As3 x.hd.seals.length cs3, .slice At3 x.txs.length ct3]) x Av3 cv3 As3 cs3 At3 ct3 := ⟨⟨Rep.mono hv3.hd.vals hm, Rep.mono hv3.hd.seals hm⟩, Rep.mono hv3.txs hm⟩
    clear hm hv3 hb5 hY5
    have hY6l := (Array.getElem?_eq_some_iff.1 hY6).1
    rcases hsaid with ⟨rfl, hk, hw, he⟩ | ⟨rfl, rfl, hne⟩
    · have HFX := Lib.hid (okBk_fine hk hw)
      have HK := Lib.hid hk
      have HE := Lib.hid he
      clear hk hw he
      go_wp2_with (first | (refine wpList_store_row rfl _ _ _ rfl w5.heap.size #[.string (bs x.hd.parent), .int .u64 (x.hd.height : Int), .string (bs x.hd.root), .string (bs x.hd.txs), .string (bs x.hd.prop), .string (bs x.hd.van), .slice Av3 x.hd.vals.length cv3, .string (bs x.hd.vote), .bool x.hd.add, .int .u64 (x.hd.round : Int), .slice As3 x.hd.seals.length cs3, .slice At3 x.txs.length ct3] rfl rfl _ _ HY5.out infoBk rfl (one12B _ _ _ _ _ _ _ _ _ _ _ _ _ _ _ _ _ _) ?_; generalize (w5.alloc (.cells #[.string ⟨#[]⟩, .int .u64 0, .string ⟨#[]⟩, .string ⟨#[]⟩, .string ⟨#[]⟩, .string ⟨#[]⟩, .slice none 0 0, .string ⟨#[]⟩, .bool false, .int .u64 0, .slice none 0 0, .slice none 0 0] 29)).setRow w5.heap.size #[.string (bs x.hd.parent), .int .u64 (x.hd.height : Int), .string (bs x.hd.root), .string (bs x.hd.txs), .string (bs x.hd.prop), .string (bs x.hd.van), .slice Av3 x.hd.vals.length cv3, .string (bs x.hd.vote), .bool x.hd.add, .int .u64 (x.hd.round : Int), .slice As3 x.hd.seals.length cs3, .slice At3 x.txs.length ct3] = W6 at hY6 hB6 hv6 hY6l ⊢; have HY6 := Lib.hid hY6; have HB6 := Lib.hid hB6; have HV6 := Lib.hid hv6; clear hY6 hB6 hv6) | (refine wpList_load_row rfl _ _ rfl w5.heap.size rfl _ _ _ _ HY6.out Try.underlying29 rfl infoBk ?_))
      refine (bbytes_yes x HFX.out HK.out Av3 As3 At3 cv3 cs3 ct3 _ HV6.out).mono ?_
      rintro e w7 ⟨rfl, hb7⟩
      have HY7 := Lib.hid ((hb7.block _ (Array.getElem?_eq_some_iff.1 HY6.out).1).trans HY6.out)
      have HB7 := Lib.hid (below_call HB6.out HB6.out.size hb7)
      have HV7 := Lib.hid (HV6.out.keep hb7)
      have he := HE.out
      obtain ⟨q, hq⟩ : ∃ q, bkB x = q := ⟨_, rfl⟩
      rw [hq] at he ⊢
      have HQ := Lib.hid hq
      subst he
      clear hb7 hq HY6 HB6 HV6 HY5 HB5
      go_wp2_with fail
      refine (alive18_any _).mono ?_
      rintro e w8 ⟨rfl, hb8⟩
      have HY8 := Lib.hid ((hb8.block _ (Array.getElem?_eq_some_iff.1 HY7.out).1).trans HY7.out)
      have HB8 := Lib.hid (below_call HB7.out HB7.out.size hb8)
      have hR := bright_any x HFX.out Av3 As3 At3 cv3 cs3 ct3 _ (HV7.out.keep hb8)
      rw [(okBk_iff _).2 HK.out] at hR
      have HR := Lib.hid hR
      clear hb8 hR HY7 HB7 HV7
      go_wp2_with (refine wpl_load_w (by rfl) rfl rfl HY8.out Try.underlying29 rfl infoBk ?_)
      refine HR.out.mono ?_
      rintro e w9 ⟨rfl, hb9⟩
      have HB9 := Lib.hid (below_call HB8.out HB8.out.size hb9)
      clear hb9
      go_wp2_with fail
      go_ret
      exact ⟨rfl, HB9.out⟩
    · clear hne
      go_wp2_with (first | (refine wpList_store_row rfl _ _ _ rfl w5.heap.size #[.string (bs zeroBk.hd.parent), .int .u64 (zeroBk.hd.height : Int), .string (bs zeroBk.hd.root), .string (bs zeroBk.hd.txs), .string (bs zeroBk.hd.prop), .string (bs zeroBk.hd.van), .slice Av3 zeroBk.hd.vals.length cv3, .string (bs zeroBk.hd.vote), .bool zeroBk.hd.add, .int .u64 (zeroBk.hd.round : Int), .slice As3 zeroBk.hd.seals.length cs3, .slice At3 zeroBk.txs.length ct3] rfl rfl _ _ HY5.out infoBk rfl (one12B _ _ _ _ _ _ _ _ _ _ _ _ _ _ _ _ _ _) ?_; generalize (w5.alloc (.cells #[.string ⟨#[]⟩, .int .u64 0, .string ⟨#[]⟩, .string ⟨#[]⟩, .string ⟨#[]⟩, .string ⟨#[]⟩, .slice none 0 0, .string ⟨#[]⟩, .bool false, .int .u64 0, .slice none 0 0, .slice none 0 0] 29)).setRow w5.heap.size #[.string (bs zeroBk.hd.parent), .int .u64 (zeroBk.hd.height : Int), .string (bs zeroBk.hd.root), .string (bs zeroBk.hd.txs), .string (bs zeroBk.hd.prop), .string (bs zeroBk.hd.van), .slice Av3 zeroBk.hd.vals.length cv3, .string (bs zeroBk.hd.vote), .bool zeroBk.hd.add, .int .u64 (zeroBk.hd.round : Int), .slice As3 zeroBk.hd.seals.length cs3, .slice At3 zeroBk.txs.length ct3] = W6 at hY6 hB6 hv6 hY6l ⊢; have HY6 := Lib.hid hY6; have HB6 := Lib.hid hB6; have HV6 := Lib.hid hv6; clear hY6 hB6 hv6))
      refine (alive18_any _).mono ?_
      rintro e w7 ⟨rfl, hb7⟩
      have HY7 := Lib.hid ((hb7.block _ (Array.getElem?_eq_some_iff.1 HY6.out).1).trans HY6.out)
      have HB7 := Lib.hid (below_call HB6.out HB6.out.size hb7)
      have HV7 := Lib.hid (HV6.out.keep hb7)
      have hL : Calls Try.prog 7 #[.agg #[.string (bs zeroBk.hd.parent), .int .u64 (zeroBk.hd.height : Int), .string (bs zeroBk.hd.root), .string (bs zeroBk.hd.txs), .string (bs zeroBk.hd.prop), .string (bs zeroBk.hd.van), .slice Av3 zeroBk.hd.vals.length cv3, .string (bs zeroBk.hd.vote), .bool zeroBk.hd.add, .int .u64 (zeroBk.hd.round : Int), .slice As3 zeroBk.hd.seals.length cs3, .slice At3 zeroBk.txs.length ct3], .agg #[.string ⟨#[]⟩, .int .u64 0, .string ⟨#[]⟩, .string ⟨#[]⟩, .string ⟨#[]⟩, .string ⟨#[]⟩, .slice none 0 0, .string ⟨#[]⟩, .bool false, .int .u64 0, .slice none 0 0, .slice none 0 0]] w7 fun e w' => e = .returned (.bool true) ∧ Below w7.heap.size w7 w' := like18_any zeroBk Av3 As3 At3 none none none cv3 cs3 ct3 0 0 0 w7 HV7.out ⟨⟨Rep.nil_slice 1, PlV.nil⟩, PlV.nil⟩
      have HL := Lib.hid hL
      clear hb7 hL HY6 HB6 HV6 HV7 HY5 HB5
      go_wp2_with (refine wpl_load_w (by rfl) rfl rfl HY7.out Try.underlying29 rfl infoBk ?_)
      refine HL.out.mono ?_
      rintro e w8 ⟨rfl, hb8⟩
      have HB8 := Lib.hid (below_call HB7.out HB7.out.size hb8)
      clear hb8
      go_wp2_with fail
      go_ret
      exact ⟨rfl, HB8.out⟩
end Go.Proofs.Ytjanaholcjkceaa
