/- What a world holds of the library's variables; the walk of strconv.FormatUint at base 10. -/
import Derived.Test.YtggiicbjegmehaaDoorKit
import Derived.Test.YtggiicbjegmehaaDoorScShelf
import Derived.Test.YtggiicbjegmehaaDoorRows
import Derived.ChangeAgain
import Derived.Lib.ItoaLen
import Derived.Lib.ItoaMem
namespace Go.Proofs.YtggiicbjegmehaaDoor
set_option linter.unusedVariables false
set_option linter.unusedSimpArgs false
open Go.RowKit Go.Sort

def powName : String := (Rows.scriptReadsRow.laid.getD 2 (default, .lit (.bool false))).1
/-- the library's variables -/
structure Env (w : World) : Prop where
  shaped : w.ShapedOpen Tryd.prog
  pow : Lib.TabIs Tryd.prog w powName .u64 Lib.pow10Tab
  e1 : ∃ ev, w.cell? ⟨1, 0, none⟩ = some ev ∧ (ev = .nilIface ∨ ∃ te pe, ev = .iface te pe)
  e2 : ∃ ev, w.cell? ⟨2, 0, none⟩ = some ev ∧ (ev = .nilIface ∨ ∃ te pe, ev = .iface te pe)
theorem Env.keep {w w' : World} (h : Env w) (hb : Below w.heap.size w w') : Env w' := by
  refine ⟨h.shaped.keptBut (hb.frame fun _ => False) (fun _ hp => hp.elim), ?_, ?_, ?_⟩
  · have h0 := h.pow
    unfold Lib.TabIs World.var? at *
    cases hg : Tryd.prog.globalNamed powName with
    | none => simp [hg] at h0
    | some g =>
      simp only [hg, Option.bind_some] at h0 ⊢
      have hlt : g < w.heap.size := by
        rcases Nat.lt_or_ge g w.heap.size with h' | h'
        · exact h'
        · rw [Array.getElem?_eq_none h'] at h0; simp at h0
      rw [hb.block g hlt]
      exact h0
  · obtain ⟨ev, h1, h2⟩ := h.e1
    exact ⟨ev, (hb.cell (p := ⟨1, 0, none⟩) (lt_of_cell h1)).trans h1, h2⟩
  · obtain ⟨ev, h1, h2⟩ := h.e2
    exact ⟨ev, (hb.cell (p := ⟨2, 0, none⟩) (lt_of_cell h1)).trans h1, h2⟩

/-- a number's digits -/
def decB (n : Nat) : Bytes := Lib.decDigits n
theorem holds_zero0 (w : World) (T : TypeId) (nd : Nat) (hs : nd ≤ 24) : Holds (fun (b : UInt8) => Value.int .u8 (b.toNat : Int)) (w.alloc (.cells Lib.zeros24 T)) w.heap.size 0 (Array.replicate nd (0 : UInt8)) := fun j hj => by
  have hj' : j < nd := by simpa using hj
  refine ⟨?_, World.frozen?_alloc_new _ _ _ _⟩
  rw [World.cell?_alloc_new, Lib.zeros24_at _ (by omega), getElem!_pos _ j hj]
  simp
theorem below_put (w : World) (o : Obj) (d : Array UInt8) (k : Nat) : Below w.heap.size w ((putRow (fun (b : UInt8) => Value.int .u8 (b.toNat : Int)) (w.alloc o) w.heap.size 0 d).drewN k) := by
  rw [alloc_eq_grow]
  obtain ⟨os, _, e⟩ := putRow_grow_new (fun (b : UInt8) => Value.int .u8 (b.toNat : Int)) w #[o] w.heap.size 0 d (Nat.le_refl _)
  rw [e]
  have h : Below w.heap.size w (grow w os) := ⟨rfl, rfl, rfl, by simp [grow], fun b hb => by
    simp only [grow]
    rw [Array.getElem?_append_left hb]⟩
  exact below_drewN h k
theorem lies_put {w : World} {g nd u v : Nat} {d0 dk : Array UInt8} {k : Nat} (h0 : Holds (fun (b : UInt8) => Value.int .u8 (b.toNat : Int)) w g 0 d0) (hs : d0.size = nd) (hF : Lib.FmtInv nd u 0 v dk) (hd : Lib.nDigits u = nd) : Lies Any ((putRow (fun (b : UInt8) => Value.int .u8 (b.toNat : Int)) w g 0 dk).drewN k) (some ⟨g, 0, none⟩) ((decB u).map cellB) := fun _ =>
  ⟨g, 0, rfl, trivial, fun j x hj => by
    subst hd
    have h1 := holds_putRow (fun (b : UInt8) => Value.int .u8 (b.toNat : Int)) w g 0 d0 dk h0 (by rw [hF.size, hs])
    rw [List.getElem?_map, Option.map_eq_some_iff] at hj
    obtain ⟨y, hy, rfl⟩ := hj
    have hjl := (List.getElem?_eq_some_iff.1 hy)
    have hjl' := hjl.1
    have hn : j < dk.size := by rw [hF.size, ← Lib.decDigits_length]; exact hjl'
    have h2 := (h1 j hn).1
    have h3 := Lib.row_is_numeral hF j hjl'
    have hy' : dk[j]! = y := by rw [← h3]; exact hjl.2
    rw [hy'] at h2
    exact h2⟩

set_option maxRecDepth 100000 in
set_option maxHeartbeats 4000000 in
theorem iFormatUint_any (u : Nat) (hu : u < 18446744073709551616) (w : World) (he : Env w) :
    Calls Tryd.prog 78 #[.int .u64 (u : Int), .int .i64 10] w fun e w' => e = .returned (.string (bs (decB u))) ∧ Below w.heap.size w w' := by
  by_cases hs : u < 100
  · have hsI : (u : Int) < 100 := by omega
    have hw : IntKind.i64.wrap (u : Int) = u := IntWalk.i64_in _ (by omega)
    go_enter Tryd.func78, Tryd.ntmps78
    go_wp2_with fail
    refine (internal_strconv_small u hs _).mono ?_
    rintro e w1 ⟨rfl, rfl⟩
    go_wp2_with fail
    go_ret
    exact ⟨rfl, Below.refl _ _⟩
  · have hsI : ¬ (u : Int) < 100 := by omega
    have hnd20 : Lib.nDigits u ≤ 20 := Lib.nDigits_le20 u hu
    have hlt := Lib.lt_pow_nDigits u
    have hal : Tryd.prog.arrayLen 107 = 24 := by kernel_rfl
    obtain ⟨nd, hnd⟩ : ∃ nd, Lib.nDigits u = nd := ⟨_, rfl⟩
    have hdl : (Lib.decDigits u).length = nd := by rw [Lib.decDigits_length, hnd]
    rw [hnd] at hnd20 hlt
    have hsl : ∀ W g, (Instr.sliceAt 107 (.pointer (some ⟨g, 0, none⟩)) none (some (.int .i64 (nd : Int))) none).run Tryd.prog W = .ok (.slice (some ⟨g, 0, none⟩) nd 24) W := fun W g => by
      rw [run_sliceAt_array_h W 107 ⟨g, 0, none⟩ (by simp [Program.arrayLen, Program.elem, Tryd.underlying107]) .i64 (nd : Int) (by omega) (by rw [hal]; omega)]
      go_simp
    have hN := fun W htab => internal_strconv_numDigits u (by omega) hu W htab
    rw [hnd] at hN
    have HN := Lib.hid hN
    have HND := Lib.hid hnd
    have HE := Lib.hid he
    have HD := Lib.hid hdl
    clear hN he hnd hdl hal
    go_enter Tryd.func78, Tryd.ntmps78
    go_wp2_with fail
    refine (HN.out _ (Lib.tabIs_alloc HE.out.pow _)).mono ?_
    rintro e w1 ⟨rfl, rfl⟩
    have hH := holds_zero0 w 107 nd (by omega)
    have hF := internal_strconv_formatBase10 w.heap.size 0 24 u (Array.replicate nd 0) (w.alloc (.cells Lib.zeros24 107)) hH (by rw [Array.size_replicate]; exact hlt) hu (by rw [Array.size_replicate]; omega)
    rw [Array.size_replicate] at hF
    have HF := Lib.hid hF
    have HH := Lib.hid hH
    clear hF hH HN
    go_wp2_with fail
    refine HF.out.mono ?_
    rintro e w2 ⟨rfl, k, v, dk, rfl, hf⟩
    have hL := lies_put (k := k) HH.out (by simp) hf HND.out
    have hb := below_put w (.cells Lib.zeros24 107) dk k
    have HB := Lib.hid hb
    have hC := run_bytes_str (P := Tryd.prog) (src := 73) (dst := 9) (c := 24) Tryd.underlying73 Tryd.underlying5 Tryd.underlying9 hL
    have hdl : (decB u).length = nd := HD.out
    rw [hdl] at hC
    generalize (putRow (fun (b : UInt8) => Value.int .u8 (b.toNat : Int)) (w.alloc (.cells Lib.zeros24 107)) w.heap.size 0 dk).drewN k = W at hC HB ⊢
    clear hL hb hf HH HF hdl
    go_wp2_with fail
    go_ret
    exact ⟨rfl, HB.out⟩

set_option maxRecDepth 100000 in
theorem FormatUint_any (u : Nat) (hu : u < 18446744073709551616) (w : World) (he : Env w) :
    Calls Tryd.prog 62 #[.int .u64 (u : Int), .int .i64 10] w fun e w' => e = .returned (.string (bs (decB u))) ∧ Below w.heap.size w w' := by
  have H := Lib.hid (iFormatUint_any u hu w he)
  clear he
  go_enter Tryd.func62, Tryd.ntmps62
  go_wp2_with fail
  refine H.out.mono ?_
  rintro e w1 ⟨rfl, hb⟩
  go_wp2_with fail
  go_ret
  exact ⟨rfl, hb⟩
end Go.Proofs.YtggiicbjegmehaaDoor
