/- The walk of script.unhexed. -/
import Derived.Test.YtggiicbjegmehaaDoorScL
import Derived.Test.YtggiicbjegmehaaDoorScM
namespace Go.Proofs.YtggiicbjegmehaaDoor
set_option linter.unusedVariables false
set_option linter.unusedSimpArgs false
open Go.RowKit

def hexL : Bytes := [48, 49, 50, 51, 52, 53, 54, 55, 56, 57, 97, 98, 99, 100, 101, 102]
def idxH (x : UInt8) : Int := Lib.indexByte hexL x
theorem idxH_bounds (x : UInt8) : -1 ≤ idxH x ∧ idxH x ≤ 15 := by
  have h : ∀ n : Fin 256, -1 ≤ idxH (UInt8.ofNat n.val) ∧ idxH (UInt8.ofNat n.val) ≤ 15 := by decide +kernel
  have := h ⟨x.toNat, x.toNat_lt⟩
  simpa using this
theorem idx_any (x : UInt8) (w : World) : Calls Tryd.prog 63 #[.string ⟨#[48, 49, 50, 51, 52, 53, 54, 55, 56, 57, 97, 98, 99, 100, 101, 102]⟩, .int .u8 (x.toNat : Int)] w fun e w' => e = .returned (.int .i64 (idxH x)) ∧ w' = w := by
  have h := strings_IndexByte (bs hexL) (x.toNat : Int) w
  have e : ((x.toNat : Int)).toNat.toUInt8 = x := by simp
  rw [e] at h
  exact h
/-- bytes out of their digits -/
def unP : Bytes → Bytes → Bytes
  | x :: y :: r, acc => if idxH x < 0 ∨ idxH y < 0 then [] else unP r (acc ++ [UInt8.ofNat (16 * (idxH x).toNat + (idxH y).toNat)])
  | _, acc => acc
theorem idx_hex (n : Nat) (h : n < 16) : idxH (hexP n) = n := by
  have h0 : ∀ n : Fin 16, idxH (hexP n.val) = (n.val : Int) := by decide +kernel
  exact h0 ⟨n, h⟩
theorem unP_hexed : ∀ (b acc : Bytes), unP (hexedP b) acc = acc ++ b
  | [], acc => by simp [hexedP, unP]
  | x :: b, acc => by
    have hx := x.toNat_lt
    have e : hexedP (x :: b) = hexP (x.toNat / 16) :: hexP (x.toNat % 16) :: hexedP b := rfl
    rw [e, unP, idx_hex _ (by omega), idx_hex _ (by omega), if_neg (by omega), unP_hexed b]
    simp only [Int.toNat_natCast, List.append_assoc]
    congr 1
    have : UInt8.ofNat (16 * (x.toNat / 16) + x.toNat % 16) = x := by
      rw [Nat.div_add_mod]; simp
    rw [this]; rfl

theorem or_nib (p q : Int) (v : UInt8) (hp : 0 ≤ p ∧ p ≤ 15) (hq : 0 ≤ q ∧ q ≤ 15) (hv : UInt8.ofNat (16 * p.toNat + q.toNat) = v) : bits BinOp.or IntKind.i64 (p * 16) q % 256 = (v.toNat : Int) := by
  have h : ∀ a b : Fin 16, bits BinOp.or IntKind.i64 ((a.val : Int) * 16) (b.val : Int) % 256 = ((UInt8.ofNat (16 * a.val + b.val)).toNat : Int) := by decide +kernel
  have := h ⟨p.toNat, by omega⟩ ⟨q.toNat, by omega⟩
  simp only [hv] at this
  rw [show ((p.toNat : Nat) : Int) = p by omega, show ((q.toNat : Nat) : Int) = q by omega] at this
  exact this
def strLen : Value → Nat
  | .string s => s.size
  | _ => 0
set_option maxRecDepth 100000 in
set_option maxHeartbeats 4000000 in
theorem unhexed_any (s : Bytes) (hs : s.length ≤ 100000000) (w : World) :
    Calls Tryd.prog 46 #[.string (bs s)] w fun e w' => (∃ b, e = .returned (.tuple #[.string (bs (unP s [])), .bool b])) ∧ Below w.heap.size w w' := by
  go_enter Tryd.func46, Tryd.ntmps46
  go_wp2_with fail
  go_loopw [0, 4] (fun x out wr => ∃ (r acc : Bytes), x = .string (bs r) ∧ r.length ≤ 100000000 ∧ acc.length + r.length ≤ 100000000 ∧ Hid (unP s [] = unP r acc) ∧ wr.ownsRow w.heap.size 5 1 out acc.length (acc.map cellB) ∧ Below w.heap.size w wr) (fun x _ _ => strLen x)
  case atStart => exact ⟨s, [], rfl, hs, by simpa using hs, Lib.hid rfl, World.ownsRow_nil _ _ _ _, Below.refl _ _⟩
  case round =>
    obtain ⟨r, acc, rfl, hr, hra, HU, hown, hB⟩ := hrel
    obtain ⟨A1, c1, rfl⟩ := own_form hown
    match r, hr, hra, HU with
    | x :: y :: r, hr, hra, HU =>
      have hl2 : (2 : Int) ≤ (r.length : Int) + 1 + 1 := by omega
      have hx := idxH_bounds x
      have hy := idxH_bounds y
      have hU := HU.out
      rw [unP] at hU
      obtain ⟨p, hp⟩ : ∃ p, idxH x = p := ⟨_, rfl⟩
      obtain ⟨q, hq⟩ : ∃ q, idxH y = q := ⟨_, rfl⟩
      have hIX := idx_any x
      have hIY := idx_any y
      rw [hp] at hx hU
      simp only [hp] at hIX
      rw [hq] at hy hU
      simp only [hq] at hIY
      have HIX := Lib.hid hIX
      have HIY := Lib.hid hIY
      have HUU := Lib.hid hU
      clear hU hIX hIY hp hq HU
      go_wp2_with fail
      go_quiet (first | (go_at_call 63; exact Calls.quiet_of_same (HIX.out _)) | (go_at_call 63; exact Calls.quiet_of_same (HIY.out _)))
      have HB := Lib.hid (below_drewN hB nq)
      have HW : Hid ((wr.drewN nq).ownsRow w.heap.size 5 1 (.slice A1 acc.length c1) acc.length (acc.map cellB)) := Lib.hid hown
      generalize wr.drewN nq = W at HB HW ⊢
      clear hB hown HIX HIY HU
      by_cases hp : p < 0
      · have HR : Hid (unP s [] = []) := Lib.hid (by rw [HUU.out, if_pos (.inl hp)])
        go_wp2_with fail
        go_ret2
        exact ⟨⟨false, by rw [HR.out]; rfl⟩, HB.out⟩
      by_cases hq : q < 0
      · have HR : Hid (unP s [] = []) := Lib.hid (by rw [HUU.out, if_pos (.inr hq)])
        go_wp2_with fail
        go_ret2
        exact ⟨Or.inl (by rw [HR.out]; rfl), HB.out⟩
      have HR : Hid (unP s [] = unP r (acc ++ [UInt8.ofNat (16 * p.toNat + q.toNat)])) := Lib.hid (by rw [HUU.out, if_neg (by omega)])
      obtain ⟨v, hv⟩ : ∃ v : UInt8, UInt8.ofNat (16 * p.toNat + q.toNat) = v := ⟨_, rfl⟩
      rw [hv] at HR
      have hor := or_nib p q v (by omega) (by omega) hv
      have HBs := HB.out.size
      go_wp2_with (at_builtin; refine wpl_append elByte rfl rfl w.heap.size (HW.out.alloc _) rfl (m := 1) [.int .u8 (v.toNat : Int)] rfl rfl ?_ ?_ ?_ ?_ ?_ ?_; exact (lies_new' _ _ (by simp) #[.int .u8 (v.toNat : Int)] _); (intro u hu; rw [List.mem_singleton] at hu; subst hu; rfl); (simp only [maxLen]; omega); omega; (simp; omega); intro v1 w5 hown1 hg1 hat1; obtain ⟨A2, c2, rfl⟩ := own_form hown1)
      go_roundw
      case rel => exact ⟨r, acc ++ [v], rfl, by simp at hr; omega, by simp at hra ⊢; omega, HR, by rw [List.map_append, List.length_append]; exact hown1, below_str HB.out HBs HW.out hg1⟩
      case measure => exact (show r.length < (x :: y :: r).length by simp only [List.length_cons]; omega)
    | [x], hr, hra, HU =>
      have HR : Hid (unP s [] = acc) := Lib.hid (by rw [HU.out]; rfl)
      have hL := lies_own (S := Any) hown (fun _ _ _ => trivial)
      have hcv := run_bytes_str (P := Tryd.prog) (c := c1) (src := 73) (dst := 9) Tryd.underlying73 Tryd.underlying5 Tryd.underlying9 hL
      have HB := Lib.hid hB
      clear hown hL hB HU
      go_wp2_with fail
      go_ret2
      exact ⟨⟨false, by rw [HR.out]; rfl⟩, HB.out⟩
    | [], hr, hra, HU =>
      have HR : Hid (unP s [] = acc) := Lib.hid (by rw [HU.out]; rfl)
      have hL := lies_own (S := Any) hown (fun _ _ _ => trivial)
      have hcv := run_bytes_str (P := Tryd.prog) (c := c1) (src := 73) (dst := 9) Tryd.underlying73 Tryd.underlying5 Tryd.underlying9 hL
      have HB := Lib.hid hB
      clear hown hL hB HU
      go_wp2_with fail
      go_ret2
      exact ⟨⟨true, by rw [HR.out]; rfl⟩, HB.out⟩
end Go.Proofs.YtggiicbjegmehaaDoor
