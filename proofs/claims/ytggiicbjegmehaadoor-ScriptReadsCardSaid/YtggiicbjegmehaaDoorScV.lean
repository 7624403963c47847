/- The walks of the document's plain functions at layer 27: number, digit, cut, split, value, small. -/
import Derived.Test.YtggiicbjegmehaaDoorScT
namespace Go.Proofs.YtggiicbjegmehaaDoor
set_option linter.unusedVariables false
set_option linter.unusedSimpArgs false
open Go.RowKit

theorem rnumber_any (n : Int) (hn : 0 ≤ n ∧ n ≤ 18446744073709551615) (w : World) (he : Env w) :
    Calls Tryd.prog 50 #[.int .u64 n] w fun e w' => e = .returned (.string (bs (32 :: decI n))) ∧ Below w.heap.size w w' := by
  obtain ⟨m, rfl⟩ : ∃ m : Nat, n = m := ⟨n.toNat, by omega⟩
  have H := Lib.hid (FormatUint_any m (by omega) w he)
  have hl := decI_len (n := (m : Int)) (by omega)
  have e : decI (m : Int) = decB m := by simp [decI]
  rw [e] at hl ⊢
  have hcat : (⟨#[32]⟩ : ByteArray) ++ bs (decB m) = bs (32 :: decB m) := bs_append [32] (decB m)
  clear e he
  go_enter Tryd.func50, Tryd.ntmps50
  go_wp2_with fail
  refine H.out.mono ?_
  rintro e w1 ⟨rfl, hb⟩
  go_wp2_with fail
  go_ret
  exact ⟨rfl, hb⟩

theorem rdigit_any (c : UInt8) (w : World) :
    Calls Tryd.prog 52 #[.int .u8 (c.toNat : Int)] w fun e w' => e = .returned (.int .u8 (digitP c : Int)) ∧ w' = w := by
  have hc := c.toNat_lt
  have hD : digitP c = if 97 ≤ c.toNat ∧ c.toNat ≤ 102 then c.toNat - 87 else c.toNat % 16 := rfl
  obtain ⟨n, hn⟩ : ∃ n, c.toNat = n := ⟨_, rfl⟩
  obtain ⟨d, hd⟩ : ∃ d, digitP c = d := ⟨_, rfl⟩
  rw [hn] at hc hD ⊢
  rw [hd] at hD ⊢
  have hm : (n : Int).tmod 16 = ((n % 16 : Nat) : Int) := by rw [Int.tmod_eq_emod_of_nonneg (Int.natCast_nonneg _)]; omega
  obtain ⟨q, hq⟩ : ∃ q, n % 16 = q := ⟨_, rfl⟩
  rw [hq] at hD hm
  by_cases h1 : 97 ≤ n
  · by_cases h2 : n ≤ 102
    · have h1I : (97 : Int) ≤ n := by omega
      have h2I : (n : Int) ≤ 102 := by omega
      have hw1 : ((n : Int) - 97) % 256 = (n : Int) - 97 := by omega
      have hw2 : (n : Int) - 97 + 10 = (d : Int) := by rw [hD, if_pos ⟨h1, h2⟩]; omega
      clear hD hm hq hd
      go_enter Tryd.func52, Tryd.ntmps52
      go_wp2_with fail
      go_ret
      exact ⟨rfl, rfl⟩
    · have h1I : (97 : Int) ≤ n := by omega
      have h2I : ¬ (n : Int) ≤ 102 := by omega
      rw [if_neg (by omega)] at hD
      subst hD
      clear hq hd
      go_enter Tryd.func52, Tryd.ntmps52
      go_wp2_with fail
      go_ret
      exact ⟨rfl, rfl⟩
  · have h1I : ¬ (97 : Int) ≤ n := by omega
    rw [if_neg (by omega)] at hD
    subst hD
    clear hq hd
    go_enter Tryd.func52, Tryd.ntmps52
    go_wp2_with fail
    go_ret
    exact ⟨rfl, rfl⟩

set_option maxRecDepth 100000 in
set_option maxHeartbeats 4000000 in
theorem rcut_any (c : UInt8) (s : Bytes) (hs : s.length ≤ 100000000) (w : World) :
    Calls Tryd.prog 25 #[.string (bs s), .int .u8 (c.toNat : Int)] w fun e w' => e = .returned (.tuple #[.string (bs (cutP c s).1), .string (bs (cutP c s).2.1), .bool (cutP c s).2.2]) ∧ Below w.heap.size w w' := by
  have hlI : (s.length : Int) ≤ 100000000 := by omega
  go_enter Tryd.func25, Tryd.ntmps25
  go_wp2_with fail
  go_loopw [7] (fun a wr => ∃ i : Nat, a = .int .i64 i ∧ i ≤ s.length ∧ Hid (c ∉ s.take i) ∧ wr = w) (fun a _ => s.length - (intOf a).toNat)
  case atStart => exact ⟨0, rfl, Nat.zero_le _, Lib.hid (by simp), rfl⟩
  case round =>
    obtain ⟨i, rfl, hi, hN, rfl⟩ := hrel
    by_cases hlt : i < s.length
    · obtain ⟨x, hx⟩ := getElem_ex hlt
      have hltI : (i : Int) < s.length := by omega
      have hget : ∀ h, s[i]'h = x := fun _ => (List.getElem?_eq_some_iff.1 hx).2
      have HT := Lib.hid (take_snoc hx)
      have HDr := Lib.hid (drop_cons hx)
      clear hx
      by_cases hxc : x = c
      · subst hxc
        have htk : (s.drop (i + 1)).take (s.length - (i + 1)) = s.drop (i + 1) := List.take_of_length_le (by simp)
        have HC : Hid (cutP x s = (s.take i, (s.drop (i + 1)).take (s.length - (i + 1)), true)) := Lib.hid (by
          rw [htk]
          have e : s = s.take i ++ x :: s.drop (i + 1) := by rw [← HDr.out, List.take_append_drop]
          conv => lhs; rw [e]
          exact cutP_hit hN.out)
        clear htk
        go_wp2_with fail
        go_quiet (fail)
        go_wp2_with fail
        go_ret3
        exact ⟨by rw [HC.out]; rfl, below_drewN (Below.refl _ _) nq⟩
      · have hne : ((x.toNat : Int) == (c.toNat : Int)) = false := by
          rw [beq_eq_false_iff_ne]
          intro e
          exact hxc (UInt8.toNat_inj.1 (by omega))
        go_wp2_with fail
        go_roundw
        case rel => exact ⟨i + 1, by go_num, by omega, Lib.hid (by rw [HT.out]; intro h; rcases List.mem_append.1 h with h | h; exact hN.out h; exact hxc (List.mem_singleton.1 h).symm), trivial⟩
        case measure => simp [intOf]; omega
    · obtain rfl : i = s.length := by omega
      have HC : Hid (cutP c s = (s, [], false)) := Lib.hid (by have := hN.out; rw [List.take_length] at this; exact cutP_no this)
      go_wp2_with fail
      go_ret3
      exact ⟨by rw [HC.out]; rfl, Below.refl _ _⟩

set_option maxRecDepth 100000 in
set_option maxHeartbeats 4000000 in
theorem rsplit_any (s : Bytes) (hs : s.length ≤ 10000000) (w : World) :
    Calls Tryd.prog 26 #[.string (bs s)] w fun e w' => (∃ A c, e = .returned (.slice A (splitP s).length c) ∧ StrV Any w' (splitP s) A c) ∧ Below w.heap.size w w' := by
  have hO := World.ownsRow_lit (base := w.heap.size) (e := 9) (size := 1) w #[] 0 (Nat.le_refl _) (by simp [maxLen]) rfl
  have HC := Lib.hid (fun (r : Bytes) (h : r.length ≤ 100000000) (W : World) => rcut_any 32 r h W)
  go_enter Tryd.func26, Tryd.ntmps26
  go_wp2_with fail
  go_loopw [0, 3] (fun x out wr => ∃ (r : Bytes) (acc : List Bytes), x = .string (bs r) ∧ acc.length + r.length ≤ s.length ∧ Hid (splitP s = acc ++ splitP r) ∧ wr.ownsRow w.heap.size 9 1 out acc.length (strC acc) ∧ Below w.heap.size w wr) (fun x _ _ => strLen x)
  case atStart => exact ⟨s, [], rfl, by simp, Lib.hid rfl, hO, (Below.refl _ _).alloc (Nat.le_refl _) _⟩
  case round =>
    clear hO
    obtain ⟨r, acc, rfl, hr, HS, hown, hB⟩ := hrel
    obtain ⟨A1, c1, rfl⟩ := own_form hown
    have hCC := HC.out r (by omega) wr
    have hsp := splitP_cut r
    have hlen := cutP_len 32 r
    obtain ⟨t, ht⟩ : ∃ t, (cutP 32 r).1 = t := ⟨_, rfl⟩
    obtain ⟨b, hb⟩ : ∃ b, (cutP 32 r).2.1 = b := ⟨_, rfl⟩
    obtain ⟨q, hq⟩ : ∃ q, (cutP 32 r).2.2 = q := ⟨_, rfl⟩
    have hqt : q = false → t = r := fun e => by
      rcases (cutP_spec 32 r).2 with ⟨h1, _⟩ | ⟨_, h1, _⟩
      · rw [hq, e] at h1; cases h1
      · rw [← ht]; exact h1
    have HQT := Lib.hid hqt
    clear hqt
    have hqr : q = true → r ≠ [] := fun e h => by subst h; rw [← hq] at e; cases e
    rw [ht, hb, hq] at hCC
    rw [ht, hb] at hlen
    rw [ht, hb, hq] at hsp
    have HCC := Lib.hid hCC
    have HSP := Lib.hid hsp
    have HLN := Lib.hid hlen
    have HQR := Lib.hid hqr
    have HB := Lib.hid hB
    have HW := Lib.hid hown
    clear hCC hsp hlen hqr hB hown ht hb hq HC
    go_wp2_with fail
    refine HCC.out.mono ?_
    rintro e w4 ⟨rfl, hb4⟩
    have HB4 := Lib.hid (below_call HB.out HB.out.size hb4)
    have HW4 := Lib.hid (own_keep HW.out hb4)
    have hB4s := HB4.out.size
    clear hb4 HB HW HCC
    cases q with
    | true =>
      go_wp2_with (at_builtin; refine wpl_append elStr rfl rfl w.heap.size (HW4.out.alloc _) rfl (m := 1) [.string (bs t)] rfl rfl ?_ ?_ ?_ ?_ ?_ ?_; exact (lies_new' _ _ (by simp) #[.string (bs t)] _); (intro u hu; rw [List.mem_singleton] at hu; subst hu; rfl); (simp only [maxLen]; omega); omega; (simp; omega); intro v1 w5 hown1 hg1 hat1; obtain ⟨A2, c2, rfl⟩ := own_form hown1)
      go_roundw
      case rel => exact ⟨b, acc ++ [t], rfl, by have := HLN.out.2.2 (HQR.out trivial); rw [List.length_append]; simp; omega, Lib.hid (by rw [HS.out, HSP.out]; simp), by rw [List.length_append, strC, List.map_append]; exact hown1, below_str HB4.out hB4s HW4.out hg1⟩
      case measure => exact (show (bs b).size < (bs r).size by rw [size_bs, size_bs]; exact HLN.out.2.2 (HQR.out trivial))
    | false =>
      go_wp2_with (at_builtin; refine wpl_append elStr rfl rfl w.heap.size (HW4.out.alloc _) rfl (m := 1) [.string (bs t)] rfl rfl ?_ ?_ ?_ ?_ ?_ ?_; exact (lies_new' _ _ (by simp) #[.string (bs t)] _); (intro u hu; rw [List.mem_singleton] at hu; subst hu; rfl); (simp only [maxLen]; omega); omega; (simp; omega); intro v1 w5 hown1 hg1 hat1; obtain ⟨A2, c2, rfl⟩ := own_form hown1)
      go_ret
      have hn : splitP s = acc ++ [t] := by rw [HS.out, HSP.out, HQT.out trivial]; simp
      have hnl : (acc ++ [t]).length = acc.length + 1 := by simp
      rw [hn]
      refine ⟨⟨A2, c2, by rw [hnl]; rfl, ?_⟩, below_str HB4.out hB4s HW4.out hg1⟩
      have ho : w5.ownsRow w.heap.size 9 1 (.slice A2 (acc.length + 1) c2) (acc.length + 1) (strC (acc ++ [t])) := by rw [strC, List.map_append]; exact hown1
      exact (own_strV' ho).any

set_option maxRecDepth 100000 in
set_option maxHeartbeats 4000000 in
theorem rvalue_any (ps : List Bytes) (hl : ps.length ≤ 100000000) (hp : ∀ p ∈ ps, p.length ≤ 100000000) (i : Nat) (hi : i ≤ 100) (A : Option Addr) (c : Nat) (w : World) (hv : StrV Any w ps A c) :
    Calls Tryd.prog 28 #[.slice A ps.length c, .int .i64 (i : Int)] w fun e w' => e = .returned (.int .u64 (getU ps i)) ∧ w' = w := by
  have hlI : (ps.length : Int) ≤ 100000000 := by omega
  by_cases hlt : i < ps.length
  · obtain ⟨s, hs⟩ := getElem_ex hlt
    obtain ⟨g, o, rfl, _, hc⟩ := hv.at_ hs
    have hltI : (i : Int) < ps.length := by omega
    have hlt2 : ¬ (ps.length : Int) ≤ i := by omega
    have hsl := hp s (List.mem_of_getElem? hs)
    have hsI : (s.length : Int) ≤ 100000000 := by omega
    have hG : getU ps i = (valP s 0 : Int) := by unfold getU; rw [hs, valP_num]
    rw [hG]
    clear hs hG hv hp
    go_enter Tryd.func28, Tryd.ntmps28
    go_wp2_with fail
    go_loopw [5, 6] (fun n k wr => ∃ (m j : Nat), n = .int .u64 m ∧ m ≤ 18446744073709551615 ∧ k = .int .i64 j ∧ j ≤ s.length ∧ Hid (valP s 0 = valP (s.drop j) m) ∧ wr = w) (fun _ k _ => s.length - (intOf k).toNat)
    case atStart => exact ⟨0, 0, rfl, by omega, rfl, Nat.zero_le _, Lib.hid rfl, rfl⟩
    case round =>
      obtain ⟨m, j, rfl, hm, rfl, hj, HV, rfl⟩ := hrel
      by_cases hjl : j < s.length
      · obtain ⟨x, hx⟩ := getElem_ex hjl
        have hjI : (j : Int) < s.length := by omega
        have hget : ∀ h, s[j]'h = x := fun _ => (List.getElem?_eq_some_iff.1 hx).2
        have hv := HV.out
        rw [drop_cons hx, valP] at hv
        have hxl := x.toNat_lt
        clear hx HV
        obtain ⟨n, hn⟩ : ∃ n, x.toNat = n := ⟨_, rfl⟩
        rw [hn] at hxl hv
        by_cases h1 : n < 48
        · have h1I : (n : Int) < 48 := by omega
          have HR : Hid (valP s 0 = 0) := Lib.hid (by rw [hv, if_pos (.inl h1)])
          clear hv
          go_wp2_with fail
          go_ret
          exact ⟨by rw [HR.out]; rfl, rfl⟩
        by_cases h2 : 57 < n
        · have h1I : ¬ (n : Int) < 48 := by omega
          have h2I : (57 : Int) < n := by omega
          have HR : Hid (valP s 0 = 0) := Lib.hid (by rw [hv, if_pos (.inr (.inl h2))])
          clear hv
          go_wp2_with fail
          go_ret
          exact ⟨by rw [HR.out]; rfl, rfl⟩
        have h1I : ¬ (n : Int) < 48 := by omega
        have h2I : ¬ (57 : Int) < n := by omega
        obtain ⟨d, hd⟩ : ∃ d, n - 48 = d := ⟨_, rfl⟩
        have hd9 : d ≤ 9 := by omega
        have hw1 : ((n : Int) - 48) % 256 = (d : Int) := by omega
        have hw2 : ((18446744073709551615 : Int) - (d : Int)) % 18446744073709551616 = (18446744073709551615 : Int) - (d : Int) := by omega
        obtain ⟨q, hq⟩ : ∃ q, (18446744073709551615 - d) / 10 = q := ⟨_, rfl⟩
        have hw3 : ((18446744073709551615 : Int) - (d : Int)) / 10 = (q : Int) := by omega
        have hw4 : ((18446744073709551615 : Int) - (d : Int)).tdiv 10 = (q : Int) := by rw [Int.tdiv_eq_ediv_of_nonneg (by omega)]; exact hw3
        have hw5 : (q : Int) % 18446744073709551616 = q := by omega
        rw [hd, hq] at hv
        by_cases h3 : q < m
        · have h3I : (q : Int) < m := by omega
          have HR : Hid (valP s 0 = 0) := Lib.hid (by rw [hv, if_pos (.inr (.inr h3))])
          clear hv hq
          go_wp2_with fail
          go_ret
          exact ⟨by rw [HR.out]; rfl, rfl⟩
        · have h3I : ¬ (q : Int) < m := by omega
          have HR : Hid (valP s 0 = valP (s.drop (j + 1)) (10 * m + d)) := Lib.hid (by rw [hv, if_neg (by omega)])
          have hmx : 10 * m + d ≤ 18446744073709551615 := by omega
          have hw6 : (10 * (m : Int)) % 18446744073709551616 = 10 * (m : Int) := by omega
          have hw7 : (10 * (m : Int) + (d : Int)) % 18446744073709551616 = ((10 * m + d : Nat) : Int) := by omega
          clear hv hq
          go_wp2_with fail
          go_roundw
          case rel => exact ⟨10 * m + d, j + 1, congrArg _ (by omega), hmx, by go_num, by omega, HR, trivial⟩
          case measure => simp [intOf]; omega
      · obtain rfl : j = s.length := by omega
        have HR : Hid (valP s 0 = m) := Lib.hid (by rw [HV.out, List.drop_length]; rfl)
        clear HV
        go_wp2_with fail
        go_ret
        exact ⟨by rw [HR.out]; rfl, rfl⟩
  · have hlt2 : (ps.length : Int) ≤ i := by omega
    have hG : getU ps i = 0 := by unfold getU; rw [List.getElem?_eq_none (by omega)]
    rw [hG]
    clear hG hv hp
    go_enter Tryd.func28, Tryd.ntmps28
    go_wp2_with fail
    go_ret
    exact ⟨rfl, rfl⟩

theorem rsmall_any (ps : List Bytes) (hl : ps.length ≤ 100000000) (hp : ∀ p ∈ ps, p.length ≤ 100000000) (i : Nat) (hi : i ≤ 100) (A : Option Addr) (c : Nat) (w : World) (hv : StrV Any w ps A c) :
    Calls Tryd.prog 27 #[.slice A ps.length c, .int .i64 (i : Int)] w fun e w' => e = .returned (.int .i64 (smallP ps i)) ∧ w' = w := by
  have H := Lib.hid (rvalue_any ps hl hp i hi A c w hv)
  have hS : smallP ps i = if getU ps i ≤ 1000000 then getU ps i else 0 := by
    unfold smallP getU
    cases ps[i]? with
    | none => simp
    | some s =>
      simp only []
      split <;> split <;> omega
  have hr := getU_range ps i
  obtain ⟨n, hn⟩ : ∃ n, getU ps i = n := ⟨_, rfl⟩
  rw [hn] at H hS hr
  rw [hS]
  clear hS hn hv hp
  by_cases h : n ≤ 1000000
  · have hw : IntKind.i64.wrap n = n := IntWalk.i64_in _ (by omega)
    have hI : ¬ 1000000 < n := by omega
    rw [if_pos h]
    go_enter Tryd.func27, Tryd.ntmps27
    go_wp2_with fail
    refine H.out.mono ?_
    rintro e w1 ⟨rfl, rfl⟩
    go_wp2_with fail
    go_ret
    exact ⟨rfl, rfl⟩
  · have hI : 1000000 < n := by omega
    rw [if_neg h]
    go_enter Tryd.func27, Tryd.ntmps27
    go_wp2_with fail
    refine H.out.mono ?_
    rintro e w1 ⟨rfl, rfl⟩
    go_wp2_with fail
    go_ret
    exact ⟨rfl, rfl⟩
end Go.Proofs.YtggiicbjegmehaaDoor
