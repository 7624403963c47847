/- The walk of block.Read. -/
import Derived.Test.YtjanaholcjkceaaZ43
namespace Go.Proofs.Ytjanaholcjkceaa
set_option linter.unusedVariables false
set_option linter.unusedSimpArgs false
open Go.RowKit
theorem elTr : ElemOk Try.prog 27 51 (.agg #[.string ⟨#[]⟩, .int .u64 0, .int .u64 0, .int .u64 0, .int .u64 0, .int .u64 0, .int .u64 0, .int .u64 0, .int .u64 0, .int .u64 0, .int .u64 0, .int .i64 0]) 12 104 := ⟨Try.underlying27, by kernel_rfl, rfl, by omega⟩
theorem zeroHd_fine : zeroHd.Fine := ⟨⟨zero64, zero64, fun x hx => by cases hx⟩, Nat.zero_le _, Nat.zero_le _, Nat.zero_le _, Nat.zero_le _, Nat.zero_le _, Nat.zero_le _, fun v hv => by cases hv⟩
set_option maxRecDepth 100000 in
set_option maxHeartbeats 4000000 in
theorem bread_any (s : Bytes) (w : World) : Calls Try.prog 6 #[.string (bs s)] w (BkPost s w) := by
  have h0 := heap_alloc_new w (.cells #[.string ⟨#[]⟩, .int .u64 0, .string ⟨#[]⟩, .string ⟨#[]⟩, .string ⟨#[]⟩, .string ⟨#[]⟩, .slice none 0 0, .string ⟨#[]⟩, .bool false, .int .u64 0, .slice none 0 0, .slice none 0 0] 29)
  have HR := Lib.hid h0
  have HB := Lib.hid ((Below.refl w.heap.size w).alloc (Nat.le_refl _) (.cells #[.string ⟨#[]⟩, .int .u64 0, .string ⟨#[]⟩, .string ⟨#[]⟩, .string ⟨#[]⟩, .string ⟨#[]⟩, .slice none 0 0, .string ⟨#[]⟩, .bool false, .int .u64 0, .slice none 0 0, .slice none 0 0] 29))
  clear h0
  go_enter Try.func6, Try.ntmps6
  go_wp2_with fail
  refine (Decode_any s _).mono ?_
  rintro e w1 ⟨hb1, x, A, c, no, rfl, hxv, hsaid⟩
  have HR1 := Lib.hid ((hb1.block _ (Array.getElem?_eq_some_iff.1 HR.out).1).trans HR.out)
  have HB1 := Lib.hid (below_call HB.out HB.out.size hb1)
  have hwl := (Array.getElem?_eq_some_iff.1 HR1.out).1
  have HRX := Lib.hid ((heap_alloc_old w1 (.cells #[.bool x.l, .string (bs x.b), .slice A x.ks.length c] 45) hwl).trans HR1.out)
  have HBX := Lib.hid (HB1.out.alloc HB1.out.size (.cells #[.bool x.l, .string (bs x.b), .slice A x.ks.length c] 45))
  have HXV := Lib.hid (hxv.mono (S' := Any) fun b _ _ => ⟨trivial, rfl⟩)
  have HS := Lib.hid hsaid
  clear hb1 hxv hsaid HR HB
  by_cases hno : no = 0
  case neg =>
    have h0I : ((no : Int) == 0) = false := by rw [beq_eq_false_iff_ne]; omega
    have h0I2 : ((no : Int) != 0) = true := by rw [bne, h0I]; rfl
    have HT : Hid (BkSaid s zeroBk 4) := Lib.hid (.inr ⟨rfl, rfl, bk_dec HS.out (by omega)⟩)
    clear HS hno
    go_wp2_with fail
    refine (bno_any _).mono ?_
    rintro e wz ⟨rfl, hbz⟩
    have HRz := Lib.hid ((hbz.block _ (Array.getElem?_eq_some_iff.1 HRX.out).1).trans HRX.out)
    have HBz := Lib.hid (below_call HBX.out (HBX.out).size hbz)
    clear hbz
    go_wp2_with (refine wpList_store_row rfl _ _ _ rfl w.heap.size #[.string ⟨#[]⟩, .int .u64 0, .string ⟨#[]⟩, .string ⟨#[]⟩, .string ⟨#[]⟩, .string ⟨#[]⟩, .slice none 0 0, .string ⟨#[]⟩, .bool false, .int .u64 0, .slice none 0 0, .slice none 0 0] rfl rfl _ _ HRz.out infoBk rfl one12BZ ?_)
    exact bodyPost_ret (v := .tuple #[.agg #[.string ⟨#[]⟩, .int .u64 0, .string ⟨#[]⟩, .string ⟨#[]⟩, .string ⟨#[]⟩, .string ⟨#[]⟩, .slice none 0 0, .string ⟨#[]⟩, .bool false, .int .u64 0, .slice none 0 0, .slice none 0 0], .int .i64 4]) (results_row_tmp rfl _ _ w.heap.size _ _ _ _ rfl (setRow_heap _ _ _ _ _ _ HRz.out) _ rfl Try.underlying29 rfl infoBk) rfl (bkPost_zero HT.out (below_setRow HBz.out (Nat.le_refl _) _))
  subst hno
  obtain ⟨hs4, hp, he⟩ : s.length ≤ 4000 ∧ pureP x = true ∧ s = writeP x := by
    rcases HS.out with ⟨_, h, _⟩ | ⟨h1, _, h2, h3, _⟩ | ⟨_, h, _⟩ | ⟨_, h, _⟩
    · omega
    · exact ⟨h1, h2, h3⟩
    · omega
    · omega
  have hcx := countP_le x hp
  rw [← he] at hcx
  have hkx := countsP_ge x.ks
  have hcx1 : countP x = 1 + countsP x.ks := by cases x; rfl
  have HKX : Hid (x.ks.length ≤ 4000) := Lib.hid (by omega)
  have HS4 := Lib.hid hs4
  have HP := Lib.hid hp
  have HE := Lib.hid he
  clear hs4 hp he hcx hkx hcx1 HS
  cases hl : x.l with
  | false =>
    have HT := Lib.hid (bk_shape HP.out HE.out HS4.out (.inl hl))
    rw [hl] at HRX HBX
    clear hl
    go_wp2_with fail
    refine (bno_any _).mono ?_
    rintro e wz ⟨rfl, hbz⟩
    have HRz := Lib.hid ((hbz.block _ (Array.getElem?_eq_some_iff.1 HRX.out).1).trans HRX.out)
    have HBz := Lib.hid (below_call HBX.out (HBX.out).size hbz)
    clear hbz
    go_wp2_with (refine wpList_store_row rfl _ _ _ rfl w.heap.size #[.string ⟨#[]⟩, .int .u64 0, .string ⟨#[]⟩, .string ⟨#[]⟩, .string ⟨#[]⟩, .string ⟨#[]⟩, .slice none 0 0, .string ⟨#[]⟩, .bool false, .int .u64 0, .slice none 0 0, .slice none 0 0] rfl rfl _ _ HRz.out infoBk rfl one12BZ ?_)
    exact bodyPost_ret (v := .tuple #[.agg #[.string ⟨#[]⟩, .int .u64 0, .string ⟨#[]⟩, .string ⟨#[]⟩, .string ⟨#[]⟩, .string ⟨#[]⟩, .slice none 0 0, .string ⟨#[]⟩, .bool false, .int .u64 0, .slice none 0 0, .slice none 0 0], .int .i64 4]) (results_row_tmp rfl _ _ w.heap.size _ _ _ _ rfl (setRow_heap _ _ _ _ _ _ HRz.out) _ rfl Try.underlying29 rfl infoBk) rfl (bkPost_zero HT.out (below_setRow HBz.out (Nat.le_refl _) _))
  | true =>
    by_cases hk : x.ks.length = 0
    · have HT := Lib.hid (bk_shape HP.out HE.out HS4.out (.inr hk))
      have hkI : ((x.ks.length : Int) == 0) = true := by rw [hk]; rfl
      rw [hl] at HRX HBX
      clear hl hk
      go_wp2_with fail
      refine (bno_any _).mono ?_
      rintro e wz ⟨rfl, hbz⟩
      have HRz := Lib.hid ((hbz.block _ (Array.getElem?_eq_some_iff.1 HRX.out).1).trans HRX.out)
      have HBz := Lib.hid (below_call HBX.out (HBX.out).size hbz)
      clear hbz
      go_wp2_with (refine wpList_store_row rfl _ _ _ rfl w.heap.size #[.string ⟨#[]⟩, .int .u64 0, .string ⟨#[]⟩, .string ⟨#[]⟩, .string ⟨#[]⟩, .string ⟨#[]⟩, .slice none 0 0, .string ⟨#[]⟩, .bool false, .int .u64 0, .slice none 0 0, .slice none 0 0] rfl rfl _ _ HRz.out infoBk rfl one12BZ ?_)
      exact bodyPost_ret (v := .tuple #[.agg #[.string ⟨#[]⟩, .int .u64 0, .string ⟨#[]⟩, .string ⟨#[]⟩, .string ⟨#[]⟩, .string ⟨#[]⟩, .slice none 0 0, .string ⟨#[]⟩, .bool false, .int .u64 0, .slice none 0 0, .slice none 0 0], .int .i64 4]) (results_row_tmp rfl _ _ w.heap.size _ _ _ _ rfl (setRow_heap _ _ _ _ _ _ HRz.out) _ rfl Try.underlying29 rfl infoBk) rfl (bkPost_zero HT.out (below_setRow HBz.out (Nat.le_refl _) _))
    have hkI : ((x.ks.length : Int) == 0) = false := by rw [beq_eq_false_iff_ne]; omega
    have HL := Lib.hid hl
    rw [hl] at HRX HBX
    have hHY := heap_alloc_new (w1.alloc (.cells #[.bool true, .string (bs x.b), .slice A x.ks.length c] 45)) (.cells #[.string ⟨#[]⟩, .int .u64 0, .string ⟨#[]⟩, .string ⟨#[]⟩, .string ⟨#[]⟩, .string ⟨#[]⟩, .slice none 0 0, .string ⟨#[]⟩, .bool false, .int .u64 0, .slice none 0 0, .slice none 0 0] 29)
    rw [show (w1.alloc (.cells #[.bool true, .string (bs x.b), .slice A x.ks.length c] 45)).heap.size = w1.heap.size + 1 by simp] at hHY
    have HY := Lib.hid hHY
    have HBY := Lib.hid (((Below.refl w1.heap.size w1).alloc (Nat.le_refl _) (.cells #[.bool true, .string (bs x.b), .slice A x.ks.length c] 45)).alloc (by simp) (.cells #[.string ⟨#[]⟩, .int .u64 0, .string ⟨#[]⟩, .string ⟨#[]⟩, .string ⟨#[]⟩, .string ⟨#[]⟩, .slice none 0 0, .string ⟨#[]⟩, .bool false, .int .u64 0, .slice none 0 0, .slice none 0 0] 29))
    clear hl hHY
    go_wp2_with fail
    have hk4I : (x.ks.length : Int) ≤ 4000 := by have := HKX.out; omega
    go_loopw [36] (fun a wr => ∃ (i M : Nat) (h : Hd) (ts : List Tr) (Av As : Option Addr) (cv cs : Nat) (u : Value), a = .int .i64 (i : Int) ∧ i ≤ x.ks.length ∧ wr.heap[w1.heap.size + 1]? = some (.cells #[.string (bs h.parent), .int .u64 (h.height : Int), .string (bs h.root), .string (bs h.txs), .string (bs h.prop), .string (bs h.van), .slice Av h.vals.length cv, .string (bs h.vote), .bool h.add, .int .u64 (h.round : Int), .slice As h.seals.length cs, u] 29 (0, 0)) ∧ HdV (fun b => w1.heap.size + 2 ≤ b ∧ b < M) wr h Av cv As cs ∧ w1.heap.size + 2 ≤ M ∧ M ≤ wr.heap.size ∧ wr.ownsRow M 51 12 u ts.length (ts.map trL).flatten ∧ Hid (BkPre x i h ts) ∧ Hid h.Fine ∧ Hid (i = 0 → u = .slice none 0 0) ∧ Below w1.heap.size w1 wr) (fun a _ => x.ks.length - (intOf a).toNat)
    case atStart => exact ⟨0, w1.heap.size + 2, zeroHd, [], none, none, 0, 0, _, rfl, Nat.zero_le _, HY.out, ⟨Rep.nil_slice 1, PlV.nil⟩, Nat.le_refl _, by simp, World.ownsRow_nil _ _ _ _, Lib.hid (.inl ⟨rfl, rfl, rfl⟩), Lib.hid zeroHd_fine, Lib.hid fun _ => rfl, HBY.out⟩
    case round =>
      clear HY HBY HRX HBX
      obtain ⟨i, M, hq, ts, Av, As, cv, cs, u, rfl, hi, hY, hhv, hM, hM2, hown, hpre, hfine, hu0, hB⟩ := hrel
      obtain ⟨At, ct, rfl⟩ := own_form hown
      have hYl := (Array.getElem?_eq_some_iff.1 hY).1
      have hRr := (hB.block _ hwl).trans HR1.out
      by_cases hlt : i < x.ks.length
      · obtain ⟨y, hy⟩ := getElem_ex hlt
        obtain ⟨g, o, A2, c2, rfl, _, hyv, q0, q1, q2⟩ := ItemV.at_ (HXV.out.keep hB) hy
        have hltI : (i : Int) < x.ks.length := by omega
        have HKY := Lib.hid hy
        have HYY := Lib.hid hY
        have HO := Lib.hid hown
        have HHV := Lib.hid hhv
        have HBW := Lib.hid (HB1.out.trans (hB.mono HB1.out.size))
        have HBB := Lib.hid hB
        have HRR := Lib.hid hRr
        clear hY hown hhv hB hRr hy hyv
        cases hyl : y.l with
        | true =>
          rw [hyl] at q0
          have HT := Lib.hid (bk_kid HP.out HE.out HS4.out HKY.out (.inl hyl))
          have HRZ := Lib.hid ((heap_alloc_old wr (.cells #[.bool true, .string (bs y.b), .slice A2 y.ks.length c2] 45) (Array.getElem?_eq_some_iff.1 HRR.out).1).trans HRR.out)
          have HBZ := Lib.hid (HBW.out.alloc HBW.out.size (.cells #[.bool true, .string (bs y.b), .slice A2 y.ks.length c2] 45))
          clear hyl
          go_wp2_with fail
          refine (bno_any _).mono ?_
          rintro e wz ⟨rfl, hbz⟩
          have HRz := Lib.hid ((hbz.block _ (Array.getElem?_eq_some_iff.1 HRZ.out).1).trans HRZ.out)
          have HBz := Lib.hid (below_call HBZ.out (HBZ.out).size hbz)
          clear hbz
          go_wp2_with (refine wpList_store_row rfl _ _ _ rfl w.heap.size #[.string ⟨#[]⟩, .int .u64 0, .string ⟨#[]⟩, .string ⟨#[]⟩, .string ⟨#[]⟩, .string ⟨#[]⟩, .slice none 0 0, .string ⟨#[]⟩, .bool false, .int .u64 0, .slice none 0 0, .slice none 0 0] rfl rfl _ _ HRz.out infoBk rfl one12BZ ?_)
          exact bodyPost_ret (v := .tuple #[.agg #[.string ⟨#[]⟩, .int .u64 0, .string ⟨#[]⟩, .string ⟨#[]⟩, .string ⟨#[]⟩, .string ⟨#[]⟩, .slice none 0 0, .string ⟨#[]⟩, .bool false, .int .u64 0, .slice none 0 0, .slice none 0 0], .int .i64 4]) (results_row_tmp rfl _ _ w.heap.size _ _ _ _ rfl (setRow_heap _ _ _ _ _ _ HRz.out) _ rfl Try.underlying29 rfl infoBk) rfl (bkPost_zero HT.out (below_setRow HBz.out (Nat.le_refl _) _))
        | false =>
          rw [hyl] at q0
          have HYL := Lib.hid hyl
          clear hyl
          have hY2 := (heap_alloc_old wr (.cells #[.bool false, .string (bs y.b), .slice A2 y.ks.length c2] 45) hYl).trans HYY.out
          have hR2 := (heap_alloc_old wr (.cells #[.bool false, .string (bs y.b), .slice A2 y.ks.length c2] 45) (Array.getElem?_eq_some_iff.1 HRR.out).1).trans HRR.out
          have HY2 := Lib.hid hY2
          have HR2 := Lib.hid hR2
          clear hY2 hR2
          by_cases hi0 : i = 0
          · have hi0I : ((i : Int) == 0) = true := by rw [hi0]; rfl
            have hun := hu0.out hi0
            injection hun with hun1 hun2 hun3
            subst hun1; subst hun3
            rcases hpre.out with ⟨hz0, rfl, rfl⟩ | ⟨h0, _⟩
            case inr => omega
            have HI0 := Lib.hid hi0
            clear hun2 hi0 hz0
            go_wp2_with fail
            refine (hread_any y.b _).mono ?_
            rintro e w2 ⟨h', Av', As', cv', cs', no', rfl, hv', hsaid', hb2⟩
            have HY3 := Lib.hid ((hb2.block _ (Array.getElem?_eq_some_iff.1 HY2.out).1).trans HY2.out)
            have HR3 := Lib.hid ((hb2.block _ (Array.getElem?_eq_some_iff.1 HR2.out).1).trans HR2.out)
            have hba : Below wr.heap.size wr w2 := below_call ((Below.refl _ _).alloc (Nat.le_refl _) (.cells #[.bool false, .string (bs y.b), .slice A2 y.ks.length c2] 45)) (by simp) hb2
            have HBA := Lib.hid hba
            have HB3 := Lib.hid (below_call HBW.out HBW.out.size hba)
            have HBB3 := Lib.hid (below_call HBB.out HBB.out.size hba)
            have HV3 := Lib.hid hv'
            have HSD := Lib.hid hsaid'
            clear hb2 hba hv' hsaid' HYY HRR HY2 HR2 HBW HBB q0 q1 q2
            have HSE : Hid ((#[.string (bs zeroHd.parent), .int .u64 (zeroHd.height : Int), .string (bs zeroHd.root), .string (bs zeroHd.txs), .string (bs zeroHd.prop), .string (bs zeroHd.van), .slice Av zeroHd.vals.length cv, .string (bs zeroHd.vote), .bool zeroHd.add, .int .u64 (zeroHd.round : Int), .slice As zeroHd.seals.length cs, .slice none 0 0] : Array Value).toList.take 0 ++ (#[.string (bs h'.parent), .int .u64 (h'.height : Int), .string (bs h'.root), .string (bs h'.txs), .string (bs h'.prop), .string (bs h'.van), .slice Av' h'.vals.length cv', .string (bs h'.vote), .bool h'.add, .int .u64 (h'.round : Int), .slice As' h'.seals.length cs'] : Array Value).toList ++ (#[.string (bs zeroHd.parent), .int .u64 (zeroHd.height : Int), .string (bs zeroHd.root), .string (bs zeroHd.txs), .string (bs zeroHd.prop), .string (bs zeroHd.van), .slice Av zeroHd.vals.length cv, .string (bs zeroHd.vote), .bool zeroHd.add, .int .u64 (zeroHd.round : Int), .slice As zeroHd.seals.length cs, .slice none 0 0] : Array Value).toList.drop (0 + (#[.string (bs h'.parent), .int .u64 (h'.height : Int), .string (bs h'.root), .string (bs h'.txs), .string (bs h'.prop), .string (bs h'.van), .slice Av' h'.vals.length cv', .string (bs h'.vote), .bool h'.add, .int .u64 (h'.round : Int), .slice As' h'.seals.length cs'] : Array Value).size) = (#[.string (bs h'.parent), .int .u64 (h'.height : Int), .string (bs h'.root), .string (bs h'.txs), .string (bs h'.prop), .string (bs h'.van), .slice Av' h'.vals.length cv', .string (bs h'.vote), .bool h'.add, .int .u64 (h'.round : Int), .slice As' h'.seals.length cs', .slice none 0 0] : Array Value).toList) := Lib.hid rfl
            have HSZ : Hid (0 + (#[.string (bs h'.parent), .int .u64 (h'.height : Int), .string (bs h'.root), .string (bs h'.txs), .string (bs h'.prop), .string (bs h'.van), .slice Av' h'.vals.length cv', .string (bs h'.vote), .bool h'.add, .int .u64 (h'.round : Int), .slice As' h'.seals.length cs'] : Array Value).size ≤ (#[.string (bs zeroHd.parent), .int .u64 (zeroHd.height : Int), .string (bs zeroHd.root), .string (bs zeroHd.txs), .string (bs zeroHd.prop), .string (bs zeroHd.van), .slice Av zeroHd.vals.length cv, .string (bs zeroHd.vote), .bool zeroHd.add, .int .u64 (zeroHd.round : Int), .slice As zeroHd.seals.length cs, .slice none 0 0] : Array Value).size) := Lib.hid (Nat.le_succ 11)
            have HY4 := Lib.hid (setRow_heap w2 (w1.heap.size + 1) #[.string (bs zeroHd.parent), .int .u64 (zeroHd.height : Int), .string (bs zeroHd.root), .string (bs zeroHd.txs), .string (bs zeroHd.prop), .string (bs zeroHd.van), .slice Av zeroHd.vals.length cv, .string (bs zeroHd.vote), .bool zeroHd.add, .int .u64 (zeroHd.round : Int), .slice As zeroHd.seals.length cs, .slice none 0 0] #[.string (bs h'.parent), .int .u64 (h'.height : Int), .string (bs h'.root), .string (bs h'.txs), .string (bs h'.prop), .string (bs h'.van), .slice Av' h'.vals.length cv', .string (bs h'.vote), .bool h'.add, .int .u64 (h'.round : Int), .slice As' h'.seals.length cs', .slice none 0 0] 29 (0, 0) HY3.out)
            have hn11 := one11 h'.parent [] h'.root h'.txs h'.prop h'.van h'.height h'.round Av' h'.vals.length cv' h'.vote h'.add As' h'.seals.length cs'
            have HR4 := Lib.hid ((heap_setRow_ne w2 (show w.heap.size ≠ w1.heap.size + 1 by omega) #[.string (bs h'.parent), .int .u64 (h'.height : Int), .string (bs h'.root), .string (bs h'.txs), .string (bs h'.prop), .string (bs h'.van), .slice Av' h'.vals.length cv', .string (bs h'.vote), .bool h'.add, .int .u64 (h'.round : Int), .slice As' h'.seals.length cs', .slice none 0 0]).trans HR3.out)
            have HB4 := Lib.hid (below_setRow HB3.out (show w.heap.size ≤ w1.heap.size + 1 by omega) #[.string (bs h'.parent), .int .u64 (h'.height : Int), .string (bs h'.root), .string (bs h'.txs), .string (bs h'.prop), .string (bs h'.van), .slice Av' h'.vals.length cv', .string (bs h'.vote), .bool h'.add, .int .u64 (h'.round : Int), .slice As' h'.seals.length cs', .slice none 0 0])
            have HBB4 := Lib.hid (below_setRow HBB3.out (show w1.heap.size ≤ w1.heap.size + 1 by omega) #[.string (bs h'.parent), .int .u64 (h'.height : Int), .string (bs h'.root), .string (bs h'.txs), .string (bs h'.prop), .string (bs h'.van), .slice Av' h'.vals.length cv', .string (bs h'.vote), .bool h'.add, .int .u64 (h'.round : Int), .slice As' h'.seals.length cs', .slice none 0 0])
            clear HR3 HB3 HBB3
            rcases HSD.out with ⟨rfl, hk1, hw1, he1⟩ | ⟨rfl, hz1, hne⟩
            · go_wp2_with (refine wpl_store_at rfl _ _ _ rfl (w1.heap.size + 1) 0 #[.string (bs h'.parent), .int .u64 (h'.height : Int), .string (bs h'.root), .string (bs h'.txs), .string (bs h'.prop), .string (bs h'.van), .slice Av' h'.vals.length cv', .string (bs h'.vote), .bool h'.add, .int .u64 (h'.round : Int), .slice As' h'.seals.length cs'] #[.string (bs h'.parent), .int .u64 (h'.height : Int), .string (bs h'.root), .string (bs h'.txs), .string (bs h'.prop), .string (bs h'.van), .slice Av' h'.vals.length cv', .string (bs h'.vote), .bool h'.add, .int .u64 (h'.round : Int), .slice As' h'.seals.length cs', .slice none 0 0] rfl rfl 29 #[.string (bs zeroHd.parent), .int .u64 (zeroHd.height : Int), .string (bs zeroHd.root), .string (bs zeroHd.txs), .string (bs zeroHd.prop), .string (bs zeroHd.van), .slice Av zeroHd.vals.length cv, .string (bs zeroHd.vote), .bool zeroHd.add, .int .u64 (zeroHd.round : Int), .slice As zeroHd.seals.length cs, .slice none 0 0] HY3.out infoHd HSZ.out hn11 HSE.out ?_)
              go_roundw
              case rel =>
                have hk4 := HKX.out
                refine ⟨i + 1, w2.heap.size, h', [], Av', As', cv', cs', .slice none 0 0, by go_num, hlt, HY4.out, ?_, ?_, ?_, World.ownsRow_nil _ _ _ _, ?_, Lib.hid (hd_fine HSD.out), Lib.hid fun h => absurd h (Nat.succ_ne_zero _), HBB4.out⟩
                · have hm : ∀ b, b < w2.heap.size → From (wr.heap.size + 1) b → (w1.heap.size + 2 ≤ b ∧ b < w2.heap.size) ∧ (w2.setRow (w1.heap.size + 1) #[.string (bs h'.parent), .int .u64 (h'.height : Int), .string (bs h'.root), .string (bs h'.txs), .string (bs h'.prop), .string (bs h'.van), .slice Av' h'.vals.length cv', .string (bs h'.vote), .bool h'.add, .int .u64 (h'.round : Int), .slice As' h'.seals.length cs', .slice none 0 0]).heap[b]? = w2.heap[b]? := fun b h1 h2 => by
                    have h2 : wr.heap.size + 1 ≤ b := h2
                    exact ⟨⟨by omega, h1⟩, heap_setRow_ne _ (by omega) _⟩
                  have hv3 := HV3.out
                  rw [show (wr.alloc (.cells #[.bool false, .string (bs y.b), .slice A2 y.ks.length c2] 45)).heap.size = wr.heap.size + 1 by simp] at hv3
                  exact ⟨Rep.mono hv3.vals hm, Rep.mono hv3.seals hm⟩
                · have := HBA.out.size; omega
                · rw [setRow_size]; exact Nat.le_refl _
                · refine Lib.hid (.inr ⟨by omega, by show 0 + 1 = i + 1; rw [HI0.out], hk1, hw1, (fun t ht => by cases ht), ?_⟩)
                  have hky := HKY.out
                  rw [HI0.out] at hky ⊢
                  rw [take_snoc hky, ← he1, ← leafIt_eta ((pures_iff _).1 (pure_kids HP.out) _ (List.mem_of_getElem? hky)) HYL.out]
                  rfl
              case measure => have := HKX.out; simp [intOf]; omega
            · have HT := Lib.hid (bk_kid HP.out HE.out HS4.out HKY.out (.inr (.inl ⟨HI0.out, hne⟩)))
              clear hz1 hne
              go_wp2_with (refine wpl_store_at rfl _ _ _ rfl (w1.heap.size + 1) 0 #[.string (bs h'.parent), .int .u64 (h'.height : Int), .string (bs h'.root), .string (bs h'.txs), .string (bs h'.prop), .string (bs h'.van), .slice Av' h'.vals.length cv', .string (bs h'.vote), .bool h'.add, .int .u64 (h'.round : Int), .slice As' h'.seals.length cs'] #[.string (bs h'.parent), .int .u64 (h'.height : Int), .string (bs h'.root), .string (bs h'.txs), .string (bs h'.prop), .string (bs h'.van), .slice Av' h'.vals.length cv', .string (bs h'.vote), .bool h'.add, .int .u64 (h'.round : Int), .slice As' h'.seals.length cs', .slice none 0 0] rfl rfl 29 #[.string (bs zeroHd.parent), .int .u64 (zeroHd.height : Int), .string (bs zeroHd.root), .string (bs zeroHd.txs), .string (bs zeroHd.prop), .string (bs zeroHd.van), .slice Av zeroHd.vals.length cv, .string (bs zeroHd.vote), .bool zeroHd.add, .int .u64 (zeroHd.round : Int), .slice As zeroHd.seals.length cs, .slice none 0 0] HY3.out infoHd HSZ.out hn11 HSE.out ?_)
              go_wp2_with fail
              refine (bno_any _).mono ?_
              rintro e wz ⟨rfl, hbz⟩
              have HRz := Lib.hid ((hbz.block _ (Array.getElem?_eq_some_iff.1 HR4.out).1).trans HR4.out)
              have HBz := Lib.hid (below_call HB4.out (HB4.out).size hbz)
              clear hbz
              go_wp2_with (refine wpList_store_row rfl _ _ _ rfl w.heap.size #[.string ⟨#[]⟩, .int .u64 0, .string ⟨#[]⟩, .string ⟨#[]⟩, .string ⟨#[]⟩, .string ⟨#[]⟩, .slice none 0 0, .string ⟨#[]⟩, .bool false, .int .u64 0, .slice none 0 0, .slice none 0 0] rfl rfl _ _ HRz.out infoBk rfl one12BZ ?_)
              exact bodyPost_ret (v := .tuple #[.agg #[.string ⟨#[]⟩, .int .u64 0, .string ⟨#[]⟩, .string ⟨#[]⟩, .string ⟨#[]⟩, .string ⟨#[]⟩, .slice none 0 0, .string ⟨#[]⟩, .bool false, .int .u64 0, .slice none 0 0, .slice none 0 0], .int .i64 4]) (results_row_tmp rfl _ _ w.heap.size _ _ _ _ rfl (setRow_heap _ _ _ _ _ _ HRz.out) _ rfl Try.underlying29 rfl infoBk) rfl (bkPost_zero HT.out (below_setRow HBz.out (Nat.le_refl _) _))
          · have hi0I : ((i : Int) == 0) = false := by rw [beq_eq_false_iff_ne]; omega
            rcases hpre.out with ⟨h0, _⟩ | ⟨_, hlen, hkh, hwh, htsk, htk⟩
            case inl => omega
            have HI0 : Hid (0 < i) := Lib.hid (by omega)
            have HPK := Lib.hid (And.intro hkh (And.intro hwh (And.intro htsk htk)))
            have hts4 : ts.length ≤ 4000 := by have := HKX.out; omega
            have HLEN := Lib.hid hlen
            clear hlen
            have hTZ := heap_alloc_new (wr.alloc (.cells #[.bool false, .string (bs y.b), .slice A2 y.ks.length c2] 45)) (.cells #[.string ⟨#[]⟩, .int .u64 0, .int .u64 0, .int .u64 0, .int .u64 0, .int .u64 0, .int .u64 0, .int .u64 0, .int .u64 0, .int .u64 0, .int .u64 0, .int .i64 0] 51)
            rw [show (wr.alloc (.cells #[.bool false, .string (bs y.b), .slice A2 y.ks.length c2] 45)).heap.size = wr.heap.size + 1 by simp] at hTZ
            have HTZ := Lib.hid hTZ
            have HY5 := Lib.hid ((heap_alloc_old (wr.alloc (.cells #[.bool false, .string (bs y.b), .slice A2 y.ks.length c2] 45)) (.cells #[.string ⟨#[]⟩, .int .u64 0, .int .u64 0, .int .u64 0, .int .u64 0, .int .u64 0, .int .u64 0, .int .u64 0, .int .u64 0, .int .u64 0, .int .u64 0, .int .i64 0] 51) (Array.getElem?_eq_some_iff.1 HY2.out).1).trans HY2.out)
            have HR5 := Lib.hid ((heap_alloc_old (wr.alloc (.cells #[.bool false, .string (bs y.b), .slice A2 y.ks.length c2] 45)) (.cells #[.string ⟨#[]⟩, .int .u64 0, .int .u64 0, .int .u64 0, .int .u64 0, .int .u64 0, .int .u64 0, .int .u64 0, .int .u64 0, .int .u64 0, .int .u64 0, .int .i64 0] 51) (Array.getElem?_eq_some_iff.1 HR2.out).1).trans HR2.out)
            clear hi0 hkh hwh htsk htk hTZ hpre HY2 HR2 HYY HRR hu0 HBW
            go_wp2_with fail
            refine (tread_any y.b _).mono ?_
            rintro e w2 ⟨t, no', rfl, hsaid', hb2⟩
            have HT3 := Lib.hid ((hb2.block _ (Array.getElem?_eq_some_iff.1 HTZ.out).1).trans HTZ.out)
            have HY3 := Lib.hid ((hb2.block _ (Array.getElem?_eq_some_iff.1 HY5.out).1).trans HY5.out)
            have HR3 := Lib.hid ((hb2.block _ (Array.getElem?_eq_some_iff.1 HR5.out).1).trans HR5.out)
            have hba : Below wr.heap.size wr w2 := below_call (((Below.refl _ _).alloc (Nat.le_refl _) (.cells #[.bool false, .string (bs y.b), .slice A2 y.ks.length c2] 45)).alloc (by simp) (.cells #[.string ⟨#[]⟩, .int .u64 0, .int .u64 0, .int .u64 0, .int .u64 0, .int .u64 0, .int .u64 0, .int .u64 0, .int .u64 0, .int .u64 0, .int .u64 0, .int .i64 0] 51)) (by simp; omega) hb2
            have HSD := Lib.hid hsaid'
            have hT4 := setRow_heap w2 (wr.heap.size + 1) #[.string ⟨#[]⟩, .int .u64 0, .int .u64 0, .int .u64 0, .int .u64 0, .int .u64 0, .int .u64 0, .int .u64 0, .int .u64 0, .int .u64 0, .int .u64 0, .int .i64 0] #[.string (bs t.to), .int .u64 (t.am : Int), .int .u64 (t.no : Int), .int .u64 (t.sg.r.a : Int), .int .u64 (t.sg.r.b : Int), .int .u64 (t.sg.r.c : Int), .int .u64 (t.sg.r.d : Int), .int .u64 (t.sg.s.a : Int), .int .u64 (t.sg.s.b : Int), .int .u64 (t.sg.s.c : Int), .int .u64 (t.sg.s.d : Int), .int .i64 t.sg.v] 51 (0, 0) HT3.out
            have hlY : w1.heap.size + 1 < wr.heap.size := hYl
            have hY4 := (heap_setRow_ne w2 (show w1.heap.size + 1 ≠ wr.heap.size + 1 by omega) #[.string (bs t.to), .int .u64 (t.am : Int), .int .u64 (t.no : Int), .int .u64 (t.sg.r.a : Int), .int .u64 (t.sg.r.b : Int), .int .u64 (t.sg.r.c : Int), .int .u64 (t.sg.r.d : Int), .int .u64 (t.sg.s.a : Int), .int .u64 (t.sg.s.b : Int), .int .u64 (t.sg.s.c : Int), .int .u64 (t.sg.s.d : Int), .int .i64 t.sg.v]).trans HY3.out
            have hlW : w.heap.size < wr.heap.size := by have := HB1.out.size; omega
            have hR4 := (heap_setRow_ne w2 (show w.heap.size ≠ wr.heap.size + 1 by omega) #[.string (bs t.to), .int .u64 (t.am : Int), .int .u64 (t.no : Int), .int .u64 (t.sg.r.a : Int), .int .u64 (t.sg.r.b : Int), .int .u64 (t.sg.r.c : Int), .int .u64 (t.sg.r.d : Int), .int .u64 (t.sg.s.a : Int), .int .u64 (t.sg.s.b : Int), .int .u64 (t.sg.s.c : Int), .int .u64 (t.sg.s.d : Int), .int .i64 t.sg.v]).trans HR3.out
            have hba4 : Below wr.heap.size wr (w2.setRow (wr.heap.size + 1) #[.string (bs t.to), .int .u64 (t.am : Int), .int .u64 (t.no : Int), .int .u64 (t.sg.r.a : Int), .int .u64 (t.sg.r.b : Int), .int .u64 (t.sg.r.c : Int), .int .u64 (t.sg.r.d : Int), .int .u64 (t.sg.s.a : Int), .int .u64 (t.sg.s.b : Int), .int .u64 (t.sg.s.c : Int), .int .u64 (t.sg.s.d : Int), .int .i64 t.sg.v]) := below_setRow hba (Nat.le_succ _) _
            clear hb2 hba hsaid' HTZ HY5 HR5 HY3 HR3 q0 q1 q2
            rcases HSD.out with ⟨rfl, hk1, hw1, he1⟩ | ⟨rfl, hz1, hne⟩
            · go_wp2_with (first | (refine wpList_store_row rfl _ _ _ rfl (wr.heap.size + 1) #[.string (bs t.to), .int .u64 (t.am : Int), .int .u64 (t.no : Int), .int .u64 (t.sg.r.a : Int), .int .u64 (t.sg.r.b : Int), .int .u64 (t.sg.r.c : Int), .int .u64 (t.sg.r.d : Int), .int .u64 (t.sg.s.a : Int), .int .u64 (t.sg.s.b : Int), .int .u64 (t.sg.s.c : Int), .int .u64 (t.sg.s.d : Int), .int .i64 t.sg.v] rfl rfl _ _ HT3.out infoTr rfl (one12 _ _ _ _ _ _ _ _ _ _ _ _) ?_; generalize w2.setRow (wr.heap.size + 1) #[.string (bs t.to), .int .u64 (t.am : Int), .int .u64 (t.no : Int), .int .u64 (t.sg.r.a : Int), .int .u64 (t.sg.r.b : Int), .int .u64 (t.sg.r.c : Int), .int .u64 (t.sg.r.d : Int), .int .u64 (t.sg.s.a : Int), .int .u64 (t.sg.s.b : Int), .int .u64 (t.sg.s.c : Int), .int .u64 (t.sg.s.d : Int), .int .i64 t.sg.v] = W3 at hT4 hY4 hR4 hba4 ⊢; have HBB4 := Lib.hid (below_call HBB.out HBB.out.size hba4); have HO4 := Lib.hid (own_keep HO.out hba4); have HT4 := Lib.hid hT4; have HY4 := Lib.hid hY4; have HR4 := Lib.hid hR4; have hs4 := hba4.size; have y11 := rc (u := .slice At ts.length ct) hY4 11 rfl; have hYl4 := (Array.getElem?_eq_some_iff.1 hY4).1; have hRl4 := (Array.getElem?_eq_some_iff.1 hR4).1; have HHV4 : Hid (∀ b, b < M → w1.heap.size + 2 ≤ b → W3.heap[b]? = wr.heap[b]?) := Lib.hid (fun b h1 _ => hba4.block b (by omega)); clear hT4 hY4 hR4 hba4 HT3 HO HBB) | (refine wpList_load_row rfl _ _ rfl (wr.heap.size + 1) rfl _ _ _ _ HT4.out Try.underlying51 rfl infoTr ?_) | (at_builtin; refine wpl_append elTr rfl rfl M (HO4.out.alloc _) rfl (m := 1) (trL t) rfl rfl ?_ ?_ ?_ ?_ ?_ ?_; exact (lies_new _ _ _); exact (trL_ok t).2; (simp only [maxLen]; omega); omega; (simp; omega); intro v1 w8 hown1 hg1 hat1; obtain ⟨A3, c3, rfl⟩ := own_form hown1; have hg8 := Lib.hid hg1; have hY8 := (hg1.block (w1.heap.size + 1) (by simp; omega) (fun e => by have := (HO4.out.lt _ e.symm).1; omega)).trans ((heap_alloc_old _ _ hYl4).trans HY4.out); have d11 := rc (u := .slice At ts.length ct) hY8 11 rfl; have df := rf hY8 11; have HY8 := Lib.hid hY8; have HO8 := Lib.hid hown1; clear hY8 hown1 hg1))
              have hba : Below W3.heap.size W3 (W3.alloc (.cells #[.string (bs t.to), .int .u64 (t.am : Int), .int .u64 (t.no : Int), .int .u64 (t.sg.r.a : Int), .int .u64 (t.sg.r.b : Int), .int .u64 (t.sg.r.c : Int), .int .u64 (t.sg.r.d : Int), .int .u64 (t.sg.s.a : Int), .int .u64 (t.sg.s.b : Int), .int .u64 (t.sg.s.c : Int), .int .u64 (t.sg.s.d : Int), .int .i64 t.sg.v] 51)) := (Below.refl _ _).alloc (Nat.le_refl _) _
              have HBB8 := Lib.hid (below_app (below_call HBB4.out HBB4.out.size hba) (own_keep HO4.out hba) hg8.out (by simp; omega) (by omega))
              have HR8 := Lib.hid ((hg8.out.block w.heap.size (by simp; omega) (fun e => by have := (HO4.out.lt _ e.symm).1; omega)).trans ((heap_alloc_old _ _ hRl4).trans HR4.out))
              have hs8 : M ≤ w8.heap.size := Nat.le_trans hM2 (Nat.le_trans hs4 (Nat.le_trans hba.size hg8.out.size))
              have HH8 : Hid (∀ b, b < M → w1.heap.size + 2 ≤ b → (w8.setCell ⟨w1.heap.size + 1, 11, none⟩ (.slice A3 (ts.length + 1) c3)).heap[b]? = wr.heap[b]?) := Lib.hid fun b h1 h2 => (heap_set_ne (by omega) _).trans ((hg8.out.block b (by simp; omega) (fun e => by have := (HO4.out.lt _ e.symm).1; omega)).trans ((heap_alloc_old _ _ (by omega)).trans (HHV4.out b h1 h2)))
              go_roundw
              case rel =>
                refine ⟨i + 1, M, hq, ts ++ [t], Av, As, cv, cs, _, by have := HKX.out; go_num, hlt, heap_setCell_here HY8.out (i := 11) _, ?_, hM, ?_, ?_, ?_, hfine, Lib.hid fun h => absurd h (Nat.succ_ne_zero _), HBB8.out.setCell (p := ⟨w1.heap.size + 1, 11, none⟩) (Nat.le_succ _) _⟩
                · exact ⟨Rep.mono HHV.out.vals fun b _ hb => ⟨hb, HH8.out b hb.2 hb.1⟩, Rep.mono HHV.out.seals fun b _ hb => ⟨hb, HH8.out b hb.2 hb.1⟩⟩
                · rw [show (w8.setCell ⟨w1.heap.size + 1, 11, none⟩ (.slice A3 (ts.length + 1) c3)).heap.size = w8.heap.size by simp [World.setCell]]; exact hs8
                · rw [show (ts ++ [t]).length = ts.length + 1 by simp, show ((ts ++ [t]).map trL).flatten = (ts.map trL).flatten ++ trL t by simp]
                  exact own_setOther HO8.out (by omega) _
                · obtain ⟨hkh, hwh, htsk, htk⟩ := HPK.out
                  refine Lib.hid (.inr ⟨by omega, by have := HLEN.out; simp; omega, hkh, hwh, fun t' ht' => ?_, ?_⟩)
                  · rcases List.mem_append.1 ht' with h | h
                    · exact htsk t' h
                    · rw [List.mem_singleton] at h; subst h; exact ⟨hk1, hw1⟩
                  · have hky := HKY.out
                    rw [take_snoc hky, htk, List.map_append, List.map_singleton, ← he1, ← leafIt_eta ((pures_iff _).1 (pure_kids HP.out) _ (List.mem_of_getElem? hky)) HYL.out]
                    rfl
              case measure => have := HKX.out; simp [intOf]; omega
            · have HT := Lib.hid (bk_kid HP.out HE.out HS4.out HKY.out (.inr (.inr ⟨HI0.out, hne⟩)))
              clear hz1 hne
              go_wp2_with (first | (refine wpList_store_row rfl _ _ _ rfl (wr.heap.size + 1) #[.string (bs t.to), .int .u64 (t.am : Int), .int .u64 (t.no : Int), .int .u64 (t.sg.r.a : Int), .int .u64 (t.sg.r.b : Int), .int .u64 (t.sg.r.c : Int), .int .u64 (t.sg.r.d : Int), .int .u64 (t.sg.s.a : Int), .int .u64 (t.sg.s.b : Int), .int .u64 (t.sg.s.c : Int), .int .u64 (t.sg.s.d : Int), .int .i64 t.sg.v] rfl rfl _ _ HT3.out infoTr rfl (one12 _ _ _ _ _ _ _ _ _ _ _ _) ?_; generalize w2.setRow (wr.heap.size + 1) #[.string (bs t.to), .int .u64 (t.am : Int), .int .u64 (t.no : Int), .int .u64 (t.sg.r.a : Int), .int .u64 (t.sg.r.b : Int), .int .u64 (t.sg.r.c : Int), .int .u64 (t.sg.r.d : Int), .int .u64 (t.sg.s.a : Int), .int .u64 (t.sg.s.b : Int), .int .u64 (t.sg.s.c : Int), .int .u64 (t.sg.s.d : Int), .int .i64 t.sg.v] = W3 at hT4 hY4 hR4 hba4 ⊢; have HBB4 := Lib.hid (below_call HBB.out HBB.out.size hba4); have HO4 := Lib.hid (own_keep HO.out hba4); have HT4 := Lib.hid hT4; have HY4 := Lib.hid hY4; have HR4 := Lib.hid hR4; have hs4 := hba4.size; have y11 := rc (u := .slice At ts.length ct) hY4 11 rfl; have hYl4 := (Array.getElem?_eq_some_iff.1 hY4).1; have hRl4 := (Array.getElem?_eq_some_iff.1 hR4).1; have HHV4 : Hid (∀ b, b < M → w1.heap.size + 2 ≤ b → W3.heap[b]? = wr.heap[b]?) := Lib.hid (fun b h1 _ => hba4.block b (by omega)); clear hT4 hY4 hR4 hba4 HT3 HO HBB) | (refine wpList_load_row rfl _ _ rfl (wr.heap.size + 1) rfl _ _ _ _ HT4.out Try.underlying51 rfl infoTr ?_) | (at_builtin; refine wpl_append elTr rfl rfl M (HO4.out.alloc _) rfl (m := 1) (trL t) rfl rfl ?_ ?_ ?_ ?_ ?_ ?_; exact (lies_new _ _ _); exact (trL_ok t).2; (simp only [maxLen]; omega); omega; (simp; omega); intro v1 w8 hown1 hg1 hat1; obtain ⟨A3, c3, rfl⟩ := own_form hown1; have hg8 := Lib.hid hg1; have hY8 := (hg1.block (w1.heap.size + 1) (by simp; omega) (fun e => by have := (HO4.out.lt _ e.symm).1; omega)).trans ((heap_alloc_old _ _ hYl4).trans HY4.out); have d11 := rc (u := .slice At ts.length ct) hY8 11 rfl; have df := rf hY8 11; have HY8 := Lib.hid hY8; have HO8 := Lib.hid hown1; clear hY8 hown1 hg1))
              have hba : Below W3.heap.size W3 (W3.alloc (.cells #[.string (bs t.to), .int .u64 (t.am : Int), .int .u64 (t.no : Int), .int .u64 (t.sg.r.a : Int), .int .u64 (t.sg.r.b : Int), .int .u64 (t.sg.r.c : Int), .int .u64 (t.sg.r.d : Int), .int .u64 (t.sg.s.a : Int), .int .u64 (t.sg.s.b : Int), .int .u64 (t.sg.s.c : Int), .int .u64 (t.sg.s.d : Int), .int .i64 t.sg.v] 51)) := (Below.refl _ _).alloc (Nat.le_refl _) _
              have HBB8 := Lib.hid (below_app (below_call HBB4.out HBB4.out.size hba) (own_keep HO4.out hba) hg8.out (by simp; omega) (by omega))
              have HR8 := Lib.hid ((hg8.out.block w.heap.size (by simp; omega) (fun e => by have := (HO4.out.lt _ e.symm).1; omega)).trans ((heap_alloc_old _ _ hRl4).trans HR4.out))
              have hs8 : M ≤ w8.heap.size := Nat.le_trans hM2 (Nat.le_trans hs4 (Nat.le_trans hba.size hg8.out.size))
              have HH8 : Hid (∀ b, b < M → w1.heap.size + 2 ≤ b → (w8.setCell ⟨w1.heap.size + 1, 11, none⟩ (.slice A3 (ts.length + 1) c3)).heap[b]? = wr.heap[b]?) := Lib.hid fun b h1 h2 => (heap_set_ne (by omega) _).trans ((hg8.out.block b (by simp; omega) (fun e => by have := (HO4.out.lt _ e.symm).1; omega)).trans ((heap_alloc_old _ _ (by omega)).trans (HHV4.out b h1 h2)))
              have HR9 := Lib.hid ((heap_set_ne (w := w8) (b := w1.heap.size + 1) (i := 11) (show w.heap.size ≠ w1.heap.size + 1 by omega) (.slice A3 (ts.length + 1) c3)).trans HR8.out)
              have HB9 := Lib.hid ((HB1.out.trans (HBB8.out.mono HB1.out.size)).setCell (p := ⟨w1.heap.size + 1, 11, none⟩) (show w.heap.size ≤ w1.heap.size + 1 by omega) (.slice A3 (ts.length + 1) c3))
              go_wp2_with fail
              refine (bno_any _).mono ?_
              rintro e wz ⟨rfl, hbz⟩
              have HRz := Lib.hid ((hbz.block _ (Array.getElem?_eq_some_iff.1 HR9.out).1).trans HR9.out)
              have HBz := Lib.hid (below_call HB9.out (HB9.out).size hbz)
              clear hbz
              go_wp2_with (refine wpList_store_row rfl _ _ _ rfl w.heap.size #[.string ⟨#[]⟩, .int .u64 0, .string ⟨#[]⟩, .string ⟨#[]⟩, .string ⟨#[]⟩, .string ⟨#[]⟩, .slice none 0 0, .string ⟨#[]⟩, .bool false, .int .u64 0, .slice none 0 0, .slice none 0 0] rfl rfl _ _ HRz.out infoBk rfl one12BZ ?_)
              exact bodyPost_ret (v := .tuple #[.agg #[.string ⟨#[]⟩, .int .u64 0, .string ⟨#[]⟩, .string ⟨#[]⟩, .string ⟨#[]⟩, .string ⟨#[]⟩, .slice none 0 0, .string ⟨#[]⟩, .bool false, .int .u64 0, .slice none 0 0, .slice none 0 0], .int .i64 4]) (results_row_tmp rfl _ _ w.heap.size _ _ _ _ rfl (setRow_heap _ _ _ _ _ _ HRz.out) _ rfl Try.underlying29 rfl infoBk) rfl (bkPost_zero HT.out (below_setRow HBz.out (Nat.le_refl _) _))
      · obtain rfl : i = x.ks.length := by omega
        have hltI : ((x.ks.length : Int) < x.ks.length) = False := by simp
        obtain ⟨hx, hhw, htw, hhk, htk⟩ := bk_fin HP.out HL.out (by omega) hpre.out
        obtain ⟨hyes, hno⟩ := bk_right HP.out HE.out HS4.out HL.out (by omega) hpre.out
        have hts4 : ts.length ≤ 4000 := by
          rcases hpre.out with ⟨h0, _⟩ | ⟨_, hl, _⟩
          · omega
          · have := HKX.out; omega
        have hfn : (⟨hq, ts⟩ : Bk).Fine := ⟨hfine.out, fun t ht => ⟨htw t ht, by have := htk t ht; unfold okTr at this; simp only [Bool.and_eq_true, beq_iff_eq] at this; omega⟩, by show ts.length ≤ 10000; omega⟩
        have htv : ∀ S : Nat → Prop, (∀ b, M ≤ b → S b) → TrsV S wr ts At ct := fun S hS => PlV.own hown (by simp) (fun l hl => by obtain ⟨y, _, rfl⟩ := List.mem_map.1 hl; exact trL_ok y) (fun b h1 _ => hS b h1)
        have hbv : BkV Any wr ⟨hq, ts⟩ Av cv As cs At ct := ⟨⟨StrV.any hhv.vals, PlV.any hhv.seals⟩, htv Any fun _ _ => trivial⟩
        have hbf : BkV (From (w.heap.size + 1)) wr ⟨hq, ts⟩ Av cv As cs At ct := ⟨⟨Rep.mono hhv.vals fun b _ hb => ⟨by show w.heap.size + 1 ≤ b; omega, rfl⟩, Rep.mono hhv.seals fun b _ hb => ⟨by show w.heap.size + 1 ≤ b; omega, rfl⟩⟩, htv _ fun b hb => by show w.heap.size + 1 ≤ b; omega⟩
        have hc := bright_any ⟨hq, ts⟩ hfn Av As At cv cs ct wr hbv
        obtain ⟨rb, hrb⟩ : ∃ rb, okBk ⟨hq, ts⟩ = rb := ⟨_, rfl⟩
        rw [hrb] at hc hyes hno
        have HC := Lib.hid hc
        have HBF := Lib.hid hbf
        have HYS := Lib.hid hyes
        have HNS := Lib.hid hno
        have HYY := Lib.hid hY
        have HRR := Lib.hid hRr
        have HBB := Lib.hid (HB1.out.trans (hB.mono HB1.out.size))
        clear hc hbf hyes hno hY hRr hB hown hhv hpre hfine hu0 hx hhw htw hhk htk hfn htv hbv hrb
        go_wp2_with (refine wpList_load_row rfl _ _ rfl (w1.heap.size + 1) rfl _ _ _ _ HYY.out Try.underlying29 rfl infoBk ?_)
        refine HC.out.mono ?_
        rintro e w9 ⟨rfl, hb9⟩
        have HY9 := Lib.hid ((hb9.block _ (Array.getElem?_eq_some_iff.1 HYY.out).1).trans HYY.out)
        have HR9 := Lib.hid ((hb9.block _ (Array.getElem?_eq_some_iff.1 HRR.out).1).trans HRR.out)
        have HB9 := Lib.hid (below_call HBB.out HBB.out.size hb9)
        have HV9 := Lib.hid (HBF.out.keep hb9)
        clear hb9 HYY HRR HBB HBF HC
        cases rb with
        | false =>
          have HT := Lib.hid (HNS.out rfl)
          go_wp2_with fail
          refine (bno_any _).mono ?_
          rintro e wz ⟨rfl, hbz⟩
          have HRz := Lib.hid ((hbz.block _ (Array.getElem?_eq_some_iff.1 HR9.out).1).trans HR9.out)
          have HBz := Lib.hid (below_call HB9.out (HB9.out).size hbz)
          clear hbz
          go_wp2_with (refine wpList_store_row rfl _ _ _ rfl w.heap.size #[.string ⟨#[]⟩, .int .u64 0, .string ⟨#[]⟩, .string ⟨#[]⟩, .string ⟨#[]⟩, .string ⟨#[]⟩, .slice none 0 0, .string ⟨#[]⟩, .bool false, .int .u64 0, .slice none 0 0, .slice none 0 0] rfl rfl _ _ HRz.out infoBk rfl one12BZ ?_)
          exact bodyPost_ret (v := .tuple #[.agg #[.string ⟨#[]⟩, .int .u64 0, .string ⟨#[]⟩, .string ⟨#[]⟩, .string ⟨#[]⟩, .string ⟨#[]⟩, .slice none 0 0, .string ⟨#[]⟩, .bool false, .int .u64 0, .slice none 0 0, .slice none 0 0], .int .i64 4]) (results_row_tmp rfl _ _ w.heap.size _ _ _ _ rfl (setRow_heap _ _ _ _ _ _ HRz.out) _ rfl Try.underlying29 rfl infoBk) rfl (bkPost_zero HT.out (below_setRow HBz.out (Nat.le_refl _) _))
        | true =>
          have HT := Lib.hid (HYS.out rfl)
          go_wp2_with (first | (refine wpList_load_row rfl _ _ rfl (w1.heap.size + 1) rfl _ _ _ _ HY9.out Try.underlying29 rfl infoBk ?_) | (refine wpList_store_row rfl _ _ _ rfl w.heap.size #[.string (bs hq.parent), .int .u64 (hq.height : Int), .string (bs hq.root), .string (bs hq.txs), .string (bs hq.prop), .string (bs hq.van), .slice Av hq.vals.length cv, .string (bs hq.vote), .bool hq.add, .int .u64 (hq.round : Int), .slice As hq.seals.length cs, .slice At ts.length ct] rfl rfl _ _ HR9.out infoBk rfl (one12B _ _ _ _ _ _ _ _ _ _ _ _ _ _ _ _ _ _) ?_))
          refine bodyPost_ret (v := .tuple #[.agg #[.string (bs hq.parent), .int .u64 (hq.height : Int), .string (bs hq.root), .string (bs hq.txs), .string (bs hq.prop), .string (bs hq.van), .slice Av hq.vals.length cv, .string (bs hq.vote), .bool hq.add, .int .u64 (hq.round : Int), .slice As hq.seals.length cs, .slice At ts.length ct], .int .i64 0]) (results_row_tmp rfl _ _ w.heap.size _ _ _ _ rfl (setRow_heap _ _ _ _ _ _ HR9.out) _ rfl Try.underlying29 rfl infoBk) rfl ?_
          refine ⟨⟨hq, ts⟩, Av, As, At, cv, cs, ct, 0, rfl, ?_, HT.out, below_setRow HB9.out (Nat.le_refl _) _⟩
          have hm : ∀ b, b < w9.heap.size → From (w.heap.size + 1) b → From w.heap.size b ∧ (w9.setRow w.heap.size #[.string (bs hq.parent), .int .u64 (hq.height : Int), .string (bs hq.root), .string (bs hq.txs), .string (bs hq.prop), .string (bs hq.van), .slice Av hq.vals.length cv, .string (bs hq.vote), .bool hq.add, .int .u64 (hq.round : Int), .slice As hq.seals.length cs, .slice At ts.length ct]).heap[b]? = w9.heap[b]? := fun b _ hb => ⟨Nat.le_of_succ_le hb, heap_setRow_ne _ (by have h1 : w.heap.size + 1 ≤ b := hb; omega) _⟩
          exact ⟨⟨Rep.mono HV9.out.hd.vals hm, Rep.mono HV9.out.hd.seals hm⟩, Rep.mono HV9.out.txs hm⟩
end Go.Proofs.Ytjanaholcjkceaa
/- The walks of Like at headers, Same at transfers, Like at blocks: of equal data. -/
namespace Go.Proofs.Ytjanaholcjkceaa
set_option linter.unusedVariables false
set_option linter.unusedSimpArgs false
open Go.RowKit
theorem eqF_cons {P : Program} {w : World} {d : Nat} {xs ys : Array Value} {f : Field} {fs : List Field} (hne : f.name ≠ "_") {a b : Value} (ha : (part f.type xs f.offset).run P w = .ok a w) (hb : (part f.type ys f.offset).run P w = .ok b w)
    (hr : (Op.equalIn d f.type a b).run P w = .ok true w) (h : (Op.eqFields d xs ys fs).run P w = .ok true w) : (Op.eqFields d xs ys (f :: fs)).run P w = .ok true w := by
  rw [Op.eqFields, if_pos hne]
  simp [Sem.run_bind, ha, hb, hr, h]
theorem part_agg {P : Program} {t : TypeId} {d : TypeDesc} {n o : Nat} {xs ys : Array Value} (hu : P.underlying t = some d) (hd : (match d with | .struct _ | .array _ _ => true | _ => false) = true) (hs : P.cellsOf t = n) (hx : xs.extract o (o + n) = ys) (w : World) : (part t xs o).run P w = .ok (.agg ys) w := by
  have hz : (sizeOf t).run P w = .ok n w := by
    obtain ⟨i, hi⟩ := info_of_underlying hu
    rw [run_sizeOf w hi, hs]
  have ha : (isAgg t).run P w = .ok true w := by
    unfold isAgg
    rw [Sem.run_bind, run_underlying hu w]
    cases d <;> simp_all
  simp only [part, Sem.run_bind, ha, Result.andThen_ok, Sem.run_pure, if_true, hz, hx]
theorem fieldsTr : Try.prog.underlying 51 = some (.struct (Try.prog.fieldsOf 51)) := by kernel_rfl
theorem stoodTr : Try.prog.stoodInHeld 51 = false := by kernel_rfl
theorem guardTr : Try.prog.eqGuardType Try.prog.depth 51 = false := by kernel_rfl
theorem eqI_refl (d : Nat) (k : Int) (w : World) : (Op.equalIn (d + 1) 3 (.int .i64 k) (.int .i64 k)).run Try.prog w = .ok true w := by
  rw [run_equalIn_int w d _ .i64 .i64 _ _ Try.underlying3]; simp
theorem eqN_refl (d : Nat) (k : Int) (w : World) : (Op.equalIn (d + 1) 22 (.int .u64 k) (.int .u64 k)).run Try.prog w = .ok true w := by
  rw [run_equalIn_int w d _ .u64 .u64 _ _ Try.underlying22]; simp
theorem eqS_refl (d : Nat) (s : ByteArray) (w : World) : (Op.equalIn (d + 1) 9 (.string s) (.string s)).run Try.prog w = .ok true w := by
  rw [run_equalIn_string w d _ _ _ Try.underlying9]; simp
theorem eqU_refl (d : Nat) (x : U4) (w : World) : (Op.equalIn (d + 2) 47 (.agg #[.int .u64 (x.a : Int), .int .u64 (x.b : Int), .int .u64 (x.c : Int), .int .u64 (x.d : Int)]) (.agg #[.int .u64 (x.a : Int), .int .u64 (x.b : Int), .int .u64 (x.c : Int), .int .u64 (x.d : Int)])).run Try.prog w = .ok true w := by
  have := run_eqU d x x w
  rw [show eqU x x = true by unfold eqU; exact decide_eq_true rfl] at this
  exact this
theorem eqSg_refl (d : Nat) (x : Sg) (w : World) : (Op.equalIn (d + 3) 49 (.agg (sgL x).toArray) (.agg (sgL x).toArray)).run Try.prog w = .ok true w := by
  have p0 : (part 47 (sgL x).toArray 0).run Try.prog w = .ok (.agg #[.int .u64 (x.r.a : Int), .int .u64 (x.r.b : Int), .int .u64 (x.r.c : Int), .int .u64 (x.r.d : Int)]) w := part_agg (n := 4) (o := 0) (xs := (sgL x).toArray) Try.underlying47 rfl (by kernel_rfl) rfl w
  have p1 : (part 47 (sgL x).toArray 4).run Try.prog w = .ok (.agg #[.int .u64 (x.s.a : Int), .int .u64 (x.s.b : Int), .int .u64 (x.s.c : Int), .int .u64 (x.s.d : Int)]) w := part_agg (n := 4) (o := 4) (xs := (sgL x).toArray) Try.underlying47 rfl (by kernel_rfl) rfl w
  have p2 : (part 3 (sgL x).toArray 8).run Try.prog w = .ok (.int .i64 x.v) w := by simp [part, isAgg, run_underlying Try.underlying3, sgL, Sem.run_bind]
  have hm : (Op.eqFields (d + 2) (sgL x).toArray (sgL x).toArray (Try.prog.fieldsOf 49).toList).run Try.prog w = .ok true w := by
    simp only [Program.fieldsOf, Try.underlying49]
    refine eqF_cons (by decide) p0 p0 (eqU_refl d _ w) ?_
    refine eqF_cons (by decide) p1 p1 (eqU_refl d _ w) ?_
    refine eqF_cons (by decide) p2 p2 (eqI_refl (d + 1) _ w) ?_
    rfl
  rw [run_equalIn_agg w (d + 2) _ _ _ fieldsSg stoodSg, hm]
theorem eqTr_refl (d : Nat) (t : Tr) (w : World) : (Op.equalIn (d + 4) 51 (.agg (trL t).toArray) (.agg (trL t).toArray)).run Try.prog w = .ok true w := by
  have p0 : (part 9 (trL t).toArray 0).run Try.prog w = .ok (.string (bs t.to)) w := by simp [part, isAgg, run_underlying Try.underlying9, trL, Sem.run_bind]
  have p1 : (part 22 (trL t).toArray 1).run Try.prog w = .ok (.int .u64 (t.am : Int)) w := by simp [part, isAgg, run_underlying Try.underlying22, trL, Sem.run_bind]
  have p2 : (part 22 (trL t).toArray 2).run Try.prog w = .ok (.int .u64 (t.no : Int)) w := by simp [part, isAgg, run_underlying Try.underlying22, trL, Sem.run_bind]
  have p3 : (part 49 (trL t).toArray 3).run Try.prog w = .ok (.agg (sgL t.sg).toArray) w := part_agg (n := 9) (o := 3) (xs := (trL t).toArray) Try.underlying49 rfl (by kernel_rfl) rfl w
  have hm : (Op.eqFields (d + 3) (trL t).toArray (trL t).toArray (Try.prog.fieldsOf 51).toList).run Try.prog w = .ok true w := by
    simp only [Program.fieldsOf, Try.underlying51]
    refine eqF_cons (by decide) p0 p0 (eqS_refl (d + 2) _ w) ?_
    refine eqF_cons (by decide) p1 p1 (eqN_refl (d + 2) _ w) ?_
    refine eqF_cons (by decide) p2 p2 (eqN_refl (d + 2) _ w) ?_
    refine eqF_cons (by decide) p3 p3 (eqSg_refl d _ w) ?_
    rfl
  rw [run_equalIn_agg w (d + 3) _ _ _ fieldsTr stoodTr, hm]
theorem neqSg (x : Sg) (w : World) : (binOp .neq 49 (.agg (sgL x).toArray) (.agg (sgL x).toArray)).run Try.prog w = .ok (.bool false) w := by
  rw [run_neq_struct, eqSg_refl 9997 x w]; rfl
theorem neqTr (x : Tr) (w : World) : (binOp .neq 51 (.agg (trL x).toArray) (.agg (trL x).toArray)).run Try.prog w = .ok (.bool false) w := by
  rw [run_neq_struct, eqTr_refl 9996 x w]; rfl
set_option maxRecDepth 100000 in
set_option maxHeartbeats 4000000 in
theorem like17_any (h : Hd) (Av As Aw At : Option Addr) (cv cs cw ct : Nat) (w : World) (hv : HdV Any w h Av cv As cs) (hv' : HdV Any w h Aw cw At ct) :
    Calls Try.prog 20 #[.agg #[.string (bs h.parent), .int .u64 (h.height : Int), .string (bs h.root), .string (bs h.txs), .string (bs h.prop), .string (bs h.van), .slice Av h.vals.length cv, .string (bs h.vote), .bool h.add, .int .u64 (h.round : Int), .slice As h.seals.length cs], .agg #[.string (bs h.parent), .int .u64 (h.height : Int), .string (bs h.root), .string (bs h.txs), .string (bs h.prop), .string (bs h.van), .slice Aw h.vals.length cw, .string (bs h.vote), .bool h.add, .int .u64 (h.round : Int), .slice At h.seals.length ct]] w fun e w' => e = .returned (.bool true) ∧ Below w.heap.size w w' := by
  have h0 := (heap_alloc_old (w.alloc (.cells #[.string (bs h.parent), .int .u64 (h.height : Int), .string (bs h.root), .string (bs h.txs), .string (bs h.prop), .string (bs h.van), .slice Av h.vals.length cv, .string (bs h.vote), .bool h.add, .int .u64 (h.round : Int), .slice As h.seals.length cs] 26)) (.cells #[.string (bs h.parent), .int .u64 (h.height : Int), .string (bs h.root), .string (bs h.txs), .string (bs h.prop), .string (bs h.van), .slice Aw h.vals.length cw, .string (bs h.vote), .bool h.add, .int .u64 (h.round : Int), .slice At h.seals.length ct] 26) (by simp)).trans (heap_alloc_new w (.cells #[.string (bs h.parent), .int .u64 (h.height : Int), .string (bs h.root), .string (bs h.txs), .string (bs h.prop), .string (bs h.van), .slice Av h.vals.length cv, .string (bs h.vote), .bool h.add, .int .u64 (h.round : Int), .slice As h.seals.length cs] 26))
  have h1 := heap_alloc_new (w.alloc (.cells #[.string (bs h.parent), .int .u64 (h.height : Int), .string (bs h.root), .string (bs h.txs), .string (bs h.prop), .string (bs h.van), .slice Av h.vals.length cv, .string (bs h.vote), .bool h.add, .int .u64 (h.round : Int), .slice As h.seals.length cs] 26)) (.cells #[.string (bs h.parent), .int .u64 (h.height : Int), .string (bs h.root), .string (bs h.txs), .string (bs h.prop), .string (bs h.van), .slice Aw h.vals.length cw, .string (bs h.vote), .bool h.add, .int .u64 (h.round : Int), .slice At h.seals.length ct] 26)
  rw [show (w.alloc (.cells #[.string (bs h.parent), .int .u64 (h.height : Int), .string (bs h.root), .string (bs h.txs), .string (bs h.prop), .string (bs h.van), .slice Av h.vals.length cv, .string (bs h.vote), .bool h.add, .int .u64 (h.round : Int), .slice As h.seals.length cs] 26)).heap.size = w.heap.size + 1 by simp] at h1
  have hb : Below w.heap.size w ((w.alloc (.cells #[.string (bs h.parent), .int .u64 (h.height : Int), .string (bs h.root), .string (bs h.txs), .string (bs h.prop), .string (bs h.van), .slice Av h.vals.length cv, .string (bs h.vote), .bool h.add, .int .u64 (h.round : Int), .slice As h.seals.length cs] 26)).alloc (.cells #[.string (bs h.parent), .int .u64 (h.height : Int), .string (bs h.root), .string (bs h.txs), .string (bs h.prop), .string (bs h.van), .slice Aw h.vals.length cw, .string (bs h.vote), .bool h.add, .int .u64 (h.round : Int), .slice At h.seals.length ct] 26)) := ((Below.refl _ _).alloc (Nat.le_refl _) _).alloc (by simp) _
  have HV1 := Lib.hid (hv.keep hb)
  have HV2 := Lib.hid (hv'.keep hb)
  have HB := Lib.hid hb
  have HX := Lib.hid h0
  have HY := Lib.hid h1
  have hn1 : (h.vals.length : Int) ≤ 9223372036854775807 := by have := (Rep.slice_len hv.vals).2; simp only [maxLen] at this; omega
  have hn2 : (h.seals.length : Int) ≤ 9223372036854775807 := by have := PlV.len hv.seals; simp only [maxLen, List.length_map] at this; omega
  have x0 := rc (u := .string (bs h.parent)) h0 0 rfl
  have x1 := rc (u := .int .u64 (h.height : Int)) h0 1 rfl
  have x2 := rc (u := .string (bs h.root)) h0 2 rfl
  have x3 := rc (u := .string (bs h.txs)) h0 3 rfl
  have x4 := rc (u := .string (bs h.prop)) h0 4 rfl
  have x5 := rc (u := .string (bs h.van)) h0 5 rfl
  have x6 := rc (u := .slice Av h.vals.length cv) h0 6 rfl
  have x7 := rc (u := .string (bs h.vote)) h0 7 rfl
  have x8 := rc (u := .bool h.add) h0 8 rfl
  have x9 := rc (u := .int .u64 (h.round : Int)) h0 9 rfl
  have x10 := rc (u := .slice As h.seals.length cs) h0 10 rfl
  have y0 := rc (u := .string (bs h.parent)) h1 0 rfl
  have y1 := rc (u := .int .u64 (h.height : Int)) h1 1 rfl
  have y2 := rc (u := .string (bs h.root)) h1 2 rfl
  have y3 := rc (u := .string (bs h.txs)) h1 3 rfl
  have y4 := rc (u := .string (bs h.prop)) h1 4 rfl
  have y5 := rc (u := .string (bs h.van)) h1 5 rfl
  have y6 := rc (u := .slice Aw h.vals.length cw) h1 6 rfl
  have y7 := rc (u := .string (bs h.vote)) h1 7 rfl
  have y8 := rc (u := .bool h.add) h1 8 rfl
  have y9 := rc (u := .int .u64 (h.round : Int)) h1 9 rfl
  have y10 := rc (u := .slice At h.seals.length ct) h1 10 rfl
  clear h0 h1 hb hv hv'
  go_enter Try.func20, Try.ntmps20
  go_wp2_with fail
  clear x0 y0 x1 y1 x2 y2 x3 y3 x4 y4 x5 y5 x6 y6 x7 y7 x8 y8 x9 y9 x10 y10
  generalize (w.alloc (.cells #[.string (bs h.parent), .int .u64 (h.height : Int), .string (bs h.root), .string (bs h.txs), .string (bs h.prop), .string (bs h.van), .slice Av h.vals.length cv, .string (bs h.vote), .bool h.add, .int .u64 (h.round : Int), .slice As h.seals.length cs] 26)).alloc (.cells #[.string (bs h.parent), .int .u64 (h.height : Int), .string (bs h.root), .string (bs h.txs), .string (bs h.prop), .string (bs h.van), .slice Aw h.vals.length cw, .string (bs h.vote), .bool h.add, .int .u64 (h.round : Int), .slice At h.seals.length ct] 26) = W2 at *
  go_loopw [87] (fun a wr => ∃ i : Nat, a = .int .i64 (i : Int) ∧ i ≤ h.vals.length ∧ Below W2.heap.size W2 wr) (fun a _ => h.vals.length - (intOf a).toNat)
  case atStart => exact ⟨0, rfl, Nat.zero_le _, Below.refl _ _⟩
  case round =>
    obtain ⟨i, rfl, hi, hB⟩ := hrel
    have hX := (hB.block _ (Array.getElem?_eq_some_iff.1 HX.out).1).trans HX.out
    have hY := (hB.block _ (Array.getElem?_eq_some_iff.1 HY.out).1).trans HY.out
    by_cases hlt : i < h.vals.length
    · obtain ⟨x, hx⟩ := getElem_ex hlt
      have x6 := rc (u := .slice Av h.vals.length cv) hX 6 rfl
      have y6 := rc (u := .slice Aw h.vals.length cw) hY 6 rfl
      obtain ⟨g, o, rfl, _, k1⟩ := StrV.at_ (StrV.keep HV1.out.vals hB) hx
      obtain ⟨g', o', rfl, _, k2⟩ := StrV.at_ (StrV.keep HV2.out.vals hB) hx
      have hltI : (i : Int) < h.vals.length := by omega
      have HBB := Lib.hid hB
      clear hx hX hY hB
      go_wp2_with fail
      go_quiet (fail)
      go_wp2_with fail
      go_roundw
      case rel => exact ⟨i + 1, by go_num, hlt, below_drewN HBB.out _⟩
      case measure => simp [intOf]; omega
    · obtain rfl : i = h.vals.length := by omega
      have x10 := rc (u := .slice As h.seals.length cs) hX 10 rfl
      have y10 := rc (u := .slice At h.seals.length ct) hY 10 rfl
      have HB1 := Lib.hid hB
      clear hX hY hB
      go_wp2_with fail
      rename World => wq
      go_loopw [105] (fun a wr => ∃ i : Nat, a = .int .i64 (i : Int) ∧ i ≤ h.seals.length ∧ Below W2.heap.size W2 wr) (fun a _ => h.seals.length - (intOf a).toNat)
      case atStart => exact ⟨0, rfl, Nat.zero_le _, HB1.out⟩
      case round =>
        clear x10 y10
        obtain ⟨i, rfl, hi, hB⟩ := hrel
        have hX := (hB.block _ (Array.getElem?_eq_some_iff.1 HX.out).1).trans HX.out
        have hY := (hB.block _ (Array.getElem?_eq_some_iff.1 HY.out).1).trans HY.out
        by_cases hlt : i < h.seals.length
        · obtain ⟨x, hx⟩ := getElem_ex hlt
          have x10 := rc (u := .slice As h.seals.length cs) hX 10 rfl
          have y10 := rc (u := .slice At h.seals.length ct) hY 10 rfl
          obtain ⟨g, o, rfl, k1⟩ := sgs_at (PlV.keep HV1.out.seals hB) hx
          obtain ⟨g', o', rfl, k2⟩ := sgs_at (PlV.keep HV2.out.seals hB) hx
          have hltI : (i : Int) < h.seals.length := by omega
          have HBB := Lib.hid hB
          clear hx hX hY hB
          go_wp2_with fail
          have hSS : (fun w' => (∀ j u, (sgL x)[j]? = some u → w'.cell? ⟨g, o + i * 9 + j, none⟩ = some u) ∧ (∀ j u, (sgL x)[j]? = some u → w'.cell? ⟨g', o' + i * 9 + j, none⟩ = some u) ∧ w'.cell? ⟨w.heap.size, 10, none⟩ = some (.slice (some ⟨g, o, none⟩) h.seals.length cs) ∧ w'.cell? ⟨w.heap.size + 1, 10, none⟩ = some (.slice (some ⟨g', o', none⟩) h.seals.length ct)) wr.drew := ⟨k1, k2, x10, y10⟩
          refine wp_region_R [(99, fun w' => (∀ j u, (sgL x)[j]? = some u → w'.cell? ⟨g, o + i * 9 + j, none⟩ = some u) ∧ (∀ j u, (sgL x)[j]? = some u → w'.cell? ⟨g', o' + i * 9 + j, none⟩ = some u) ∧ w'.cell? ⟨w.heap.size, 10, none⟩ = some (.slice (some ⟨g, o, none⟩) h.seals.length cs) ∧ w'.cell? ⟨w.heap.size + 1, 10, none⟩ = some (.slice (some ⟨g', o', none⟩) h.seals.length ct))] (by kernel_rfl) ?_
          refine R_p (i := 0) (v := .pointer (some ⟨w.heap.size, 10, none⟩)) (Meets.here hSS Meets.nil) ?_
          refine R_l (i := 1) (v := .slice (some ⟨g, o, none⟩) h.seals.length cs) 99 _ List.mem_cons_self rfl (yieldsIf_load_cell rfl rfl rfl (fun w' hS => hS.2.2.1) Try.underlying24 rfl) (Meets.here hSS Meets.nil) ?_
          refine R_p (i := 2) (v := .int .i64 (i : Int)) (Meets.here hSS Meets.nil) ?_
          refine R_p (i := 3) (v := .pointer (some ⟨g, o + i * 9, none⟩)) (Meets.here hSS Meets.nil) ?_
          refine R_l (i := 4) (v := .agg (sgL x).toArray) 99 _ List.mem_cons_self rfl (yieldsIf_load_at rfl rfl rfl (sgL x) (fun w' hS => hS.1) Try.underlying49 rfl infoSg) (Meets.here hSS Meets.nil) ?_
          refine R_p (i := 5) (v := .pointer (some ⟨w.heap.size + 1, 10, none⟩)) (Meets.here hSS Meets.nil) ?_
          refine R_l (i := 6) (v := .slice (some ⟨g', o', none⟩) h.seals.length ct) 99 _ List.mem_cons_self rfl (yieldsIf_load_cell rfl rfl rfl (fun w' hS => hS.2.2.2) Try.underlying24 rfl) (Meets.here hSS Meets.nil) ?_
          refine R_p (i := 7) (v := .int .i64 (i : Int)) (Meets.here hSS Meets.nil) ?_
          refine R_p (i := 8) (v := .pointer (some ⟨g', o' + i * 9, none⟩)) (Meets.here hSS Meets.nil) ?_
          refine R_l (i := 9) (v := .agg (sgL x).toArray) 99 _ List.mem_cons_self rfl (yieldsIf_load_at rfl rfl rfl (sgL x) (fun w' hS => hS.2.1) Try.underlying49 rfl infoSg) (Meets.here hSS Meets.nil) ?_
          refine R_p (i := 10) (v := .bool false) (Meets.here hSS Meets.nil) ?_ (hy := by intro w'; have h1 := neqSg x w'; have h2 := fun aa bb => run_eqGuard_agg w' .neq 49 aa bb (sgL x).toArray (sgL x).toArray guardSg; generalize Value.agg (sgL x).toArray = VV at h1 h2 ⊢; go_simp)
          refine R_done (by kernel_rfl) ?_ _
          go_wp2_with fail
          go_roundw
          case rel => exact ⟨i + 1, by go_num, hlt, HBB.out.drew⟩
          case measure => simp [intOf]; omega
        · have hltI : ¬ (i : Int) < h.seals.length := by omega
          have HBB := Lib.hid hB
          clear hX hY hB
          go_wp2_with fail
          go_ret
          exact ⟨rfl, HB.out.trans (HBB.out.mono HB.out.size)⟩
set_option maxRecDepth 100000 in
set_option maxHeartbeats 4000000 in
theorem same16_any (l : List Tr) (A A' : Option Addr) (c c' : Nat) (w : World) (hv : TrsV Any w l A c) (hv' : TrsV Any w l A' c') :
    Calls Try.prog 21 #[.slice A l.length c, .slice A' l.length c'] w fun e w' => e = .returned (.bool true) ∧ Below w.heap.size w w' := by
  have hn1 : (l.length : Int) ≤ 9223372036854775807 := by have := PlV.len hv; simp only [maxLen, List.length_map] at this; omega
  have HV1 := Lib.hid hv
  have HV2 := Lib.hid hv'
  clear hv hv'
  go_enter Try.func21, Try.ntmps21
  go_wp2_with fail
  go_loopw [13] (fun a wr => ∃ i : Nat, a = .int .i64 (i : Int) ∧ i ≤ l.length ∧ Below w.heap.size w wr) (fun a _ => l.length - (intOf a).toNat)
  case atStart => exact ⟨0, rfl, Nat.zero_le _, Below.refl _ _⟩
  case round =>
    obtain ⟨i, rfl, hi, hB⟩ := hrel
    by_cases hlt : i < l.length
    · obtain ⟨x, hx⟩ := getElem_ex hlt
      obtain ⟨g, o, rfl, k1⟩ := trs_at (PlV.keep HV1.out hB) hx
      obtain ⟨g', o', rfl, k2⟩ := trs_at (PlV.keep HV2.out hB) hx
      have hltI : (i : Int) < l.length := by omega
      have HBB := Lib.hid hB
      clear hx hB
      go_wp2_with fail
      have hSS : (fun w' => (∀ j u, (trL x)[j]? = some u → w'.cell? ⟨g, o + i * 12 + j, none⟩ = some u) ∧ (∀ j u, (trL x)[j]? = some u → w'.cell? ⟨g', o' + i * 12 + j, none⟩ = some u)) wr.drew := ⟨k1, k2⟩
      refine wp_region_R [(99, fun w' => (∀ j u, (trL x)[j]? = some u → w'.cell? ⟨g, o + i * 12 + j, none⟩ = some u) ∧ (∀ j u, (trL x)[j]? = some u → w'.cell? ⟨g', o' + i * 12 + j, none⟩ = some u))] (by kernel_rfl) ?_
      refine R_p (i := 0) (v := .slice (some ⟨g, o, none⟩) l.length c) (Meets.here hSS Meets.nil) ?_
      refine R_p (i := 1) (v := .int .i64 (i : Int)) (Meets.here hSS Meets.nil) ?_
      refine R_p (i := 2) (v := .pointer (some ⟨g, o + i * 12, none⟩)) (Meets.here hSS Meets.nil) ?_
      refine R_l (i := 3) (v := .agg (trL x).toArray) 99 _ List.mem_cons_self rfl (yieldsIf_load_at rfl rfl rfl (trL x) (fun w' hS => hS.1) Try.underlying51 rfl infoTr) (Meets.here hSS Meets.nil) ?_
      refine R_p (i := 4) (v := .slice (some ⟨g', o', none⟩) l.length c') (Meets.here hSS Meets.nil) ?_
      refine R_p (i := 5) (v := .int .i64 (i : Int)) (Meets.here hSS Meets.nil) ?_
      refine R_p (i := 6) (v := .pointer (some ⟨g', o' + i * 12, none⟩)) (Meets.here hSS Meets.nil) ?_
      refine R_l (i := 7) (v := .agg (trL x).toArray) 99 _ List.mem_cons_self rfl (yieldsIf_load_at rfl rfl rfl (trL x) (fun w' hS => hS.2) Try.underlying51 rfl infoTr) (Meets.here hSS Meets.nil) ?_
      refine R_p (i := 8) (v := .bool false) (Meets.here hSS Meets.nil) ?_ (hy := by intro w'; have h1 := neqTr x w'; have h2 := fun aa bb => run_eqGuard_agg w' .neq 51 aa bb (trL x).toArray (trL x).toArray guardTr; generalize Value.agg (trL x).toArray = VV at h1 h2 ⊢; go_simp)
      refine R_done (by kernel_rfl) ?_ _
      go_wp2_with fail
      go_roundw
      case rel => exact ⟨i + 1, by go_num, hlt, HBB.out.drew⟩
      case measure => simp [intOf]; omega
    · have hltI : ¬ (i : Int) < l.length := by omega
      have HBB := Lib.hid hB
      clear hB
      go_wp2_with fail
      go_ret
      exact ⟨rfl, HBB.out⟩
end Go.Proofs.Ytjanaholcjkceaa
