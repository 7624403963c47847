/- ecclesiaref25.Open. -/
import Derived.Test.YtggiicbjegmehaaMailC
namespace Go.Proofs.Ytggiicbjegmehaa
set_option linter.unusedVariables false
set_option linter.unusedSimpArgs false
open Go.RowKit

theorem write_leaf_le {x : Item} (hp : pureP x = true) : (writeP (leafI x.b)).length ≤ (writeP x).length := by
  cases hl : x.l with
  | false =>
    have h1 := pureP_leaf hp hl
    have := x.eta
    rw [hl, h1] at this
    rw [leafI, this]; exact Nat.le_refl _
  | true =>
    rw [pureP_list hp hl]
    have h2 := writeP_len x
    have : (writeP (leafI [])).length = 1 := by simp [leafI, writeP, headP]
    omega
theorem writes_leaf_le : ∀ (ks : List Item), puresP ks = true → (writesP ((ks.map Item.b).map leafI)).length ≤ (writesP ks).length
  | [], _ => by simp [writesP]
  | k :: ks, h => by
    simp only [puresP, Bool.and_eq_true] at h
    have h1 := write_leaf_le h.1
    have h2 := writes_leaf_le ks h.2
    simp only [List.map_cons, writesP, List.length_append]
    omega
theorem write_mail_lt {s : Bytes} {x k0 : Item} {ks : List Item} {k : Nat} (h : DecSaid s x 0) (hk : x.ks = k0 :: ks) (hkl : k < 18446744073709551616) : (writeP (mailI k (ks.map Item.b))).length < 16777216 := by
  rcases h with ⟨_, h, _⟩ | ⟨l, _, hp, e, _⟩ | ⟨_, h, _⟩ | ⟨_, h, _⟩
  · cases h
  · have hxl : x.l = true := by
      cases h : x.l with
      | true => rfl
      | false => have := pureP_leaf hp h; rw [this] at hk; cases hk
    obtain ⟨xl, xb, xks⟩ := x
    simp only [Item.l, Item.ks] at hxl hk
    subst hxl hk
    simp [pureP, puresP] at hp
    have h1 := writes_leaf_le ks hp.2.2
    rw [e] at l
    simp only [writeP, writesP, List.length_append] at l
    have hd := digs_len_lt 8 k (by omega)
    have hh : ∀ n, n < 65536 → (headP 192 n).length ≤ 3 := fun n h => headP_len_le 192 n h
    have hw : (writeP (leafI (digs k))).length ≤ 12 := by
      simp only [leafI, writeP]
      split
      · omega
      · rw [List.length_append]; have := headP_len_le 128 (digs k).length (by omega); omega
    simp only [mailI, kidsI, writeP, List.length_append, writesP]
    have := hh ((writeP (leafI (digs k))).length + (writesP ((ks.map Item.b).map leafI)).length) (by omega)
    omega
  · cases h
  · cases h
theorem mailR_yes {s : Bytes} {k : Nat} {ps : List Bytes} (hl : s.length ≤ 4000) (hk : k < 18446744073709551616) (h : mailR k ps = (s, 0)) : OpenSaid s k ps 0 := by
  unfold mailR at h
  split at h
  · rename_i hr
    unfold encR at h
    split at h
    · simp at h
    · split at h
      · simp at h
      · split at h
        · simp at h
        · simp at h; exact .inl ⟨rfl, h.symm, hr, hl, hk⟩
  · simp at h
theorem mailR_of {s : Bytes} {k : Nat} {ps : List Bytes} (hl : s.length ≤ 4000) (hr : rightP k ps = true) (e : s = writeP (mailI k ps)) : mailR k ps = (s, 0) := by
  unfold mailR
  rw [if_pos hr]
  unfold encR
  have hw : wellP (mailI k ps) = true := by
    have h1 := countP_le _ (pureP_mail k ps)
    rw [← e] at h1
    simp [wellP, pureP_mail]
    omega
  rw [if_neg (by rw [hw]; simp), if_neg (by rw [depthP_mail]; omega), if_neg (by rw [← e]; omega), ← e]
theorem openSaid_no2 {s : Bytes} {x k0 : Item} {ks : List Item} (h : DecSaid s x 0) (hk : x.ks = k0 :: ks) (hm : mailR (valP k0).1 (ks.map Item.b) ≠ (s, 0)) : OpenSaid s 0 [] 4 := by
  refine .inr ⟨rfl, rfl, rfl, fun k' ps' hk' hr hl e => hm ?_⟩
  obtain ⟨_, rfl⟩ := dec_mail h hl e
  simp only [mailI, kidsI, Item.ks] at hk
  injection hk with h3 h4
  subst h3 h4
  rw [valP_digs hk', List.map_map]
  have : (ps'.map (Item.b ∘ leafI)) = ps' := by
    conv => rhs; rw [← List.map_id ps']
    rfl
  rw [this]
  exact mailR_of hl hr e
theorem mailR_no (k : Nat) (ps : List Bytes) : (mailR k ps).2 = 0 ∨ (mailR k ps).2 = 1 ∨ (mailR k ps).2 = 2 ∨ (mailR k ps).2 = 5 := by
  unfold mailR encR
  split
  · split
    · simp
    · split
      · simp
      · split <;> simp
  · simp
theorem dec_len {s : Bytes} {x : Item} (h : DecSaid s x 0) : s.length ≤ 4000 := by
  rcases h with ⟨_, h, _⟩ | ⟨l, _, hp, e, _⟩ | ⟨_, h, _⟩ | ⟨_, h, _⟩
  · cases h
  · exact l
  · cases h
  · cases h
theorem valP_lt (x : Item) : (valP x).1 < 18446744073709551616 := by
  unfold valP
  split
  · simp
  · rename_i hb
    exact num_bound8 (by have := fun h => hb (.inr (.inr (.inl h))); omega)

set_option maxHeartbeats 1000000 in
theorem refOpen_any (s : Bytes) (w : World) : Calls Try.prog 9 #[.string (bs s)] w (OpenPost s w) := by
  go_enter Try.func9, Try.ntmps9
  go_wp2_with fail
  refine (refDecode_any s _).mono ?_
  rintro e w1 ⟨hb1, x, A, c, no, rfl, hvx, hsaid⟩
  have HS := Lib.hid hsaid
  by_cases hno : no = 0
  · subst hno
    clear hsaid
    cases hks : x.ks with
    | nil =>
      have Hn := Lib.hid (openSaid_no HS.out (.inr (.inl hks)))
      clear hks
      show _
      go_wp2_with fail
      go_ret3
      exact openPost_no (hb1.alloc (by have := hb1.size; omega) _) Hn.out
    | cons k0 ks =>
      have Hks := Lib.hid hks
      have hcl : (ks.length : Int) + 1 ≤ c := by have := hvx.len.1; rw [hks] at this; simp only [List.length_cons] at this; omega
      have hc63 : (c : Int) ≤ 9223372036854775807 := by have := hvx.len.2; simp only [maxLen] at this; omega
      have hb1s := hb1.size
      obtain ⟨g, o, A', c', rfl, hgf, hvk, d0, d1, d2⟩ := hvx.at_ (i := 0) (k := k0) (by rw [hks]; rfl)
      rw [Nat.zero_mul, Nat.add_zero] at d0 d1 d2
      have f0 := ca d0 (.cells #[.bool x.l, .string (bs x.b), .slice (some ⟨g, o, none⟩) (ks.length + 1) c] 49)
      have f1 := ca d1 (.cells #[.bool x.l, .string (bs x.b), .slice (some ⟨g, o, none⟩) (ks.length + 1) c] 49)
      have f2 := ca d2 (.cells #[.bool x.l, .string (bs x.b), .slice (some ⟨g, o, none⟩) (ks.length + 1) c] 49)
      have hne : (((ks.length : Int) + 1) == 0) = false := by rw [beq_eq_false_iff_ne]; omega
      have hw1 : Below w.heap.size w (w1.alloc (.cells #[.bool x.l, .string (bs x.b), .slice (some ⟨g, o, none⟩) (ks.length + 1) c] 49)) := hb1.alloc (by omega) _
      have hva := refValue_any k0 A' c'
      have hkv := valP_lt k0
      have Hvx := Lib.hid hvx
      clear hks
      generalize hval : valP k0 = vk at hva hkv
      obtain ⟨kv, kno⟩ := vk
      simp only [] at hva hkv
      have hrm := fun A c w hv => refMail_any kv hkv (ks.map Item.b) A c w hv (fun _ => write_mail_lt HS.out Hks.out hkv)
      obtain ⟨ki, hki⟩ : ∃ ki : Int, ki = kv := ⟨_, rfl⟩
      rw [← hki] at hva hrm
      have Hval := Lib.hid (And.intro hval (And.intro hki hkv))
      clear hval hki hkv
      go_wp2_with fail
      refine (hva _).mono ?_
      rintro e w2 ⟨rfl, hb2⟩
      have hb2s := hb2.size
      simp at hb2s
      have hw2 := hw1.trans (hb2.mono (by simp; omega))
      have hw2s : w.heap.size ≤ w2.heap.size := by omega
      obtain ⟨q1, q2⟩ := bcell hb2
      have y0 : w2.cell? ⟨w1.heap.size, 0, none⟩ = some (.bool x.l) := by rw [q1 _ _ (by simp)]; simp
      have y1 : w2.cell? ⟨w1.heap.size, 1, none⟩ = some (.string (bs x.b)) := by rw [q1 _ _ (by simp)]; simp
      have y2 : w2.cell? ⟨w1.heap.size, 2, none⟩ = some (.slice (some ⟨g, o, none⟩) (ks.length + 1) c) := by rw [q1 _ _ (by simp)]; simp
      have z2 := ca y2 (.cells #[] 9)
      clear q1 q2 d0 d1 d2 f0 f1 f2 hva
      have hown0 : (w2.alloc (.cells #[] 9)).ownsRow w2.heap.size 9 1 (.slice (some ⟨w2.heap.size, 0, none⟩) 0 0) 0 [] := World.ownsRow_lit w2 _ 0 (Nat.le_refl _) (by simp [maxLen]) rfl
      have hb2' := Lib.hid hb2
      have Hrm := Lib.hid hrm
      by_cases hc1 : c = 1
      · subst hc1
        obtain rfl : ks = [] := List.eq_nil_of_length_eq_zero (by simp at hcl; omega)
        have hsv : StrV (Fresh w.heap.size) (w2.alloc (.cells #[] 9)) [] (some ⟨w2.heap.size, 0, none⟩) 0 := by
          have h := rep_own (S := Fresh w.heap.size) (es := []) hown0 .nil rfl (fun g hg _ => by show w.heap.size ≤ g; omega)
          exact h
        have hww : Below w.heap.size w (w2.alloc (.cells #[] 9)) := hw2.alloc (by omega) _
        have hbs : w2.heap.size < (w2.alloc (.cells #[] 9)).heap.size := by simp
        have hrm' : Calls _ _ _ _ _ := hrm (some ⟨w2.heap.size, 0, none⟩) 0 (w2.alloc (.cells #[] 9)) hsv.any
        have hf := mailR_no kv []
        generalize hm : mailR kv (List.map Item.b []) = tf at hrm'
        rw [show mailR kv [] = tf from hm] at hf
        obtain ⟨tt, ff⟩ := tf
        simp only [] at hrm' hf
        have Hm := Lib.hid hm
        have HRM := Lib.hid hrm'
        clear hm hrm hrm'
        go_wp2_with fail
        refine wp_loop_rounds 1 ?_
        rw [rounds_succ]
        go_wp2_with fail
        refine (HRM.out).mono ?_
        rintro e w3 ⟨rfl, hb3⟩
        by_cases hok : ff = 0 ∧ tt = s
        · obtain ⟨rfl, rfl⟩ := hok
          have htt : (tt == tt) = true := by simp
          go_wp2_with fail
          go_ret3
          exact ⟨hww.trans (hb3.mono (by omega)), kv, [], some ⟨w2.heap.size, 0, none⟩, 0, 0, by rw [Hval.out.2.1]; rfl, hsv.keep hb3, mailR_yes (dec_len HS.out) Hval.out.2.2 Hm.out⟩
        · have Hn := Lib.hid (openSaid_no2 HS.out Hks.out (by rw [Hval.out.1]; intro e; rw [Hm.out] at e; exact hok (Prod.mk.inj e |>.symm)))
          rcases hf with rfl | rfl | rfl | rfl
          · have htt : (tt == s) = false := by rw [beq_eq_false_iff_ne]; exact fun h => hok ⟨rfl, h⟩
            clear hok
            go_wp2_with fail
            go_ret3
            exact openPost_no (hww.trans (hb3.mono (by omega))) Hn.out
          · clear hok
            go_wp2_with fail
            go_ret3
            exact openPost_no (hww.trans (hb3.mono (by omega))) Hn.out
          · clear hok
            go_wp2_with fail
            go_ret3
            exact openPost_no (hww.trans (hb3.mono (by omega))) Hn.out
          · clear hok
            go_wp2_with fail
            go_ret3
            exact openPost_no (hww.trans (hb3.mono (by omega))) Hn.out
      · clear hrm
        go_wp2_with fail
        go_loopw [9, 40] (fun v a wr => ∃ (i : Nat) (xs : List Value), a = .int .i64 i ∧ i ≤ ks.length ∧ wr.ownsRow w2.heap.size 9 1 v i xs ∧ RepN Nobody wr 1 (strsD ((ks.take i).map Item.b)) xs ∧ Below w2.heap.size w2 wr)
          (fun _ a _ => ks.length - (intOf a).toNat)
        case atStart => exact ⟨0, [], rfl, Nat.zero_le _, hown0, .nil, (Below.refl _ _).alloc (Nat.le_refl _) _⟩
        case round =>
          obtain ⟨i, xs, rfl, hi, hown, hr, hb⟩ := hrel
          by_cases hlt : i < ks.length
          · have hlt' : (i : Int) < ks.length := by omega
            obtain ⟨y, hy⟩ := getElem_ex hlt
            have hbs := hb.size
            have hvr := (Hvx.out.alloc (.cells #[.bool x.l, .string (bs x.b), .slice (some ⟨g, o, none⟩) (ks.length + 1) c] 49)).keep (hb2.trans (hb.mono (by simp; omega)))
            obtain ⟨g', o', A2, c2, hA, _, hvy, d0, d1, d2⟩ := hvr.at_ (i := i + 1) (k := y) (by rw [Hks.out]; exact hy)
            obtain ⟨rfl, rfl⟩ : g' = g ∧ o' = o := by injection hA with hA; injection hA with h1 h2; exact ⟨h1.symm, h2.symm⟩
            clear hA
            rw [show o' + (i + 1) * 3 = o' + 3 + i * 3 by omega] at d0 d1 d2
            obtain ⟨A1, c1, rfl⟩ := own_form hown
            have Hy := Lib.hid hy
            have hVb : Below wr.heap.size wr ((wr.alloc (.cells #[.bool y.l, .string (bs y.b), .slice A2 y.ks.length c2] 49)).alloc (.cells #[.string (bs y.b)] 9)) := ((Below.refl _ _).alloc (Nat.le_refl _) _).alloc (by simp) _
            have hownV := own_keep hown hVb
            have hVs := hVb.size
            have HVb := Lib.hid hVb
            have hi63 : (ks.length : Int) + 1 ≤ 100000 := by
              have := dec_kids HS.out
              rw [Hks.out] at this
              simp only [List.length_cons] at this
              omega
            clear hy hlt hVb
            go_wp2_with (at_builtin; refine wpl_append elStr rfl rfl w2.heap.size hownV rfl (m := 1) [.string (bs y.b)] rfl rfl ?_ ?_ ?_ ?_ ?_ ?_; exact (lies_new' _ _ (by simp) #[.string (bs y.b)] _); (intro u hu; rw [List.mem_singleton] at hu; subst hu; rfl); (simp only [maxLen]; omega); omega; omega; intro v1 w4 hown1 hg1 hat1)
            refine ⟨⟨i + 1, xs ++ [.string (bs y.b)], by go_num, by omega, hown1, ?_, ?_⟩, ?_⟩
            · rw [take_snoc Hy.out, List.map_append]
              show RepN Nobody w4 1 (List.map strD (List.map Item.b (List.take i ks) ++ [y.b])) _
              rw [List.map_append]
              exact Nobody.mono (RepN.append (.cons (sz := 1) (cs := [_]) (.v (.string (bs y.b)) rfl) rfl .nil) hr)
            · exact below_app (hb.trans (HVb.out.mono hb.size)) hownV hg1 (by omega) (Nat.le_refl _)
            · simp only [intOf]
              omega
          · obtain rfl : i = ks.length := by omega
            have hlt' : ¬ (ks.length : Int) < ks.length := by omega
            have hrm := Hrm.out
            clear hlt
            rw [List.take_length] at hr
            obtain ⟨A1, c1, rfl⟩ := own_form hown
            have hsv : StrV (Fresh w.heap.size) wr (ks.map Item.b) A1 c1 := by
              have h := rep_own (S := Fresh w.heap.size) hown (Nobody.mono hr) (by simp [strsD]) (fun g hg _ => by show w.heap.size ≤ g; omega)
              show Rep _ _ _ _
              rw [List.length_map]; exact h
            have hww : Below w.heap.size w wr := hw2.trans (hb.mono (by omega))
            have hbs := hb.size
            have hrm' := hrm A1 c1 wr hsv.any
            rw [List.length_map] at hrm'
            have hf := mailR_no kv (ks.map Item.b)
            generalize hm : mailR kv (ks.map Item.b) = tf at hrm' hf
            obtain ⟨tt, ff⟩ := tf
            simp only [] at hrm' hf
            have Hm := Lib.hid hm
            clear hm hrm
            go_wp2_with fail
            refine hrm'.mono ?_
            rintro e w3 ⟨rfl, hb3⟩
            clear hrm'
            by_cases hok : ff = 0 ∧ tt = s
            · obtain ⟨rfl, rfl⟩ := hok
              have htt : (tt == tt) = true := by simp
              go_wp2_with fail
              go_ret3
              exact ⟨hww.trans (hb3.mono (by omega)), kv, ks.map Item.b, A1, c1, 0, by rw [Hval.out.2.1, List.length_map]; rfl, hsv.keep hb3, mailR_yes (dec_len HS.out) Hval.out.2.2 Hm.out⟩
            · have Hn := Lib.hid (openSaid_no2 HS.out Hks.out (by rw [Hval.out.1]; intro e; rw [Hm.out] at e; exact hok (Prod.mk.inj e |>.symm)))
              rcases hf with rfl | rfl | rfl | rfl
              · have htt : (tt == s) = false := by rw [beq_eq_false_iff_ne]; exact fun h => hok ⟨rfl, h⟩
                clear hok
                go_wp2_with fail
                go_ret3
                exact openPost_no (hww.trans (hb3.mono (by omega))) Hn.out
              · clear hok
                go_wp2_with fail
                go_ret3
                exact openPost_no (hww.trans (hb3.mono (by omega))) Hn.out
              · clear hok
                go_wp2_with fail
                go_ret3
                exact openPost_no (hww.trans (hb3.mono (by omega))) Hn.out
              · clear hok
                go_wp2_with fail
                go_ret3
                exact openPost_no (hww.trans (hb3.mono (by omega))) Hn.out
  · have Hn := Lib.hid (openSaid_no HS.out (.inl hno))
    have : no = 2 ∨ no = 4 ∨ no = 5 := by
      rcases hsaid with ⟨_, h, _⟩ | ⟨_, h, _⟩ | ⟨_, h, _⟩ | ⟨_, h, _⟩ <;> omega
    clear hsaid hno
    rcases this with rfl | rfl | rfl
    · go_wp2_with fail
      go_ret3
      exact openPost_no (hb1.alloc (by have := hb1.size; omega) _) Hn.out
    · go_wp2_with fail
      go_ret3
      exact openPost_no (hb1.alloc (by have := hb1.size; omega) _) Hn.out
    · go_wp2_with fail
      go_ret3
      exact openPost_no (hb1.alloc (by have := hb1.size; omega) _) Hn.out
end Go.Proofs.Ytggiicbjegmehaa
