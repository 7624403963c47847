/- sync.Open and ecclesiaref25.Open. -/
import Derived.Test.YtggiicbjegmehaaMailB
namespace Go.Proofs.Ytggiicbjegmehaa
set_option linter.unusedVariables false
set_option linter.unusedSimpArgs false
open Go.RowKit

/-- what Open says of a text -/
def OpenSaid (s : Bytes) (k : Nat) (ps : List Bytes) (no : Nat) : Prop :=
  (no = 0 ∧ s = writeP (mailI k ps) ∧ rightP k ps = true ∧ s.length ≤ 4000 ∧ k < 18446744073709551616) ∨
  (no = 4 ∧ k = 0 ∧ ps = [] ∧ ∀ (k' : Nat) (ps' : List Bytes), k' < 18446744073709551616 → rightP k' ps' = true → s.length ≤ 4000 → s ≠ writeP (mailI k' ps'))
theorem pureP_mail (k : Nat) (ps : List Bytes) : pureP (mailI k ps) = true := by
  have : ∀ l : List Bytes, puresP (l.map leafI) = true := fun l => by
    induction l with
    | nil => rfl
    | cons a l ih => simp [puresP, ih, leafI, pureP]
  simp [mailI, kidsI, pureP, puresP, this, leafI]
theorem depthP_mail (k : Nat) (ps : List Bytes) : depthP (mailI k ps) = 1 := by
  have : ∀ l : List Bytes, depthsP (l.map leafI) = 0 := fun l => by
    induction l with
    | nil => rfl
    | cons a l ih => simp [depthsP, ih, leafI, depthP]
  simp [mailI, kidsI, depthP, depthsP, this, leafI]
theorem leafI_inj {a b : Bytes} (h : leafI a = leafI b) : a = b := by injection h
theorem mailI_inj {k k' : Nat} {ps ps' : List Bytes} (h : mailI k ps = mailI k' ps') : k = k' ∧ ps = ps' := by
  injection h with _ _ h
  injection h with h1 h2
  refine ⟨by have := congrArg num (leafI_inj h1); rwa [num_digs, num_digs] at this, ?_⟩
  exact List.map_inj_right (fun a b h => leafI_inj h) |>.1 h2
theorem writeP_mail_inj {k k' : Nat} {ps ps' : List Bytes} (hl : (writeP (mailI k ps)).length < 65536) (h : writeP (mailI k ps) = writeP (mailI k' ps')) : k = k' ∧ ps = ps' :=
  mailI_inj (writeP_inj _ _ [] [] (pureP_mail _ _) (pureP_mail _ _) hl (by rw [← h]; exact hl) (by rw [h])).1
theorem openSaid_unique {s : Bytes} {k k' : Nat} {ps ps' : List Bytes} {no no' : Nat} (h : OpenSaid s k ps no) (h' : OpenSaid s k' ps' no') : k = k' ∧ ps = ps' ∧ no = no' := by
  rcases h with ⟨rfl, e, r, l, b⟩ | ⟨rfl, rfl, rfl, n⟩ <;> rcases h' with ⟨rfl, e', r', l', b'⟩ | ⟨rfl, rfl, rfl, n'⟩
  · obtain ⟨rfl, rfl⟩ := writeP_mail_inj (by rw [← e]; omega) (e.symm.trans e')
    exact ⟨rfl, rfl, rfl⟩
  · exact absurd e (n' _ _ b r l)
  · exact absurd e' (n _ _ b' r' l')
  · exact ⟨rfl, rfl, rfl⟩
/-- an item that Open takes -/
theorem mail_of {x k0 : Item} {ks : List Item} (hp : pureP x = true) (hk : x.ks = k0 :: ks) (hv : (valP k0).2 = 0) (hl : ∀ k ∈ ks, k.l = false) : x = mailI (valP k0).1 (ks.map Item.b) := by
  have hxl : x.l = true := by
    cases h : x.l with
    | true => rfl
    | false => have := pureP_leaf hp h; rw [this] at hk; cases hk
  have hxb := pureP_list hp hxl
  have hk0 : k0 = leafI (digs (valP k0).1) := by
    have h0 : pureP k0 = true := pureP_mem (x := x) (i := 0) hp (by rw [hk]; rfl)
    by_cases hb : k0.l = true ∨ 0 < k0.ks.length ∨ 8 < k0.b.length ∨ digs (num k0.b) ≠ k0.b
    · rw [valP_bad hb] at hv; cases hv
    · have hl0 : k0.l = false := by cases h : k0.l with | false => rfl | true => exact absurd (.inl h) hb
      have h1 : digs (num k0.b) = k0.b := Decidable.byContradiction fun h => hb (.inr (.inr (.inr h)))
      have h2 : valP k0 = (num k0.b, 0) := if_neg hb
      rw [h2, h1]
      have h3 := pureP_leaf h0 hl0
      have := k0.eta
      rw [hl0, h3] at this
      exact this.symm
  have hks : ks = (ks.map Item.b).map leafI := by
    have : ∀ k ∈ ks, k = leafI k.b := fun k hm => by
      have h0 : pureP k = true := by
        obtain ⟨i, hi⟩ := List.getElem?_of_mem hm
        exact pureP_mem (x := x) (i := i + 1) hp (by rw [hk]; exact hi)
      have h1 := pureP_leaf h0 (hl k hm)
      have := k.eta
      rw [hl k hm, h1] at this
      exact this.symm
    rw [List.map_map]
    conv => lhs; rw [← List.map_id ks]
    exact List.map_congr_left this
  have := x.eta
  rw [hxl, hxb, hk] at this
  rw [← this]
  unfold mailI kidsI
  rw [← hk0, ← hks]
/-- a text that is mail: what Decode makes of it -/
theorem dec_mail {s : Bytes} {x : Item} {no : Nat} {k : Nat} {ps : List Bytes} (h : DecSaid s x no) (hl : s.length ≤ 4000) (e : s = writeP (mailI k ps)) : no = 0 ∧ x = mailI k ps := by
  have hl2 : (writeP (mailI k ps)).length < 65536 := by rw [← e]; omega
  rcases h with ⟨h, _⟩ | ⟨_, rfl, hp, e2, _⟩ | ⟨_, _, _, y, hp, e2, hd⟩ | ⟨_, _, _, n⟩
  · omega
  · exact ⟨rfl, (writeP_inj _ _ [] [] hp (pureP_mail _ _) (by rw [← e2]; omega) hl2 (by rw [← e2, ← e])).1⟩
  · have := (writeP_inj _ _ [] [] hp (pureP_mail k ps) (by rw [← e2]; omega) hl2 (by rw [← e2, ← e])).1
    rw [this, depthP_mail] at hd; omega
  · exact absurd e (n _ (pureP_mail _ _))
theorem valP_digs {k : Nat} (hk : k < 18446744073709551616) : valP (leafI (digs k)) = (k, 0) := by
  have hl := digs_len_lt 8 k (by omega)
  rw [valP_good (x := leafI (digs k)) rfl rfl hl (by simp only [leafI, Item.b]; rw [num_digs])]
  simp only [leafI, Item.b]
  rw [num_digs]
/-- what is refused is no mail -/
theorem openSaid_no {s : Bytes} {x : Item} {no : Nat} (h : DecSaid s x no)
    (hn : no ≠ 0 ∨ x.ks = [] ∨ ∃ k0 ks, x.ks = k0 :: ks ∧ ((valP k0).2 ≠ 0 ∨ (∃ k ∈ ks, k.l = true) ∨ rightP (valP k0).1 (ks.map Item.b) = false)) : OpenSaid s 0 [] 4 := by
  refine .inr ⟨rfl, rfl, rfl, fun k ps hk hr hl e => ?_⟩
  obtain ⟨rfl, rfl⟩ := dec_mail h hl e
  rcases hn with h | h | ⟨k0, ks, h, h2⟩
  · exact h rfl
  · simp [mailI, kidsI, Item.ks] at h
  · simp only [mailI, kidsI, Item.ks] at h
    injection h with h3 h4
    subst h3 h4
    rw [valP_digs hk] at h2
    rcases h2 with h2 | ⟨k', hm, h2⟩ | h2
    · exact h2 rfl
    · obtain ⟨p, _, rfl⟩ := List.mem_map.1 hm
      cases h2
    · rw [List.map_map] at h2
      have : (ps.map (Item.b ∘ leafI)) = ps := by
        conv => rhs; rw [← List.map_id ps]
        rfl
      rw [this, hr] at h2; cases h2
theorem openSaid_yes {s : Bytes} {x k0 : Item} {ks : List Item} (h : DecSaid s x 0) (hk : x.ks = k0 :: ks) (hv : (valP k0).2 = 0) (hl : ∀ k ∈ ks, k.l = false) (hr : rightP (valP k0).1 (ks.map Item.b) = true) :
    OpenSaid s (valP k0).1 (ks.map Item.b) 0 := by
  rcases h with ⟨_, h, _⟩ | ⟨l, _, hp, e, _⟩ | ⟨_, h, _⟩ | ⟨_, h, _⟩
  · cases h
  · refine .inl ⟨rfl, by rw [← mail_of hp hk hv hl]; exact e, hr, l, ?_⟩
    unfold valP at hv ⊢
    split
    · simp
    · rename_i hb
      exact num_bound8 (by have := fun h => hb (.inr (.inr (.inl h))); omega)
  · cases h
  · cases h

theorem dec_kids {s : Bytes} {x : Item} (h : DecSaid s x 0) : x.ks.length ≤ 4000 := by
  rcases h with ⟨_, h, _⟩ | ⟨l, _, hp, e, _⟩ | ⟨_, h, _⟩ | ⟨_, h, _⟩
  · cases h
  · have h1 := countP_le x hp
    have h2 := countsP_ge x.ks
    have h3 : countP x = 1 + countsP x.ks := by cases x; rfl
    rw [← e] at h1
    omega
  · cases h
  · cases h
def NoList (l : List Item) : Prop := ∀ k, k ∈ l → k.l = false
theorem open_no (w : World) : Calls Try.prog 25 #[] w fun e w' => e = .returned (.tuple #[.int .u64 0, .slice none 0 0, .int .i64 4]) ∧ w' = w := by
  go_enter Try.func25, Try.ntmps25
  go_wp2_with fail
  go_ret3
  exact ⟨rfl, rfl⟩

def OpenPost (s : Bytes) (w : World) (e : Ending) (w' : World) : Prop :=
  Below w.heap.size w w' ∧ ∃ (k : Nat) (ps : List Bytes) (A : Option Addr) (c no : Nat), e = .returned (.tuple #[.int .u64 k, .slice A ps.length c, .int .i64 no]) ∧ StrV (Fresh w.heap.size) w' ps A c ∧ OpenSaid s k ps no
theorem openPost_no {s : Bytes} {w w' : World} (hb : Below w.heap.size w w') (h : OpenSaid s 0 [] 4) : OpenPost s w (.returned (.tuple #[.int .u64 0, .slice none 0 0, .int .i64 4])) w' :=
  ⟨hb, 0, [], none, 0, 4, rfl, StrV.nil, h⟩
theorem elStr : ElemOk Try.prog 23 9 (.string ⟨#[]⟩) 1 16 := ⟨Try.underlying23, by kernel_rfl, rfl, by omega⟩

set_option maxHeartbeats 1000000 in
theorem Open_any (s : Bytes) (w : World) : Calls Try.prog 8 #[.string (bs s)] w (OpenPost s w) := by
  go_enter Try.func8, Try.ntmps8
  go_wp2_with fail
  refine (Decode_any s _).mono ?_
  rintro e w1 ⟨hb1, x, A, c, no, rfl, hvx, hsaid⟩
  have HS := Lib.hid hsaid
  by_cases hno : no = 0
  · subst hno
    clear hsaid
    cases hks : x.ks with
    | nil =>
      have Hn := Lib.hid (openSaid_no HS.out (.inr (.inl hks)))
      clear hks
      show _
      go_wp2_with (go_at_call 25; refine (open_no _).mono ?_; rintro e w' ⟨rfl, rfl⟩)
      go_ret3
      exact openPost_no (hb1.alloc (by have := hb1.size; omega) _) Hn.out
    | cons k0 ks =>
      have Hks := Lib.hid hks
      have hcl : (ks.length : Int) + 1 ≤ c := by have := hvx.len.1; rw [hks] at this; simp only [List.length_cons] at this; omega
      have hc63 : (c : Int) ≤ 9223372036854775807 := by have := hvx.len.2; simp only [maxLen] at this; omega
      have hb1s := hb1.size
      have hvW := hvx.alloc (.cells #[.bool x.l, .string (bs x.b), .slice A (ks.length + 1) c] 49)
      obtain ⟨g, o, A', c', rfl, hgf, hvk, d0, d1, d2⟩ := hvx.at_ (i := 0) (k := k0) (by rw [hks]; rfl)
      rw [Nat.zero_mul, Nat.add_zero] at d0 d1 d2
      have f0 := ca d0 (.cells #[.bool x.l, .string (bs x.b), .slice (some ⟨g, o, none⟩) (ks.length + 1) c] 49)
      have f1 := ca d1 (.cells #[.bool x.l, .string (bs x.b), .slice (some ⟨g, o, none⟩) (ks.length + 1) c] 49)
      have f2 := ca d2 (.cells #[.bool x.l, .string (bs x.b), .slice (some ⟨g, o, none⟩) (ks.length + 1) c] 49)
      have hne : (((ks.length : Int) + 1) == 0) = false := by rw [beq_eq_false_iff_ne]; omega
      have hw1 : Below w.heap.size w (w1.alloc (.cells #[.bool x.l, .string (bs x.b), .slice (some ⟨g, o, none⟩) (ks.length + 1) c] 49)) := hb1.alloc (by omega) _
      have hva := Value_any k0 A' c'
      have hvno : (valP k0).2 = 0 ∨ (valP k0).2 = 4 := by unfold valP; split <;> simp
      have Hvx := Lib.hid hvx
      clear hks
      generalize hval : valP k0 = vk at hva hvno
      obtain ⟨kv, kno⟩ := vk
      simp only [] at hva hvno
      obtain ⟨ki, hki⟩ : ∃ ki : Int, ki = kv := ⟨_, rfl⟩
      rw [← hki] at hva
      have Hval := Lib.hid (And.intro hval hki)
      clear hval hki
      rcases hvno with rfl | rfl
      · go_wp2_with fail
        refine (hva _).mono ?_
        rintro e w2 ⟨rfl, hb2⟩
        have hb2s := hb2.size
        simp at hb2s
        have hw2 := hw1.trans (hb2.mono (by simp; omega))
        have hw2s : w.heap.size ≤ w2.heap.size := by omega
        obtain ⟨q1, q2⟩ := bcell hb2
        have y0 : w2.cell? ⟨w1.heap.size, 0, none⟩ = some (.bool x.l) := by rw [q1 _ _ (by simp)]; simp
        have y1 : w2.cell? ⟨w1.heap.size, 1, none⟩ = some (.string (bs x.b)) := by rw [q1 _ _ (by simp)]; simp
        have y2 : w2.cell? ⟨w1.heap.size, 2, none⟩ = some (.slice (some ⟨g, o, none⟩) (ks.length + 1) c) := by rw [q1 _ _ (by simp)]; simp
        have hb2' := Lib.hid hb2
        clear q1 q2 d0 d1 d2 f0 f1 f2 hva
        by_cases hc1 : c = 1
        · subst hc1
          obtain rfl : ks = [] := List.eq_nil_of_length_eq_zero (by simp at hcl; omega)
          go_wp2_with fail
          refine wp_loop_rounds 1 ?_
          rw [rounds_succ]
          go_wp2_with fail
          refine (right_any ki [] none 0 w2 StrV.nil).mono ?_
          cases hrr : rightP ki [] with
          | true =>
            rintro e w3 ⟨rfl, hb3⟩
            have HR := Lib.hid hrr
            clear hrr
            go_wp2_with fail
            go_ret3
            exact ⟨hw2.trans (hb3.mono (by omega)), kv, [], none, 0, 0, by rw [Hval.out.2]; rfl, StrV.nil, by
              have h := openSaid_yes HS.out Hks.out (by rw [Hval.out.1]) (by simp) (by rw [Hval.out.1]; have := HR.out; rw [Hval.out.2] at this; exact this)
              rw [Hval.out.1] at h; exact h⟩
          | false =>
            rintro e w3 ⟨rfl, hb3⟩
            have Hn := Lib.hid (openSaid_no HS.out (.inr (.inr ⟨k0, [], Hks.out, .inr (.inr (by rw [Hval.out.1]; have := hrr; rw [Hval.out.2] at this; exact this))⟩)))
            clear hrr
            go_wp2_with (go_at_call 25; refine (open_no _).mono ?_; rintro e w' ⟨rfl, rfl⟩)
            go_ret3
            exact openPost_no (hw2.trans (hb3.mono (by omega))) Hn.out
        · go_wp2_with fail
          go_loopw [9, 49] (fun v a wr => ∃ (i : Nat) (xs : List Value), a = .int .i64 i ∧ i ≤ ks.length ∧ wr.ownsRow w2.heap.size 9 1 v i xs ∧ RepN Nobody wr 1 (strsD ((ks.take i).map Item.b)) xs ∧ Hid (NoList (ks.take i)) ∧ Below w2.heap.size w2 wr)
            (fun _ a _ => ks.length - (intOf a).toNat)
          case atStart => exact ⟨0, [], rfl, Nat.zero_le _, World.ownsRow_nil _ _ _ _, .nil, (fun k h => by simp at h), Below.refl _ _⟩
          case round =>
            obtain ⟨i, xs, rfl, hi, hown, hr, Hl, hb⟩ := hrel
            by_cases hlt : i < ks.length
            · have hlt' : (i : Int) < ks.length := by omega
              obtain ⟨y, hy⟩ := getElem_ex hlt
              have hbs := hb.size
              have hvr := (Hvx.out.alloc (.cells #[.bool x.l, .string (bs x.b), .slice (some ⟨g, o, none⟩) (ks.length + 1) c] 49)).keep (hb2.trans (hb.mono (by simp; omega)))
              obtain ⟨g', o', A2, c2, hA, _, hvy, d0, d1, d2⟩ := hvr.at_ (i := i + 1) (k := y) (by rw [Hks.out]; exact hy)
              obtain ⟨rfl, rfl⟩ : g' = g ∧ o' = o := by injection hA with hA; injection hA with h1 h2; exact ⟨h1.symm, h2.symm⟩
              clear hA
              rw [show o' + (i + 1) * 3 = o' + 3 + i * 3 by omega] at d0 d1 d2
              have hww : Below w.heap.size w wr := hw2.trans (hb.mono (by omega))
              obtain ⟨A1, c1, rfl⟩ := own_form hown
              have Hy := Lib.hid hy
              cases hyl : y.l with
              | true =>
                have Hn := Lib.hid (openSaid_no HS.out (.inr (.inr ⟨k0, ks, Hks.out, .inr (.inl ⟨y, List.mem_of_getElem? hy, hyl⟩)⟩)))
                rw [hyl] at d0
                clear hyl hy hlt
                go_wp2_with (go_at_call 25; refine (open_no _).mono ?_; rintro e w' ⟨rfl, rfl⟩)
                go_ret3
                exact openPost_no (hww.alloc (by omega) _) Hn.out
              | false =>
                have Hyl := Lib.hid hyl
                rw [hyl] at d0
                have hVb : Below wr.heap.size wr ((wr.alloc (.cells #[.bool false, .string (bs y.b), .slice A2 y.ks.length c2] 49)).alloc (.cells #[.string (bs y.b)] 9)) := ((Below.refl _ _).alloc (Nat.le_refl _) _).alloc (by simp) _
                have hownV := own_keep hown hVb
                have hVs := hVb.size
                have HVb := Lib.hid hVb
                have hi63 : (ks.length : Int) + 1 ≤ 100000 := by
                  have := dec_kids HS.out
                  rw [Hks.out] at this
                  simp only [List.length_cons] at this
                  omega
                clear hyl hy hlt hVb
                go_wp2_with (at_builtin; refine wpl_append elStr rfl rfl w2.heap.size hownV rfl (m := 1) [.string (bs y.b)] rfl rfl ?_ ?_ ?_ ?_ ?_ ?_; exact (lies_new' _ _ (by simp) #[.string (bs y.b)] _); (intro u hu; rw [List.mem_singleton] at hu; subst hu; rfl); (simp only [maxLen]; omega); omega; omega; intro v1 w4 hown1 hg1 hat1)
                refine ⟨⟨i + 1, xs ++ [.string (bs y.b)], by go_num, by omega, hown1, ?_, ?_, ?_⟩, ?_⟩
                · rw [take_snoc Hy.out, List.map_append]
                  show RepN Nobody w4 1 (List.map strD (List.map Item.b (List.take i ks) ++ [y.b])) _
                  rw [List.map_append]
                  exact Nobody.mono (RepN.append (.cons (sz := 1) (cs := [_]) (.v (.string (bs y.b)) rfl) rfl .nil) hr)
                · intro k hk
                  rw [take_snoc Hy.out] at hk
                  rcases List.mem_append.1 hk with hk | hk
                  · exact Hl.out k hk
                  · rw [List.mem_singleton] at hk; subst hk; exact Hyl.out
                · exact below_app (hb.trans (HVb.out.mono hb.size)) hownV hg1 (by omega) (Nat.le_refl _)
                · simp only [intOf]
                  omega
            · obtain rfl : i = ks.length := by omega
              have hlt' : ¬ (ks.length : Int) < ks.length := by omega
              clear hlt
              rw [List.take_length] at hr Hl
              obtain ⟨A1, c1, rfl⟩ := own_form hown
              have hsv : StrV (Fresh w.heap.size) wr (ks.map Item.b) A1 c1 := by
                have h := rep_own (S := Fresh w.heap.size) hown (Nobody.mono hr) (by simp [strsD]) (fun g hg _ => by show w.heap.size ≤ g; omega)
                show Rep _ _ _ _
                rw [List.length_map]; exact h
              have hww : Below w.heap.size w wr := hw2.trans (hb.mono (by omega))
              have hbs := hb.size
              have hrt := right_any ki (ks.map Item.b) A1 c1 wr hsv.any
              rw [List.length_map] at hrt
              go_wp2_with fail
              refine hrt.mono ?_
              cases hrr : rightP ki (ks.map Item.b) with
              | true =>
                rintro e w3 ⟨rfl, hb3⟩
                have HR := Lib.hid hrr
                clear hrr hrt
                go_wp2_with fail
                go_ret3
                exact ⟨hww.trans (hb3.mono (by omega)), kv, ks.map Item.b, A1, c1, 0, by rw [Hval.out.2, List.length_map]; rfl, hsv.keep hb3, by
                  have h := openSaid_yes HS.out Hks.out (by rw [Hval.out.1]) Hl.out (by rw [Hval.out.1]; have := HR.out; rw [Hval.out.2] at this; exact this)
                  rw [Hval.out.1] at h; exact h⟩
              | false =>
                rintro e w3 ⟨rfl, hb3⟩
                have Hn := Lib.hid (openSaid_no HS.out (.inr (.inr ⟨k0, ks, Hks.out, .inr (.inr (by rw [Hval.out.1]; have := hrr; rw [Hval.out.2] at this; exact this))⟩)))
                clear hrr hrt
                go_wp2_with (go_at_call 25; refine (open_no _).mono ?_; rintro e w' ⟨rfl, rfl⟩)
                go_ret3
                exact openPost_no (hww.trans (hb3.mono (by omega))) Hn.out
      · have Hn := Lib.hid (openSaid_no HS.out (.inr (.inr ⟨k0, ks, Hks.out, .inl (by rw [Hval.out.1]; simp)⟩)))
        go_wp2_with fail
        refine (hva _).mono ?_
        rintro e w2 ⟨rfl, hb2⟩
        have hw2 := hw1.trans (hb2.mono (by simp; omega))
        clear d0 d1 d2 f0 f1 f2 hva
        go_wp2_with (go_at_call 25; refine (open_no _).mono ?_; rintro e w' ⟨rfl, rfl⟩)
        go_ret3
        exact openPost_no hw2 Hn.out
  · have Hn := Lib.hid (openSaid_no HS.out (.inl hno))
    have : no = 2 ∨ no = 4 ∨ no = 5 := by
      rcases hsaid with ⟨_, h, _⟩ | ⟨_, h, _⟩ | ⟨_, h, _⟩ | ⟨_, h, _⟩ <;> omega
    clear hsaid hno
    rcases this with rfl | rfl | rfl
    · go_wp2_with (go_at_call 25; refine (open_no _).mono ?_; rintro e w' ⟨rfl, rfl⟩)
      go_ret3
      exact openPost_no (hb1.alloc (by have := hb1.size; omega) _) Hn.out
    · go_wp2_with (go_at_call 25; refine (open_no _).mono ?_; rintro e w' ⟨rfl, rfl⟩)
      go_ret3
      exact openPost_no (hb1.alloc (by have := hb1.size; omega) _) Hn.out
    · go_wp2_with (go_at_call 25; refine (open_no _).mono ?_; rintro e w' ⟨rfl, rfl⟩)
      go_ret3
      exact openPost_no (hb1.alloc (by have := hb1.size; omega) _) Hn.out
end Go.Proofs.Ytggiicbjegmehaa
