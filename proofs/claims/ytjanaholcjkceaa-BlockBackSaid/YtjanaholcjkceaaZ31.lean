/- The walk of frame.Write. -/
import Derived.Test.YtjanaholcjkceaaZ30
namespace Go.Proofs.Ytjanaholcjkceaa
set_option linter.unusedVariables false
set_option linter.unusedSimpArgs false
open Go.RowKit
/-- what frame.Write answers -/
def fwP (ks : List Kd) (fs : List Fd) : Bytes × Nat := if fitsP ks fs = true then encR (recF ks fs) else ([], 1)
def noF : Fd := ⟨0, [], []⟩
def noK : Kd := ⟨0, false⟩
theorem fits_range : ∀ (ks : List Kd) (fs : List Fd), (decide (fs.length = ks.length) && (List.range fs.length).all fun i => fitF (ks.getD i noK) (fs.getD i noF)) = fitsP ks fs
  | [], [] => rfl
  | [], f :: fs => by simp [fitsP]
  | k :: ks, [] => by simp [fitsP]
  | k :: ks, f :: fs => by
    rw [fitsP, ← fits_range ks fs]
    have h : (List.range (f :: fs).length).all (fun i => fitF ((k :: ks).getD i noK) ((f :: fs).getD i noF)) = (fitF k f && (List.range fs.length).all fun i => fitF (ks.getD i noK) (fs.getD i noF)) := by
      rw [List.length_cons, List.range_succ_eq_map, List.all_cons, List.all_map]
      rfl
    rw [h]
    have h2 : decide ((f :: fs).length = (k :: ks).length) = decide (fs.length = ks.length) := by simp
    rw [h2]
    cases decide (fs.length = ks.length) <;> cases fitF k f <;> rfl
theorem items_range : ∀ (ks : List Kd) (fs : List Fd), fs.length = ks.length → (List.range fs.length).map (fun i => itemF (ks.getD i noK) (fs.getD i noF)) = itemsF ks fs
  | [], [], _ => rfl
  | [], f :: fs, h => by simp at h
  | k :: ks, [], h => by simp at h
  | k :: ks, f :: fs, h => by
    rw [itemsF, ← items_range ks fs (by simpa using h), List.length_cons, List.range_succ_eq_map, List.map_cons, List.map_map]
    rfl
theorem fits_total : ∀ (ks : List Kd) (fs : List Fd), fitsP ks fs = true → totF fs ≤ 21 * (formP ks).length
  | [], [], _ => by simp [totF, sumL]
  | [], f :: fs, h => by simp [fitsP] at h
  | k :: ks, [], h => by simp [fitsP] at h
  | k :: ks, f :: fs, h => by
    simp only [fitsP, Bool.and_eq_true] at h
    have ih := fits_total ks fs h.2
    have h1 : 1 + f.l.length ≤ 21 * k.txt.length := by
      have hf := h.1
      unfold fitF at hf
      unfold Kd.txt
      cases hs : k.star with
      | true => rw [hs] at hf; simp at hf; simp; omega
      | false => rw [hs] at hf; simp at hf; simp [hf.1]
    simp only [totF, sumL, formP, List.length_cons, List.length_append] at ih ⊢
    omega
theorem small_at {fs : List Fd} (h : smallF fs) {i : Nat} {f : Fd} (hi : fs[i]? = some f) : f.n < 18446744073709551616 ∧ ∀ x ∈ f.l, x.1 < 18446744073709551616 := h f (List.mem_of_getElem? hi)
set_option maxRecDepth 100000 in
set_option maxHeartbeats 4000000 in
theorem fWrite_any (ks : List Kd) (hf : OkForm ks) (hl : (formP ks).length ≤ 40) (hk : ks.length ≤ 20) (fs : List Fd) (hn : smallF fs) (hfl : fs.length ≤ 1000) (hll : ∀ f ∈ fs, f.l.length ≤ 100000) (A : Option Addr) (c : Nat) (w : World) (hv : FdsV Any w fs A c) :
    Calls Try.prog 27 #[.string (bs (formP ks)), .slice A fs.length c] w fun e w' => e = .returned (.tuple #[.string (bs (fwP ks fs).1), .int .i64 (fwP ks fs).2]) ∧ Below w.heap.size w w' := by
  have hK := kinds_any ks hf hl w
  have hno : ¬ totF fs ≤ 1000 → fwP ks fs = ([], 1) := fun h => by
    unfold fwP
    rw [if_neg]
    intro h1
    have := fits_total ks fs h1
    omega
  have htop : ∀ (Ak : Option Addr) (ck : Nat) (W : World), KindsV Any W ks Ak ck → Below w.heap.size w W → Calls Try.prog 46 #[.agg #[.int .u8 40, .slice Ak ks.length ck], .slice A fs.length c] W (FitPost (recF ks fs) (fitsP ks fs) W) := fun Ak ck W hkv hb => by
    have := items_top fs (fun i => itemF (ks.getD i noK) (fs.getD i noF)) (fun i => fitF (ks.getD i noK) (fs.getD i noF)) ks (fun i => ks.getD i noK) (fun i k hi => getD_some hi) (by omega) Ak ck A c W hkv (Rep.keep hv hb)
      (fun i f s A1 n1 c1 A2 c2 W' hi hks hr hlv => by
        obtain ⟨k, hki⟩ := Option.isSome_iff_exists.1 hks
        rw [getD_some hi]
        rw [getD_some hki] at hr ⊢
        exact fitem_any k (hf k (List.mem_of_getElem? hki)) f (small_at hn hi).1 (small_at hn hi).2 (hll f (List.mem_of_getElem? hi)) s A1 n1 c1 A2 c2 W' hr hlv)
    rw [fits_range] at this
    refine this.mono fun e w' ⟨y, Ay, cy, h1, h2, h3, h4⟩ => ⟨y, Ay, cy, h1, h2, fun h => ?_, h4⟩
    rw [h3 h]
    unfold recF
    rw [items_range ks fs (fitsP_len h).symm]
  have hfine := fun (h : fitsP ks fs = true) => rec_fine h hn hk
  obtain ⟨FW, hFW⟩ : ∃ FW, fwP ks fs = FW := ⟨_, rfl⟩
  have hyes : fitsP ks fs = true → encR (recF ks fs) = FW := fun h => by rw [← hFW]; unfold fwP; rw [if_pos h]
  have hnot : fitsP ks fs = false → FW = ([], 1) := fun h => by rw [← hFW]; unfold fwP; rw [if_neg (by rw [h]; decide)]
  rw [hFW] at hno ⊢
  obtain ⟨F, hF⟩ : ∃ F, formP ks = F := ⟨_, rfl⟩
  rw [hF] at hK ⊢
  have HK := Lib.hid hK
  have HT := Lib.hid htop
  have HV := Lib.hid hv
  have HNO := Lib.hid hno
  have HFINE := Lib.hid hfine
  have HYES := Lib.hid hyes
  have HNOT := Lib.hid hnot
  clear hK hno htop hfine hFW hF hv hf hn hll hl hk hyes hnot
  go_enter Try.func27, Try.ntmps27
  go_wp2_with fail
  refine HK.out.mono ?_
  clear HK
  rintro e w1 ⟨Ak, ck, rfl, hkv1, hb1⟩
  have HKV := Lib.hid hkv1
  have HB1 := Lib.hid hb1
  clear hkv1
  go_wp2_with fail
  refine (count_any fs hfl A c w1 (Rep.keep HV.out hb1)).mono ?_
  clear hb1
  rintro e w2 ⟨b2, rfl, hb2c, hb2⟩
  have HBC := Lib.hid hb2c
  have HB2 := Lib.hid (below_call HB1.out HB1.out.size hb2)
  have HKV2 := Lib.hid (Rep.keep HKV.out hb2)
  clear hb2c hb2 HKV HB1
  cases b2 with
  | false =>
    have hno : FW = ([], 1) := HNO.out (fun h => by have := HBC.out h; cases this)
    have HN := Lib.hid hno
    clear hno
    go_wp2_with fail
    go_ret2
    rw [HN.out]
    exact ⟨rfl, HB2.out⟩
  | true =>
    go_wp2_with fail
    refine (HT.out Ak ck w2 (Rep.any HKV2.out) HB2.out).mono ?_
    rintro e w3 ⟨y, Ay, cy, rfl, hy, hyx, hb3⟩
    have HB3 := Lib.hid (below_call HB2.out HB2.out.size hb3)
    have HY := Lib.hid hy
    have HYX := Lib.hid hyx
    obtain ⟨OK, hOK⟩ : ∃ OK, fitsP ks fs = OK := ⟨_, rfl⟩
    rw [hOK] at HYX HFINE HYES HNOT ⊢
    clear hb3 hy hyx HKV2 HB2 hOK HT HV
    cases OK with
    | false =>
      go_wp2_with fail
      go_ret2
      rw [HNOT.out (by simp)]
      exact ⟨rfl, HB3.out.alloc HB3.out.size _⟩
    | true =>
      have hyr := HYX.out (by simp)
      have hf := HFINE.out (by simp)
      rw [← hyr] at hf
      have hE := Encode_any y Ay cy (w3.alloc (.cells #[.bool y.l, .string (bs y.b), .slice Ay y.ks.length cy] 45)) (by omega) (HY.out.alloc _).any
      rw [show encR y = FW from by rw [hyr]; exact HYES.out (by simp)] at hE
      have HE := Lib.hid hE
      clear hE hyr hf HYX
      go_wp2_with fail
      refine HE.out.mono ?_
      rintro e w4 ⟨rfl, hb4⟩
      go_wp2_with fail
      go_ret2
      exact ⟨rfl, below_call (HB3.out.alloc HB3.out.size _) (by have := HB3.out.size; simp; omega) hb4⟩
end Go.Proofs.Ytjanaholcjkceaa
/- Rows of texts in memory. -/
namespace Go.Proofs.Ytjanaholcjkceaa
set_option linter.unusedVariables false
set_option linter.unusedSimpArgs false
open Go.RowKit
def strD (p : Bytes) : D := .v (.string (bs p))
def strsD (ps : List Bytes) : List D := ps.map strD
/-- a row of texts as it lies in memory -/
def StrV (S : Nat → Prop) (w : World) (ps : List Bytes) (A : Option Addr) (c : Nat) : Prop := Rep S w (.sl 1 (strsD ps)) [.slice A ps.length c]
section
variable {S S' : Nat → Prop} {w w' : World} {ps : List Bytes} {A : Option Addr} {c : Nat}
theorem StrV.keep (h : StrV S w ps A c) (hb : Below w.heap.size w w') : StrV S w' ps A c := Rep.keep h hb
theorem StrV.any (h : StrV S w ps A c) : StrV Any w ps A c := Rep.any h
theorem StrV.at_ {i : Nat} {p : Bytes} (h : StrV S w ps A c) (hi : ps[i]? = some p) : ∃ g o, A = some ⟨g, o, none⟩ ∧ S g ∧ w.cell? ⟨g, o + i, none⟩ = some (.string (bs p)) := by
  obtain ⟨g, o, ci, hA, hs, hr, _, hc⟩ := h.slice_at (i := i) (d := strD p) (by omega) (by simp [strsD, hi])
  have := hr.v_form
  subst this
  exact ⟨g, o, hA, hs, by simpa using hc 0 _ rfl⟩
end
theorem elStr : ElemOk Try.prog 23 9 (.string (bs [])) 1 16 := ⟨Try.underlying23, by kernel_rfl, rfl, by omega⟩
end Go.Proofs.Ytjanaholcjkceaa
