/- ecclesialaw25.SyncBack: for every kind, every row of texts and every text the law returns true, and its arguments read behind the call as they read before. Condition: all arguments together are of bulk at most 1048576 (the second form, SyncBackUptoSaid). -/
import Derived.Test.YtggiicbjegmehaaSyncArgs
import Derived.Test.YtggiicbjegmehaaSyncBackW
import Derived.Test.YtggiicbjegmehaaRows
namespace Go.Proofs.Ytggiicbjegmehaa
set_option linter.unusedVariables false
set_option linter.unusedSimpArgs false
open Go.ChangeShapes Go.WideShapes Go.ChangeAt Go.RowKit
open Go.ChangeMaps (open_string shut_string)

theorem bulk_strs {H : Type} (ps : List Bytes) : (ps.map List.length).sum ≤ Rows.uptoBulkAll (ps.map fun p => (DataW.lit (H := H) (.string p))) := by
  induction ps with
  | nil => simp [Rows.uptoBulkAll]
  | cons p ps ih => simp only [List.map_cons, List.sum_cons, Rows.uptoBulkAll, Rows.uptoBulk]; omega

set_option maxRecDepth 100000 in
theorem syncBack_walk {H : Type} {enc : TypeId × Value → H} {W : World} {base : Nat} {args : Array Value} {ds : List (DataW H)} {p : List MemPlace}
    (hval : ∀ (j : Nat) t v, #[22, 23, 9][j]? = some t → args[j]? = some v → Value.okWide Try.prog W .any base t v)
    (hA : DataW.TrodAll enc Try.prog W 0 (fun _ => true) true [22, 23, 9] args.toList ds p) (hk : Rows.uptoSmall H (ds ++ []) = true) :
    Calls Try.prog 4 args W fun e W' => e = .returned (.bool true) ∧ Below W.heap.size W W' := by
  have h := of_decide_eq_true hk
  clear hk
  obtain ⟨k, ps, A, c, s, d0, d1, d2, rfl, hk, hv, hs, hp, rfl, hd⟩ := sync_args hval hA
  refine syncBack_any k hk ps A c s W hv hs ?_
  rcases hd with ⟨rfl, _⟩ | ⟨sp, rfl⟩
  · simp
  · simp only [List.cons_append, List.nil_append, Rows.uptoBulkAll, Rows.uptoBulk] at h
    have := bulk_strs (H := H) ps
    omega

set_option maxRecDepth 100000 in
theorem syncBack_lifted (os : Os) (started : os.Started) (H : Type) (enc : TypeId × Value → H) (F : Stop.Interp) :
    ReturnsInHanded {} Try.checked os 4 .any ((Rows.OpenSpec.upto Rows.syncBackSpec).pre6 enc Try.prog Try.f4 Rows.syncBackUptoRow.domain false) (((Rows.OpenSpec.upto Rows.syncBackSpec).at F).post enc Try.prog Try.f4 false true false false) := by
  refine returnsInHanded_of_cond (C := Try.checked) (s := Rows.OpenSpec.upto Rows.syncBackSpec) (k := Rows.uptoSmall) rfl lawOwn started (by kernel_rfl) Try.func4
    (OpenSpec.witness (enc := enc) (C := Try.checked) (s := Rows.OpenSpec.upto Rows.syncBackSpec) (k := Rows.uptoSmall) rfl false ⟨#[], #[.int .u64 0, .slice none 0 0, .string ⟨#[]⟩], []⟩ 8 (by kernel_rfl) (by kernel_rfl) (by kernel_rfl)
      (x := ([.lit (.int .u64 0), .nil, .lit (.string [])], [], [])) (by kernel_rfl) rfl (by kernel_rfl)) ?_
  intro W base args ds gs before hval hW _ hk _
  obtain ⟨_, _, _, hV, _⟩ := id hW
  obtain ⟨rfl, _⟩ := trodVars_none hV
  refine law_contract (tb := 4) lawLaid (by kernel_rfl) (by kernel_rfl) Try.underlying4 rfl ?_ hW ?_
  · intro ds h
    match ds, h with
    | [d1, d2, d3], _ => rfl
  · intro p hA
    exact syncBack_walk hval hA hk

theorem syncBack_holds : Rows.SyncBackUptoSaid :=
  OpenClaim.holds_of_cond 4 Try.f4 rfl rfl rfl rfl rfl rfl rfl ⟨rfl, rfl, rfl, rfl, rfl⟩ rfl rfl rfl rfl rfl (by kernel_rfl) Try.func4 (by kernel_rfl)
    (of_decide_eq_true (by kernel_rfl)) (by unfold Func.isWrapper; rw [if_neg (of_decide_eq_false (by kernel_rfl))]; exact ⟨rfl, rfl⟩)
    (fun os started H enc _ F => syncBack_lifted os started H enc F)

#print axioms syncBack_holds
end Go.Proofs.Ytggiicbjegmehaa
