/- ecclesialaw25.SyncMails: for every kind, every row of texts and every text the law returns true, and its arguments read behind the call as they read before. No condition. -/
import Derived.Test.YtggiicbjegmehaaSyncArgs
import Derived.Test.YtggiicbjegmehaaRows
namespace Go.Proofs.Ytggiicbjegmehaa
set_option linter.unusedVariables false
set_option linter.unusedSimpArgs false
open Go.ChangeShapes Go.WideShapes Go.ChangeAt Go.RowKit
open Go.ChangeMaps (open_string shut_string)

set_option maxRecDepth 100000 in
theorem syncMails_walk {H : Type} {enc : TypeId × Value → H} {W : World} {base : Nat} {args : Array Value} {ds : List (DataW H)} {p : List MemPlace}
    (hval : ∀ (j : Nat) t v, #[22, 23, 9][j]? = some t → args[j]? = some v → Value.okWide Try.prog W .any base t v)
    (hA : DataW.TrodAll enc Try.prog W 0 (fun _ => true) true [22, 23, 9] args.toList ds p) :
    Calls Try.prog 3 args W fun e W' => e = .returned (.bool true) ∧ Below W.heap.size W W' := by
  obtain ⟨k, ps, A, c, s, d0, d1, d2, rfl, hk, hv, hs, hp, _⟩ := sync_args hval hA
  exact syncMails_any k hk ps A c s W hv hs hp

set_option maxRecDepth 100000 in
theorem syncMails_lifted (os : Os) (started : os.Started) (H : Type) (enc : TypeId × Value → H) :
    ReturnsInHanded {} Try.checked os 3 .any (Rows.syncMailsSpec.pre6 enc Try.prog Try.f3 Rows.syncMailsRow.domain false) (Rows.syncMailsSpec.post enc Try.prog Try.f3 false true false false) := by
  refine returnsInHanded_of_change (C := Try.checked) lawOwn started (by kernel_rfl) Try.func3
    (ChangeSpec.witness6 (enc := enc) (C := Try.checked) false ⟨#[], #[.int .u64 0, .slice none 0 0, .string ⟨#[]⟩], []⟩ 8 (by kernel_rfl) (by kernel_rfl) (by kernel_rfl) (by kernel_rfl)) ?_
  intro W base args ds gs before hval hW _ _
  refine law_contract (tb := 4) lawLaid (by kernel_rfl) (by kernel_rfl) Try.underlying4 rfl ?_ hW ?_
  · intro ds h
    match ds, h with
    | [d1, d2, d3], _ => rfl
  · intro p hA
    exact syncMails_walk hval hA

theorem syncMails_holds : Rows.SyncMailsSaid :=
  OpenClaim.holds_of_wide 3 Try.f3 rfl rfl rfl rfl rfl rfl rfl ⟨rfl, rfl, rfl, rfl, rfl⟩ rfl rfl rfl rfl rfl (by kernel_rfl) Try.func3 (by kernel_rfl)
    (of_decide_eq_true (by kernel_rfl)) (by unfold Func.isWrapper; rw [if_neg (of_decide_eq_false (by kernel_rfl))]; exact ⟨rfl, rfl⟩)
    (fun os started H enc _ => syncMails_lifted os started H enc)

#print axioms syncMails_holds
end Go.Proofs.Ytggiicbjegmehaa
