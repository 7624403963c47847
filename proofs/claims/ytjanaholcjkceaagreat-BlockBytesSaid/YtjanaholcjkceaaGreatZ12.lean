/- Nodes and pairs in memory; the walks of trie.fresh, less, lay. -/
import Derived.Test.YtjanaholcjkceaaGreatZ10
import Derived.Test.YtjanaholcjkceaaGreatZ05
import Derived.Outline
import Derived.Deep.QuietTactic
import Derived.Deep.DeepMust
import Derived.Test.YtjanaholcjkceaaGreatZ02
import Derived.Test.YtjanaholcjkceaaGreatZ11
import Derived.Deep.RegionHeld3
namespace Go.Proofs.YtjanaholcjkceaaGreat
set_option linter.unusedVariables false
set_option linter.unusedSimpArgs false
open Go.RowKit
/-- an aggregate is loaded, wherever it lies -/
theorem run_loadVar_at {P:Program} (w:World) (g o:Nat) (ty:TypeId) (cs:List Value) (d:TypeDesc) (hc:∀ j u,cs[j]? = some u→w.cell? ⟨g,o+j,none⟩=some u)
  (hu:P.underlying ty=some d) (hd:(match d with | .struct _ | .array _ _=>true | _=>false)=true) (hi:(P.info? ty).map (·.size)=some cs.length) :
  (loadVar ty ⟨g,o,none⟩).run P w=.ok (.agg cs.toArray) w:=by
 have hl:(loadCells ⟨g,o,none⟩ cs.length).run P w=.ok cs.toArray w :=
  run_loadCells_list (P:=P) w ⟨g,o,none⟩ cs (fun j v hv=>by rw [add_lit];exact hc j v hv)
 cases hq:P.info? ty with
 | none=>simp [hq] at hi
 | some i =>
  have hs:i.size=cs.length:=by simpa [hq] using hi
  have hagg:(isAgg ty).run P w=.ok true w:=by
   unfold isAgg
   rw [Sem.run_bind,run_underlying hu w]
   cases d <;> simp_all
  simp [loadVar,Sem.run_bind,hagg,sizeOf,typeInfo,hq,hs,hl]
end Go.Proofs.YtjanaholcjkceaaGreat
