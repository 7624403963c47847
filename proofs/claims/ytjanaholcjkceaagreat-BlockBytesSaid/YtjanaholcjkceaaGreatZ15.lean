/- The walk of trie.Put. -/
import Derived.Test.YtjanaholcjkceaaGreatZ14
import Derived.Test.YtjanaholcjkceaaGreatZ05
import Derived.Lib.Bytealg
import Derived.Shelf.Small.Strs
import Derived.Lib.AppendZerosOnto
import Derived.Lib.Overlaps
import Derived.Laws.CopyRow
import Derived.Laws.NewBlocks
import Derived.Laws.ResultCell
namespace Go.Proofs.YtjanaholcjkceaaGreat
set_option linter.unusedVariables false
set_option linter.unusedSimpArgs false
open Go.RowKit
theorem results_row_tmp {P:Program} {fn:Func} {p u:Tmp} {ty:TypeId} (h:fn.results=#[.cell p ty,.tmp u]) (tmps:Array Value) (w:World) (g:Nat) (t:TypeId) (cs:Array Value) (fr:Nat×Nat) (d:TypeDesc)
  (hp:tmps.getD p undef=.pointer (some ⟨g,0,none⟩)) (hg:w.heap[g]? = some (.cells cs t fr)) (v:Value) (hv:tmps.getD u undef=v)
  (hu:P.underlying ty=some d) (hd:(match d with | .struct _ | .array _ _=>true | _=>false)=true) (hi:(P.info? ty).map (·.size)=some cs.size) :
  (results fn tmps).run P w=.ok (.tuple #[.agg cs,v]) w:=by
 rw [results_cell_tmp h,hp,hv]
 simp [asAddr,Sem.run_pure,run_loadVar_row w g t ty cs fr d hg hu hd hi]
/- Sums in memory; the walk of sums.told. -/
theorem infoI:(Tryz.prog.info? 49).map (·.size)=some 3:=by kernel_rfl
end Go.Proofs.YtjanaholcjkceaaGreat
