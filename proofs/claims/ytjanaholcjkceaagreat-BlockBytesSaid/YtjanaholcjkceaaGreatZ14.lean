/- Nodes are equal to themselves; the walks of slices.Equal at a node, trie.same, pairs. -/
import Derived.Test.YtjanaholcjkceaaGreatZ13
import Derived.Test.YtjanaholcjkceaaGreatZ05
import Derived.Deep.DeepMust
import Derived.ChangeKeysEq
namespace Go.Proofs.YtjanaholcjkceaaGreat
set_option linter.unusedVariables false
set_option linter.unusedSimpArgs false
open Go.RowKit
section
variable {P:Program}
/-- a load of an aggregate, wherever it lies, under an S that says what it holds -/
theorem yieldsIf_load_at {ops:Array Oper} {S:World→Prop} {op:Oper} {a:Act} (hw:Region.wanted op (yielded ops a.tmps)=true) {ty:TypeId} {x:Operand} (ho:op.op=.load ty x)
  {g o:Nat} (hx:a.eval x=.pointer (some ⟨g,o,none⟩)) (cs:List Value) {d:TypeDesc} (hS:∀ w,S w→∀ j u,cs[j]? = some u→w.cell? ⟨g,o+j,none⟩=some u)
  (hu:P.underlying ty=some d) (hd:(match d with | .struct _ | .array _ _=>true | _=>false)=true) (hi:(P.info? ty).map (·.size)=some cs.length):YieldsIf P ops S op (.agg cs.toArray) a :=
 .inl ⟨hw,fun w hw'=>by
  unfold execOp
  simp only [ho,hx,Instr.loadAt,Instr.sureAddr,Sem.run_bind,Sem.run_pure,Result.andThen_ok,run_loadVar_at w g o ty cs d (hS w hw') hu hd hi]⟩
end
end Go.Proofs.YtjanaholcjkceaaGreat
