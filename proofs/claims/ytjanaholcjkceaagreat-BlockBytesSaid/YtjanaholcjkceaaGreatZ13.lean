/- The arena: a row of nodes that grows behind a pointer; the walk of lay. -/
import Derived.Test.YtjanaholcjkceaaGreatZ12
import Derived.Great.BuildSlice
namespace Go.Proofs.YtjanaholcjkceaaGreat
set_option linter.unusedVariables false
set_option linter.unusedSimpArgs false
open Go.RowKit
section
variable {P:Program}
/-- a load of a whole block, under an S that says what it holds -/
theorem yieldsIf_load_row {ops:Array Oper} {S:World→Prop} {op:Oper} {a:Act} (hw:Region.wanted op (yielded ops a.tmps)=true) {ty:TypeId} {x:Operand} (ho:op.op=.load ty x)
  {b:Nat} (hx:a.eval x=.pointer (some ⟨b,0,none⟩)) {t:TypeId} {cs:Array Value} {fr:Nat×Nat} {d:TypeDesc} (hS:∀ w,S w→w.heap[b]? = some (.cells cs t fr))
  (hu:P.underlying ty=some d) (hd:(match d with | .struct _ | .array _ _=>true | _=>false)=true) (hi:(P.info? ty).map (·.size)=some cs.size):YieldsIf P ops S op (.agg cs) a :=
 .inl ⟨hw,fun w hw'=>by
  unfold execOp
  simp only [ho,hx,Instr.loadAt,Instr.sureAddr,Sem.run_bind,Sem.run_pure,Result.andThen_ok,run_loadVar_row w b t ty cs fr d (hS w hw') hu hd hi]⟩
theorem yieldsIf_load_cell {ops:Array Oper} {S:World→Prop} {op:Oper} {a:Act} (hw:Region.wanted op (yielded ops a.tmps)=true) {ty:TypeId} {x:Operand} (ho:op.op=.load ty x)
  {b o:Nat} (hx:a.eval x=.pointer (some ⟨b,o,none⟩)) {v:Value} {d:TypeDesc} (hS:∀ w,S w→w.cell? ⟨b,o,none⟩=some v)
  (hu:P.underlying ty=some d) (hd:(match d with | .struct _ | .array _ _=>false | _=>true)=true):YieldsIf P ops S op v a :=
 .inl ⟨hw,fun w hw'=>by
  have hagg:(isAgg ty).run P w=.ok false w:=by
   unfold isAgg
   rw [Sem.run_bind,run_underlying hu w]
   cases d <;> simp_all
  have hc:=hS w hw'
  unfold execOp
  simp only [ho,hx,Instr.loadAt,Instr.sureAddr,loadVar,Sem.run_bind,Sem.run_pure,Result.andThen_ok,hagg,Bool.false_eq_true,if_false]
  have:=run_load (P:=P) w ⟨b,o,none⟩
  rw [hc] at this
  first
   | (rw [this];rfl)
   | (simp only [this];rfl)⟩
end
theorem own_setOther {w:World} {base:Nat} {e:TypeId} {size:Nat} {v:Value} {n:Nat} {xs:List Value} (h:w.ownsRow base e size v n xs) {g i:Nat} (hg:g < base) (u:Value):(w.setCell ⟨g,i,none⟩ u).ownsRow base e size v n xs :=
 h.kept (row:=some g) ⟨rfl,rfl,rfl,by simp,fun k _ hk=>heap_set_ne (fun e=>hk (by rw [e])) u⟩ (.inr (fun e=>by have:=(h.lt g e).1;omega))
end Go.Proofs.YtjanaholcjkceaaGreat
