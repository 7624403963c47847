/- The arena: a row of nodes that grows behind a pointer; the walk of lay. -/
import Derived.Test.YteoednifdpdbnaaGreatZ14
import Derived.Great.BuildSlice
import Derived.Test.YteoednifdpdbnaaGreatZ02
import Derived.Deep.DeepMust
import Derived.ChangeKeysEq
namespace Go.Proofs.YteoednifdpdbnaaGreat
set_option linter.unusedVariables false
set_option linter.unusedSimpArgs false
open Go.RowKit
/-- apart from the arena and its row -/
def Apart (g:Nat) (v:Value):Nat→Prop:=fun k=>k≠g∧v.ownBlock≠some k
/-- from a world to a later one nothing but the arena has changed -/
structure ArnTo (g:Nat) (v:Value) (w w':World) (v':Value):Prop where
 os:w'.os=w.os
 tape:w'.tape=w.tape
 output:w'.output=w.output
 size:w.heap.size≤w'.heap.size
 block:∀ k,k < w.heap.size→Apart g v k→w'.heap[k]? = w.heap[k]?
 row:∀ k,v'.ownBlock=some k→v.ownBlock=some k∨w.heap.size≤k
theorem ArnTo.refl (g:Nat) (v:Value) (w:World):ArnTo g v w w v:=⟨rfl,rfl,rfl,Nat.le_refl _,fun _ _ _=>rfl,fun _ h=>.inl h⟩
theorem ArnTo.trans {g:Nat} {v v1 v2:Value} {w w1 w2:World} (h:ArnTo g v w w1 v1) (k:ArnTo g v1 w1 w2 v2):ArnTo g v w w2 v2:=by
 refine ⟨k.os.trans h.os,k.tape.trans h.tape,k.output.trans h.output,Nat.le_trans h.size k.size,fun b hb ha=>?_,fun b hb=>?_⟩
 ·refine (k.block b (Nat.lt_of_lt_of_le hb h.size) ⟨ha.1,fun e=>?_⟩).trans (h.block b hb ha)
  rcases h.row b e with h1 | h1
  ·exact ha.2 h1
  ·omega
 ·rcases k.row b hb with h1 | h1
  ·exact h.row b h1
  ·exact .inr (Nat.le_trans h.size h1)
theorem ArnTo.apart {g:Nat} {v v':Value} {w w':World} (h:ArnTo g v w w' v') {k:Nat} (hk:k < w.heap.size) (ha:Apart g v k):Apart g v' k :=
 ⟨ha.1,fun e=>by rcases h.row k e with h1 | h1;exact ha.2 h1;omega⟩
section
variable {P:Program}
/-- a load of a whole block, under an S that says what it holds -/
theorem qbq {ops:Array Oper} {S:World→Prop} {op:Oper} {a:Act} (hw:Region.wanted op (yielded ops a.tmps)=true) {ty:TypeId} {x:Operand} (ho:op.op=.load ty x)
  {b:Nat} (hx:a.eval x=.pointer (some ⟨b,0,none⟩)) {t:TypeId} {cs:Array Value} {fr:Nat×Nat} {d:TypeDesc} (hS:∀ w,S w→w.heap[b]? = some (.cells cs t fr))
  (hu:P.underlying ty=some d) (hd:(match d with | .struct _ | .array _ _=>true | _=>false)=true) (hi:(P.info? ty).map (·.size)=some cs.size):YieldsIf P ops S op (.agg cs) a :=
 .inl ⟨hw,fun w hw'=>by
  unfold execOp
  simp only [ho,hx,Instr.loadAt,Instr.sureAddr,Sem.run_bind,Sem.run_pure,Result.andThen_ok,run_loadVar_row w b t ty cs fr d (hS w hw') hu hd hi]⟩
theorem qag {ops:Array Oper} {S:World→Prop} {op:Oper} {a:Act} (hw:Region.wanted op (yielded ops a.tmps)=true) {ty:TypeId} {x:Operand} (ho:op.op=.load ty x)
  {b o:Nat} (hx:a.eval x=.pointer (some ⟨b,o,none⟩)) {v:Value} {d:TypeDesc} (hS:∀ w,S w→w.cell? ⟨b,o,none⟩=some v)
  (hu:P.underlying ty=some d) (hd:(match d with | .struct _ | .array _ _=>false | _=>true)=true):YieldsIf P ops S op v a :=
 .inl ⟨hw,fun w hw'=>by
  have hagg:(isAgg ty).run P w=.ok false w:=by
   unfold isAgg
   rw [Sem.run_bind,run_underlying hu w]
   cases d <;> simp_all
  have hc:=hS w hw'
  unfold execOp
  simp only [ho,hx,Instr.loadAt,Instr.sureAddr,loadVar,Sem.run_bind,Sem.run_pure,Result.andThen_ok,hagg,Bool.false_eq_true,if_false]
  have:=run_load (P:=P) w ⟨b,o,none⟩
  rw [hc] at this
  first
   | (rw [this];rfl)
   | (simp only [this];rfl)⟩
end
theorem qbf {w:World} {base:Nat} {e:TypeId} {size:Nat} {v:Value} {n:Nat} {xs:List Value} (h:w.ownsRow base e size v n xs) {g i:Nat} (hg:g < base) (u:Value):(w.setCell ⟨g,i,none⟩ u).ownsRow base e size v n xs :=
 h.kept (row:=some g) ⟨rfl,rfl,rfl,by simp,fun k _ hk=>qab (fun e=>hk (by rw [e])) u⟩ (.inr (fun e=>by have:=(h.lt g e).1;omega))
/- The walks of arena.build, its literal, and each. -/
theorem ArnTo.set {g:Nat} {v v':Value} {w w':World} (h:ArnTo g v w w' v') {G i:Nat} (hG:w.heap.size≤G) (u:Value):ArnTo g v w (w'.setCell ⟨G,i,none⟩ u) v' :=
 ⟨h.os,h.tape,h.output,by simpa using h.size,fun k hk ha=>(qab (by omega) u).trans (h.block k hk ha),h.row⟩
/- The walks of arena.build's literal and of each; arena.build. -/
theorem KVs.take {S:Nat→Prop} {w:World} {l:List KV} {A:Option Addr} {c:Nat} (h:KVs S w l A c) (n:Nat):KVs S w (l.take n) A c:=by
 refine ⟨?_,by have:=h.le;rw [List.length_take];omega,h.cap⟩
 rw [kvC_take]
 intro hne
 obtain ⟨g,o,hA,hs,hc⟩:=h.lies (fun e=>by rw [e] at hne;simp at hne)
 exact ⟨g,o,hA,hs,fun j u hj=>hc j u (by rw [List.getElem?_take] at hj;split at hj;exact hj;cases hj)⟩
theorem KVs.drop {S:Nat→Prop} {w:World} {l:List KV} {b o c:Nat} (h:KVs S w l (some ⟨b,o,none⟩) c) (n:Nat):KVs S w (l.drop n) (some ⟨b,o+n * 2,none⟩) (c - n):=by
 refine ⟨?_,by have:=h.le;rw [List.length_drop];omega,by have:=h.cap;omega⟩
 rw [kvC_drop]
 intro hne
 obtain ⟨g,o',hA,hs,hc⟩:=h.lies (fun e=>by rw [e] at hne;simp at hne)
 injection hA with hA;injection hA with h1 h2;subst h1;subst h2
 refine ⟨b,o+n * 2,rfl,hs,fun j u hj=>?_⟩
 rw [List.getElem?_drop] at hj
 have:=hc _ _ hj
 rwa [show o+(n * 2+j)=o+n * 2+j by omega] at this
/- The walk of trie.of. -/
/-- nodes in memory, in blocks of S -/
structure TNs (S:Nat→Prop) (w:World) (ns:List TN) (A:Option Addr) (c:Nat):Prop where
 lies:Lies S w A (nodesC ns)
 wide:Wide ns
 le:ns.length≤c
 cap:c≤maxLen
section
variable {S S':Nat→Prop} {w w':World} {ns:List TN} {A:Option Addr} {c:Nat}
theorem TNs.mono (h:TNs S w ns A c) (hb:∀ b,b < w.heap.size→S b→S' b∧w'.heap[b]? = w.heap[b]?):TNs S' w' ns A c:=⟨h.lies.mono hb,h.wide,h.le,h.cap⟩
theorem TNs.keep (h:TNs S w ns A c) (hb:Below w.heap.size w w'):TNs S w' ns A c:=h.mono fun b hl hs=>⟨hs,hb.block b hl⟩
theorem TNs.any (h:TNs S w ns A c):TNs Any w ns A c:=⟨h.lies.any,h.wide,h.le,h.cap⟩
theorem TNs.at_ (h:TNs S w ns A c) {i:Nat} {n:TN} (hi:ns[i]? = some n):∃ g o,A=some ⟨g,o,none⟩∧S g∧∀ j u,(nodeC n)[j]? = some u→w.cell? ⟨g,o+i * 19+j,none⟩=some u:=by
 have hn:=h.wide n (List.mem_of_getElem? hi)
 have h0:(nodesC ns)[i * 19+0]? = some (.int .i64 n.k):=qi2 h.wide hi 0 _ rfl
 obtain ⟨g,o,hA,hs,hc⟩:=h.lies (by intro e;rw [e] at h0;simp at h0)
 exact ⟨g,o,hA,hs,fun j u hj=>by rw [Nat.add_assoc];exact hc _ _ (qi2 h.wide hi j u hj)⟩
end
/- Nodes are equal to themselves; the walks of slices.Equal at a node, trie.same, pairs. -/
section
variable {P:Program}
/-- a load of an aggregate, wherever it lies, under an S that says what it holds -/
theorem qd0 {ops:Array Oper} {S:World→Prop} {op:Oper} {a:Act} (hw:Region.wanted op (yielded ops a.tmps)=true) {ty:TypeId} {x:Operand} (ho:op.op=.load ty x)
  {g o:Nat} (hx:a.eval x=.pointer (some ⟨g,o,none⟩)) (cs:List Value) {d:TypeDesc} (hS:∀ w,S w→∀ j u,cs[j]? = some u→w.cell? ⟨g,o+j,none⟩=some u)
  (hu:P.underlying ty=some d) (hd:(match d with | .struct _ | .array _ _=>true | _=>false)=true) (hi:(P.info? ty).map (·.size)=some cs.length):YieldsIf P ops S op (.agg cs.toArray) a :=
 .inl ⟨hw,fun w hw'=>by
  unfold execOp
  simp only [ho,hx,Instr.loadAt,Instr.sureAddr,Sem.run_bind,Sem.run_pure,Result.andThen_ok,qip w g o ty cs d (hS w hw') hu hd hi]⟩
end
end Go.Proofs.YteoednifdpdbnaaGreat
