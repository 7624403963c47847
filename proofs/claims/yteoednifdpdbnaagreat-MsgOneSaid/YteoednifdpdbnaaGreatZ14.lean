/- Nodes and pairs in memory; the walks of trie.fresh, less, lay. -/
import Derived.Test.YteoednifdpdbnaaGreatZ13
import Derived.Test.YteoednifdpdbnaaGreatZ02
import Derived.Outline
import Derived.Deep.QuietTactic
import Derived.Deep.DeepMust
import Derived.Test.YteoednifdpdbnaaGreatZ08
import Derived.Test.YteoednifdpdbnaaGreatZ04
import Derived.Deep.RegionHeld3
namespace Go.Proofs.YteoednifdpdbnaaGreat
set_option linter.unusedVariables false
set_option linter.unusedSimpArgs false
open Go.RowKit
/-- a node's cells -/
def nodeC (n:TN):List Value:=[.int .i64 n.k,.string (bs n.part),.string (bs n.value)] ++ n.kids.map fun i=>.int .i64 i
theorem qqk {n:TN} (h:n.kids.length=16):(nodeC n).length=19:=by simp [nodeC,h]
def nodesC (ns:List TN):List Value:=ns.flatMap nodeC
def Wide (ns:List TN):Prop:=∀ n∈ns,n.kids.length=16
theorem qi2 {ns:List TN} (h:Wide ns):∀ {i:Nat} {n:TN},ns[i]? = some n→∀ j u,(nodeC n)[j]? = some u→(nodesC ns)[i * 19+j]? = some u:=by
 induction ns with
 | nil=>intro i n hi;simp at hi
 | cons m ns ih =>
  intro i n hi j u hj
  have h1:=qqk (h m (by simp))
  cases i with
  | zero =>
   simp at hi;subst hi
   have hl:=(List.getElem?_eq_some_iff.1 hj).1
   simp only [nodesC,List.flatMap_cons]
   rw [List.getElem?_append_left (by omega),show 0 * 19+j=j by omega];exact hj
  | succ i =>
   have:=ih (fun m hm=>h m (by simp [hm])) (i:=i) (by simpa using hi) j u hj
   simp only [nodesC,List.flatMap_cons] at this ⊢
   rw [List.getElem?_append_right (by omega),show (i+1) * 19+j - (nodeC m).length=i * 19+j by omega]
   exact this
/-- an aggregate is loaded, wherever it lies -/
theorem qip {P:Program} (w:World) (g o:Nat) (ty:TypeId) (cs:List Value) (d:TypeDesc) (hc:∀ j u,cs[j]? = some u→w.cell? ⟨g,o+j,none⟩=some u)
  (hu:P.underlying ty=some d) (hd:(match d with | .struct _ | .array _ _=>true | _=>false)=true) (hi:(P.info? ty).map (·.size)=some cs.length) :
  (loadVar ty ⟨g,o,none⟩).run P w=.ok (.agg cs.toArray) w:=by
 have hl:(loadCells ⟨g,o,none⟩ cs.length).run P w=.ok cs.toArray w :=
  run_loadCells_list (P:=P) w ⟨g,o,none⟩ cs (fun j v hv=>by rw [qga];exact hc j v hv)
 cases hq:P.info? ty with
 | none=>simp [hq] at hi
 | some i =>
  have hs:i.size=cs.length:=by simpa [hq] using hi
  have hagg:(isAgg ty).run P w=.ok true w:=by
   unfold isAgg
   rw [Sem.run_bind,run_underlying hu w]
   cases d <;> simp_all
  simp [loadVar,Sem.run_bind,hagg,sizeOf,typeInfo,hq,hs,hl]
/-- pairs' cells -/
def kvC (l:List KV):List Value:=l.flatMap fun p=>[.string (bs p.1),.string (bs p.2)]
theorem kvC_get {l:List KV}:∀ {i:Nat} {p:KV},l[i]? = some p→(kvC l)[i * 2]? = some (.string (bs p.1))∧(kvC l)[i * 2+1]? = some (.string (bs p.2)):=by
 induction l with
 | nil=>intro i p hi;simp at hi
 | cons q l ih =>
  intro i p hi
  cases i with
  | zero=>simp at hi;subst hi;simp [kvC]
  | succ i =>
   have:=ih (i:=i) (by simpa using hi)
   simp only [kvC,List.flatMap_cons] at this ⊢
   rw [show (i+1) * 2=i * 2+2 by omega]
   simpa using this
theorem kvC_take (l:List KV) (n:Nat):kvC (l.take n)=(kvC l).take (n * 2):=by
 induction l generalizing n with
 | nil=>simp [kvC]
 | cons p l ih =>
  cases n with
  | zero=>simp [kvC]
  | succ n =>
   have:=ih n
   simp only [kvC,List.take_succ_cons,List.flatMap_cons] at this ⊢
   rw [this,show (n+1) * 2=n * 2+1+1 by omega]
   simp
theorem kvC_drop (l:List KV) (n:Nat):kvC (l.drop n)=(kvC l).drop (n * 2):=by
 induction l generalizing n with
 | nil=>simp [kvC]
 | cons p l ih =>
  cases n with
  | zero=>simp [kvC]
  | succ n =>
   have:=ih n
   simp only [kvC,List.drop_succ_cons,List.flatMap_cons] at this ⊢
   rw [this,show (n+1) * 2=n * 2+1+1 by omega]
   simp
/-- pairs in memory, in blocks of S -/
structure KVs (S:Nat→Prop) (w:World) (l:List KV) (A:Option Addr) (c:Nat):Prop where
 lies:Lies S w A (kvC l)
 le:l.length≤c
 cap:c≤maxLen
section
variable {S S':Nat→Prop} {w w':World} {l:List KV} {A:Option Addr} {c:Nat}
theorem KVs.mono (h:KVs S w l A c) (hb:∀ b,b < w.heap.size→S b→S' b∧w'.heap[b]? = w.heap[b]?):KVs S' w' l A c:=⟨h.lies.mono hb,h.le,h.cap⟩
theorem KVs.keep (h:KVs S w l A c) (hb:Below w.heap.size w w'):KVs S w' l A c:=h.mono fun b hl hs=>⟨hs,hb.block b hl⟩
theorem KVs.any (h:KVs S w l A c):KVs Any w l A c:=⟨h.lies.any,h.le,h.cap⟩
theorem KVs.at_ (h:KVs S w l A c) {i:Nat} {p:KV} (hi:l[i]? = some p):∃ g o,A=some ⟨g,o,none⟩∧S g∧w.cell? ⟨g,o+i * 2,none⟩=some (.string (bs p.1))∧w.cell? ⟨g,o+i * 2+1,none⟩=some (.string (bs p.2)):=by
 obtain ⟨h1,h2⟩:=kvC_get hi
 obtain ⟨g,o,hA,hs,hc⟩:=h.lies (by intro e;rw [e] at h1;simp at h1)
 exact ⟨g,o,hA,hs,hc _ _ h1,by simpa [Nat.add_assoc] using hc _ _ h2⟩
end
end Go.Proofs.YteoednifdpdbnaaGreat
