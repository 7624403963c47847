/- Words of 64 bits in a walk; arrays of words in memory. -/
import Derived.Test.YteoednifdpdbnaaGreatZ04
import Derived.Test.YteoednifdpdbnaaGreatZ02
import Derived.StillTailTactics
import Derived.OneCell
import Derived.BigQuiet
namespace Go.Proofs.YteoednifdpdbnaaGreat
set_option linter.unusedVariables false
set_option linter.unusedSimpArgs false
open Go.RowKit
theorem w_lt (a:W64):a.toNat < 18446744073709551616:=a.isLt
/-- a word as a value -/
def wv (a:W64):Int:=(a.toNat:Int)
theorem wv_of (n:Nat) (h:n < 18446744073709551616):wv (BitVec.ofNat 64 n)=n:=by unfold wv;rw [BitVec.toNat_ofNat,Nat.mod_eq_of_lt (by omega)]
theorem wv_zero:wv 0=0:=rfl
@[go_sem] theorem bits_xor_w (a b:W64):bits .xor .u64 (wv a) (wv b)=wv (a ^^^ b):=by
 unfold wv;rw [bits_xor_u64_nat _ _ (w_lt a) (w_lt b),BitVec.toNat_xor]
@[go_sem] theorem bits_and_w (a b:W64):bits .and .u64 (wv a) (wv b)=wv (a &&& b):=by
 unfold wv;rw [bits_and_u64_nat _ _ (w_lt a) (w_lt b),BitVec.toNat_and]
@[go_sem] theorem bits_or_w (a b:W64):bits .or .u64 (wv a) (wv b)=wv (a ||| b):=by
 unfold wv;rw [bits_or_u64_nat _ _ (w_lt a) (w_lt b),BitVec.toNat_or]
theorem qk1 (n:Nat):IntKind.u64.wrap (n:Int)=((n % 18446744073709551616:Nat):Int):=by
 simp [IntKind.wrap,IntKind.signed,IntKind.bits]
@[go_sem] theorem shl_w (a:W64) (k:Nat):IntKind.u64.wrap (wv a * 2 ^ k)=wv (a <<< k):=by
 unfold wv
 rw [show ((a.toNat:Int) * 2 ^ k)=((a.toNat * 2 ^ k:Nat):Int) by simp,qk1,BitVec.toNat_shiftLeft,Nat.shiftLeft_eq]
@[go_sem] theorem shr_w (a:W64) (k:Nat):wv a / 2 ^ k=wv (a >>> k):=by
 unfold wv
 rw [BitVec.toNat_ushiftRight,Nat.shiftRight_eq_div_pow];simp
@[go_sem] theorem bits_not_w (a:W64):bits .xor .u64 IntKind.u64.max (wv a)=wv (~~~ a):=by
 rw [show IntKind.u64.max=wv (BitVec.allOnes 64) by decide,bits_xor_w,BitVec.allOnes_xor]
@[go_sem] theorem bits_not_w' (a:W64):bits .xor .u64 18446744073709551615 (wv a)=wv (~~~ a):=by
 rw [show (18446744073709551615:Int)=wv (BitVec.allOnes 64) by decide,bits_xor_w,BitVec.allOnes_xor]
@[go_sem] theorem bits_not_w2 (a:W64):bits .xor .u64 (if IntKind.u64.signed=true then -1 else IntKind.u64.max) (wv a)=wv (~~~ a):=bits_not_w a
theorem and63 (k:Nat) (h:k < 64):bits .and .u64 (k:Int) 63=(k:Int):=by
 have:=bits_and_u64_nat k 63 (by omega) (by omega)
 rw [show (63:Int)=((63:Nat):Int) from rfl,this]
 congr 1
 have h2:=Nat.and_two_pow_sub_one_eq_mod k 6
 rw [show (63:Nat)=2 ^ 6 - 1 from rfl,h2]
 omega
theorem qio {P:Program} {o:Oper} {a:Act} {w:World} {K:Act→Prop} (h:o.quiet P a (fun w'=>w'=w) K):o.still P a w K:=by
 obtain ⟨v,h1,h2⟩:=h
 have h3:=h1 w rfl
 unfold Oper.quietAt Oper.quietUpon at h3
 unfold Oper.still Oper.stillUpon
 revert h3
 generalize (execOp a.eval o).run P w=r
 intro h3
 split at h3
 ·obtain ⟨rfl,rfl⟩:=h3;exact ⟨rfl,h2⟩
 ·obtain ⟨rfl,rfl⟩:=h3;exact ⟨rfl,h2⟩
 ·exact ⟨h3.1,v,h3.2,h2⟩
 ·exact h3.elim
theorem qct {P:Program} {ops:Array Oper} {w:World} {Q:Act→Prop}:∀ (l:List Oper) (a:Act),wpQuiet P ops (fun w'=>w'=w) Q l a→wpStill P ops w Q l a
 | [],_,h=>h
 | o :: rest,a,h=>by
  unfold wpQuiet at h
  unfold wpStill
  split
  ·rename_i hw
   rw [if_pos hw] at h
   exact qio (Oper.quiet_mono (fun a h=>qct rest a h) h)
  ·rename_i hw
   rw [if_neg hw] at h
   exact qct rest _ h
/-- a region that draws, whose last operations alone write -/
theorem qeb {P:Program} {id:Nat} {Q:Exit→Act→World→Prop} {a:Act} {w:World} {l:List Oper} (n:Nat) (hm:P.follows .mixedOrders=true) (hB:Region.lexTailB .any l.toArray n=true)
  (h:∀ w2,w2=w.drew→∀ R:Act→Prop,(∀ a',wpList P l.toArray Q (l.drop n) a' w2→R a')→wpQuiet P l.toArray (fun w'=>w'=w2) R (l.take n) a):(Code.region id l.toArray true).wp P Q a w :=
 wp_region_still_tail n hm hB (qct _ _ (h _ rfl _ fun _ h=>h))
/-- a sum's value, as a region that draws wants it -/
theorem sum_i (k c:Nat) (d:Int) (hd:d=c) (h:k+c < 1000000):IntKind.i64.wrap ((k:Int)+d)=(k:Int)+d∧0≤(k:Int)+d∧((k:Int)+d).toNat=k+c :=
 ⟨IntWalk.i64_in _ (by omega),by omega,by omega⟩
theorem mod_i (n m:Nat) (x d:Int) (hx:x=n) (hd:d=m):x.tmod d=((n % m:Nat):Int):=by
 subst hx;subst hd;rw [Int.tmod_eq_emod_of_nonneg (by omega)];simp
theorem qc5 {P:Program} {T e:TypeId} {n:Nat} {q:IntKind} (hT:P.underlying T=some (.array n e)) (he:P.underlying e=some (.int q)) (hs:(P.info? e).map (·.size)=some 1)
  (cs:Array Value) (k:Nat) (hk:k < n) (v:Value) (hv:cs[k]? = some v) (w:World):(Instr.index T (.agg cs) (.int .i64 (k:Int))).run P w=.ok v w:=by
 cases hq:P.info? e with
 | none=>simp [hq] at hs
 | some i =>
  have hi:i.size=1:=by simpa [hq] using hs
  simp [Instr.index,asIntOf,run_underlying hT,Sem.run_bind,Sem.run_pure,hk,sizeOf,typeInfo,hq,hi,part,isAgg,run_underlying he,hv]
/-- cells of words, of numbers -/
def wsC (l:List W64):Array Value:=(l.map fun v=>Value.int .u64 (wv v)).toArray
def isC (l:List Nat):Array Value:=(l.map fun v:Nat=>Value.int .i64 (v:Int)).toArray
theorem qbw (l:List W64):(wsC l).size=l.length:=by simp [wsC]
theorem qdm (l:List Nat):(isC l).size=l.length:=by simp [isC]
/-- a block of words, of numbers -/
def WRow (w:World) (g:Nat) (l:List W64) (e:TypeId):Prop:=w.heap[g]? = some (.cells (wsC l) e (0,0))
def IRow (w:World) (g:Nat) (l:List Nat) (e:TypeId):Prop:=w.heap[g]? = some (.cells (isC l) e (0,0))
section
variable {w w':World} {g:Nat} {l:List W64} {m:List Nat} {e:TypeId}
theorem WRow.at_ (h:WRow w g l e) {i:Nat} (hi:i < l.length):w.cell? ⟨g,i,none⟩=some (.int .u64 (wv (l.getD i 0))):=by
 rw [cell_of_row _ _ _ _ _ _ h];simp [wsC,hi]
theorem IRow.at_ (h:IRow w g m e) {i:Nat} (hi:i < m.length):w.cell? ⟨g,i,none⟩=some (.int .i64 ((m.getD i 0:Nat):Int)):=by
 rw [cell_of_row _ _ _ _ _ _ h];simp [isC,hi]
theorem WRow.free (h:WRow w g l e) (i:Nat):w.frozen? ⟨g,i,none⟩=false:=by simp [World.frozen?,show w.heap[g]? = _ from h]
theorem IRow.free (h:IRow w g m e) (i:Nat):w.frozen? ⟨g,i,none⟩=false:=by simp [World.frozen?,show w.heap[g]? = _ from h]
theorem WRow.lt (h:WRow w g l e):g < w.heap.size:=(qg (show w.heap[g]? = _ from h))
theorem IRow.lt (h:IRow w g m e):g < w.heap.size:=(qg (show w.heap[g]? = _ from h))
theorem WRow.drew (h:WRow w g l e):WRow w.drew g l e:=h
theorem IRow.drew (h:IRow w g m e):IRow w.drew g m e:=h
theorem WRow.set (h:WRow w g l e) (i:Nat) (v:W64):WRow (w.setCell ⟨g,i,none⟩ (.int .u64 (wv v))) g (l.set i v) e:=by
 have:=qaa h (i:=i) (.int .u64 (wv v))
 show _=_
 rw [this];simp [wsC,List.map_set]
theorem IRow.set (h:IRow w g m e) (i:Nat) (v:Nat):IRow (w.setCell ⟨g,i,none⟩ (.int .i64 (v:Int))) g (m.set i v) e:=by
 have:=qaa h (i:=i) (.int .i64 (v:Int))
 show _=_
 rw [this];simp [isC,List.map_set]
theorem qab {b i:Nat} (hb:g≠b) (u:Value):(w.setCell ⟨b,i,none⟩ u).heap[g]? = w.heap[g]?:=heap_setCell_other w ⟨b,i,none⟩ g u hb
theorem WRow.other (h:WRow w g l e) {b i:Nat} (hb:g≠b) (u:Value):WRow (w.setCell ⟨b,i,none⟩ u) g l e:=(qab hb u).trans h
theorem IRow.other (h:IRow w g m e) {b i:Nat} (hb:g≠b) (u:Value):IRow (w.setCell ⟨b,i,none⟩ u) g m e:=(qab hb u).trans h
theorem WRow.keep (h:WRow w g l e) {B:Nat} (hb:Below B w w') (hg:g < B):WRow w' g l e:=(hb.block g hg).trans h
theorem IRow.keep (h:IRow w g m e) {B:Nat} (hb:Below B w w') (hg:g < B):IRow w' g m e:=(hb.block g hg).trans h
theorem WRow.alloc (h:WRow w g l e) (o:Obj):WRow (w.alloc o) g l e:=(heap_alloc_old w o h.lt).trans h
theorem IRow.alloc (h:IRow w g m e) (o:Obj):IRow (w.alloc o) g m e:=(heap_alloc_old w o h.lt).trans h
theorem WRow.new (w:World) (l:List W64) (e:TypeId):WRow (w.alloc (.cells (wsC l) e)) w.heap.size l e:=heap_alloc_new w _
theorem IRow.new (w:World) (l:List Nat) (e:TypeId):IRow (w.alloc (.cells (isC l) e)) w.heap.size l e:=heap_alloc_new w _
theorem qa6 (w:World) {g b:Nat} (h:g≠b) (cs:Array Value):(w.setRow b cs).heap[g]? = w.heap[g]?:=by
 unfold World.setRow
 simp [Array.getElem?_modify,Ne.symm h]
theorem WRow.row (h:WRow w g l e) (l':List W64):WRow (w.setRow g (wsC l')) g l' e:=setRow_heap w g _ _ _ _ h
theorem WRow.rowOther (h:WRow w g l e) {b:Nat} (hb:g≠b) (cs:Array Value):WRow (w.setRow b cs) g l e:=(qa6 w hb cs).trans h
theorem IRow.rowOther (h:IRow w g m e) {b:Nat} (hb:g≠b) (cs:Array Value):IRow (w.setRow b cs) g m e:=(qa6 w hb cs).trans h
theorem IRow.row (h:IRow w g m e) (m':List Nat):IRow (w.setRow g (isC m')) g m' e:=setRow_heap w g _ _ _ _ h
theorem qal {B:Nat} {a:World} (h:Below B a w) {b:Nat} (hb:B≤b) (cs:Array Value):Below B a (w.setRow b cs) :=
 ⟨h.os,h.tape,h.output,by simpa using h.size,fun k hk=>(qa6 w (by omega) cs).trans (h.block k hk)⟩
theorem wsC_all (l:List W64):∀ v∈(wsC l).toList,v.oneCell'=true:=by
 intro v hv;simp [wsC] at hv;obtain ⟨u,_,rfl⟩:=hv;rfl
theorem isC_all (l:List Nat):∀ v∈(isC l).toList,v.oneCell'=true:=by
 intro v hv;simp [isC] at hv;obtain ⟨u,_,rfl⟩:=hv;rfl
end
theorem qes (n:Nat):wsC (List.replicate n 0)=(List.replicate n (Value.int .u64 0)).toArray:=by
 unfold wsC;rw [List.map_replicate,wv_zero]
theorem wsC_at {l:List W64} {i:Nat} (h:i < l.length):(wsC l)[i]? = some (.int .u64 (wv (l.getD i 0))):=by simp [wsC,h]
/-- two arrays handed back -/
theorem qdv {P:Program} {fn:Func} {p q:Tmp} {T:TypeId} (h:fn.results=#[.cell p T,.cell q T]) (tmps:Array Value) (w:World) (g g':Nat) (t t':TypeId) (cs cs':Array Value) (fr fr':Nat×Nat) (d:TypeDesc)
  (hp:tmps.getD p undef=.pointer (some ⟨g,0,none⟩)) (hq:tmps.getD q undef=.pointer (some ⟨g',0,none⟩)) (hg:w.heap[g]? = some (.cells cs t fr)) (hg':w.heap[g']? = some (.cells cs' t' fr'))
  (hu:P.underlying T=some d) (hd:(match d with | .struct _ | .array _ _=>true | _=>false)=true) (hi:(P.info? T).map (·.size)=some cs.size) (hi':(P.info? T).map (·.size)=some cs'.size) :
  (results fn tmps).run P w=.ok (.tuple #[.agg cs,.agg cs']) w:=by
 have hp':tmps[p]?.getD undef=.pointer (some ⟨g,0,none⟩):=by simpa using hp
 have hq':tmps[q]?.getD undef=.pointer (some ⟨g',0,none⟩):=by simpa using hq
 simp [results,h,hp',hq',asAddr,run_loadVar_row w g t T cs fr d hg hu hd hi,run_loadVar_row w g' t' T cs' fr' d hg' hu hd hi']
end Go.Proofs.YteoednifdpdbnaaGreat
