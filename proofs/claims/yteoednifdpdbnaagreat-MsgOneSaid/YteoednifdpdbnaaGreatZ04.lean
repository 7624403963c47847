/- Words for memory, of no program: data that a value reads as (D, Rep), kept where the world grows. -/
import Derived.WalkKit
import Derived.WalkSpells
import Derived.WalkLawsBesides
import Derived.Lib.Strings
import Derived.Lib.Hide
import Derived.Maps.AppendAt
import Derived.Test.YteoednifdpdbnaaGreatZ01
namespace Go.Proofs.YteoednifdpdbnaaGreat
set_option linter.unusedVariables false
set_option linter.unusedSimpArgs false
open Go.RowKit
/-- a text as bytes -/
def bs (l:List UInt8):ByteArray:=⟨l.toArray⟩
@[go_sem] theorem size_bs (l:List UInt8):(bs l).size=l.length:=by simp [bs,ByteArray.size]
@[go_sem] theorem toList_bs (l:List UInt8):(bs l).toList=l:=by simp [bs]
@[go_sem] theorem data_bs (l:List UInt8):(bs l).data=l.toArray:=rfl
theorem bs_data (s:ByteArray):bs s.data.toList=s:=by obtain ⟨⟨l⟩⟩:=s;rfl
@[go_sem] theorem bs_append (a b:List UInt8):bs a ++ bs b=bs (a ++ b):=by
 apply ByteArray.ext;simp [bs]
@[go_sem] theorem bs_extract (l:List UInt8) (i j:Nat):(bs l).extract i j=bs ((l.drop i).take (j - i)):=ByteArray.extract_mk l i j
@[go_sem] theorem bs_get (l:List UInt8) (i:Nat) (h:i < (bs l).size):(bs l)[i]=l[i]'(by rw [← size_bs];exact h):=by
 rfl
/-- below, from either side of a call: the old cells and marks read as before -/
theorem bcell {B:Nat} {W w1:World} (hb:Below B W w1):(∀ b o,b < B→w1.cell? ⟨b,o,none⟩=W.cell? ⟨b,o,none⟩)∧(∀ b o,b < B→w1.frozen? ⟨b,o,none⟩=W.frozen? ⟨b,o,none⟩) :=
 ⟨fun b o h=>hb.cell (p:=⟨b,o,none⟩) h,fun b o h=>hb.frozen (p:=⟨b,o,none⟩) h⟩
theorem qbg {w W:World} {o:Obj} (h:Below (w.heap.size+1) (w.alloc o) W):Below w.heap.size w W:=((Below.refl _ _).alloc (Nat.le_refl _) _).trans (h.mono (by omega))
theorem qjd {w W:World} {o:Obj} (h:Below (w.alloc o).drew.heap.size (w.alloc o).drew W):Below w.heap.size w W:=(((Below.refl _ _).alloc (Nat.le_refl _) _).drew).trans (h.mono (by simp))
theorem qb1 {B:Nat} {a w:World} (h:Below B a w) (n:Nat):Below B a (w.drewN n):=⟨h.os,h.tape,h.output,h.size,h.block⟩
theorem qgh {B:Nat} {a w w1:World} {o:Obj} (h:Below B a w) (hB:B≤w.heap.size) (h1:Below (w.alloc o).heap.size (w.alloc o) w1):Below B a w1 :=
 (h.alloc hB o).trans (h1.mono (by simp;omega))
theorem qac {B:Nat} {a w w1:World} (h:Below B a w) (hB:B≤w.heap.size) (h1:Below w.heap.size w w1):Below B a w1:=h.trans (h1.mono hB)
/-- data: a cell's value; some pieces one behind the other; a slice of pieces of so many cells each -/
inductive D where
 | v (x:Value)
 | st (ds:List D)
 | sl (sz:Nat) (es:List D)
/-- the cells cs lie at a slice's place, in blocks of S -/
def Lies (S:Nat→Prop) (w:World) (A:Option Addr) (cs:List Value):Prop :=
 cs ≠ []→∃ g o,A=some ⟨g,o,none⟩∧S g∧∀ j u,cs[j]? = some u→w.cell? ⟨g,o+j,none⟩=some u
mutual
inductive Rep (S:Nat→Prop) (w:World):D→List Value→Prop
 | v (x:Value):x.oneCell'=true→Rep S w (.v x) [x]
 | st {ds:List D} {cs:List Value}:RepL S w ds cs→Rep S w (.st ds) cs
 | sl {sz:Nat} {es:List D} {css:List Value} {A:Option Addr} {n c:Nat}:RepN S w sz es css→n=es.length→Lies S w A css→n≤c→c≤maxLen→Rep S w (.sl sz es) [.slice A n c]
inductive RepL (S:Nat→Prop) (w:World):List D→List Value→Prop
 | nil:RepL S w [] []
 | cons {d:D} {ds:List D} {cs cs':List Value}:Rep S w d cs→RepL S w ds cs'→RepL S w (d :: ds) (cs ++ cs')
inductive RepN (S:Nat→Prop) (w:World):Nat→List D→List Value→Prop
 | nil {sz:Nat}:RepN S w sz [] []
 | cons {sz:Nat} {d:D} {ds:List D} {cs cs':List Value}:Rep S w d cs→cs.length=sz→RepN S w sz ds cs'→RepN S w sz (d :: ds) (cs ++ cs')
end
theorem qaz {w:World} {g o:Nat} {u:Value} (h:w.cell? ⟨g,o,none⟩=some u):g < w.heap.size:=World.block_lt_of_cell? w ⟨g,o,none⟩ h
section
variable {S S':Nat→Prop} {w w':World}
theorem Lies.mono {A:Option Addr} {cs:List Value} (h:Lies S w A cs) (hb:∀ b,b < w.heap.size→S b→S' b∧w'.heap[b]? = w.heap[b]?):Lies S' w' A cs:=fun hne=>by
 obtain ⟨g,o,rfl,hs,hc⟩:=h hne
 obtain ⟨u,hu⟩:∃ u,cs[0]? = some u:=by cases cs with | nil=>exact absurd rfl hne | cons a l=>exact ⟨a,rfl⟩
 obtain ⟨h1,h2⟩:=hb g (qaz (hc 0 u hu)) hs
 exact ⟨g,o,rfl,h1,fun j u hj=>(World.cell?_of_block (a:=⟨g,o+j,none⟩) h2).trans (hc j u hj)⟩
mutual
theorem Rep.mono {d:D} {cs:List Value} (h:Rep S w d cs) (hb:∀ b,b < w.heap.size→S b→S' b∧w'.heap[b]? = w.heap[b]?):Rep S' w' d cs:=by
 cases h with
 | v x hx=>exact .v x hx
 | st h=>exact .st (RepL.mono h hb)
 | sl h h1 h2 h3 h4=>exact .sl (RepN.mono h hb) h1 (h2.mono hb) h3 h4
theorem RepL.mono {ds:List D} {cs:List Value} (h:RepL S w ds cs) (hb:∀ b,b < w.heap.size→S b→S' b∧w'.heap[b]? = w.heap[b]?):RepL S' w' ds cs:=by
 cases h with
 | nil=>exact .nil
 | cons h h1=>exact .cons (Rep.mono h hb) (RepL.mono h1 hb)
theorem RepN.mono {sz:Nat} {ds:List D} {cs:List Value} (h:RepN S w sz ds cs) (hb:∀ b,b < w.heap.size→S b→S' b∧w'.heap[b]? = w.heap[b]?):RepN S' w' sz ds cs:=by
 cases h with
 | nil=>exact .nil
 | cons h h0 h1=>exact .cons (Rep.mono h hb) h0 (RepN.mono h1 hb)
end
mutual
theorem Rep.one:∀ {d:D} {cs:List Value},Rep S w d cs→∀ u,u∈cs→u.oneCell'=true
 | _,_,.v _ hx,_,hu=>by rw [List.mem_singleton] at hu;subst hu;exact hx
 | _,_,.st h,u,hu=>RepL.one h u hu
 | _,_,.sl _ _ _ _ _,_,hu=>by rw [List.mem_singleton] at hu;subst hu;rfl
theorem RepL.one:∀ {ds:List D} {cs:List Value},RepL S w ds cs→∀ u,u∈cs→u.oneCell'=true
 | _,_,.nil,_,hu=>by cases hu
 | _,_,.cons h h1,u,hu=>(List.mem_append.1 hu).elim (fun hu=>Rep.one h u hu) (fun hu=>RepL.one h1 u hu)
theorem RepN.one:∀ {sz:Nat} {ds:List D} {cs:List Value},RepN S w sz ds cs→∀ u,u∈cs→u.oneCell'=true
 | _,_,_,.nil,_,hu=>by cases hu
 | _,_,_,.cons h _ h1,u,hu=>(List.mem_append.1 hu).elim (fun hu=>Rep.one h u hu) (fun hu=>RepN.one h1 u hu)
end
/-- any blocks -/
def Any:Nat→Prop:=fun _=>True
theorem Rep.keep {d:D} {cs:List Value} (h:Rep S w d cs) (hb:Below w.heap.size w w'):Rep S w' d cs:=h.mono fun b hl hs=>⟨hs,hb.block b hl⟩
theorem RepL.keep {d:List D} {cs:List Value} (h:RepL S w d cs) (hb:Below w.heap.size w w'):RepL S w' d cs:=h.mono fun b hl hs=>⟨hs,hb.block b hl⟩
theorem RepN.keep {sz:Nat} {d:List D} {cs:List Value} (h:RepN S w sz d cs) (hb:Below w.heap.size w w'):RepN S w' sz d cs:=h.mono fun b hl hs=>⟨hs,hb.block b hl⟩
theorem Rep.any {d:D} {cs:List Value} (h:Rep S w d cs):Rep Any w d cs:=h.mono fun _ _ _=>⟨trivial,rfl⟩
theorem Rep.alloc {d:D} {cs:List Value} (h:Rep S w d cs) (o:Obj):Rep S (w.alloc o) d cs:=h.keep ((Below.refl _ _).alloc (Nat.le_refl _) _)
theorem RepN.length {sz:Nat} {ds:List D}:∀ {cs:List Value},RepN S w sz ds cs→cs.length=ds.length * sz:=by
 induction ds with
 | nil=>intro cs h;cases h;simp
 | cons d ds ih=>intro cs h;cases h with | cons h h0 h1=>rw [List.length_append,h0,ih h1,List.length_cons,Nat.add_mul];omega
/-- the piece at a place -/
theorem RepN.at_ {sz:Nat} {ds:List D}:∀ {cs:List Value} {i:Nat} {d:D},RepN S w sz ds cs→ds[i]? = some d→∃ ci,Rep S w d ci∧ci.length=sz∧∀ j u,ci[j]? = some u→cs[i * sz+j]? = some u:=by
 induction ds with
 | nil=>intro cs i d h hi;simp at hi
 | cons e ds ih =>
  intro cs i d h hi
  cases h with
  | @cons _ _ _ c0 c1 h h0 h1 =>
   cases i with
   | zero =>
    simp at hi;subst hi
    refine ⟨c0,h,h0,fun j u hj=>?_⟩
    have hl:=(List.getElem?_eq_some_iff.1 hj).1
    rw [Nat.zero_mul,Nat.zero_add,List.getElem?_append_left hl];exact hj
   | succ i =>
    simp at hi
    obtain ⟨ci,r1,r2,r3⟩:=ih h1 hi
    refine ⟨ci,r1,r2,fun j u hj=>?_⟩
    rw [show (i+1) * sz+j=c0.length+(i * sz+j) by rw [h0,Nat.add_mul];omega,List.getElem?_append_right (by omega),Nat.add_sub_cancel_left]
    exact r3 j u hj
theorem RepN.snoc {sz:Nat} {ds:List D} {d:D} {ci:List Value} (h2:Rep S w d ci) (h3:ci.length=sz):∀ {cs:List Value},RepN S w sz ds cs→RepN S w sz (ds ++ [d]) (cs ++ ci):=by
 induction ds with
 | nil=>intro cs h;cases h;simpa using RepN.cons h2 h3 RepN.nil
 | cons e ds ih=>intro cs h;cases h with | cons h h0 h1=>rw [List.append_assoc];exact RepN.cons h h0 (ih h1)
theorem RepN.append {sz:Nat} {ds es:List D} {cs':List Value} (h2:RepN S w sz es cs'):∀ {cs:List Value},RepN S w sz ds cs→RepN S w sz (ds ++ es) (cs ++ cs'):=by
 induction ds with
 | nil=>intro cs h;cases h;simpa using h2
 | cons e ds ih=>intro cs h;cases h with | cons h h0 h1=>rw [List.append_assoc];exact RepN.cons h h0 (ih h1)
theorem RepN.drop {sz:Nat} {ds:List D}:∀ {cs:List Value} (k:Nat),RepN S w sz ds cs→RepN S w sz (ds.drop k) (cs.drop (k * sz)):=by
 induction ds with
 | nil=>intro cs k h;cases h;simpa using RepN.nil
 | cons e ds ih =>
  intro cs k h
  cases k with
  | zero=>simpa using h
  | succ k =>
   cases h with
   | @cons _ _ _ c0 c1 h h0 h1 =>
    have:=ih k h1
    rw [List.drop_succ_cons,show (k+1) * sz=c0.length+k * sz by rw [h0,Nat.add_mul];omega,List.drop_append,(List.drop_of_length_le (by omega):c0.drop (c0.length+k * sz) = []),Nat.add_sub_cancel_left]
    exact this
/-- a slice's piece at a place, as cells of the world -/
theorem Rep.slice_at {sz:Nat} {es:List D} {A:Option Addr} {n c i:Nat} {d:D} (h:Rep S w (.sl sz es) [.slice A n c]) (hz:0 < sz) (hi:es[i]? = some d) :
  ∃ g o ci,A=some ⟨g,o,none⟩∧S g∧Rep S w d ci∧ci.length=sz∧∀ j u,ci[j]? = some u→w.cell? ⟨g,o+(i * sz+j),none⟩=some u:=by
 cases h with
 | @sl _ _ css _ _ _ hr hn hl _ _ =>
  obtain ⟨ci,r1,r2,r3⟩:=hr.at_ hi
  have hne:css ≠ []:=by
   intro he
   have:=hr.length
   have hlt:=(List.getElem?_eq_some_iff.1 hi).1
   rw [he] at this
   have:es.length * sz=0:=by simpa using this.symm
   rcases Nat.mul_eq_zero.1 this with h | h <;> omega
  obtain ⟨g,o,hA,hs,hc⟩:=hl hne
  exact ⟨g,o,ci,hA,hs,r1,r2,fun j u hj=>hc _ _ (r3 j u hj)⟩
theorem Rep.slice_len {sz:Nat} {es:List D} {A:Option Addr} {n c:Nat} (h:Rep S w (.sl sz es) [.slice A n c]):n=es.length∧n≤c∧c≤maxLen:=by
 cases h with | sl _ h1 _ h3 h4=>exact ⟨h1,h3,h4⟩
theorem Rep.slice_open {sz:Nat} {es:List D} {A:Option Addr} {n c:Nat} (h:Rep S w (.sl sz es) [.slice A n c]) :
  ∃ css,RepN S w sz es css∧Lies S w A css∧css.length=n * sz∧∀ u∈css,u.oneCell'=true:=by
 cases h with
 | @sl _ _ css _ _ _ hr hn hl _ _=>exact ⟨css,hr,hl,by rw [hr.length,hn],hr.one⟩
theorem Rep.slice_form {sz:Nat} {es:List D} {cs:List Value} (h:Rep S w (.sl sz es) cs):∃ A n c,cs = [.slice A n c]:=by
 cases h with | sl=>exact ⟨_,_,_,rfl⟩
theorem Rep.v_form {x:Value} {cs:List Value} (h:Rep S w (.v x) cs):cs = [x]:=by cases h;rfl
theorem RepL.cons_form {d:D} {ds:List D} {cs:List Value} (h:RepL S w (d :: ds) cs):∃ c0 c1,cs=c0 ++ c1∧Rep S w d c0∧RepL S w ds c1:=by
 cases h with | cons h h1=>exact ⟨_,_,rfl,h,h1⟩
theorem RepL.nil_form {cs:List Value} (h:RepL S w [] cs):cs = []:=by cases h;rfl
theorem Rep.st_form {ds:List D} {cs:List Value} (h:Rep S w (.st ds) cs):RepL S w ds cs:=by cases h with | st h=>exact h
theorem Rep.nil_slice (sz:Nat):Rep S w (.sl sz []) [.slice none 0 0]:=.sl .nil rfl (fun h=>absurd rfl h) (Nat.le_refl _) (Nat.zero_le _)
end
/-- the first cells of a block -/
def Cells (w:World) (g:Nat) (cs:List Value):Prop:=∀ j u,cs[j]? = some u→w.cell? ⟨g,j,none⟩=some u
theorem Cells.keep {w w':World} {g:Nat} {cs:List Value} (h:Cells w g cs) (hb:Below w.heap.size w w'):Cells w' g cs :=
 fun j u hj=>(hb.cell (p:=⟨g,j,none⟩) (qaz (h j u hj))).trans (h j u hj)
theorem Cells.new (w:World) (cs:Array Value) (e:TypeId):Cells (w.alloc (.cells cs e)) w.heap.size cs.toList:=fun j u hj=>by
 rw [cell_of_row _ _ j cs e (0,0) (heap_alloc_new w _)];simpa using hj
theorem qh9 {w w':World} (h:Below w.heap.size w w'):w.grownBy w' none:=⟨h.os,h.tape,h.output,h.size,fun k hk _=>h.block k hk⟩
theorem qa5 {w w':World} {base:Nat} {e:TypeId} {size:Nat} {v:Value} {n:Nat} {xs:List Value} (h:w.ownsRow base e size v n xs) (hb:Below w.heap.size w w'):w'.ownsRow base e size v n xs :=
 h.kept (qh9 hb) (by cases hv:v.ownBlock <;> simp)
/-- an element type's row of the table, and the type of its slices -/
structure ElemOk (P:Program) (t e:TypeId) (z:Value) (size bytes:Nat):Prop where
 ht:P.underlying t=some (.slice e)
 hi:(P.info? e).map (fun i=>(i.zero,i.size,i.bytes))=some (some z,size,bytes)
 hz:z.cells.size=size
 pos:0 < size
theorem qcn {w:World} {g:Nat} {cs:Array Value} {e:TypeId} {fr:Nat×Nat} {news:List Value} (h:w.heap[g]? = some (.cells cs e fr)) (hn:∀ (j:Nat) (u:Value),news[j]? = some u→cs[j]? = some u):Lies Any w (some ⟨g,0,none⟩) news :=
 fun _=>⟨g,0,rfl,trivial,fun j u hj=>by rw [Nat.zero_add,cell_of_row w g j cs e fr h];exact hn j u hj⟩
theorem qca (w:World) (cs:Array Value) (e:TypeId):Lies Any (w.alloc (.cells cs e)) (some ⟨w.heap.size,0,none⟩) cs.toList :=
 qcn (heap_alloc_new w _) (fun j u h=>by simpa using h)
theorem qco (w:World) (g:Nat) (hg:g=w.heap.size) (cs:Array Value) (e:TypeId):Lies Any (w.alloc (.cells cs e)) (some ⟨g,0,none⟩) cs.toList:=by
 subst hg;exact qca w cs e
theorem Lies.nil {S:Nat→Prop} {w:World} {A:Option Addr}:Lies S w A []:=fun h=>absurd rfl h
theorem Lies.any {S:Nat→Prop} {w:World} {A:Option Addr} {cs:List Value} (h:Lies S w A cs):Lies Any w A cs:=h.mono fun _ _ _=>⟨trivial,rfl⟩
theorem qga (g o j:Nat):(⟨g,o,none⟩:Addr).add j=⟨g,o+j,none⟩:=by unfold Addr.add;split <;> simp_all
theorem qdl {S:Nat→Prop} {w:World} {base:Nat} {e:TypeId} {size n:Nat} {A:Option Addr} {c:Nat} {xs:List Value} (h:w.ownsRow base e size (.slice A n c) n xs) (hS:∀ g,base≤g→g < w.heap.size→S g):Lies S w A xs:=by
 intro hne
 rcases h.2 with ⟨hv,h0⟩ | ⟨g,cap,cur,hv,hb,hh,_,_,_,_⟩
 ·subst h0
  have:=h.1
  exact absurd (List.eq_nil_of_length_eq_zero (by simpa using this)) hne
 ·have hA:A=some ⟨g,0,none⟩:=by injection hv
  subst hA
  have hlt:g < w.heap.size:=(Array.getElem?_eq_some_iff.1 hh).1
  exact ⟨g,0,rfl,hS g hb hlt,fun j u hj=>by have:=h.cells (g:=g) rfl j u hj;rwa [qga] at this⟩
section
variable {P:Program} {w:World}
theorem qei {t e:TypeId} {z:Value} {size bytes:Nat} (E:ElemOk P t e z size bytes) (ty:TypeId) (base:Nat)
  (v:Value) (n:Nat) (xs:List Value) (hown:w.ownsRow base e size v n xs)
  (A:Option Addr) (m c:Nat) (news:List Value) (hl:news.length=m * size) (hA:Lies Any w A news) (h1:∀ u∈news,u.oneCell'=true)
  (h63:n+m≤maxLen) (hbytes:(n+m) * bytes≤140737488355328) (hbase:base≤w.heap.size) :
  ∃ v' w',(Builtin.append_ #[t,t] ty #[v,.slice A m c]).run P w=.ok v' w'∧w'.ownsRow base e size v' (n+m) (xs ++ news)∧w.grownBy w' v.ownBlock ∧
   (v'.ownBlock=v.ownBlock∨v'.ownBlock=some w.heap.size):=by
 obtain ⟨i,hi,hz,hs,hb⟩:=info_parts E.hi
 have hpos:=E.pos
 rcases Nat.eq_zero_or_pos m with h0 | h0
 ·subst h0
  have hn:news = []:=List.eq_nil_of_length_eq_zero (by simpa using hl)
  subst hn
  refine ⟨v,w,?_,by simpa using hown,World.grownBy.refl w _,.inl rfl⟩
  have ht:=E.ht
  rcases A with _ | ad
  ·rcases hown.2 with ⟨rfl,rfl⟩ | ⟨g,cap,cur,rfl,_,_,hnc,_⟩
   ·simp [Builtin.append_,run_underlying ht,sizeOf,typeInfo,hi,Builtin.lenOf,Builtin.firstCells]
   ·simp [Builtin.append_,run_underlying ht,sizeOf,typeInfo,hi,Builtin.lenOf,Builtin.firstCells,hnc,storeCells]
  ·rcases hown.2 with ⟨rfl,rfl⟩ | ⟨g,cap,cur,rfl,_,_,hnc,_⟩
   ·simp [Builtin.append_,run_underlying ht,sizeOf,typeInfo,hi,Builtin.lenOf,Builtin.firstCells,loadCells,loadCellsFrom]
   ·simp [Builtin.append_,run_underlying ht,sizeOf,typeInfo,hi,Builtin.lenOf,Builtin.firstCells,loadCells,loadCellsFrom,hnc,storeCells]
 ·have hne:news ≠ []:=by
   intro he;subst he
   have:m * size=0:=by simpa using hl.symm
   rcases Nat.mul_eq_zero.1 this with h | h <;> omega
  obtain ⟨g,o,rfl,_,hc⟩:=hA hne
  obtain ⟨v',w',r1,r2,r3,_,r5⟩:=run_append_own_at (P:=P) w base t ty e i z size bytes E.ht hi hz hs hb E.hz hpos v n xs hown ⟨g,o,none⟩ m c news hl (fun j u hj=>by rw [qga];exact hc j u hj) h1 h63 hbytes hbase
  exact ⟨v',w',r1,r2,r3,r5⟩
theorem qa0 {t e:TypeId} {z:Value} {size bytes:Nat} (E:ElemOk P t e z size bytes) {ops:Array Oper} {rest:List Oper} {o:Oper} {a:Act} {Q:Exit→Act→World→Prop} (hgd:o.guard=none) {s x:Operand}
  (ho:o.op=.call { callee:=.builtin .append,args:=#[s,x],argTypes:=#[t,t] }) (base:Nat)
  {v:Value} {n:Nat} {xs:List Value} (hown:w.ownsRow base e size v n xs) (hs:a.eval s=v)
  {A:Option Addr} {m c:Nat} (news:List Value) (hx:a.eval x=.slice A m c) (hl:news.length=m * size) (hA:Lies Any w A news) (h1:∀ u∈news,u.oneCell'=true)
  (h63:n+m≤maxLen) (hbytes:(n+m) * bytes≤140737488355328) (hbase:base≤w.heap.size)
  (h:∀ v' w',w'.ownsRow base e size v' (n+m) (xs ++ news)→w.grownBy w' v.ownBlock→(v'.ownBlock=v.ownBlock∨v'.ownBlock=some w.heap.size)→wpList P ops Q rest (a.put o.dst v') w') :
  wpList P ops Q (o :: rest) a w:=by
 refine wpList_plain hgd fun K hK=>?_
 obtain ⟨v',w',hr,h2,h3,h4⟩:=qei E o.type base v n xs hown A m c news hl hA h1 h63 hbytes hbase
 unfold Oper.wp execOp
 simp only [ho,resolve,invoke,builtin,Sem.run_bind,Sem.run_pure,Result.andThen_ok,List.map_toArray,List.map_cons,List.map_nil,hs,hx,hr]
 exact hK _ _ (h v' w' h2 h3 h4)
end
/-- a byte's cell -/
def cellB (c:UInt8):Value:=.int .u8 c.toNat
theorem qs9 (l:List UInt8):∀ u∈l.map cellB,u.oneCell'=true:=by
 intro u hu;obtain ⟨c,_,rfl⟩:=List.mem_map.1 hu;rfl
theorem qn7 (m:Nat):Value.int .u8 ((m:Int) % 256)=cellB (UInt8.ofNat (m % 256)):=by
 have:(UInt8.ofNat (m % 256)).toNat=m % 256:=by simp
 unfold cellB;rw [this];rfl
theorem cellB_lt {m:Nat} (h:m < 256):Value.int .u8 (m:Int)=cellB (UInt8.ofNat m):=by
 have:(UInt8.ofNat m).toNat=m:=by simp;omega
 unfold cellB;rw [this]
theorem qa4 {w:World} {base:Nat} {e:TypeId} {size:Nat} {v:Value} {n:Nat} {xs:List Value} (h:w.ownsRow base e size v n xs):∃ A c,v=.slice A n c:=by
 rcases h.2 with ⟨rfl,rfl⟩ | ⟨g,cap,cur,rfl,_⟩ <;> exact ⟨_,_,rfl⟩
/-- string(b) -/
theorem qa3 {P:Program} {w:World} {src dst e:TypeId} {A:Option Addr} {c:Nat} {l:List UInt8} (hs:P.underlying src=some (.slice e)) (he:P.underlying e=some (.int .u8)) (hd:P.underlying dst=some .string)
  (h:Lies Any w A (l.map cellB)):(convert src dst (.slice A l.length c)).run P w=.ok (.string (bs l)) w:=by
 cases l with
 | nil =>
  rcases A with _ | a
  ·rw [run_convert_bytes_string w src dst e none _ c hs he hd]
   simp [Conv.bytesToString,Sem.run_pure,bs]
   rfl
  ·exact run_convert_bytes_back w src dst e a c [] hs he hd (fun j hj=>by simp at hj)
 | cons x l =>
  obtain ⟨g,o,rfl,_,hc⟩:=h (by simp)
  exact run_convert_bytes_back w src dst e ⟨g,o,none⟩ c (x :: l) hs he hd (fun j hj=>by
   rw [qga]
   exact hc j _ (by simp only [List.getElem?_map,List.getElem?_eq_getElem hj];rfl))
/-- string([]byte{k}) -/
theorem qgp {P:Program} {src dst e:TypeId} (hs:P.underlying src=some (.slice e)) (he:P.underlying e=some (.int .u8)) (hd:P.underlying dst=some .string) (k:Int) (c:UInt8) (hk:k=c.toNat) (w:World) :
  (convert src dst (.slice (some ⟨w.heap.size,0,none⟩) 1 1)).run P (w.alloc (.cells #[.int .u8 k] e))=.ok (.string (bs [c])) (w.alloc (.cells #[.int .u8 k] e)):=by
 refine qa3 (l:=[c]) hs he hd (qcn (heap_alloc_new w _) (fun j u hj=>?_))
 subst hk
 match j,hj with
 | 0,hj =>
  simp at hj
  subst hj
  rfl
theorem qs6 (n:Nat) (h:n < 256):∃ c:UInt8,c.toNat=n∧c=UInt8.ofNat n:=⟨UInt8.ofNat n,by simp;omega,rfl⟩
theorem qqj (m d:Nat) (hd:d < 256):m * 256 ||| d=m * 256+d:=by
 have:=Nat.two_pow_add_eq_or_of_lt (i:=8) (by omega:d < 2 ^ 8) m
 rw [Nat.mul_comm] at this
 exact this.symm
theorem qkf (n:Nat) (h:n < 18446744073709551616):(BitVec.ofInt 64 (n:Int)).toNat=n:=by
 simp
 omega
theorem qci (m d:Nat) (hm:m < 36028797018963968) (hd:d < 256):bits BinOp.or IntKind.i64 ((m:Int) * 256) (d:Int)=(m:Int) * 256+d:=by
 unfold bits
 show IntKind.wrap _ (((BitVec.ofInt 64 ((m:Int) * 256) ||| BitVec.ofInt 64 (d:Int)).toNat:Nat):Int)=_
 rw [BitVec.toNat_or,show ((m:Int) * 256)=((m * 256:Nat):Int) by omega,qkf _ (by omega),qkf _ (by omega),qqj m d hd,IntWalk.i64_in _ (by omega)]
 omega
theorem qmk (m d:Nat) (hm:m < 72057594037927936) (hd:d < 256):bits BinOp.or IntKind.u64 ((m:Int) * 256) (d:Int)=(m:Int) * 256+d:=by
 have:=bits_or_u64_nat (m * 256) d (by omega) (by omega)
 rw [qqj m d hd] at this
 rw [show (((m * 256:Nat)):Int)=(m:Int) * 256 by omega] at this
 rw [this];omega
/-- behind an append by the law: what is not the row's own is as it was -/
theorem qa7 {B:Nat} {a w w':World} {v:Value} {base:Nat} {e:TypeId} {size n:Nat} {xs:List Value} (h:Below B a w) (hown:w.ownsRow base e size v n xs) (hg:w.grownBy w' v.ownBlock) (hB:B≤w.heap.size) (hb:B≤base):Below B a w' :=
 h.grown hg hB fun k hk=>Nat.le_trans hb (hown.lt k hk).1
/-- what a row of the call's own holds, behind an append to it -/
def RowS (base:Nat) (v:Value):Nat→Prop:=fun b=>base≤b∧v.ownBlock≠some b
theorem qeq {w w':World} {base:Nat} {v v':Value} {sz:Nat} {ds:List D} {xs:List Value} (hr:RepN (RowS base v) w sz ds xs) (hg:w.grownBy w' v.ownBlock) (hat:v'.ownBlock=v.ownBlock∨v'.ownBlock=some w.heap.size):RepN (RowS base v') w' sz ds xs :=
 hr.mono fun b hlt hs=>⟨⟨hs.1,by
  rcases hat with h | h
  ·rw [h];exact hs.2
  ·rw [h];intro he;injection he;omega⟩,hg.block b hlt (fun e=>hs.2 e.symm)⟩
theorem qaa {w:World} {g i:Nat} {cs:Array Value} {e:TypeId} {fr:Nat×Nat} (h:w.heap[g]? = some (.cells cs e fr)) (u:Value):(w.setCell ⟨g,i,none⟩ u).heap[g]? = some (.cells (cs.setIfInBounds i u) e fr):=by
 simp [World.setCell,Array.getElem?_modify,h]
theorem qck {S:Nat→Prop} {w:World} {base:Nat} {e:TypeId} {sz n:Nat} {v:Value} {xs:List Value} {es:List D} (h:w.ownsRow base e sz v n xs) (hr:RepN S w sz es xs) (hn:es.length=n) (hS:∀ g,base≤g→g < w.heap.size→S g):Rep S w (.sl sz es) [v]:=by
 subst hn
 rcases h.2 with ⟨rfl,h0⟩ | ⟨g,cap,cur,rfl,hb,hh,h1,h2,_,_⟩
 ·exact .sl hr (by omega) (by
   intro hne
   have:=h.1
   exact absurd (List.eq_nil_of_length_eq_zero (by rw [this,h0];simp)) hne) (Nat.le_refl _) (Nat.zero_le _)
 ·exact .sl hr rfl (qdl h hS) h1 h2
theorem qh {p:Prop} (h:p):Hid p:=Lib.hid h
theorem qn {n:Nat}:n≤n:=Nat.le_refl n
theorem qg {α:Type} {xs:Array α} {i:Nat} {a:α} (h:xs[i]? = some a):i < xs.size:=(Array.getElem?_eq_some_iff.1 h).1
abbrev zqB:Array Value:=#[.string ⟨#[]⟩,.int .u64 0,.string ⟨#[]⟩,.string ⟨#[]⟩,.string ⟨#[]⟩,.string ⟨#[]⟩,.slice none 0 0,.string ⟨#[]⟩,.bool false,.int .u64 0,.slice none 0 0,.slice none 0 0]
abbrev zqH:Array Value:=#[.string ⟨#[]⟩,.int .u64 0,.string ⟨#[]⟩,.string ⟨#[]⟩,.string ⟨#[]⟩,.string ⟨#[]⟩,.slice none 0 0,.string ⟨#[]⟩,.bool false,.int .u64 0,.slice none 0 0]
abbrev zqT:Array Value:=#[.string ⟨#[]⟩,.int .u64 0,.int .u64 0,.int .u64 0,.int .u64 0,.int .u64 0,.int .u64 0,.int .u64 0,.int .u64 0,.int .u64 0,.int .u64 0,.int .i64 0]
abbrev zqS:Array Value:=#[.int .u64 0,.int .u64 0,.int .u64 0,.int .u64 0,.int .u64 0,.int .u64 0,.int .u64 0,.int .u64 0,.int .i64 0]
/- Numbers of 256 bits in plain Lean: four words, and 32 bytes; of no program. -/
/-- what bytes are, the highest first -/
def natOf:List UInt8→Nat
 | []=>0
 | c :: r=>c.toNat * 256 ^ r.length+natOf r
theorem qf7:∀ l:List UInt8,natOf l < 256 ^ l.length
 | []=>by simp [natOf]
 | c :: r=>by
  have h:=qf7 r
  have hc:=c.toNat_lt
  rw [natOf,List.length_cons,Nat.pow_succ]
  have:c.toNat * 256 ^ r.length≤255 * 256 ^ r.length:=Nat.mul_le_mul (by omega) qn
  omega
/-- so many bytes of a number, the highest first -/
def bytesOf:Nat→Nat→List UInt8
 | 0,_=>[]
 | n+1,v=>UInt8.ofNat (v / 256 ^ n % 256) :: bytesOf n v
theorem qfa:∀ (n v:Nat),(bytesOf n v).length=n
 | 0,_=>rfl
 | n+1,v=>by rw [bytesOf,List.length_cons,qfa n v]
theorem qhr:∀ (n v:Nat),natOf (bytesOf n v)=v % 256 ^ n
 | 0,v=>by simp [bytesOf,natOf,Nat.mod_one]
 | n+1,v=>by
  rw [bytesOf,natOf,qfa,qhr n v,UInt8.toNat_ofNat']
  have e:v / 256 ^ n % 256 % 2 ^ 8=v / 256 ^ n % 256:=Nat.mod_mod _ _
  rw [e,Nat.pow_succ,Nat.mod_mul,Nat.mul_comm]
  omega
theorem qm5 (n v k:Nat) (h:n≤k):bytesOf n (v % 256 ^ k)=bytesOf n v:=by
 induction n with
 | zero=>rfl
 | succ n ih =>
  rw [bytesOf,bytesOf,ih (by omega)]
  congr 2
  obtain ⟨j,rfl⟩:∃ j,k=n+(j+1):=⟨k - n - 1,by omega⟩
  rw [Nat.pow_add,Nat.mod_mul_right_div_self,Nat.pow_succ,Nat.mul_comm (256 ^ j) 256,Nat.mod_mul_right_mod]
theorem qhj:∀ l:List UInt8,bytesOf l.length (natOf l)=l
 | []=>rfl
 | c :: r=>by
  have hr:=qf7 r
  have hc:=c.toNat_lt
  have hp:0 < 256 ^ r.length:=Nat.pow_pos (by decide)
  rw [List.length_cons,bytesOf,natOf]
  have e1:(c.toNat * 256 ^ r.length+natOf r) / 256 ^ r.length=c.toNat:=by
   rw [Nat.mul_comm,Nat.mul_add_div hp,Nat.div_eq_of_lt hr,Nat.add_zero]
  have e2:bytesOf r.length (c.toNat * 256 ^ r.length+natOf r)=r:=by
   rw [← qm5 _ _ _ qn,Nat.mul_comm,Nat.mul_add_mod,Nat.mod_eq_of_lt hr,qhj r]
  rw [e1,e2]
  congr 1
  rw [Nat.mod_eq_of_lt hc]
  simp
/-- four words, the lowest first -/
structure U4 where
 a:Nat
 b:Nat
 c:Nat
 d:Nat
deriving DecidableEq
structure U4.Wf (x:U4):Prop where
 a:x.a < 18446744073709551616
 b:x.b < 18446744073709551616
 c:x.c < 18446744073709551616
 d:x.d < 18446744073709551616
def U4.val (x:U4):Nat:=x.a+18446744073709551616 * (x.b+18446744073709551616 * (x.c+18446744073709551616 * x.d))
def U4.of (v:Nat):U4:=⟨v % 18446744073709551616,v / 18446744073709551616 % 18446744073709551616,v / 18446744073709551616 / 18446744073709551616 % 18446744073709551616,v / 18446744073709551616 / 18446744073709551616 / 18446744073709551616 % 18446744073709551616⟩
theorem U4.of_wf (v:Nat):(U4.of v).Wf:=⟨Nat.mod_lt _ (by decide),Nat.mod_lt _ (by decide),Nat.mod_lt _ (by decide),Nat.mod_lt _ (by decide)⟩
def two256:Nat:=115792089237316195423570985008687907853269984665640564039457584007913129639936
theorem U4.val_lt {x:U4} (h:x.Wf):x.val < two256:=by
 obtain ⟨h1,h2,h3,h4⟩:=h
 unfold U4.val two256
 omega
theorem U4.of_val {x:U4} (h:x.Wf):U4.of x.val=x:=by
 obtain ⟨h1,h2,h3,h4⟩:=h
 obtain ⟨a,b,c,d⟩:=x
 simp only [] at h1 h2 h3 h4
 simp only [U4.of,U4.val,U4.mk.injEq]
 refine ⟨by omega,by omega,by omega,by omega⟩
theorem U4.val_of {v:Nat} (h:v < two256):(U4.of v).val=v:=by
 unfold U4.val U4.of two256 at *
 simp only []
 omega
theorem U4.ext {x y:U4} (hx:x.Wf) (hy:y.Wf) (h:x.val=y.val):x=y:=by
 rw [← U4.of_val hx,← U4.of_val hy,h]
/-- how two stand, word by word from the highest -/
def cmpW (x y:U4):Int :=
 if x.d < y.d then -1 else if y.d < x.d then 1 else if x.c < y.c then -1 else if y.c < x.c then 1 else if x.b < y.b then -1 else if y.b < x.b then 1 else if x.a < y.a then -1 else if y.a < x.a then 1 else 0
theorem qns {x y:U4} (hx:x.Wf) (hy:y.Wf):cmpW x y=if x.val < y.val then -1 else if y.val < x.val then 1 else 0:=by
 obtain ⟨h1,h2,h3,h4⟩:=hx
 obtain ⟨k1,k2,k3,k4⟩:=hy
 unfold cmpW U4.val
 by_cases d1:x.d < y.d
 ·rw [if_pos d1,if_pos (by omega)]
 by_cases d2:y.d < x.d
 ·rw [if_neg d1,if_pos d2,if_neg (by omega),if_pos (by omega)]
 rw [if_neg d1,if_neg d2]
 by_cases c1:x.c < y.c
 ·rw [if_pos c1,if_pos (by omega)]
 by_cases c2:y.c < x.c
 ·rw [if_neg c1,if_pos c2,if_neg (by omega),if_pos (by omega)]
 rw [if_neg c1,if_neg c2]
 by_cases b1:x.b < y.b
 ·rw [if_pos b1,if_pos (by omega)]
 by_cases b2:y.b < x.b
 ·rw [if_neg b1,if_pos b2,if_neg (by omega),if_pos (by omega)]
 rw [if_neg b1,if_neg b2]
 by_cases a1:x.a < y.a
 ·rw [if_pos a1,if_pos (by omega)]
 by_cases a2:y.a < x.a
 ·rw [if_neg a1,if_pos a2,if_neg (by omega),if_pos (by omega)]
 rw [if_neg a1,if_neg a2,if_neg (by omega),if_neg (by omega)]
/-- a word of a sum with what is carried, and what goes on -/
def addW (p q r:Nat):Nat×Nat:=((p+q+r) % 18446744073709551616,(p+q+r) / 18446744073709551616)
def sumW (x y:U4):U4×Nat :=
 let e0:=addW x.a y.a 0
 let e1:=addW x.b y.b e0.2
 let e2:=addW x.c y.c e1.2
 let e3:=addW x.d y.d e2.2
 (⟨e0.1,e1.1,e2.1,e3.1⟩,e3.2)
theorem qn3 {x y:U4} (hx:x.Wf) (hy:y.Wf):(sumW x y).1.Wf∧(sumW x y).1.val+two256 * (sumW x y).2=x.val+y.val∧(sumW x y).2≤1:=by
 obtain ⟨h1,h2,h3,h4⟩:=hx
 obtain ⟨k1,k2,k3,k4⟩:=hy
 refine ⟨⟨Nat.mod_lt _ (by decide),Nat.mod_lt _ (by decide),Nat.mod_lt _ (by decide),Nat.mod_lt _ (by decide)⟩,?_,?_⟩
 ·unfold sumW addW U4.val two256
  simp only []
  omega
 ·unfold sumW addW
  simp only []
  omega
/-- a word of a difference with what was borrowed, and what goes on -/
def subW (p q r:Nat):Nat×Nat:=((p+18446744073709551616 - q - r) % 18446744073709551616,if p < q+r then 1 else 0)
def diffW (x y:U4):U4×Nat :=
 let e0:=subW x.a y.a 0
 let e1:=subW x.b y.b e0.2
 let e2:=subW x.c y.c e1.2
 let e3:=subW x.d y.d e2.2
 (⟨e0.1,e1.1,e2.1,e3.1⟩,e3.2)
theorem qf3 {p q r:Nat} (hp:p < 18446744073709551616) (hq:q < 18446744073709551616) (hr:r≤1):(subW p q r).1+q+r=p+18446744073709551616 * (subW p q r).2∧(subW p q r).2≤1∧(subW p q r).1 < 18446744073709551616:=by
 unfold subW
 simp only []
 split <;> exact ⟨by omega,by omega,Nat.mod_lt _ (by decide)⟩
theorem qru {x y:U4} (hx:x.Wf) (hy:y.Wf):(diffW x y).1.Wf∧(diffW x y).1.val+y.val=x.val+two256 * (diffW x y).2∧(diffW x y).2≤1:=by
 obtain ⟨h1,h2,h3,h4⟩:=hx
 obtain ⟨k1,k2,k3,k4⟩:=hy
 obtain ⟨a1,a2,a3⟩:=qf3 h1 k1 (Nat.zero_le 1)
 obtain ⟨b1,b2,b3⟩:=qf3 h2 k2 a2
 obtain ⟨c1,c2,c3⟩:=qf3 h3 k3 b2
 obtain ⟨d1,d2,d3⟩:=qf3 h4 k4 c2
 refine ⟨⟨a3,b3,c3,d3⟩,?_,d2⟩
 unfold diffW U4.val two256
 simp only []
 omega
/-- the words by their numbers -/
def U4.word (x:U4):Nat→Nat
 | 0=>x.a
 | 1=>x.b
 | 2=>x.c
 | 3=>x.d
 | _=>0
theorem U4.word_val {x:U4} (h:x.Wf) (j:Nat) (hj:j < 4):x.word j=x.val / 18446744073709551616 ^ j % 18446744073709551616:=by
 obtain ⟨h1,h2,h3,h4⟩:=h
 unfold U4.val
 match j,hj with
 | 0,_=>simp only [U4.word];omega
 | 1,_=>simp only [U4.word];omega
 | 2,_=>simp only [U4.word];omega
 | 3,_=>simp only [U4.word];omega
/-- byte k of a number, in its words -/
theorem U4.byte {x:U4} (h:x.Wf) (k:Nat) (hk:k < 32):x.word (k / 8) / 256 ^ (k % 8) % 256=x.val / 256 ^ k % 256:=by
 rw [U4.word_val h _ (by omega)]
 have e1:(18446744073709551616:Nat)=256 ^ 8:=by decide
 rw [e1,← Nat.pow_mul]
 obtain ⟨i,hi⟩:∃ i,k % 8=i:=⟨_,rfl⟩
 have hi8:i < 8:=by omega
 generalize hv:x.val / 256 ^ (8 * (k / 8))=v
 have e2:x.val / 256 ^ k=v / 256 ^ i:=by
  rw [← hv,Nat.div_div_eq_div_mul,← Nat.pow_add,← hi,Nat.div_add_mod]
 rw [e2,hi]
 obtain ⟨j,hj⟩:∃ j,8=i+(j+1):=⟨8 - i - 1,by omega⟩
 rw [show (256:Nat) ^ 8=256 ^ i * 256 ^ (j+1) by rw [← Nat.pow_add,← hj],Nat.mod_mul_right_div_self,Nat.pow_succ,Nat.mul_comm (256 ^ j) 256,Nat.mod_mul_right_mod]
/- Rows whose elements are plain cells: as data, and in memory; of no program. -/
def plD (cs:List Value):D:=.st (cs.map .v)
section
variable {S S':Nat→Prop} {w w':World}
theorem qta:∀ {cs:List Value},(∀ u∈cs,u.oneCell'=true)→RepL S w (cs.map .v) cs
 | [],_=>.nil
 | c :: cs,h=>.cons (cs:=[c]) (.v c (h c (by simp))) (qta fun u hu=>h u (by simp [hu]))
theorem qjz {cs:List Value} (h:∀ u∈cs,u.oneCell'=true):Rep S w (plD cs) cs:=.st (qta h)
theorem qoh:∀ {cs cs':List Value},RepL S w (cs.map .v) cs'→cs'=cs
 | [],_,h=>by cases h;rfl
 | c :: cs,_,h=>by
  cases h with
  | cons h h1 =>
   rw [Rep.v_form h,qoh h1];rfl
theorem qdo {cs cs':List Value} (h:Rep S w (plD cs) cs'):cs'=cs:=qoh (Rep.st_form h)
/-- a row of such in memory -/
def PlV (S:Nat→Prop) (w:World) (sz:Nat) (ls:List (List Value)) (A:Option Addr) (c:Nat):Prop:=Rep S w (.sl sz (ls.map plD)) [.slice A ls.length c]
theorem PlV.keep {sz:Nat} {ls:List (List Value)} {A:Option Addr} {c:Nat} (h:PlV S w sz ls A c) (hb:Below w.heap.size w w'):PlV S w' sz ls A c:=Rep.keep h hb
theorem PlV.any {sz:Nat} {ls:List (List Value)} {A:Option Addr} {c:Nat} (h:PlV S w sz ls A c):PlV Any w sz ls A c:=Rep.any h
theorem PlV.len {sz:Nat} {ls:List (List Value)} {A:Option Addr} {c:Nat} (h:PlV S w sz ls A c):ls.length≤c∧c≤maxLen:=(Rep.slice_len h).2
theorem PlV.nil {sz:Nat}:PlV S w sz [] none 0:=Rep.nil_slice sz
theorem PlV.at_ {sz:Nat} {ls:List (List Value)} {A:Option Addr} {c i:Nat} {cs:List Value} (h:PlV S w sz ls A c) (hz:0 < sz) (hi:ls[i]? = some cs) :
  ∃ g o,A=some ⟨g,o,none⟩∧S g∧cs.length=sz∧∀ j u,cs[j]? = some u→w.cell? ⟨g,o+i * sz+j,none⟩=some u:=by
 obtain ⟨g,o,ci,hA,hs,hr,hl,hc⟩:=Rep.slice_at h hz (i:=i) (d:=plD cs) (by rw [List.getElem?_map,hi];rfl)
 have:=qdo hr
 subst this
 exact ⟨g,o,hA,hs,hl,fun j u hj=>by rw [Nat.add_assoc];exact hc j u hj⟩
theorem qn2 {sz:Nat}:∀ {ls:List (List Value)} {css:List Value},RepN S w sz (ls.map plD) css→css=ls.flatten
 | [],_,h=>by cases h;rfl
 | l :: ls,_,h=>by
  cases h with
  | cons h h0 h1=>rw [qdo h,qn2 h1];rfl
theorem qjr {sz:Nat}:∀ {ls:List (List Value)},(∀ l∈ls,l.length=sz∧∀ u∈l,u.oneCell'=true)→RepN S w sz (ls.map plD) ls.flatten
 | [],_=>.nil
 | l :: ls,h=>by
  obtain ⟨h0,h1⟩:=h l (by simp)
  exact .cons (qjz h1) h0 (qjr fun m hm=>h m (by simp [hm]))
theorem PlV.lies {sz:Nat} {ls:List (List Value)} {A:Option Addr} {c:Nat} (h:PlV S w sz ls A c):Lies S w A ls.flatten:=by
 obtain ⟨css,h1,h2,_,_⟩:=Rep.slice_open h
 rw [qn2 h1] at h2
 exact h2
theorem PlV.own {base:Nat} {e:TypeId} {sz n c:Nat} {A:Option Addr} {ls:List (List Value)} (h:w.ownsRow base e sz (.slice A n c) n ls.flatten) (hn:n=ls.length) (hl:∀ l∈ls,l.length=sz∧∀ u∈l,u.oneCell'=true) (hS:∀ g,base≤g→g < w.heap.size→S g):PlV S w sz ls A c:=by
 subst hn
 exact qck h (qjr hl) (by simp) hS
theorem Lies.take' {A:Option Addr} {a b:List Value} (h:Lies S w A (a ++ b)):Lies S w A a:=fun hne=>by
 obtain ⟨g,o,hA,hs,hc⟩:=h (fun e=>hne (List.append_eq_nil_iff.1 e).1)
 exact ⟨g,o,hA,hs,fun j u hj=>hc j u (by rw [List.getElem?_append_left (List.getElem?_eq_some_iff.1 hj).1];exact hj)⟩
end
/- Items as data: what they are in memory. -/
mutual
def itemD:Item→D
 | .mk l b ks=>.st [.v (.bool l),.v (.string (bs b)),.sl 3 (itemsD ks)]
def itemsD:List Item→List D
 | []=>[]
 | k :: ks=>itemD k :: itemsD ks
end
theorem qer (ks:List Item):itemsD ks=ks.map itemD:=by
 induction ks with
 | nil=>rfl
 | cons k ks ih=>simp [itemsD,ih]
theorem qdj (ks:List Item):(itemsD ks).length=ks.length:=by rw [qer,List.length_map]
theorem qcw (a b:List Item):itemsD (a ++ b)=itemsD a ++ itemsD b:=by simp [qer]
/-- the cells of an item whose list lies at A -/
def itemC (x:Item) (A:Option Addr) (c:Nat):List Value:=[.bool x.l,.string (bs x.b),.slice A x.ks.length c]
/-- an item in memory -/
def ItemV (S:Nat→Prop) (w:World) (x:Item) (A:Option Addr) (c:Nat):Prop:=Rep S w (itemD x) (itemC x A c)
section
variable {S S':Nat→Prop} {w w':World}
theorem ItemV.kids {x:Item} {A:Option Addr} {c:Nat} (h:ItemV S w x A c):Rep S w (.sl 3 (itemsD x.ks)) [.slice A x.ks.length c]:=by
 obtain ⟨l,b,ks⟩:=x
 have h:=h.st_form
 obtain ⟨c0,c1,e,h0,h1⟩:=h.cons_form
 have:=h0.v_form;subst this
 obtain ⟨c2,c3,e1,h2,h3⟩:=h1.cons_form
 have:=h2.v_form;subst this
 obtain ⟨c4,c5,e2,h4,h5⟩:=h3.cons_form
 have:=h5.nil_form;subst this
 subst e2;subst e1
 simp [itemC] at e
 rw [← e.2.2] at h4
 exact h4
theorem qel {x:Item} {A:Option Addr} {c:Nat} (h:Rep S w (.sl 3 (itemsD x.ks)) [.slice A x.ks.length c]):ItemV S w x A c:=by
 obtain ⟨l,b,ks⟩:=x
 exact .st (.cons (cs:=[_]) (.v _ rfl) (.cons (cs:=[_]) (.v _ rfl) (.cons (cs:=[_]) h .nil)))
theorem ItemV.leaf (b:Bytes) (l:Bool):ItemV S w (.mk l b []) none 0:=qel (by simpa [itemsD,Item.ks] using Rep.nil_slice 3)
theorem qls {x:Item} {cs:List Value} (h:Rep S w (itemD x) cs):∃ A c,cs=itemC x A c∧ItemV S w x A c:=by
 obtain ⟨l,b,ks⟩:=x
 have hh:=h.st_form
 obtain ⟨c0,c1,e,h0,h1⟩:=hh.cons_form
 have:=h0.v_form;subst this
 obtain ⟨c2,c3,e1,h2,h3⟩:=h1.cons_form
 have:=h2.v_form;subst this
 obtain ⟨c4,c5,e2,h4,h5⟩:=h3.cons_form
 have:=h5.nil_form;subst this
 subst e2;subst e1
 obtain ⟨A,n,c,rfl⟩:=h4.slice_form
 have hn:=h4.slice_len.1
 rw [qdj] at hn
 subst hn
 have:cs=itemC (.mk l b ks) A c:=by simpa [itemC,Item.l,Item.b,Item.ks] using e
 subst this
 exact ⟨A,c,rfl,h⟩
theorem ItemV.mono {x:Item} {A:Option Addr} {c:Nat} (h:ItemV S w x A c) (hb:∀ b,b < w.heap.size→S b→S' b∧w'.heap[b]? = w.heap[b]?):ItemV S' w' x A c:=Rep.mono h hb
theorem ItemV.keep {x:Item} {A:Option Addr} {c:Nat} (h:ItemV S w x A c) (hb:Below w.heap.size w w'):ItemV S w' x A c:=Rep.keep h hb
theorem ItemV.alloc {x:Item} {A:Option Addr} {c:Nat} (h:ItemV S w x A c) (o:Obj):ItemV S (w.alloc o) x A c:=Rep.alloc h o
theorem ItemV.len {x:Item} {A:Option Addr} {c:Nat} (h:ItemV S w x A c):x.ks.length≤c∧c≤maxLen:=h.kids.slice_len.2
/-- the list's item at a place -/
theorem ItemV.at_ {x k:Item} {A:Option Addr} {c i:Nat} (h:ItemV S w x A c) (hi:x.ks[i]? = some k) :
  ∃ g o A' c',A=some ⟨g,o,none⟩∧S g∧ItemV S w k A' c'∧w.cell? ⟨g,o+i * 3,none⟩=some (.bool k.l)∧w.cell? ⟨g,o+i * 3+1,none⟩=some (.string (bs k.b)) ∧
   w.cell? ⟨g,o+i * 3+2,none⟩=some (.slice A' k.ks.length c'):=by
 obtain ⟨g,o,ci,rfl,hs,r,hl,hc⟩:=h.kids.slice_at (i:=i) (d:=itemD k) (by omega) (by rw [qer,List.getElem?_map,hi];rfl)
 obtain ⟨A',c',rfl,hv⟩:=qls r
 exact ⟨g,o,A',c',rfl,hs,hv,by simpa [Nat.add_assoc] using hc 0 _ rfl,by simpa [Nat.add_assoc] using hc 1 _ rfl,by simpa [Nat.add_assoc] using hc 2 _ rfl⟩
theorem qt2 (x:Item) (A:Option Addr) (c:Nat):∀ u∈itemC x A c,u.oneCell'=true:=by
 intro u hu;simp [itemC] at hu;rcases hu with rfl | rfl | rfl <;> rfl
end
/-- the cells of a row of the call's own that holds items -/
theorem own_item {S:Nat→Prop} {w wr:World} {base:Nat} {e:TypeId} {A:Option Addr} {n c:Nat} {q:List Item} {xs:List Value} {i:Nat} {k:Item}
  (hown:wr.ownsRow base e 3 (.slice A n c) n xs) (hr:RepN S w 3 (itemsD q) xs) (hi:q[i]? = some k) :
  ∃ g A' c',A=some ⟨g,0,none⟩∧ItemV S w k A' c'∧wr.cell? ⟨g,i * 3,none⟩=some (.bool k.l)∧wr.cell? ⟨g,i * 3+1,none⟩=some (.string (bs k.b)) ∧
   wr.cell? ⟨g,i * 3+2,none⟩=some (.slice A' k.ks.length c'):=by
 obtain ⟨ci,r1,r2,r3⟩:=hr.at_ (i:=i) (d:=itemD k) (by rw [qer,List.getElem?_map,hi];rfl)
 obtain ⟨A',c',rfl,hv⟩:=qls r1
 have h0:=r3 0 _ rfl
 obtain ⟨g,o,hA,_,hc⟩:=qdl (S:=Any) hown (fun _ _ _=>trivial) (by intro he;rw [he] at h0;simp at h0)
 subst hA
 have ho:o=0:=by
  rcases hown.2 with ⟨hv,_⟩ | ⟨g',cap,cur,hv,_⟩
  ·simp at hv
  ·simp at hv;exact hv.1.2
 subst ho
 exact ⟨g,A',c',rfl,hv,by simpa using hc _ _ h0,by simpa [Nat.add_assoc] using hc _ _ (r3 1 _ rfl),by simpa [Nat.add_assoc] using hc _ _ (r3 2 _ rfl)⟩
theorem qbk {α:Type} {l:List α} {i:Nat} {a:α} (h:l[i]? = some a):l.take (i+1)=l.take i ++ [a]:=by
 obtain ⟨hi,ha⟩:=List.getElem?_eq_some_iff.1 h
 rw [List.take_succ_eq_append_getElem hi,ha]
theorem qan {α:Type} {l:List α} {i:Nat} (h:i < l.length):∃ a,l[i]? = some a:=⟨l[i],List.getElem?_eq_getElem h⟩
theorem qdf {x k:Item} {i:Nat} (h:x.ks[i]? = some k):countP k < countP x:=by
 obtain ⟨l,b,ks⟩:=x
 simp only [Item.ks] at h
 simp only [countP]
 induction ks generalizing i with
 | nil=>simp at h
 | cons k' ks ih =>
  cases i with
  | zero=>simp at h;subst h;simp only [countsP];omega
  | succ i=>have:=ih (by simpa using h);simp only [countsP];omega
theorem qsd {x k:Item} {i:Nat} (hp:pureP x=true) (h:x.ks[i]? = some k):pureP k=true:=by
 obtain ⟨l,b,ks⟩:=x
 simp only [Item.ks] at h
 simp only [pureP,Bool.and_eq_true] at hp
 replace hp:=hp.2
 induction ks generalizing i with
 | nil=>simp at h
 | cons k' ks ih =>
  simp only [puresP,Bool.and_eq_true] at hp
  cases i with
  | zero=>simp at h;subst h;exact hp.1
  | succ i=>exact ih (by simpa using h) hp.2
theorem qo5 {x:Item} (hp:pureP x=true) (hl:x.l=false):x.ks = []:=by
 obtain ⟨l,b,ks⟩:=x
 simp only [Item.l] at hl
 subst hl
 simp [pureP] at hp
 exact hp.1
theorem qk3 (x:Item):depthP x=depthsP x.ks+if x.l then 1 else 0:=by cases x;rfl
theorem qlu {ks:List Item} {i:Nat} {k:Item} (h:ks[i]? = some k):depthsP (ks.take (i+1))=max (depthsP (ks.take i)) (depthP k):=by
 rw [qbk h,qil];simp [depthsP]
theorem qgu {ks:List Item} {i:Nat} {k:Item} (h:ks[i]? = some k):writesP (ks.take (i+1))=writesP (ks.take i) ++ writeP k:=by
 rw [qbk h,qc8];simp [writesP]
theorem qc0 {α:Type} {l:List α} {i:Nat} {a:α} (h:l[i]? = some a):l.drop i=a :: l.drop (i+1):=by
 obtain ⟨hi,ha⟩:=List.getElem?_eq_some_iff.1 h
 rw [← ha];exact List.drop_eq_getElem_cons hi
/-- is an item itself bytes or a list? -/
def okB:Item→Bool
 | .mk true b _=>b.isEmpty
 | .mk false _ ks=>ks.isEmpty
theorem qoa (x:Item):pureP x=(okB x && puresP x.ks):=by obtain ⟨l,b,ks⟩:=x;cases l <;> rfl
theorem qpy (x:Item):(okB x=true∧((x.l=true∧x.b = [])∨(x.l=false∧x.ks.length=0)))∨(okB x=false∧((x.l=true∧(x.b == [])=false)∨(x.l=false∧0 < (x.ks.length:Int)))):=by
 obtain ⟨l,b,ks⟩:=x
 cases l
 ·cases ks
  ·exact .inl ⟨rfl,.inr ⟨rfl,rfl⟩⟩
  ·exact .inr ⟨rfl,.inr ⟨rfl,by simp [Item.ks]⟩⟩
 ·cases b
  ·exact .inl ⟨rfl,.inl ⟨rfl,rfl⟩⟩
  ·exact .inr ⟨rfl,.inl ⟨rfl,rfl⟩⟩
/-- one item more of the row that waits is looked at -/
theorem qhk {q:List Item} {i:Nat} {y:Item} (h:q[i]? = some y) :
  i+countsP (q.drop i)=(i+1)+countsP ((q ++ y.ks).drop (i+1)) ∧
  puresP (q.drop i)=(okB y && puresP ((q ++ y.ks).drop (i+1))):=by
 have hi:=(List.getElem?_eq_some_iff.1 h).1
 rw [qc0 h,List.drop_append_of_le_length (by omega),qim,qf8,puresP,qoa]
 have hc:countP y=1+countsP y.ks:=by cases y;rfl
 simp only [countsP,hc]
 refine ⟨by omega,?_⟩
 generalize okB y=u
 generalize puresP y.ks=v
 generalize puresP (q.drop (i+1))=z
 cases u <;> cases v <;> cases z <;> rfl
theorem qlx {q:List Item} {i:Nat} {y:Item} (h:q[i]? = some y):q.length+y.ks.length≤i+countsP (q.drop i):=by
 have hi:=(List.getElem?_eq_some_iff.1 h).1
 have h1:=qcj ((q ++ y.ks).drop (i+1))
 rw [(qhk h).1]
 simp at h1
 omega
/-- how far the counting of items has come -/
def ManyS (x:Item) (k:Nat) (q:List Item):Prop:=(q.length≤4000∧countP x=k+countsP (q.drop k))∨(q.length=4001∧4000 < countP x)
def ManyI (x:Item) (q ks:List Item) (j:Nat) (q':List Item):Prop:=(q'=q ++ ks.take j∧q'.length≤4000)∨(q'.length=4001∧4000 < countP x)
theorem ManyS.le {x:Item} {k:Nat} {q:List Item} (h:ManyS x k q):q.length≤4001:=by rcases h with ⟨h,_⟩ | ⟨h,_⟩ <;> omega
theorem ManyI.le {x:Item} {q ks q':List Item} {j:Nat} (h:ManyI x q ks j q'):q'.length≤4001:=by rcases h with ⟨_,h⟩ | ⟨h,_⟩ <;> omega
theorem ManyI.start {x:Item} {k:Nat} {q ks:List Item} (h:ManyS x k q):ManyI x q ks 0 q:=by
 rcases h with ⟨h,_⟩ | ⟨h,h1⟩
 ·exact .inl ⟨by simp,h⟩
 ·exact .inr ⟨h,h1⟩
theorem ManyI.more {x y z:Item} {k j:Nat} {q q':List Item} (h0:ManyS x k q) (hq:q.length≤4000) (hy:q[k]? = some y) (hz:y.ks[j]? = some z) (h:ManyI x q y.ks j q') (hl:q'.length≤4000):ManyI x q y.ks (j+1) (q' ++ [z]):=by
 rcases h with ⟨rfl,_⟩ | ⟨h,_⟩
 ·by_cases hh:(q ++ y.ks.take j).length+1≤4000
  ·exact .inl ⟨by rw [qbk hz,List.append_assoc],by simp at hh ⊢;omega⟩
  ·have hj:=(List.getElem?_eq_some_iff.1 hz).1
   refine .inr ⟨by simp at hl hh ⊢;omega,?_⟩
   rcases h0 with ⟨_,h0⟩ | ⟨h0,_⟩
   ·have:=qlx hy
    simp at hh
    omega
   ·omega
 ·omega
theorem ManyS.next {x y:Item} {k:Nat} {q q':List Item} (h0:ManyS x k q) (hq:q.length≤4000) (hy:q[k]? = some y) (h:ManyI x q y.ks y.ks.length q'):ManyS x (k+1) q':=by
 rcases h with ⟨rfl,h⟩ | h
 ·rw [List.take_length] at h ⊢
  rcases h0 with ⟨_,h0⟩ | ⟨h0,_⟩
  ·exact .inl ⟨h,by rw [h0,(qhk hy).1]⟩
  ·omega
 ·exact .inr h
theorem ManyS.fin {x:Item} {k:Nat} {q:List Item} (h:ManyS x k q) (he:¬ (k < q.length∧q.length≤4000)) (hk:k≤q.length):(4000 < q.length↔4000 < countP x):=by
 rcases h with ⟨h1,h2⟩ | ⟨h1,h2⟩
 ·have:k=q.length:=by omega
  subst this
  rw [List.drop_length] at h2
  simp [countsP] at h2
  omega
 ·omega
/-- may an item be, but for how deep it is? -/
def wellP (x:Item):Bool:=pureP x && decide (countP x≤4000)
theorem qit (ks:List Item) (i:Nat):(writesP (ks.take i)).length≤(writesP ks).length:=by
 have:=congrArg List.length (qc8 (ks.take i) (ks.drop i))
 rw [List.take_append_drop,List.length_append] at this
 omega
theorem qpo {ks:List Item} {i:Nat} {k:Item} (h:ks[i]? = some k):(writeP k).length≤(writesP ks).length:=by
 have h1:=qit ks (i+1)
 rw [qgu h,List.length_append] at h1
 omega
end Go.Proofs.YteoednifdpdbnaaGreat
