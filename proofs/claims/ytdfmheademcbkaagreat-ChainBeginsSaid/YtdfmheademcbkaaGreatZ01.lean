/- Words for memory, of no program: data that a value reads as (D, Rep), kept where the world grows. -/
import Derived.WalkKit
import Derived.WalkSpells
import Derived.WalkLawsBesides
import Derived.Lib.Strings
import Derived.Lib.Hide
import Derived.Maps.AppendAt
namespace Go.Proofs.YtdfmheademcbkaaGreat
set_option linter.unusedVariables false
set_option linter.unusedSimpArgs false
open Go.RowKit
/-- a text as bytes -/
def bs (l:List UInt8):ByteArray:=⟨l.toArray⟩
@[go_sem] theorem size_bs (l:List UInt8):(bs l).size=l.length:=by simp [bs,ByteArray.size]
@[go_sem] theorem toList_bs (l:List UInt8):(bs l).toList=l:=by simp [bs]
@[go_sem] theorem data_bs (l:List UInt8):(bs l).data=l.toArray:=rfl
theorem bs_data (s:ByteArray):bs s.data.toList=s:=by obtain ⟨⟨l⟩⟩:=s;rfl
theorem bs_inj {a b:List UInt8} (h:bs a=bs b):a=b:=by simpa [bs] using h
@[go_sem] theorem bs_append (a b:List UInt8):bs a ++ bs b=bs (a ++ b):=by
 apply ByteArray.ext;simp [bs]
@[go_sem] theorem bs_extract (l:List UInt8) (i j:Nat):(bs l).extract i j=bs ((l.drop i).take (j - i)):=ByteArray.extract_mk l i j
@[go_sem] theorem bs_get (l:List UInt8) (i:Nat) (h:i < (bs l).size):(bs l)[i]=l[i]'(by rw [← size_bs];exact h):=by
 rfl
/-- below, from either side of a call: the old cells and marks read as before -/
theorem bcell {B:Nat} {W w1:World} (hb:Below B W w1):(∀ b o,b < B→w1.cell? ⟨b,o,none⟩=W.cell? ⟨b,o,none⟩)∧(∀ b o,b < B→w1.frozen? ⟨b,o,none⟩=W.frozen? ⟨b,o,none⟩) :=
 ⟨fun b o h=>hb.cell (p:=⟨b,o,none⟩) h,fun b o h=>hb.frozen (p:=⟨b,o,none⟩) h⟩
theorem below_box {w W:World} {o:Obj} (h:Below (w.heap.size+1) (w.alloc o) W):Below w.heap.size w W:=((Below.refl _ _).alloc (Nat.le_refl _) _).trans (h.mono (by omega))
theorem below_box' {w W:World} {o:Obj} (h:Below (w.alloc o).drew.heap.size (w.alloc o).drew W):Below w.heap.size w W:=(((Below.refl _ _).alloc (Nat.le_refl _) _).drew).trans (h.mono (by simp))
theorem below_drewN {B:Nat} {a w:World} (h:Below B a w) (n:Nat):Below B a (w.drewN n):=⟨h.os,h.tape,h.output,h.size,h.block⟩
theorem below_next {B:Nat} {a w w1:World} {o:Obj} (h:Below B a w) (hB:B≤w.heap.size) (h1:Below (w.alloc o).heap.size (w.alloc o) w1):Below B a w1 :=
 (h.alloc hB o).trans (h1.mono (by simp;omega))
theorem below_call {B:Nat} {a w w1:World} (h:Below B a w) (hB:B≤w.heap.size) (h1:Below w.heap.size w w1):Below B a w1:=h.trans (h1.mono hB)
/-- data: a cell's value; some pieces one behind the other; a slice of pieces of so many cells each -/
inductive D where
 | v (x:Value)
 | st (ds:List D)
 | sl (sz:Nat) (es:List D)
/-- the cells cs lie at a slice's place, in blocks of S -/
def Lies (S:Nat→Prop) (w:World) (A:Option Addr) (cs:List Value):Prop :=
 cs ≠ []→∃ g o,A=some ⟨g,o,none⟩∧S g∧∀ j u,cs[j]? = some u→w.cell? ⟨g,o+j,none⟩=some u
mutual
inductive Rep (S:Nat→Prop) (w:World):D→List Value→Prop
 | v (x:Value):x.oneCell'=true→Rep S w (.v x) [x]
 | st {ds:List D} {cs:List Value}:RepL S w ds cs→Rep S w (.st ds) cs
 | sl {sz:Nat} {es:List D} {css:List Value} {A:Option Addr} {n c:Nat}:RepN S w sz es css→n=es.length→Lies S w A css→n≤c→c≤maxLen→Rep S w (.sl sz es) [.slice A n c]
inductive RepL (S:Nat→Prop) (w:World):List D→List Value→Prop
 | nil:RepL S w [] []
 | cons {d:D} {ds:List D} {cs cs':List Value}:Rep S w d cs→RepL S w ds cs'→RepL S w (d :: ds) (cs ++ cs')
inductive RepN (S:Nat→Prop) (w:World):Nat→List D→List Value→Prop
 | nil {sz:Nat}:RepN S w sz [] []
 | cons {sz:Nat} {d:D} {ds:List D} {cs cs':List Value}:Rep S w d cs→cs.length=sz→RepN S w sz ds cs'→RepN S w sz (d :: ds) (cs ++ cs')
end
theorem lt_of_cell {w:World} {g o:Nat} {u:Value} (h:w.cell? ⟨g,o,none⟩=some u):g < w.heap.size:=World.block_lt_of_cell? w ⟨g,o,none⟩ h
section
variable {S S':Nat→Prop} {w w':World}
theorem Lies.mono {A:Option Addr} {cs:List Value} (h:Lies S w A cs) (hb:∀ b,b < w.heap.size→S b→S' b∧w'.heap[b]? = w.heap[b]?):Lies S' w' A cs:=fun hne=>by
 obtain ⟨g,o,rfl,hs,hc⟩:=h hne
 obtain ⟨u,hu⟩:∃ u,cs[0]? = some u:=by cases cs with | nil=>exact absurd rfl hne | cons a l=>exact ⟨a,rfl⟩
 obtain ⟨h1,h2⟩:=hb g (lt_of_cell (hc 0 u hu)) hs
 exact ⟨g,o,rfl,h1,fun j u hj=>(World.cell?_of_block (a:=⟨g,o+j,none⟩) h2).trans (hc j u hj)⟩
mutual
theorem Rep.mono {d:D} {cs:List Value} (h:Rep S w d cs) (hb:∀ b,b < w.heap.size→S b→S' b∧w'.heap[b]? = w.heap[b]?):Rep S' w' d cs:=by
 cases h with
 | v x hx=>exact .v x hx
 | st h=>exact .st (RepL.mono h hb)
 | sl h h1 h2 h3 h4=>exact .sl (RepN.mono h hb) h1 (h2.mono hb) h3 h4
theorem RepL.mono {ds:List D} {cs:List Value} (h:RepL S w ds cs) (hb:∀ b,b < w.heap.size→S b→S' b∧w'.heap[b]? = w.heap[b]?):RepL S' w' ds cs:=by
 cases h with
 | nil=>exact .nil
 | cons h h1=>exact .cons (Rep.mono h hb) (RepL.mono h1 hb)
theorem RepN.mono {sz:Nat} {ds:List D} {cs:List Value} (h:RepN S w sz ds cs) (hb:∀ b,b < w.heap.size→S b→S' b∧w'.heap[b]? = w.heap[b]?):RepN S' w' sz ds cs:=by
 cases h with
 | nil=>exact .nil
 | cons h h0 h1=>exact .cons (Rep.mono h hb) h0 (RepN.mono h1 hb)
end
mutual
theorem Rep.one:∀ {d:D} {cs:List Value},Rep S w d cs→∀ u,u∈cs→u.oneCell'=true
 | _,_,.v _ hx,_,hu=>by rw [List.mem_singleton] at hu;subst hu;exact hx
 | _,_,.st h,u,hu=>RepL.one h u hu
 | _,_,.sl _ _ _ _ _,_,hu=>by rw [List.mem_singleton] at hu;subst hu;rfl
theorem RepL.one:∀ {ds:List D} {cs:List Value},RepL S w ds cs→∀ u,u∈cs→u.oneCell'=true
 | _,_,.nil,_,hu=>by cases hu
 | _,_,.cons h h1,u,hu=>(List.mem_append.1 hu).elim (fun hu=>Rep.one h u hu) (fun hu=>RepL.one h1 u hu)
theorem RepN.one:∀ {sz:Nat} {ds:List D} {cs:List Value},RepN S w sz ds cs→∀ u,u∈cs→u.oneCell'=true
 | _,_,_,.nil,_,hu=>by cases hu
 | _,_,_,.cons h _ h1,u,hu=>(List.mem_append.1 hu).elim (fun hu=>Rep.one h u hu) (fun hu=>RepN.one h1 u hu)
end
/-- any blocks -/
def Any:Nat→Prop:=fun _=>True
theorem Rep.keep {d:D} {cs:List Value} (h:Rep S w d cs) (hb:Below w.heap.size w w'):Rep S w' d cs:=h.mono fun b hl hs=>⟨hs,hb.block b hl⟩
theorem RepL.keep {d:List D} {cs:List Value} (h:RepL S w d cs) (hb:Below w.heap.size w w'):RepL S w' d cs:=h.mono fun b hl hs=>⟨hs,hb.block b hl⟩
theorem RepN.keep {sz:Nat} {d:List D} {cs:List Value} (h:RepN S w sz d cs) (hb:Below w.heap.size w w'):RepN S w' sz d cs:=h.mono fun b hl hs=>⟨hs,hb.block b hl⟩
theorem Rep.any {d:D} {cs:List Value} (h:Rep S w d cs):Rep Any w d cs:=h.mono fun _ _ _=>⟨trivial,rfl⟩
theorem Rep.alloc {d:D} {cs:List Value} (h:Rep S w d cs) (o:Obj):Rep S (w.alloc o) d cs:=h.keep ((Below.refl _ _).alloc (Nat.le_refl _) _)
theorem RepN.length {sz:Nat} {ds:List D}:∀ {cs:List Value},RepN S w sz ds cs→cs.length=ds.length * sz:=by
 induction ds with
 | nil=>intro cs h;cases h;simp
 | cons d ds ih=>intro cs h;cases h with | cons h h0 h1=>rw [List.length_append,h0,ih h1,List.length_cons,Nat.add_mul];omega
/-- the piece at a place -/
theorem RepN.at_ {sz:Nat} {ds:List D}:∀ {cs:List Value} {i:Nat} {d:D},RepN S w sz ds cs→ds[i]? = some d→∃ ci,Rep S w d ci∧ci.length=sz∧∀ j u,ci[j]? = some u→cs[i * sz+j]? = some u:=by
 induction ds with
 | nil=>intro cs i d h hi;simp at hi
 | cons e ds ih =>
  intro cs i d h hi
  cases h with
  | @cons _ _ _ c0 c1 h h0 h1 =>
   cases i with
   | zero =>
    simp at hi;subst hi
    refine ⟨c0,h,h0,fun j u hj=>?_⟩
    have hl:=(List.getElem?_eq_some_iff.1 hj).1
    rw [Nat.zero_mul,Nat.zero_add,List.getElem?_append_left hl];exact hj
   | succ i =>
    simp at hi
    obtain ⟨ci,r1,r2,r3⟩:=ih h1 hi
    refine ⟨ci,r1,r2,fun j u hj=>?_⟩
    rw [show (i+1) * sz+j=c0.length+(i * sz+j) by rw [h0,Nat.add_mul];omega,List.getElem?_append_right (by omega),Nat.add_sub_cancel_left]
    exact r3 j u hj
theorem RepN.snoc {sz:Nat} {ds:List D} {d:D} {ci:List Value} (h2:Rep S w d ci) (h3:ci.length=sz):∀ {cs:List Value},RepN S w sz ds cs→RepN S w sz (ds ++ [d]) (cs ++ ci):=by
 induction ds with
 | nil=>intro cs h;cases h;simpa using RepN.cons h2 h3 RepN.nil
 | cons e ds ih=>intro cs h;cases h with | cons h h0 h1=>rw [List.append_assoc];exact RepN.cons h h0 (ih h1)
theorem RepN.append {sz:Nat} {ds es:List D} {cs':List Value} (h2:RepN S w sz es cs'):∀ {cs:List Value},RepN S w sz ds cs→RepN S w sz (ds ++ es) (cs ++ cs'):=by
 induction ds with
 | nil=>intro cs h;cases h;simpa using h2
 | cons e ds ih=>intro cs h;cases h with | cons h h0 h1=>rw [List.append_assoc];exact RepN.cons h h0 (ih h1)
theorem RepN.drop {sz:Nat} {ds:List D}:∀ {cs:List Value} (k:Nat),RepN S w sz ds cs→RepN S w sz (ds.drop k) (cs.drop (k * sz)):=by
 induction ds with
 | nil=>intro cs k h;cases h;simpa using RepN.nil
 | cons e ds ih =>
  intro cs k h
  cases k with
  | zero=>simpa using h
  | succ k =>
   cases h with
   | @cons _ _ _ c0 c1 h h0 h1 =>
    have:=ih k h1
    rw [List.drop_succ_cons,show (k+1) * sz=c0.length+k * sz by rw [h0,Nat.add_mul];omega,List.drop_append,(List.drop_of_length_le (by omega):c0.drop (c0.length+k * sz) = []),Nat.add_sub_cancel_left]
    exact this
/-- a slice's piece at a place, as cells of the world -/
theorem Rep.slice_at {sz:Nat} {es:List D} {A:Option Addr} {n c i:Nat} {d:D} (h:Rep S w (.sl sz es) [.slice A n c]) (hz:0 < sz) (hi:es[i]? = some d) :
  ∃ g o ci,A=some ⟨g,o,none⟩∧S g∧Rep S w d ci∧ci.length=sz∧∀ j u,ci[j]? = some u→w.cell? ⟨g,o+(i * sz+j),none⟩=some u:=by
 cases h with
 | @sl _ _ css _ _ _ hr hn hl _ _ =>
  obtain ⟨ci,r1,r2,r3⟩:=hr.at_ hi
  have hne:css ≠ []:=by
   intro he
   have:=hr.length
   have hlt:=(List.getElem?_eq_some_iff.1 hi).1
   rw [he] at this
   have:es.length * sz=0:=by simpa using this.symm
   rcases Nat.mul_eq_zero.1 this with h | h <;> omega
  obtain ⟨g,o,hA,hs,hc⟩:=hl hne
  exact ⟨g,o,ci,hA,hs,r1,r2,fun j u hj=>hc _ _ (r3 j u hj)⟩
theorem Rep.slice_len {sz:Nat} {es:List D} {A:Option Addr} {n c:Nat} (h:Rep S w (.sl sz es) [.slice A n c]):n=es.length∧n≤c∧c≤maxLen:=by
 cases h with | sl _ h1 _ h3 h4=>exact ⟨h1,h3,h4⟩
theorem Rep.slice_open {sz:Nat} {es:List D} {A:Option Addr} {n c:Nat} (h:Rep S w (.sl sz es) [.slice A n c]) :
  ∃ css,RepN S w sz es css∧Lies S w A css∧css.length=n * sz∧∀ u∈css,u.oneCell'=true:=by
 cases h with
 | @sl _ _ css _ _ _ hr hn hl _ _=>exact ⟨css,hr,hl,by rw [hr.length,hn],hr.one⟩
theorem Rep.slice_form {sz:Nat} {es:List D} {cs:List Value} (h:Rep S w (.sl sz es) cs):∃ A n c,cs = [.slice A n c]:=by
 cases h with | sl=>exact ⟨_,_,_,rfl⟩
theorem Rep.v_form {x:Value} {cs:List Value} (h:Rep S w (.v x) cs):cs = [x]:=by cases h;rfl
theorem RepL.cons_form {d:D} {ds:List D} {cs:List Value} (h:RepL S w (d :: ds) cs):∃ c0 c1,cs=c0 ++ c1∧Rep S w d c0∧RepL S w ds c1:=by
 cases h with | cons h h1=>exact ⟨_,_,rfl,h,h1⟩
theorem RepL.nil_form {cs:List Value} (h:RepL S w [] cs):cs = []:=by cases h;rfl
theorem Rep.st_form {ds:List D} {cs:List Value} (h:Rep S w (.st ds) cs):RepL S w ds cs:=by cases h with | st h=>exact h
theorem Rep.nil_slice (sz:Nat):Rep S w (.sl sz []) [.slice none 0 0]:=.sl .nil rfl (fun h=>absurd rfl h) (Nat.le_refl _) (Nat.zero_le _)
end
/-- the first cells of a block -/
def Cells (w:World) (g:Nat) (cs:List Value):Prop:=∀ j u,cs[j]? = some u→w.cell? ⟨g,j,none⟩=some u
theorem Cells.keep {w w':World} {g:Nat} {cs:List Value} (h:Cells w g cs) (hb:Below w.heap.size w w'):Cells w' g cs :=
 fun j u hj=>(hb.cell (p:=⟨g,j,none⟩) (lt_of_cell (h j u hj))).trans (h j u hj)
theorem Cells.new (w:World) (cs:Array Value) (e:TypeId):Cells (w.alloc (.cells cs e)) w.heap.size cs.toList:=fun j u hj=>by
 rw [cell_of_row _ _ j cs e (0,0) (heap_alloc_new w _)];simpa using hj
theorem grown_below {w w':World} (h:Below w.heap.size w w'):w.grownBy w' none:=⟨h.os,h.tape,h.output,h.size,fun k hk _=>h.block k hk⟩
theorem own_keep {w w':World} {base:Nat} {e:TypeId} {size:Nat} {v:Value} {n:Nat} {xs:List Value} (h:w.ownsRow base e size v n xs) (hb:Below w.heap.size w w'):w'.ownsRow base e size v n xs :=
 h.kept (grown_below hb) (by cases hv:v.ownBlock <;> simp)
/-- an element type's row of the table, and the type of its slices -/
structure ElemOk (P:Program) (t e:TypeId) (z:Value) (size bytes:Nat):Prop where
 ht:P.underlying t=some (.slice e)
 hi:(P.info? e).map (fun i=>(i.zero,i.size,i.bytes))=some (some z,size,bytes)
 hz:z.cells.size=size
 pos:0 < size
theorem lies_one {w:World} {g:Nat} {cs:Array Value} {e:TypeId} {fr:Nat×Nat} {news:List Value} (h:w.heap[g]? = some (.cells cs e fr)) (hn:∀ (j:Nat) (u:Value),news[j]? = some u→cs[j]? = some u):Lies Any w (some ⟨g,0,none⟩) news :=
 fun _=>⟨g,0,rfl,trivial,fun j u hj=>by rw [Nat.zero_add,cell_of_row w g j cs e fr h];exact hn j u hj⟩
theorem lies_new (w:World) (cs:Array Value) (e:TypeId):Lies Any (w.alloc (.cells cs e)) (some ⟨w.heap.size,0,none⟩) cs.toList :=
 lies_one (heap_alloc_new w _) (fun j u h=>by simpa using h)
theorem lies_new' (w:World) (g:Nat) (hg:g=w.heap.size) (cs:Array Value) (e:TypeId):Lies Any (w.alloc (.cells cs e)) (some ⟨g,0,none⟩) cs.toList:=by
 subst hg;exact lies_new w cs e
theorem Lies.nil {S:Nat→Prop} {w:World} {A:Option Addr}:Lies S w A []:=fun h=>absurd rfl h
theorem Lies.any {S:Nat→Prop} {w:World} {A:Option Addr} {cs:List Value} (h:Lies S w A cs):Lies Any w A cs:=h.mono fun _ _ _=>⟨trivial,rfl⟩
theorem add_lit (g o j:Nat):(⟨g,o,none⟩:Addr).add j=⟨g,o+j,none⟩:=by unfold Addr.add;split <;> simp_all
theorem lies_own {S:Nat→Prop} {w:World} {base:Nat} {e:TypeId} {size n:Nat} {A:Option Addr} {c:Nat} {xs:List Value} (h:w.ownsRow base e size (.slice A n c) n xs) (hS:∀ g,base≤g→g < w.heap.size→S g):Lies S w A xs:=by
 intro hne
 rcases h.2 with ⟨hv,h0⟩ | ⟨g,cap,cur,hv,hb,hh,_,_,_,_⟩
 ·subst h0
  have:=h.1
  exact absurd (List.eq_nil_of_length_eq_zero (by simpa using this)) hne
 ·have hA:A=some ⟨g,0,none⟩:=by injection hv
  subst hA
  have hlt:g < w.heap.size:=(Array.getElem?_eq_some_iff.1 hh).1
  exact ⟨g,0,rfl,hS g hb hlt,fun j u hj=>by have:=h.cells (g:=g) rfl j u hj;rwa [add_lit] at this⟩
section
variable {P:Program} {w:World}
theorem run_append_lies {t e:TypeId} {z:Value} {size bytes:Nat} (E:ElemOk P t e z size bytes) (ty:TypeId) (base:Nat)
  (v:Value) (n:Nat) (xs:List Value) (hown:w.ownsRow base e size v n xs)
  (A:Option Addr) (m c:Nat) (news:List Value) (hl:news.length=m * size) (hA:Lies Any w A news) (h1:∀ u∈news,u.oneCell'=true)
  (h63:n+m≤maxLen) (hbytes:(n+m) * bytes≤140737488355328) (hbase:base≤w.heap.size) :
  ∃ v' w',(Builtin.append_ #[t,t] ty #[v,.slice A m c]).run P w=.ok v' w'∧w'.ownsRow base e size v' (n+m) (xs ++ news)∧w.grownBy w' v.ownBlock ∧
   (v'.ownBlock=v.ownBlock∨v'.ownBlock=some w.heap.size):=by
 obtain ⟨i,hi,hz,hs,hb⟩:=info_parts E.hi
 have hpos:=E.pos
 rcases Nat.eq_zero_or_pos m with h0 | h0
 ·subst h0
  have hn:news = []:=List.eq_nil_of_length_eq_zero (by simpa using hl)
  subst hn
  refine ⟨v,w,?_,by simpa using hown,World.grownBy.refl w _,.inl rfl⟩
  have ht:=E.ht
  rcases A with _ | ad
  ·rcases hown.2 with ⟨rfl,rfl⟩ | ⟨g,cap,cur,rfl,_,_,hnc,_⟩
   ·simp [Builtin.append_,run_underlying ht,sizeOf,typeInfo,hi,Builtin.lenOf,Builtin.firstCells]
   ·simp [Builtin.append_,run_underlying ht,sizeOf,typeInfo,hi,Builtin.lenOf,Builtin.firstCells,hnc,storeCells]
  ·rcases hown.2 with ⟨rfl,rfl⟩ | ⟨g,cap,cur,rfl,_,_,hnc,_⟩
   ·simp [Builtin.append_,run_underlying ht,sizeOf,typeInfo,hi,Builtin.lenOf,Builtin.firstCells,loadCells,loadCellsFrom]
   ·simp [Builtin.append_,run_underlying ht,sizeOf,typeInfo,hi,Builtin.lenOf,Builtin.firstCells,loadCells,loadCellsFrom,hnc,storeCells]
 ·have hne:news ≠ []:=by
   intro he;subst he
   have:m * size=0:=by simpa using hl.symm
   rcases Nat.mul_eq_zero.1 this with h | h <;> omega
  obtain ⟨g,o,rfl,_,hc⟩:=hA hne
  obtain ⟨v',w',r1,r2,r3,_,r5⟩:=run_append_own_at (P:=P) w base t ty e i z size bytes E.ht hi hz hs hb E.hz hpos v n xs hown ⟨g,o,none⟩ m c news hl (fun j u hj=>by rw [add_lit];exact hc j u hj) h1 h63 hbytes hbase
  exact ⟨v',w',r1,r2,r3,r5⟩
theorem wpl_append {t e:TypeId} {z:Value} {size bytes:Nat} (E:ElemOk P t e z size bytes) {ops:Array Oper} {rest:List Oper} {o:Oper} {a:Act} {Q:Exit→Act→World→Prop} (hgd:o.guard=none) {s x:Operand}
  (ho:o.op=.call { callee:=.builtin .append,args:=#[s,x],argTypes:=#[t,t] }) (base:Nat)
  {v:Value} {n:Nat} {xs:List Value} (hown:w.ownsRow base e size v n xs) (hs:a.eval s=v)
  {A:Option Addr} {m c:Nat} (news:List Value) (hx:a.eval x=.slice A m c) (hl:news.length=m * size) (hA:Lies Any w A news) (h1:∀ u∈news,u.oneCell'=true)
  (h63:n+m≤maxLen) (hbytes:(n+m) * bytes≤140737488355328) (hbase:base≤w.heap.size)
  (h:∀ v' w',w'.ownsRow base e size v' (n+m) (xs ++ news)→w.grownBy w' v.ownBlock→(v'.ownBlock=v.ownBlock∨v'.ownBlock=some w.heap.size)→wpList P ops Q rest (a.put o.dst v') w') :
  wpList P ops Q (o :: rest) a w:=by
 refine wpList_plain hgd fun K hK=>?_
 obtain ⟨v',w',hr,h2,h3,h4⟩:=run_append_lies E o.type base v n xs hown A m c news hl hA h1 h63 hbytes hbase
 unfold Oper.wp execOp
 simp only [ho,resolve,invoke,builtin,Sem.run_bind,Sem.run_pure,Result.andThen_ok,List.map_toArray,List.map_cons,List.map_nil,hs,hx,hr]
 exact hK _ _ (h v' w' h2 h3 h4)
end
/-- a byte's cell -/
def cellB (c:UInt8):Value:=.int .u8 c.toNat
theorem one_cellB (l:List UInt8):∀ u∈l.map cellB,u.oneCell'=true:=by
 intro u hu;obtain ⟨c,_,rfl⟩:=List.mem_map.1 hu;rfl
theorem cellB_of (m:Nat):Value.int .u8 ((m:Int) % 256)=cellB (UInt8.ofNat (m % 256)):=by
 have:(UInt8.ofNat (m % 256)).toNat=m % 256:=by simp
 unfold cellB;rw [this];rfl
theorem cellB_lt {m:Nat} (h:m < 256):Value.int .u8 (m:Int)=cellB (UInt8.ofNat m):=by
 have:(UInt8.ofNat m).toNat=m:=by simp;omega
 unfold cellB;rw [this]
theorem own_form {w:World} {base:Nat} {e:TypeId} {size:Nat} {v:Value} {n:Nat} {xs:List Value} (h:w.ownsRow base e size v n xs):∃ A c,v=.slice A n c:=by
 rcases h.2 with ⟨rfl,rfl⟩ | ⟨g,cap,cur,rfl,_⟩ <;> exact ⟨_,_,rfl⟩
/-- string(b) -/
theorem run_bytes_str {P:Program} {w:World} {src dst e:TypeId} {A:Option Addr} {c:Nat} {l:List UInt8} (hs:P.underlying src=some (.slice e)) (he:P.underlying e=some (.int .u8)) (hd:P.underlying dst=some .string)
  (h:Lies Any w A (l.map cellB)):(convert src dst (.slice A l.length c)).run P w=.ok (.string (bs l)) w:=by
 cases l with
 | nil =>
  rcases A with _ | a
  ·rw [run_convert_bytes_string w src dst e none _ c hs he hd]
   simp [Conv.bytesToString,Sem.run_pure,bs]
   rfl
  ·exact run_convert_bytes_back w src dst e a c [] hs he hd (fun j hj=>by simp at hj)
 | cons x l =>
  obtain ⟨g,o,rfl,_,hc⟩:=h (by simp)
  exact run_convert_bytes_back w src dst e ⟨g,o,none⟩ c (x :: l) hs he hd (fun j hj=>by
   rw [add_lit]
   exact hc j _ (by simp only [List.getElem?_map,List.getElem?_eq_getElem hj];rfl))
/-- string([]byte{k}) -/
theorem run_byte_str {P:Program} {src dst e:TypeId} (hs:P.underlying src=some (.slice e)) (he:P.underlying e=some (.int .u8)) (hd:P.underlying dst=some .string) (k:Int) (c:UInt8) (hk:k=c.toNat) (w:World) :
  (convert src dst (.slice (some ⟨w.heap.size,0,none⟩) 1 1)).run P (w.alloc (.cells #[.int .u8 k] e))=.ok (.string (bs [c])) (w.alloc (.cells #[.int .u8 k] e)):=by
 refine run_bytes_str (l:=[c]) hs he hd (lies_one (heap_alloc_new w _) (fun j u hj=>?_))
 subst hk
 match j,hj with
 | 0,hj =>
  simp at hj
  subst hj
  rfl
theorem byte_of (n:Nat) (h:n < 256):∃ c:UInt8,c.toNat=n∧c=UInt8.ofNat n:=⟨UInt8.ofNat n,by simp;omega,rfl⟩
/-- behind an append by the law: what is not the row's own is as it was -/
theorem below_app {B:Nat} {a w w':World} {v:Value} {base:Nat} {e:TypeId} {size n:Nat} {xs:List Value} (h:Below B a w) (hown:w.ownsRow base e size v n xs) (hg:w.grownBy w' v.ownBlock) (hB:B≤w.heap.size) (hb:B≤base):Below B a w' :=
 h.grown hg hB fun k hk=>Nat.le_trans hb (hown.lt k hk).1
/-- what a row of the call's own holds, behind an append to it -/
def RowS (base:Nat) (v:Value):Nat→Prop:=fun b=>base≤b∧v.ownBlock≠some b
theorem repN_app {w w':World} {base:Nat} {v v':Value} {sz:Nat} {ds:List D} {xs:List Value} (hr:RepN (RowS base v) w sz ds xs) (hg:w.grownBy w' v.ownBlock) (hat:v'.ownBlock=v.ownBlock∨v'.ownBlock=some w.heap.size):RepN (RowS base v') w' sz ds xs :=
 hr.mono fun b hlt hs=>⟨⟨hs.1,by
  rcases hat with h | h
  ·rw [h];exact hs.2
  ·rw [h];intro he;injection he;omega⟩,hg.block b hlt (fun e=>hs.2 e.symm)⟩
theorem heap_setCell_here {w:World} {g i:Nat} {cs:Array Value} {e:TypeId} {fr:Nat×Nat} (h:w.heap[g]? = some (.cells cs e fr)) (u:Value):(w.setCell ⟨g,i,none⟩ u).heap[g]? = some (.cells (cs.setIfInBounds i u) e fr):=by
 simp [World.setCell,Array.getElem?_modify,h]
theorem rep_own {S:Nat→Prop} {w:World} {base:Nat} {e:TypeId} {sz n:Nat} {v:Value} {xs:List Value} {es:List D} (h:w.ownsRow base e sz v n xs) (hr:RepN S w sz es xs) (hn:es.length=n) (hS:∀ g,base≤g→g < w.heap.size→S g):Rep S w (.sl sz es) [v]:=by
 subst hn
 rcases h.2 with ⟨rfl,h0⟩ | ⟨g,cap,cur,rfl,hb,hh,h1,h2,_,_⟩
 ·exact .sl hr (by omega) (by
   intro hne
   have:=h.1
   exact absurd (List.eq_nil_of_length_eq_zero (by rw [this,h0];simp)) hne) (Nat.le_refl _) (Nat.zero_le _)
 ·exact .sl hr rfl (lies_own h hS) h1 h2
/- Numbers of 256 bits in plain Lean: four words, and 32 bytes; of no program. -/
/-- four words, the lowest first -/
structure U4 where
 a:Nat
 b:Nat
 c:Nat
 d:Nat
deriving DecidableEq
structure U4.Wf (x:U4):Prop where
 a:x.a < 18446744073709551616
 b:x.b < 18446744073709551616
 c:x.c < 18446744073709551616
 d:x.d < 18446744073709551616
def U4.val (x:U4):Nat:=x.a+18446744073709551616 * (x.b+18446744073709551616 * (x.c+18446744073709551616 * x.d))
def U4.of (v:Nat):U4:=⟨v % 18446744073709551616,v / 18446744073709551616 % 18446744073709551616,v / 18446744073709551616 / 18446744073709551616 % 18446744073709551616,v / 18446744073709551616 / 18446744073709551616 / 18446744073709551616 % 18446744073709551616⟩
theorem U4.of_val {x:U4} (h:x.Wf):U4.of x.val=x:=by
 obtain ⟨h1,h2,h3,h4⟩:=h
 obtain ⟨a,b,c,d⟩:=x
 simp only [] at h1 h2 h3 h4
 simp only [U4.of,U4.val,U4.mk.injEq]
 refine ⟨by omega,by omega,by omega,by omega⟩
theorem U4.ext {x y:U4} (hx:x.Wf) (hy:y.Wf) (h:x.val=y.val):x=y:=by
 rw [← U4.of_val hx,← U4.of_val hy,h]
/-- the words by their numbers -/
def U4.word (x:U4):Nat→Nat
 | 0=>x.a
 | 1=>x.b
 | 2=>x.c
 | 3=>x.d
 | _=>0
theorem U4.word_val {x:U4} (h:x.Wf) (j:Nat) (hj:j < 4):x.word j=x.val / 18446744073709551616 ^ j % 18446744073709551616:=by
 obtain ⟨h1,h2,h3,h4⟩:=h
 unfold U4.val
 match j,hj with
 | 0,_=>simp only [U4.word];omega
 | 1,_=>simp only [U4.word];omega
 | 2,_=>simp only [U4.word];omega
 | 3,_=>simp only [U4.word];omega
/-- byte k of a number, in its words -/
theorem U4.byte {x:U4} (h:x.Wf) (k:Nat) (hk:k < 32):x.word (k / 8) / 256 ^ (k % 8) % 256=x.val / 256 ^ k % 256:=by
 rw [U4.word_val h _ (by omega)]
 have e1:(18446744073709551616:Nat)=256 ^ 8:=by decide
 rw [e1,← Nat.pow_mul]
 obtain ⟨i,hi⟩:∃ i,k % 8=i:=⟨_,rfl⟩
 have hi8:i < 8:=by omega
 generalize hv:x.val / 256 ^ (8 * (k / 8))=v
 have e2:x.val / 256 ^ k=v / 256 ^ i:=by
  rw [← hv,Nat.div_div_eq_div_mul,← Nat.pow_add,← hi,Nat.div_add_mod]
 rw [e2,hi]
 obtain ⟨j,hj⟩:∃ j,8=i+(j+1):=⟨8 - i - 1,by omega⟩
 rw [show (256:Nat) ^ 8=256 ^ i * 256 ^ (j+1) by rw [← Nat.pow_add,← hj],Nat.mod_mul_right_div_self,Nat.pow_succ,Nat.mul_comm (256 ^ j) 256,Nat.mod_mul_right_mod]
end Go.Proofs.YtdfmheademcbkaaGreat
