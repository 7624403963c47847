/- What an argument reads us, in the words of XBase (Rep); a law's row out of its walk: of no program. -/
import Derived.Test.YteoednifdpdbnaaGreatZ04
import Derived.ProofKit
import Derived.SizedLaws
import Derived.OpenShut
import Derived.JoinedCond
import Derived.Carry
import Derived.Test.YteoednifdpdbnaaGreatProg
namespace Go.Proofs.YteoednifdpdbnaaGreat
set_option linter.unusedVariables false
set_option linter.unusedSimpArgs false
open Go.ChangeShapes Go.WideShapes Go.ChangeAt Go.RowKit
section
variable {H:Type} {enc:TypeId×Value→H} {P:Program} {w:World}
/-- whatever reads us a value of type t, of so many cells, is data of Q -/
def Reads (enc:TypeId×Value→H) (P:Program) (w:World) (t:TypeId) (sz:Nat) (Q:D→DataW H→Prop):Prop :=
 ∀ (fuel:Nat) (cs:List Value) (x:DataW H×List MemPlace),DataW.trod enc P w 0 (fun _=>true) true fuel t cs=some x→cs.length=sz∧∃ d,Rep Any w d cs∧Q d x.1
def IsInt (k:IntKind) (d:D) (x:DataW H):Prop:=∃ n:Int,d=.v (.int k n)∧x=.lit (.int k n)∧(Lit.int k n).wf=true
def IsStr (d:D) (x:DataW H):Prop:=∃ s:List UInt8,d=.v (.string (bs s))∧x=.lit (.string s)∧s.length≤maxLen
inductive All2 {α β:Type} (Q:α→β→Prop):List α→List β→Prop
 | nil:All2 Q [] []
 | cons {a:α} {b:β} {us:List α} {bs:List β}:Q a b→All2 Q us bs→All2 Q (a :: us) (b :: bs)
inductive All3:List (D→DataW H→Prop)→List D→List (DataW H)→Prop
 | nil:All3 [] [] []
 | cons {Q:D→DataW H→Prop} {a:D} {b:DataW H} {qs:List (D→DataW H→Prop)} {us:List D} {bs:List (DataW H)}:Q a b→All3 qs us bs→All3 (Q :: qs) (a :: us) (b :: bs)
def IsSl (sz:Nat) (Q:D→DataW H→Prop) (d:D) (x:DataW H):Prop:=∃ es,d=.sl sz es∧((es = []∧x=.nil)∨∃ xs sp,x=.slice xs sp∧All2 Q es xs)
def IsSt (qs:List (D→DataW H→Prop)) (d:D) (x:DataW H):Prop:=∃ ds xs,d=.st ds∧x=.agg xs∧All3 qs ds xs
theorem qd8 {t:TypeId} {k:IntKind} (ht:P.underlying t=some (.int k)):Reads enc P w t 1 (IsInt k):=fun fuel cs x h=>by
 obtain ⟨n,rfl,rfl,hw⟩:=DataW.trod_int ht h
 exact ⟨rfl,_,.v _ rfl,n,rfl,rfl,hw⟩
theorem qlm {t:TypeId} (ht:P.underlying t=some .string):Reads enc P w t 1 IsStr:=fun fuel cs x h=>by
 obtain ⟨s,rfl,rfl,hw⟩:=DataW.trod_string ht h
 exact ⟨rfl,_,.v _ rfl,s.data.toList,by rw [bs_data],rfl,hw⟩
theorem cells?_get {base:Nat} {a:Addr} {n:Nat} {cs:List Value} (h:w.cells? base a n=some cs):cs.length=n∧∀ j,j < n→w.cell? (a.add j)=cs[j]?:=by
 unfold World.cells? at h
 split at h
 ·refine ⟨by simpa using mapM_some_length h,fun j hj=>mapM_some_get h j j (by simp [hj])⟩
 ·cases h
theorem ql3 {t e:TypeId} {sz:Nat} {Q:D→DataW H→Prop} (he:Reads enc P w e sz Q) {fuel:Nat} {a:Addr}:∀ (elems:List (DataW H×List MemPlace)) (k:Nat),
  (∀ i,i < elems.length→(w.cells? 0 (a.add ((k+i) * sz)) sz).bind (DataW.trod enc P w 0 (fun _=>true) true fuel e)=elems[i]?) →
  ∃ es css,RepN Any w sz es css∧All2 Q es (elems.map (·.1))∧css.length=elems.length * sz∧∀ j u,css[j]? = some u→w.cell? (a.add (k * sz+j))=some u
 | [],k,_=>⟨[],[],.nil,.nil,by simp,fun j u h=>by simp at h⟩
 | x :: elems,k,h=>by
  have h0:=h 0 (by simp)
  simp only [Nat.add_zero,List.getElem?_cons_zero,Option.bind_eq_some_iff] at h0
  obtain ⟨cs,hc,hx⟩:=h0
  obtain ⟨hl,d,hr,hq⟩:=he _ _ _ hx
  obtain ⟨es,css,r1,r2,r4,r3⟩:=ql3 (t:=t) he elems (k+1) (fun i hi=>by
   have:=h (i+1) (by simp;omega)
   rw [show k+(i+1)=k+1+i by omega] at this
   simpa using this)
  refine ⟨d :: es,cs ++ css,.cons hr hl r1,.cons hq r2,by rw [List.length_append,hl,r4,List.length_cons,Nat.add_mul];omega,fun j u hj=>?_⟩
  obtain ⟨g1,g2⟩:=cells?_get hc
  by_cases hjs:j < sz
  ·rw [List.getElem?_append_left (by omega)] at hj
   rw [← Addr.add_add,g2 j hjs];exact hj
  ·rw [List.getElem?_append_right (by omega)] at hj
   have:=r3 _ _ hj
   rw [show k * sz+j=(k+1) * sz+(j - cs.length) by rw [Nat.add_mul];omega]
   exact this
theorem qh5 {t e:TypeId} {sz:Nat} {Q:D→DataW H→Prop} (ht:P.underlying t=some (.slice e)) (hc:P.cellsOf e=sz) (he:Reads enc P w e sz Q):Reads enc P w t 1 (IsSl sz Q):=fun fuel cs x h=>by
 rcases DataW.trod_slice ht h with ⟨rfl,rfl⟩ | ⟨a,len,cap,elems,rest,n,_,rfl,rfl,_,hl,hm,hn,hel,_,_⟩
 ·exact ⟨rfl,_,Rep.nil_slice sz,[],rfl,.inl ⟨rfl,rfl⟩⟩
 ·rw [hc] at hel
  obtain ⟨es,css,r1,r2,r4,r3⟩:=ql3 (t:=t) he elems 0 (fun i hi=>by rw [Nat.zero_add];exact hel i (by omega))
  have hes:es.length=len:=by
   rw [← hn]
   clear hel r1 r3 r4 hn h
   have:∀ (us:List D) (bs:List (DataW H)),All2 Q us bs→us.length=bs.length:=fun us bs h=>by
    induction h with
    | nil=>rfl
    | cons _ _ ih=>simp [ih]
   rw [this _ _ r2,List.length_map]
  refine ⟨rfl,.sl sz es,.sl r1 hes.symm ?_ hl hm,es,rfl,.inr ⟨_,_,rfl,r2⟩⟩
  intro hne
  obtain ⟨u,hu⟩:∃ u,css[0]? = some u:=by cases css with | nil=>exact absurd rfl hne | cons a l=>exact ⟨a,rfl⟩
  obtain ⟨b,off,spot⟩:=a
  have hspot:spot=none:=by
   have:=World.cell?_spot (r3 0 u hu)
   simpa [Addr.add] using this
  subst hspot
  exact ⟨b,off,rfl,trivial,fun j u hj=>by have:=r3 j u hj;rw [qga] at this;simpa using this⟩
/-- a struct's fields, one behind the other -/
inductive Fields (enc:TypeId×Value→H) (P:Program) (w:World):Nat→List Field→List (D→DataW H→Prop)→Nat→Prop
 | nil {o:Nat}:Fields enc P w o [] [] o
 | cons {o sz o':Nat} {f:Field} {fs:List Field} {Q:D→DataW H→Prop} {qs:List (D→DataW H→Prop)}:f.offset=o→P.cellsOf f.type=sz→Reads enc P w f.type sz Q→Fields enc P w (o+sz) fs qs o'→Fields enc P w o (f :: fs) (Q :: qs) o'
theorem qgr {n:Nat} {cs:List Value}:∀ {o o':Nat} {fs:List Field} {qs:List (D→DataW H→Prop)} (_:Fields enc P w o fs qs o') (xs:List (DataW H×List MemPlace)),xs.length=fs.length→cs.length=o' →
  (∀ (i:Nat) (f:Field),fs[i]? = some f→DataW.trod enc P w 0 (fun _=>true) true n f.type ((cs.drop f.offset).take (P.cellsOf f.type))=xs[i]?) →
  o≤o'∧∃ ds,RepL Any w ds (cs.drop o)∧All3 qs ds (xs.map (·.1))
 | _,_,_,_,.nil,xs,hl,hc,_=>by
  have:xs = []:=List.eq_nil_of_length_eq_zero hl
  subst this
  exact ⟨Nat.le_refl _,[],by rw [List.drop_of_length_le (by omega)];exact .nil,.nil⟩
 | o,o',_,_,.cons (f:=f) (sz:=sz) ho hs hr hf,xs,hl,hc,h=>by
  match xs,hl with
  | x :: xs,hl =>
   have h0:=h 0 f rfl
   rw [ho,hs] at h0
   obtain ⟨l0,d,r0,q0⟩:=hr _ _ _ h0
   obtain ⟨hle,ds,r1,r2⟩:=qgr hf xs (by simpa using hl) hc (fun i g hg=>by have:=h (i+1) g (by simpa using hg);simpa using this)
   refine ⟨by omega,d :: ds,?_,.cons q0 r2⟩
   have:=RepL.cons r0 r1
   rwa [← List.drop_drop,List.take_append_drop] at this
theorem qd6 {t:TypeId} {fs:Array Field} {qs:List (D→DataW H→Prop)} {n:Nat} (ht:P.underlying t=some (.struct fs)) (hc:P.cellsOf t=n) (hf:Fields enc P w 0 fs.toList qs n):Reads enc P w t n (IsSt qs):=fun fuel cs x h=>by
 obtain ⟨xs,m,_,rfl,hl,hx,hg⟩:=DataW.trod_struct ht h
 rw [hc] at hl
 obtain ⟨_,ds,r1,r2⟩:=qgr hf xs (by simpa using hx) hl (fun i f hi=>hg i f (by simpa using hi))
 exact ⟨hl,.st ds,.st (by simpa using r1),ds,_,rfl,rfl,r2⟩
/-- all arguments read us they did -/
theorem qfl (hl:laidOutB P=true) {W W':World} (hb:Below W.heap.size W W'):∀ {ts:List TypeId} {vs:List Value} {ds:List (DataW H)} {ps:List MemPlace},(∀ t∈ts,P.readableRec t=true∧t < P.types.size) →
  DataW.TrodAll enc P W 0 (fun _=>true) true ts vs ds ps→(∀ x∈ps,x.block < W.heap.size)→DataW.TrodAll enc P W' 0 (fun b=>decide (b < W.heap.size)) true ts vs ds ps
 | [],vs,ds,ps,_,h,_=>by obtain ⟨rfl,rfl,rfl⟩:=trodAll_nil h;exact trodAll_mk0
 | t :: ts,vs,ds,ps,hr,h,hlt=>by
  obtain ⟨v,vs',d,ds',p,q,rfl,rfl,rfl,h0,h1⟩:=trodAll_cons h
  have hrt:=hr t (by simp)
  exact trodAll_cons_mk (Below.trod hl hrt.1 hrt.2 h0 hb (fun x hx=>hlt x (by simp [hx]))) (qfl hl hb (fun t ht=>hr t (by simp [ht])) h1 (fun x hx=>hlt x (by simp [hx])))
end
/- A law's row out of its walk: of no law. -/
theorem lawOwn:ownKnob Tryz.prog.godebug=none:=by kernel_rfl
theorem lawLaid:laidOutB Tryz.prog=true:=by kernel_rfl
section
variable {H:Type} {enc:TypeId×Value→H} {P:Program}
theorem ql7 {fn:Func} {s:ChangeSpec} {tb:TypeId} {f:FuncId} {W:World} {args:Array Value} {ds gs:List (DataW H)} {before:List MemPlace} (hl:laidOutB P=true)
  (hr:fn.params.toList.all (fun t=>P.readableRec t && decide (t < P.types.size))=true) (hrt:fn.resultTypes=#[tb]) (htb:P.underlying tb=some .bool) (hvars:s.vars = [])
  (hs:∀ ds:List (DataW H),ds.length=fn.params.size→s.fn H ds = { results:=[.lit (.bool true)],args:=ds })
  (hW:DataW.Whole enc P fn.params.toList s.vars false W args.toList ds gs before)
  (walk:∀ p,DataW.TrodAll enc P W 0 (fun _=>true) true fn.params.toList args.toList ds p→Calls P f args W fun e W'=>e=.returned (.bool true)∧Below W.heap.size W W') :
  Calls P f args W fun e W'=>∃ v,e=.returned v∧s.post enc P fn false true false false W args v W':=by
 have hW':=hW
 obtain ⟨p,q,hA,hV,rfl,_,_⟩:=hW
 rw [hvars] at hV
 obtain ⟨rfl,rfl⟩:=trodVars_none hV
 have hlt:∀ x∈p,x.block < W.heap.size:=fun x hx=>by simpa using hW'.lt x (by simp [hx])
 refine (walk p hA).mono fun e W' ⟨he,hb⟩=>⟨_,he,?_⟩
 have hlen:ds.length=fn.params.size:=by
  have:∀ (ts:List TypeId) (vs:List Value) (ds:List (DataW H)) (ps:List MemPlace),DataW.TrodAll enc P W 0 (fun _=>true) true ts vs ds ps→ds.length=ts.length:=fun ts=>by
   induction ts with
   | nil=>intro vs ds ps h;obtain ⟨_,rfl,_⟩:=trodAll_nil h;rfl
   | cons t ts ih=>intro vs ds ps h;obtain ⟨_,_,_,_,_,_,_,rfl,_,_,h1⟩:=trodAll_cons h;simp [ih _ _ _ h1]
  rw [this _ _ _ _ hA,Array.length_toList]
 have e1:=hs ds hlen
 refine ⟨ds,[],p ++ [],[] ++ [],p,[],hW',?_,?_,?_,hb.frame _,fun h=>by cases h⟩
 ·rw [List.append_nil,e1,hrt]
  exact trodAll_mk1 (shut_bool htb true)
 ·rw [List.append_nil,e1]
  refine qfl hl hb (fun t ht=>?_) hA hlt
  have:=List.all_eq_true.1 hr t ht
  simpa using this
 ·rw [List.append_nil,e1,hvars]
  exact rfl
end
end Go.Proofs.YteoednifdpdbnaaGreat
