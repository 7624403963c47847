/- Items as data: what they are in memory. -/
import Derived.Test.YtdfmheademcbkaaGreatZ01
import Derived.Test.YtdfmheademcbkaaGreatZ04
namespace Go.Proofs.YtdfmheademcbkaaGreat
set_option linter.unusedVariables false
set_option linter.unusedSimpArgs false
open Go.RowKit
mutual
def itemD:Item→D
 | .mk l b ks=>.st [.v (.bool l),.v (.string (bs b)),.sl 3 (itemsD ks)]
def itemsD:List Item→List D
 | []=>[]
 | k :: ks=>itemD k :: itemsD ks
end
theorem itemsD_map (ks:List Item):itemsD ks=ks.map itemD:=by
 induction ks with
 | nil=>rfl
 | cons k ks ih=>simp [itemsD,ih]
theorem itemsD_len (ks:List Item):(itemsD ks).length=ks.length:=by rw [itemsD_map,List.length_map]
theorem itemsD_append (a b:List Item):itemsD (a ++ b)=itemsD a ++ itemsD b:=by simp [itemsD_map]
/-- the cells of an item whose list lies at A -/
def itemC (x:Item) (A:Option Addr) (c:Nat):List Value:=[.bool x.l,.string (bs x.b),.slice A x.ks.length c]
/-- an item in memory -/
def ItemV (S:Nat→Prop) (w:World) (x:Item) (A:Option Addr) (c:Nat):Prop:=Rep S w (itemD x) (itemC x A c)
section
variable {S S':Nat→Prop} {w w':World}
theorem ItemV.kids {x:Item} {A:Option Addr} {c:Nat} (h:ItemV S w x A c):Rep S w (.sl 3 (itemsD x.ks)) [.slice A x.ks.length c]:=by
 obtain ⟨l,b,ks⟩:=x
 have h:=h.st_form
 obtain ⟨c0,c1,e,h0,h1⟩:=h.cons_form
 have:=h0.v_form;subst this
 obtain ⟨c2,c3,e1,h2,h3⟩:=h1.cons_form
 have:=h2.v_form;subst this
 obtain ⟨c4,c5,e2,h4,h5⟩:=h3.cons_form
 have:=h5.nil_form;subst this
 subst e2;subst e1
 simp [itemC] at e
 rw [← e.2.2] at h4
 exact h4
theorem itemV_mk {x:Item} {A:Option Addr} {c:Nat} (h:Rep S w (.sl 3 (itemsD x.ks)) [.slice A x.ks.length c]):ItemV S w x A c:=by
 obtain ⟨l,b,ks⟩:=x
 exact .st (.cons (cs:=[_]) (.v _ rfl) (.cons (cs:=[_]) (.v _ rfl) (.cons (cs:=[_]) h .nil)))
theorem ItemV.leaf (b:Bytes) (l:Bool):ItemV S w (.mk l b []) none 0:=itemV_mk (by simpa [itemsD,Item.ks] using Rep.nil_slice 3)
theorem rep_itemV {x:Item} {cs:List Value} (h:Rep S w (itemD x) cs):∃ A c,cs=itemC x A c∧ItemV S w x A c:=by
 obtain ⟨l,b,ks⟩:=x
 have hh:=h.st_form
 obtain ⟨c0,c1,e,h0,h1⟩:=hh.cons_form
 have:=h0.v_form;subst this
 obtain ⟨c2,c3,e1,h2,h3⟩:=h1.cons_form
 have:=h2.v_form;subst this
 obtain ⟨c4,c5,e2,h4,h5⟩:=h3.cons_form
 have:=h5.nil_form;subst this
 subst e2;subst e1
 obtain ⟨A,n,c,rfl⟩:=h4.slice_form
 have hn:=h4.slice_len.1
 rw [itemsD_len] at hn
 subst hn
 have:cs=itemC (.mk l b ks) A c:=by simpa [itemC,Item.l,Item.b,Item.ks] using e
 subst this
 exact ⟨A,c,rfl,h⟩
theorem ItemV.mono {x:Item} {A:Option Addr} {c:Nat} (h:ItemV S w x A c) (hb:∀ b,b < w.heap.size→S b→S' b∧w'.heap[b]? = w.heap[b]?):ItemV S' w' x A c:=Rep.mono h hb
theorem ItemV.keep {x:Item} {A:Option Addr} {c:Nat} (h:ItemV S w x A c) (hb:Below w.heap.size w w'):ItemV S w' x A c:=Rep.keep h hb
theorem ItemV.alloc {x:Item} {A:Option Addr} {c:Nat} (h:ItemV S w x A c) (o:Obj):ItemV S (w.alloc o) x A c:=Rep.alloc h o
theorem ItemV.len {x:Item} {A:Option Addr} {c:Nat} (h:ItemV S w x A c):x.ks.length≤c∧c≤maxLen:=h.kids.slice_len.2
/-- the list's item at a place -/
theorem ItemV.at_ {x k:Item} {A:Option Addr} {c i:Nat} (h:ItemV S w x A c) (hi:x.ks[i]? = some k) :
  ∃ g o A' c',A=some ⟨g,o,none⟩∧S g∧ItemV S w k A' c'∧w.cell? ⟨g,o+i * 3,none⟩=some (.bool k.l)∧w.cell? ⟨g,o+i * 3+1,none⟩=some (.string (bs k.b)) ∧
   w.cell? ⟨g,o+i * 3+2,none⟩=some (.slice A' k.ks.length c'):=by
 obtain ⟨g,o,ci,rfl,hs,r,hl,hc⟩:=h.kids.slice_at (i:=i) (d:=itemD k) (by omega) (by rw [itemsD_map,List.getElem?_map,hi];rfl)
 obtain ⟨A',c',rfl,hv⟩:=rep_itemV r
 exact ⟨g,o,A',c',rfl,hs,hv,by simpa [Nat.add_assoc] using hc 0 _ rfl,by simpa [Nat.add_assoc] using hc 1 _ rfl,by simpa [Nat.add_assoc] using hc 2 _ rfl⟩
theorem itemC_one (x:Item) (A:Option Addr) (c:Nat):∀ u∈itemC x A c,u.oneCell'=true:=by
 intro u hu;simp [itemC] at hu;rcases hu with rfl | rfl | rfl <;> rfl
end
/-- the cells of a row of the call's own that holds items -/
theorem own_item {S:Nat→Prop} {w wr:World} {base:Nat} {e:TypeId} {A:Option Addr} {n c:Nat} {q:List Item} {xs:List Value} {i:Nat} {k:Item}
  (hown:wr.ownsRow base e 3 (.slice A n c) n xs) (hr:RepN S w 3 (itemsD q) xs) (hi:q[i]? = some k) :
  ∃ g A' c',A=some ⟨g,0,none⟩∧ItemV S w k A' c'∧wr.cell? ⟨g,i * 3,none⟩=some (.bool k.l)∧wr.cell? ⟨g,i * 3+1,none⟩=some (.string (bs k.b)) ∧
   wr.cell? ⟨g,i * 3+2,none⟩=some (.slice A' k.ks.length c'):=by
 obtain ⟨ci,r1,r2,r3⟩:=hr.at_ (i:=i) (d:=itemD k) (by rw [itemsD_map,List.getElem?_map,hi];rfl)
 obtain ⟨A',c',rfl,hv⟩:=rep_itemV r1
 have h0:=r3 0 _ rfl
 obtain ⟨g,o,hA,_,hc⟩:=lies_own (S:=Any) hown (fun _ _ _=>trivial) (by intro he;rw [he] at h0;simp at h0)
 subst hA
 have ho:o=0:=by
  rcases hown.2 with ⟨hv,_⟩ | ⟨g',cap,cur,hv,_⟩
  ·simp at hv
  ·simp at hv;exact hv.1.2
 subst ho
 exact ⟨g,A',c',rfl,hv,by simpa using hc _ _ h0,by simpa [Nat.add_assoc] using hc _ _ (r3 1 _ rfl),by simpa [Nat.add_assoc] using hc _ _ (r3 2 _ rfl)⟩
theorem take_snoc {α:Type} {l:List α} {i:Nat} {a:α} (h:l[i]? = some a):l.take (i+1)=l.take i ++ [a]:=by
 obtain ⟨hi,ha⟩:=List.getElem?_eq_some_iff.1 h
 rw [List.take_succ_eq_append_getElem hi,ha]
theorem getElem_ex {α:Type} {l:List α} {i:Nat} (h:i < l.length):∃ a,l[i]? = some a:=⟨l[i],List.getElem?_eq_getElem h⟩
theorem countP_mem {x k:Item} {i:Nat} (h:x.ks[i]? = some k):countP k < countP x:=by
 obtain ⟨l,b,ks⟩:=x
 simp only [Item.ks] at h
 simp only [countP]
 induction ks generalizing i with
 | nil=>simp at h
 | cons k' ks ih =>
  cases i with
  | zero=>simp at h;subst h;simp only [countsP];omega
  | succ i=>have:=ih (by simpa using h);simp only [countsP];omega
theorem pureP_mem {x k:Item} {i:Nat} (hp:pureP x=true) (h:x.ks[i]? = some k):pureP k=true:=by
 obtain ⟨l,b,ks⟩:=x
 simp only [Item.ks] at h
 simp only [pureP,Bool.and_eq_true] at hp
 replace hp:=hp.2
 induction ks generalizing i with
 | nil=>simp at h
 | cons k' ks ih =>
  simp only [puresP,Bool.and_eq_true] at hp
  cases i with
  | zero=>simp at h;subst h;exact hp.1
  | succ i=>exact ih (by simpa using h) hp.2
theorem pureP_leaf {x:Item} (hp:pureP x=true) (hl:x.l=false):x.ks = []:=by
 obtain ⟨l,b,ks⟩:=x
 simp only [Item.l] at hl
 subst hl
 simp [pureP] at hp
 exact hp.1
theorem depthP_eq (x:Item):depthP x=depthsP x.ks+if x.l then 1 else 0:=by cases x;rfl
theorem depthsP_take {ks:List Item} {i:Nat} {k:Item} (h:ks[i]? = some k):depthsP (ks.take (i+1))=max (depthsP (ks.take i)) (depthP k):=by
 rw [take_snoc h,depthsP_append];simp [depthsP]
theorem writesP_take {ks:List Item} {i:Nat} {k:Item} (h:ks[i]? = some k):writesP (ks.take (i+1))=writesP (ks.take i) ++ writeP k:=by
 rw [take_snoc h,writesP_append];simp [writesP]
theorem puresP_take {ks:List Item} {i:Nat} {k:Item} (h:ks[i]? = some k):puresP (ks.take (i+1))=(puresP (ks.take i) && pureP k):=by
 rw [take_snoc h,puresP_append];simp [puresP]
theorem drop_cons {α:Type} {l:List α} {i:Nat} {a:α} (h:l[i]? = some a):l.drop i=a :: l.drop (i+1):=by
 obtain ⟨hi,ha⟩:=List.getElem?_eq_some_iff.1 h
 rw [← ha];exact List.drop_eq_getElem_cons hi
/-- is an item itself bytes or a list? -/
def okB:Item→Bool
 | .mk true b _=>b.isEmpty
 | .mk false _ ks=>ks.isEmpty
theorem pureP_eq (x:Item):pureP x=(okB x && puresP x.ks):=by obtain ⟨l,b,ks⟩:=x;cases l <;> rfl
theorem okB_cases (x:Item):(okB x=true∧((x.l=true∧x.b = [])∨(x.l=false∧x.ks.length=0)))∨(okB x=false∧((x.l=true∧(x.b == [])=false)∨(x.l=false∧0 < (x.ks.length:Int)))):=by
 obtain ⟨l,b,ks⟩:=x
 cases l
 ·cases ks
  ·exact .inl ⟨rfl,.inr ⟨rfl,rfl⟩⟩
  ·exact .inr ⟨rfl,.inr ⟨rfl,by simp [Item.ks]⟩⟩
 ·cases b
  ·exact .inl ⟨rfl,.inl ⟨rfl,rfl⟩⟩
  ·exact .inr ⟨rfl,.inl ⟨rfl,rfl⟩⟩
/-- one item more of the row that waits is looked at -/
theorem wait_step {q:List Item} {i:Nat} {y:Item} (h:q[i]? = some y) :
  i+countsP (q.drop i)=(i+1)+countsP ((q ++ y.ks).drop (i+1)) ∧
  puresP (q.drop i)=(okB y && puresP ((q ++ y.ks).drop (i+1))):=by
 have hi:=(List.getElem?_eq_some_iff.1 h).1
 rw [drop_cons h,List.drop_append_of_le_length (by omega),countsP_append,puresP_append,puresP,pureP_eq]
 have hc:countP y=1+countsP y.ks:=by cases y;rfl
 simp only [countsP,hc]
 refine ⟨by omega,?_⟩
 generalize okB y=u
 generalize puresP y.ks=v
 generalize puresP (q.drop (i+1))=z
 cases u <;> cases v <;> cases z <;> rfl
theorem wait_more {q:List Item} {i:Nat} {y:Item} (h:q[i]? = some y):q.length+y.ks.length≤i+countsP (q.drop i):=by
 have hi:=(List.getElem?_eq_some_iff.1 h).1
 have h1:=countsP_ge ((q ++ y.ks).drop (i+1))
 rw [(wait_step h).1]
 simp at h1
 omega
/-- how far the counting of items has come -/
def ManyS (x:Item) (k:Nat) (q:List Item):Prop:=(q.length≤4000∧countP x=k+countsP (q.drop k))∨(q.length=4001∧4000 < countP x)
def ManyI (x:Item) (q ks:List Item) (j:Nat) (q':List Item):Prop:=(q'=q ++ ks.take j∧q'.length≤4000)∨(q'.length=4001∧4000 < countP x)
theorem ManyS.le {x:Item} {k:Nat} {q:List Item} (h:ManyS x k q):q.length≤4001:=by rcases h with ⟨h,_⟩ | ⟨h,_⟩ <;> omega
theorem ManyI.le {x:Item} {q ks q':List Item} {j:Nat} (h:ManyI x q ks j q'):q'.length≤4001:=by rcases h with ⟨_,h⟩ | ⟨h,_⟩ <;> omega
theorem ManyI.start {x:Item} {k:Nat} {q ks:List Item} (h:ManyS x k q):ManyI x q ks 0 q:=by
 rcases h with ⟨h,_⟩ | ⟨h,h1⟩
 ·exact .inl ⟨by simp,h⟩
 ·exact .inr ⟨h,h1⟩
theorem ManyI.more {x y z:Item} {k j:Nat} {q q':List Item} (h0:ManyS x k q) (hq:q.length≤4000) (hy:q[k]? = some y) (hz:y.ks[j]? = some z) (h:ManyI x q y.ks j q') (hl:q'.length≤4000):ManyI x q y.ks (j+1) (q' ++ [z]):=by
 rcases h with ⟨rfl,_⟩ | ⟨h,_⟩
 ·by_cases hh:(q ++ y.ks.take j).length+1≤4000
  ·exact .inl ⟨by rw [take_snoc hz,List.append_assoc],by simp at hh ⊢;omega⟩
  ·have hj:=(List.getElem?_eq_some_iff.1 hz).1
   refine .inr ⟨by simp at hl hh ⊢;omega,?_⟩
   rcases h0 with ⟨_,h0⟩ | ⟨h0,_⟩
   ·have:=wait_more hy
    simp at hh
    omega
   ·omega
 ·omega
theorem ManyI.stay {x z y:Item} {j:Nat} {q q':List Item} (hz:y.ks[j]? = some z) (h:ManyI x q y.ks j q') (hl:¬ q'.length≤4000):ManyI x q y.ks (j+1) q':=by
 rcases h with ⟨_,h⟩ | h
 ·omega
 ·exact .inr h
theorem ManyS.next {x y:Item} {k:Nat} {q q':List Item} (h0:ManyS x k q) (hq:q.length≤4000) (hy:q[k]? = some y) (h:ManyI x q y.ks y.ks.length q'):ManyS x (k+1) q':=by
 rcases h with ⟨rfl,h⟩ | h
 ·rw [List.take_length] at h ⊢
  rcases h0 with ⟨_,h0⟩ | ⟨h0,_⟩
  ·exact .inl ⟨h,by rw [h0,(wait_step hy).1]⟩
  ·omega
 ·exact .inr h
theorem ManyS.fin {x:Item} {k:Nat} {q:List Item} (h:ManyS x k q) (he:¬ (k < q.length∧q.length≤4000)) (hk:k≤q.length):(4000 < q.length↔4000 < countP x):=by
 rcases h with ⟨h1,h2⟩ | ⟨h1,h2⟩
 ·have:k=q.length:=by omega
  subst this
  rw [List.drop_length] at h2
  simp [countsP] at h2
  omega
 ·omega
/-- may an item be, but for how deep it is? -/
def wellP (x:Item):Bool:=pureP x && decide (countP x≤4000)
theorem pures_false {ks:List Item} {i:Nat} {k:Item} (h:ks[i]? = some k) (hk:pureP k=false):puresP ks=false:=by
 have h1:=puresP_append (ks.take (i+1)) (ks.drop (i+1))
 rw [List.take_append_drop,puresP_take h,hk] at h1
 simpa using h1
theorem writesP_le (ks:List Item) (i:Nat):(writesP (ks.take i)).length≤(writesP ks).length:=by
 have:=congrArg List.length (writesP_append (ks.take i) (ks.drop i))
 rw [List.take_append_drop,List.length_append] at this
 omega
theorem writeP_mem {ks:List Item} {i:Nat} {k:Item} (h:ks[i]? = some k):(writeP k).length≤(writesP ks).length:=by
 have h1:=writesP_le ks (i+1)
 rw [writesP_take h,List.length_append] at h1
 omega
end Go.Proofs.YtdfmheademcbkaaGreat
