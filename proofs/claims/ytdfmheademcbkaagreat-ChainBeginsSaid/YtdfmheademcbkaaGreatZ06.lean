/- A pair put into pairs that rise; of no program. -/
import Derived.Test.YtdfmheademcbkaaGreatZ05
import Derived.Lib.Bytealg
namespace Go.Proofs.YtdfmheademcbkaaGreat
set_option linter.unusedVariables false
set_option linter.unusedSimpArgs false
theorem cmp_cases (a b:Bytes):(Lib.compareBytes a b = -1∧ltB a b)∨(Lib.compareBytes a b=0∧a=b)∨(Lib.compareBytes a b=1∧ltB b a):=by
 induction a generalizing b with
 | nil =>
  cases b with
  | nil=>exact .inr (.inl ⟨rfl,rfl⟩)
  | cons y b=>exact .inl ⟨rfl,trivial⟩
 | cons x a ih =>
  cases b with
  | nil=>exact .inr (.inr ⟨rfl,trivial⟩)
  | cons y b =>
   rw [Lib.compareBytes]
   by_cases h:x < y
   ·rw [if_pos h];exact .inl ⟨rfl,.inl h⟩
   ·rw [if_neg h]
    by_cases h2:y < x
    ·rw [if_pos h2];exact .inr (.inr ⟨rfl,.inl h2⟩)
    ·rw [if_neg h2]
     have hxy:x=y:=UInt8.toNat_inj.1 (by have h:¬ x.toNat < y.toNat:=h;have h2:¬ y.toNat < x.toNat:=h2;omega)
     subst hxy
     rcases ih b with ⟨h1,h3⟩ | ⟨h1,h3⟩ | ⟨h1,h3⟩
     ·exact .inl ⟨h1,.inr ⟨rfl,h3⟩⟩
     ·exact .inr (.inl ⟨h1,by rw [h3]⟩)
     ·exact .inr (.inr ⟨h1,.inr ⟨rfl,h3⟩⟩)
/-- where a key stands, or would stand -/
structure FoundP (l:List KV) (k:Bytes) (i:Nat) (is:Bool):Prop where
 le:i≤l.length
 low:∀ j p,j < i→l[j]? = some p→ltB p.1 k
 high:∀ j p,i≤j→l[j]? = some p→¬ ltB p.1 k
 here:is=true↔∃ p,l[i]? = some p∧p.1=k
/-- a pair put in its place -/
def putP (l:List KV) (i:Nat) (is:Bool) (k v:Bytes):List KV:=l.take i ++ (k,v) :: l.drop (if is then i+1 else i)
theorem found_above {l:List KV} {k:Bytes} {i:Nat} {is:Bool} (hr:Rise l) (h:FoundP l k i is):∀ p∈l.drop (if is then i+1 else i),ltB k p.1:=by
 intro p hp
 obtain ⟨j,hj⟩:=List.mem_iff_getElem?.1 hp
 rw [List.getElem?_drop] at hj
 cases is with
 | false =>
  simp only [Bool.false_eq_true,if_false] at hj
  have h1:=h.high _ p (by omega) hj
  rcases ltB_total p.1 k with h2 | h2 | h2
  ·exact absurd h2 h1
  ·by_cases h0:j=0
   ·subst h0
    have:false=true:=h.here.2 ⟨p,hj,h2⟩
    cases this
   ·obtain ⟨q,hq⟩:∃ q,l[i]? = some q:=by
     have:=(List.getElem?_eq_some_iff.1 hj).1
     exact ⟨l[i],List.getElem?_eq_getElem (by omega)⟩
    have h3:=h.high i q (Nat.le_refl _) hq
    have h4:ltB q.1 p.1:=by
     obtain ⟨a1,a2⟩:=List.getElem?_eq_some_iff.1 hq
     obtain ⟨b1,b2⟩:=List.getElem?_eq_some_iff.1 hj
     have:=List.pairwise_iff_getElem.1 hr i (i+j) a1 b1 (by omega)
     rwa [a2,b2] at this
    rw [h2] at h4
    exact absurd h4 h3
  ·exact h2
 | true =>
  simp only [if_true] at hj
  obtain ⟨q,hq,hqk⟩:=h.here.1 rfl
  obtain ⟨a1,a2⟩:=List.getElem?_eq_some_iff.1 hq
  obtain ⟨b1,b2⟩:=List.getElem?_eq_some_iff.1 hj
  have:=List.pairwise_iff_getElem.1 hr i (i+1+j) a1 b1 (by omega)
  rw [a2,b2,hqk] at this
  exact this
theorem put_rise {l:List KV} {k v:Bytes} {i:Nat} {is:Bool} (hr:Rise l) (h:FoundP l k i is):Rise (putP l i is k v):=by
 unfold Rise putP
 have hab:=found_above hr h
 have hlo:∀ p∈l.take i,ltB p.1 k:=fun p hp=>by
  obtain ⟨j,hj⟩:=List.mem_iff_getElem?.1 hp
  rw [List.getElem?_take] at hj
  split at hj
  ·exact h.low j p (by assumption) hj
  ·cases hj
 rw [List.pairwise_append,List.pairwise_cons]
 refine ⟨List.Pairwise.take hr,⟨hab,List.Pairwise.drop hr⟩,fun p hp q hq=>?_⟩
 rcases List.mem_cons.1 hq with rfl | hq
 ·exact hlo p hp
 ·exact ltB_trans (hlo p hp) (hab q hq)
theorem put_mem {l:List KV} {k v:Bytes} {i:Nat} {is:Bool}:∀ p∈putP l i is k v,p=(k,v)∨p∈l:=by
 intro p hp
 unfold putP at hp
 rcases List.mem_append.1 hp with h | h
 ·exact .inr (List.mem_of_mem_take h)
 ·rcases List.mem_cons.1 h with h | h
  ·exact .inl h
  ·exact .inr (List.mem_of_mem_drop h)
theorem put_len {l:List KV} {k v:Bytes} {i:Nat} {is:Bool} (h:FoundP l k i is):(putP l i is k v).length=l.length+(if is then 0 else 1):=by
 have:=h.le
 unfold putP
 rw [List.length_append,List.length_cons,List.length_take,List.length_drop]
 cases is with
 | false=>simp;omega
 | true =>
  obtain ⟨q,hq,_⟩:=h.here.1 rfl
  have:=(List.getElem?_eq_some_iff.1 hq).1
  simp;omega
theorem put_ok {l:List KV} {k v:Bytes} {i:Nat} {is:Bool} (ho:OkL l) (h:FoundP l k i is) (hk:1≤k.length∧k.length≤32) (hv:1≤v.length∧v.length≤500) (hl:l.length < 64):OkL (putP l i is k v) :=
 ⟨put_rise ho.rise h,fun p hp=>by rcases put_mem p hp with rfl | h;exact hk;exact ho.key p h,fun p hp=>by rcases put_mem p hp with rfl | h;exact hv;exact ho.val p h,
  by rw [put_len h];split <;> omega⟩
/- Pairs as the reference puts them, in plain Lean; the order of texts; of no program. -/
/-- as the model has it -/
def lessB:Bytes→Bytes→Bool
 | _,[]=>false
 | [],_ :: _=>true
 | a :: x,b :: y=>decide (a < b) || (a == b && lessB x y)
theorem lessB_iff:∀ a b:Bytes,lessB a b=true↔ltB a b
 | [],[]=>by simp [lessB,ltB]
 | _ :: _,[]=>by simp [lessB,ltB]
 | [],_ :: _=>by simp [lessB,ltB]
 | a :: x,b :: y=>by
  simp only [lessB,ltB,Bool.or_eq_true,Bool.and_eq_true,decide_eq_true_eq,beq_iff_eq,lessB_iff x y,UInt8.lt_iff_toNat_lt]
theorem lessB_no {a b:Bytes}:lessB a b=false↔¬ ltB a b:=by rw [← lessB_iff,Bool.not_eq_true]
/-- one pair of the reference's Put -/
def putS1 (k v:Bytes) (s:List KV×Bool) (p:KV):List KV×Bool :=
 if !s.2 && !lessB p.1 k then (s.1 ++ [(k,v)],true) else s
def putS (k v:Bytes) (s:List KV×Bool) (p:KV):List KV×Bool :=
 if p.1 == k then putS1 k v s p else ((putS1 k v s p).1 ++ [p],(putS1 k v s p).2)
def putF (k v:Bytes) (l:List KV):List KV×Bool:=l.foldl (putS k v) ([],false)
def refPutP (l:List KV) (k v:Bytes):List KV:=if (putF k v l).2 then (putF k v l).1 else (putF k v l).1 ++ [(k,v)]
theorem putF_snoc (k v:Bytes) (l:List KV) (p:KV):putF k v (l ++ [p])=putS k v (putF k v l) p:=by simp [putF]
theorem putF_low {k v:Bytes}:∀ {l:List KV} (s:List KV),(∀ p∈l,ltB p.1 k)→l.foldl (putS k v) (s,false)=(s ++ l,false)
 | [],s,_=>by simp
 | p :: l,s,h=>by
  have hp:=h p (by simp)
  have h1:lessB p.1 k=true:=(lessB_iff _ _).2 hp
  have h2:(p.1 == k)=false:=beq_eq_false_iff_ne.2 (fun e=>ltB_irrefl _ (by rw [e] at hp;exact hp))
  rw [List.foldl_cons,show putS k v (s,false) p=(s ++ [p],false) by simp [putS,putS1,h1,h2],putF_low _ (fun q hq=>h q (by simp [hq]))]
  simp
theorem putF_high {k v:Bytes}:∀ {l:List KV} (s:List KV),(∀ p∈l,ltB k p.1)→l.foldl (putS k v) (s,true)=(s ++ l,true)
 | [],s,_=>by simp
 | p :: l,s,h=>by
  have hp:=h p (by simp)
  have h2:(p.1 == k)=false:=beq_eq_false_iff_ne.2 (fun e=>ltB_irrefl _ (by rw [e] at hp;exact hp))
  rw [List.foldl_cons,show putS k v (s,true) p=(s ++ [p],true) by simp [putS,putS1,h2],putF_high _ (fun q hq=>h q (by simp [hq]))]
  simp
theorem ref_put {l:List KV} {k v:Bytes} {i:Nat} {is:Bool} (hr:Rise l) (h:FoundP l k i is):refPutP l k v=putP l i is k v:=by
 have hab:=found_above hr h
 have hlo:∀ p∈l.take i,ltB p.1 k:=fun p hp=>by
  obtain ⟨j,hj⟩:=List.getElem?_of_mem hp
  rw [List.getElem?_take] at hj
  split at hj
  ·rename_i hji;exact h.low j p hji hj
  ·cases hj
 have hs:l=l.take i ++ l.drop i:=(List.take_append_drop i l).symm
 have h1:putF k v (l.take i)=(l.take i,false):=by
  have:=putF_low (k:=k) (v:=v) [] hlo
  simpa [putF] using this
 unfold refPutP
 have hF:putF k v l=(l.drop i).foldl (putS k v) (l.take i,false):=by
  conv=>lhs;rw [hs]
  unfold putF at h1 ⊢
  rw [List.foldl_append,h1]
 cases is with
 | false =>
  rw [if_neg (by simp)] at hab
  cases hd:l.drop i with
  | nil =>
   rw [hF,hd]
   simp [putP,hd]
  | cons p r =>
   have hp:ltB k p.1:=hab p (by rw [hd];simp)
   have h2:(p.1 == k)=false:=beq_eq_false_iff_ne.2 (fun e=>ltB_irrefl _ (by rw [e] at hp;exact hp))
   have h3:lessB p.1 k=false:=lessB_no.2 (ltB_asymm hp)
   rw [hF,hd,List.foldl_cons,show putS k v (l.take i,false) p=(l.take i ++ [(k,v)] ++ [p],true) by simp [putS,putS1,h2,h3],putF_high _ (fun q hq=>hab q (by rw [hd];simp [hq]))]
   simp [putP,hd]
 | true =>
  obtain ⟨q,hq,hqk⟩:=h.here.1 rfl
  rw [if_pos rfl] at hab
  obtain ⟨hi,hq'⟩:=List.getElem?_eq_some_iff.1 hq
  have hd:l.drop i=q :: l.drop (i+1):=by rw [← hq',List.getElem_cons_drop]
  have h3:lessB q.1 k=false:=lessB_no.2 (by rw [hqk];exact ltB_irrefl k)
  have h2:(q.1 == k)=true:=by rw [hqk];simp
  rw [hF,hd,List.foldl_cons,show putS k v (l.take i,false) q=(l.take i ++ [(k,v)],true) by simp [putS,putS1,h2,h3],putF_high _ hab]
  simp [putP]
/-- the value of a key, as the reference finds it -/
def getP (l:List KV) (k:Bytes):Bytes:=((l.find? fun p=>p.1 == k).map (·.2)).getD []
theorem getP_nil {l:List KV} (h:Rise l):getP l []=topV l:=by
 match l,h with
 | [],_=>rfl
 | (k,v) :: r,h =>
  cases k with
  | nil=>rfl
  | cons x k =>
   have hn:r.find? (fun p=>p.1 == [])=none:=List.find?_eq_none.2 fun q hq=>by
    have:=rise_tail_ne h q hq
    simpa using this
   unfold getP
   rw [List.find?_cons_of_neg (by simp),hn]
   rfl
/-- how many half bytes all keys begin with alike, as the reference counts -/
def comF (l:List KV) (k0:Bytes):Nat:=l.foldl (fun n p=>if shareP p.1 k0 < n then shareP p.1 k0 else n) k0.length
theorem com_min (k0:Bytes):∀ (l:List KV) (n:Nat),(l.foldl (fun n p=>if shareP p.1 k0 < n then shareP p.1 k0 else n) n≤n∧∀ p∈l,l.foldl (fun n p=>if shareP p.1 k0 < n then shareP p.1 k0 else n) n≤shareP p.1 k0) ∧
  (l.foldl (fun n p=>if shareP p.1 k0 < n then shareP p.1 k0 else n) n=n∨∃ p∈l,l.foldl (fun n p=>if shareP p.1 k0 < n then shareP p.1 k0 else n) n=shareP p.1 k0)
 | [],n=>by simp
 | q :: l,n=>by
  obtain ⟨⟨i1,i2⟩,i3⟩:=com_min k0 l (if shareP q.1 k0 < n then shareP q.1 k0 else n)
  rw [List.foldl_cons]
  have hm:(if shareP q.1 k0 < n then shareP q.1 k0 else n)≤n∧(if shareP q.1 k0 < n then shareP q.1 k0 else n)≤shareP q.1 k0:=by split <;> omega
  refine ⟨⟨by omega,fun p hp=>?_⟩,?_⟩
  ·rcases List.mem_cons.1 hp with rfl | hp
   ·omega
   ·exact i2 p hp
  ·rcases i3 with h | ⟨p,hp,h⟩
   ·rw [h]
    by_cases hq:shareP q.1 k0 < n
    ·rw [if_pos hq];exact .inr ⟨q,by simp,rfl⟩
    ·rw [if_neg hq];exact .inl rfl
   ·exact .inr ⟨p,by simp [hp],h⟩
theorem com_ref {p:KV} {r:List KV} (h:Rise (p :: r)):comF (p :: r) p.1=comP (p :: r):=by
 obtain ⟨⟨h1,h2⟩,h3⟩:=com_min p.1 (p :: r) p.1.length
 have hle:=comP_le h
 have hle':comP (p :: r)≤comF (p :: r) p.1:=by
  rcases h3 with h3 | ⟨q,hq,h3⟩
  ·unfold comF;rw [h3];have:=hle p (by simp);have:=(shareP_le p.1 p.1).1;omega
  ·unfold comF;rw [h3,shareP_comm];exact hle q hq
 have hge:comF (p :: r) p.1≤comP (p :: r):=by
  have hl:∃ q∈p :: r,comP (p :: r)=shareP p.1 q.1:=⟨(p :: r).getLast (by simp),List.getLast_mem _,rfl⟩
  obtain ⟨q,hq,he⟩:=hl
  rw [he,shareP_comm]
  exact h2 q hq
 omega
/- Accounts in plain Lean: which rows may be, what all have, an address's account; of no program. -/
structure Ac where
 addr:Bytes
 bal:Nat
 non:Nat
def supplyN:Nat:=4611686018427387904
/-- one account behind another one, with so much left -/
def badA (prev:Option Bytes) (left:Nat) (a:Ac):Bool:=a.addr.length != 20 || (match prev with | none=>false | some p=>!lessB p a.addr) || (a.bal == 0 && a.non == 0) || decide (left < a.bal)
def rightL (prev:Option Bytes) (left:Nat):List Ac→Bool
 | []=>true
 | a :: l=>if badA prev left a then false else rightL (some a.addr) (left - a.bal) l
def rightS (l:List Ac):Bool:=decide (l.length≤24) && rightL none supplyN l
theorem leq_less (a b:Bytes):(lessB a b || a == b) = !lessB b a:=by
 rw [Bool.eq_iff_iff]
 simp only [Bool.or_eq_true,beq_iff_eq,lessB_iff,Bool.not_eq_true',lessB_no]
 constructor
 ·rintro (h | rfl)
  ·exact ltB_asymm h
  ·exact ltB_irrefl _
 ·intro h
  rcases ltB_total a b with h1 | h1 | h1
  ·exact .inl h1
  ·exact .inr h1
  ·exact absurd h1 h
end Go.Proofs.YtdfmheademcbkaaGreat
