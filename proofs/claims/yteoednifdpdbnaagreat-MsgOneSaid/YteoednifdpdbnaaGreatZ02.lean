/- Keccak in plain Lean: one round, all rounds, the sum; of no program. -/
import Derived.Test.YteoednifdpdbnaaGreatZ01
import Derived.KernelRfl
namespace Go.Proofs.YteoednifdpdbnaaGreat
set_option linter.unusedVariables false
set_option linter.unusedSimpArgs false
abbrev W64:=BitVec 64
def rotl (x:W64) (k:Nat):W64:=x <<< k ||| x >>> (64 - k)
/-- a row that is worked out up to a place -/
def tab {α:Type} (n:Nat) (f z:Nat→α) (k:Nat):List α:=(List.range n).map fun j=>if j < k then f j else z j
theorem qb0 {α:Type} (n:Nat) (f z:Nat→α) (k:Nat):(tab n f z k).length=n:=by simp [tab]
theorem qfi {α:Type} {n:Nat} {f z:Nat→α} {k j:Nat} (h:j < n):(tab n f z k)[j]? = some (if j < k then f j else z j):=by simp [tab,h]
theorem qdz {α:Type} {n:Nat} {f z:Nat→α} {k:Nat}:(tab n f z k).set k (f k)=tab n f z (k+1):=by
 apply List.ext_getElem?
 intro j
 rw [List.getElem?_set,qb0]
 by_cases hj:j < n
 ·rw [qfi hj,qfi hj]
  by_cases hk:k=j
  ·subst hk;simp [hj]
  ·rw [if_neg hk]
   by_cases h:j < k
   ·rw [if_pos h,if_pos (by omega)]
   ·rw [if_neg h,if_neg (by omega)]
 ·rw [List.getElem?_eq_none (by rw [qb0];omega),List.getElem?_eq_none (by rw [qb0];omega)]
  split
  ·rw [if_neg (by omega)]
  ·rfl
theorem qj5 {α:Type} (n:Nat) (f z:Nat→α):tab n f z 0=(List.range n).map z:=by simp [tab]
theorem qh6 {α:Type} (n:Nat) (f z:Nat→α):tab n f z n=(List.range n).map f:=by
 unfold tab
 exact List.map_congr_left fun j hj=>by rw [if_pos (List.mem_range.1 hj)]
theorem qiy {α:Type} (l:List α) (d:α):(List.range l.length).map (fun j=>l.getD j d)=l:=by
 apply List.ext_getElem
 ·simp
 ·intro i h1 h2
  simp at h1
  simp [List.getD_eq_getElem?_getD,h1]
def kC (a:List W64) (x:Nat):W64:=a.getD x 0 ^^^ a.getD (x+5) 0 ^^^ a.getD (x+10) 0 ^^^ a.getD (x+15) 0 ^^^ a.getD (x+20) 0
def kD (c:List W64) (x:Nat):W64:=c.getD ((x+4) % 5) 0 ^^^ rotl (c.getD ((x+1) % 5) 0) 1
def byL:List Nat:=[0,1,62,28,27,36,44,6,55,20,3,10,43,25,39,41,45,15,21,8,18,2,61,56,14]
def toL:List Nat:=[0,10,20,5,15,16,1,11,21,6,7,17,2,12,22,23,8,18,3,13,14,24,9,19,4]
def kB (a d:List W64):Nat→List W64
 | 0=>List.replicate 25 0
 | k+1=>(kB a d k).set (toL.getD k 0) (rotl (a.getD k 0 ^^^ d.getD (k % 5) 0) (byL.getD k 0))
def kE (b:List W64) (i:Nat):W64:=b.getD i 0 ^^^ (~~~ b.getD (i / 5 * 5+(i+1) % 5) 0 &&& b.getD (i / 5 * 5+(i+2) % 5) 0)
def roundC (a:List W64):List W64:=(List.range 5).map (kC a)
def roundD (a:List W64):List W64:=(List.range 5).map (kD (roundC a))
def roundB (a:List W64):List W64:=kB a (roundD a) 25
def roundE (a:List W64):List W64:=(List.range 25).map (kE (roundB a))
/-- a state, mixed once -/
def roundK (a:List W64) (last:W64):List W64:=(roundE a).set 0 ((roundE a).getD 0 0 ^^^ last)
theorem toL_lt:∀ k,k < 25→toL.getD k 0 < 25:=by decide
theorem byL_lt:∀ k,k < 25→byL.getD k 0 < 64:=by decide
theorem kB_len (a d:List W64) (k:Nat):(kB a d k).length=25:=by
 induction k with
 | zero=>rfl
 | succ k ih=>simp [kB,ih]
theorem qgl (a:List W64) (r:W64):(roundK a r).length=25:=by simp [roundK,roundE]
/-- what a round's last step turns -/
def lastL:List W64:=[0x1,0x8082,0x800000000000808a,0x8000000080008000,0x808b,0x80000001,0x8000000080008081,0x8000000000008009,0x8a,0x88,0x80008009,0x8000000a,
 0x8000808b,0x800000000000008b,0x8000000000008089,0x8000000000008003,0x8000000000008002,0x8000000000000080,0x800a,0x800000008000000a,0x8000000080008081,0x8000000000008080,0x80000001,0x8000000080008008]
def mixK (a:List W64):Nat→List W64
 | 0=>a
 | k+1=>roundK (mixK a k) (lastL.getD k 0)
theorem qgz (a:List W64) (h:a.length=25) (k:Nat):(mixK a k).length=25:=by
 cases k with
 | zero=>exact h
 | succ k=>exact qgl _ _
/-- the tables, as they are made -/
def xyK:Nat→Nat×Nat
 | 0=>(1,0)
 | t+1=>((xyK t).2,(2 * (xyK t).1+3 * (xyK t).2) % 5)
def byK:Nat→List Nat
 | 0=>List.replicate 25 0
 | t+1=>(byK t).set ((xyK t).1+5 * (xyK t).2) ((t+1) * (t+2) / 2 % 64)
def toK (i:Nat):Nat:=i / 5+5 * ((2 * (i % 5)+3 * (i / 5)) % 5)
theorem byK_len (t:Nat):(byK t).length=25:=by
 induction t with
 | zero=>rfl
 | succ t ih=>simp [byK,ih]
theorem byK_all:byK 24=byL:=by decide +kernel
theorem toK_all:(List.range 25).map toK=toL:=by decide +kernel
theorem xyK_lt (t:Nat):(xyK t).1 < 5∧(xyK t).2 < 5:=by
 induction t with
 | zero=>decide
 | succ t ih=>exact ⟨ih.2,Nat.mod_lt _ (by omega)⟩
/- Keccak in plain Lean: padding, taking in, the sum; of no program. -/
/-- what is put behind a text, of so many bytes -/
def tailK (n:Nat):Bytes:=((List.replicate n (0:UInt8)).set 0 1).set (n - 1) (((List.replicate n (0:UInt8)).set 0 1).getD (n - 1) 0 ||| 128)
def padN (s:Bytes):Nat:=136 - s.length % 136
def padK (s:Bytes):Bytes:=s ++ tailK (padN s)
theorem ql6 (n:Nat):(tailK n).length=n:=by simp [tailK]
theorem padN_lt (s:Bytes):1≤padN s∧padN s≤136:=by unfold padN;omega
theorem padK_len (s:Bytes):(padK s).length=136 * (s.length / 136+1):=by
 rw [padK,List.length_append,ql6,padN];omega
/-- the first bytes of a word, the lowest first -/
def byteW (l:Bytes) (k:Nat):W64:=BitVec.ofNat 64 (l.getD k 0).toNat <<< (8 * k)
def wpart (l:Bytes):Nat→W64
 | 0=>0
 | k+1=>wpart l k ^^^ byteW l k
/-- a block is taken in -/
def xorK (a:List W64) (b:Bytes) (i:Nat):W64:=a.getD i 0 ^^^ wpart (b.drop (8 * i)) 8
def takeK (a:List W64) (b:Bytes):List W64:=tab 25 (xorK a b) (fun i=>a.getD i 0) 17
def absK (p:Bytes):Nat→List W64
 | 0=>List.replicate 25 0
 | j+1=>mixK (takeK (absK p j) (p.drop (136 * j))) 24
theorem qk0 (a:List W64) (b:Bytes):(takeK a b).length=25:=qb0 _ _ _ _
theorem absK_len (p:Bytes) (j:Nat):(absK p j).length=25:=by
 cases j with
 | zero=>rfl
 | succ j=>exact qgz _ (qk0 _ _) _
theorem qn4 {α:Type} (l:List α) (i:Nat) (d:α):l.set i (l.getD i d)=l:=by
 apply List.ext_getElem?
 intro j
 rw [List.getElem?_set]
 split
 ·rename_i h;subst h
  split
  ·rename_i h;simp [List.getD_eq_getElem?_getD,h]
  ·rename_i h;rw [List.getElem?_eq_none (by omega)]
 ·rfl
/-- the words of a block of which so many, and so many bytes of the next one, are taken in -/
def midK (a:List W64) (b:Bytes) (i k:Nat):List W64:=(tab 25 (xorK a b) (fun i=>a.getD i 0) i).set i (a.getD i 0 ^^^ wpart (b.drop (8 * i)) k)
theorem qqt (a:List W64) (b:Bytes) (i:Nat) (hi:i < 25):midK a b i 0=tab 25 (xorK a b) (fun i=>a.getD i 0) i:=by
 have h:=qn4 (tab 25 (xorK a b) (fun i=>a.getD i 0) i) i 0
 have e:(tab 25 (xorK a b) (fun i=>a.getD i 0) i).getD i 0=a.getD i 0:=by
  rw [List.getD_eq_getElem?_getD,qfi hi];simp
 rw [e] at h
 unfold midK
 rw [wpart,show a.getD i 0 ^^^ (0:W64)=a.getD i 0 from BitVec.xor_zero]
 exact h
theorem midK_all (a:List W64) (b:Bytes) (i:Nat):midK a b i 8=tab 25 (xorK a b) (fun i=>a.getD i 0) (i+1):=qdz
theorem midK_len (a:List W64) (b:Bytes) (i k:Nat):(midK a b i k).length=25:=by simp [midK,qb0]
theorem midK_get (a:List W64) (b:Bytes) (i k:Nat) (hi:i < 25):(midK a b i k).getD i 0=a.getD i 0 ^^^ wpart (b.drop (8 * i)) k:=by
 unfold midK
 rw [List.getD_eq_getElem?_getD,List.getElem?_set]
 simp [qb0,hi]
theorem midK_set (a:List W64) (b:Bytes) (i k:Nat):(midK a b i k).set i (a.getD i 0 ^^^ wpart (b.drop (8 * i)) k ^^^ byteW (b.drop (8 * i)) k)=midK a b i (k+1):=by
 unfold midK
 rw [List.set_set,wpart,BitVec.xor_assoc]
/-- the bytes that come out -/
def outK (a:List W64) (i:Nat):UInt8:=UInt8.ofNat ((a.getD (i / 8) 0 >>> (8 * (i % 8))).toNat % 256)
def sumK (s:Bytes):Bytes:=(List.range 32).map (outK (absK (padK s) (s.length / 136+1)))
theorem qob (s:Bytes):(sumK s).length=32:=by simp [sumK]
theorem qsq {q:Bytes} {i k:Nat} {c:UInt8} (h:q[8 * i+k]? = some c):byteW (q.drop (8 * i)) k=BitVec.ofNat 64 c.toNat <<< (8 * k):=by
 unfold byteW
 rw [List.getD_eq_getElem?_getD,List.getElem?_drop,h];rfl
/- Tries in plain Lean: nodes of pairs, what nodes are told by, the sum; of no program. -/
/-- a key, and its value -/
abbrev KV:=Bytes×Bytes
/-- one text stands ahead of another one -/
def ltB:Bytes→Bytes→Prop
 | _,[]=>False
 | [],_ :: _=>True
 | a :: x,b :: y=>a.toNat < b.toNat∨(a=b∧ltB x y)
def Rise (l:List KV):Prop:=l.Pairwise fun p q=>ltB p.1 q.1
structure TN where
 k:Nat
 part:Bytes
 value:Bytes
 kids:List Int
def leafIt (s:Bytes):Item:=.mk false s []
def listIt (l:List Item):Item:=.mk true [] l
/- Tries in plain Lean: pairs that rise, what is left of them; of no program. -/
/-- half bytes alone -/
def Half (l:List KV):Prop:=∀ p∈l,∀ x∈p.1,x.toNat < 16
/-- keys of fewer than so many half bytes -/
def Short (N:Nat) (l:List KV):Prop:=∀ p∈l,p.1.length < N
/- Tries in plain Lean: how long and how deep a node's item is; of no program. -/
theorem qcm (b:Bytes) (h:b.length < 65536):(writeP (leafIt b)).length≤b.length+3:=by
 unfold leafIt
 simp only [writeP]
 split
 ·omega
 ·rw [List.length_append];have:=qbb 128 b.length h;omega
theorem qbj (b:Bytes) (h:b.length≤55):(writeP (leafIt b)).length≤b.length+1:=by
 unfold leafIt
 simp only [writeP]
 split
 ·omega
 ·rw [List.length_append];unfold headP;rw [if_pos h];simp;omega
theorem qcd (l:List Item):(writeP (listIt l)).length=(headP 192 (writesP l).length).length+(writesP l).length:=by
 unfold listIt;rw [writeP,List.length_append]
theorem qdg (l:List Item):pureP (listIt l)=puresP l:=by unfold listIt;simp [pureP]
theorem qcx (l:List Item):depthP (listIt l)=depthsP l+1:=by unfold listIt;simp [depthP]
theorem qde (l:List Item):puresP l=true↔∀ x∈l,pureP x=true:=by
 induction l with
 | nil=>simp [puresP]
 | cons k l ih=>simp [puresP,ih]
theorem qfp (l:List Item) (d:Nat):depthsP l≤d↔∀ x∈l,depthP x≤d:=by
 induction l with
 | nil=>simp [depthsP]
 | cons k l ih=>simp only [depthsP,List.mem_cons,forall_eq_or_imp,← ih];omega
theorem qec (l:List Item) (n:Nat) (h:∀ x∈l,(writeP x).length≤n):(writesP l).length≤n * l.length:=by
 induction l with
 | nil=>simp [writesP]
 | cons k l ih =>
  have:=h k (by simp)
  have:=ih (fun x hx=>h x (by simp [hx]))
  simp only [writesP,List.length_append,List.length_cons,Nat.mul_add];omega
/-- values of few bytes -/
def Small (l:List KV):Prop:=∀ p∈l,p.2.length≤500
/- Records in plain Lean: forms of plain kinds and of lists of these, fields, what they are as items; of no program. -/
/-- a kind: its sign, and whether it is a list of such -/
structure Kd where
 c:UInt8
 star:Bool
/-- n, h, a, s, b -/
def okC (c:UInt8):Prop:=c=110∨c=104∨c=97∨c=115∨c=98
def Kd.txt (k:Kd):Bytes:=if k.star then [42,k.c] else [k.c]
def formP:List Kd→Bytes
 | []=>[]
 | k :: ks=>k.txt ++ formP ks
def OkForm (ks:List Kd):Prop:=∀ k∈ks,okC k.c
theorem qt6 (k:Kd):1≤k.txt.length∧k.txt.length≤2:=by unfold Kd.txt;split <;> simp
theorem qd2 (a b:List Kd):formP (a ++ b)=formP a ++ formP b:=by
 induction a with
 | nil=>rfl
 | cons k a ih=>simp [formP,ih]
theorem qki (ks:List Kd):ks.length≤(formP ks).length∧(formP ks).length≤2 * ks.length:=by
 induction ks with
 | nil=>simp [formP]
 | cons k ks ih=>have:=qt6 k;simp [formP];omega
/-- a number and bytes; with fields of these -/
abbrev Lf:=Nat×Bytes
structure Fd where
 n:Nat
 b:Bytes
 l:List Lf
def sizeC (c:UInt8):Nat:=if c=104 then 32 else if c=97 then 20 else 65
/-- does a plain field fit a plain kind? -/
def fitC (c:UInt8) (f:Lf):Bool:=if c=110 then f.2.isEmpty else if c=98 then f.1 == 0 && decide (f.2.length≤64) else f.1 == 0 && f.2.length == sizeC c
def fitF (k:Kd) (f:Fd):Bool:=if k.star then f.n == 0 && f.b.isEmpty && decide (f.l.length≤40) && f.l.all (fitC k.c) else f.l.isEmpty && fitC k.c (f.n,f.b)
def fitsP:List Kd→List Fd→Bool
 | [],[]=>true
 | k :: ks,f :: fs=>fitF k f && fitsP ks fs
 | _,_=>false
def lfI (c:UInt8) (f:Lf):Item:=leafIt (if c=110 then digs f.1 else f.2)
def itemF (k:Kd) (f:Fd):Item:=if k.star then listIt (f.l.map (lfI k.c)) else lfI k.c (f.n,f.b)
def itemsF:List Kd→List Fd→List Item
 | k :: ks,f :: fs=>itemF k f :: itemsF ks fs
 | _,_=>[]
def recF (ks:List Kd) (fs:List Fd):Item:=listIt (itemsF ks fs)
/-- numbers of 64 bits -/
def smallF (fs:List Fd):Prop:=∀ f∈fs,f.n < 18446744073709551616∧∀ x∈f.l,x.1 < 18446744073709551616
theorem qhv {ks:List Kd} {fs:List Fd} (h:fitsP ks fs=true):ks.length=fs.length:=by
 induction ks generalizing fs with
 | nil=>cases fs with
  | nil=>rfl
  | cons f fs=>simp [fitsP] at h
 | cons k ks ih=>cases fs with
  | nil=>simp [fitsP] at h
  | cons f fs=>simp [fitsP] at h;simp [ih h.2]
theorem qoi {c:UInt8} {f:Lf} (h:fitC c f=true) (hn:f.1 < 18446744073709551616):(writeP (lfI c f)).length≤68:=by
 unfold fitC at h
 unfold lfI
 split
 ·have:=qbl 8 f.1 (by omega)
  have:=qbj (digs f.1) (by omega)
  omega
 ·rename_i hc
  rw [if_neg hc] at h
  have:f.2.length≤65:=by
   split at h
   ·simp at h;omega
   ·simp at h;rw [h.2];unfold sizeC;split
    ·omega
    ·split <;> omega
  have:=qcm f.2 (by omega)
  omega
theorem fitF_len {k:Kd} {f:Fd} (h:fitF k f=true) (hn:f.n < 18446744073709551616∧∀ x∈f.l,x.1 < 18446744073709551616):(writeP (itemF k f)).length≤2730∧pureP (itemF k f)=true∧depthP (itemF k f)≤1∧countP (itemF k f)≤41:=by
 unfold fitF at h
 unfold itemF
 split
 ·rename_i hs
  rw [if_pos hs] at h
  simp only [Bool.and_eq_true,decide_eq_true_eq,List.all_eq_true] at h
  obtain ⟨⟨⟨_,_⟩,hl⟩,hall⟩:=h
  have hw:=qec (f.l.map (lfI k.c)) 68 (fun x hx=>by
   obtain ⟨y,hy,rfl⟩:=List.mem_map.1 hx
   exact qoi (hall y hy) (hn.2 y hy))
  rw [List.length_map] at hw
  have hh:=qbb 192 _ (show (writesP (f.l.map (lfI k.c))).length < 65536 by omega)
  refine ⟨by rw [qcd];omega,?_,?_,?_⟩
  ·rw [qdg,qde];intro x hx;obtain ⟨y,_,rfl⟩:=List.mem_map.1 hx;rfl
  ·rw [qcx]
   have:depthsP (f.l.map (lfI k.c))≤0:=(qfp _ _).2 (fun x hx=>by obtain ⟨y,_,rfl⟩:=List.mem_map.1 hx;exact Nat.le_refl _)
   omega
  ·have:∀ l:List Lf,countsP (l.map (lfI k.c))=l.length:=fun l=>by
    induction l with
    | nil=>rfl
    | cons a l ih=>rw [List.map_cons,countsP,ih];simp [lfI,leafIt,countP,countsP];omega
   show 1+countsP _≤41
   rw [this];omega
 ·rename_i hs
  rw [if_neg hs] at h
  simp only [Bool.and_eq_true] at h
  exact ⟨by have:=qoi h.2 hn.1;omega,rfl,Nat.zero_le _,by show 1+0≤41;omega⟩
theorem qev {ks:List Kd} {fs:List Fd} (h:fitsP ks fs=true) (hn:smallF fs) (hk:ks.length≤20) :
  (writeP (recF ks fs)).length≤60000∧pureP (recF ks fs)=true∧depthP (recF ks fs)≤2∧countP (recF ks fs)≤900:=by
 have key:∀ (ks:List Kd) (fs:List Fd),fitsP ks fs=true→smallF fs→(writesP (itemsF ks fs)).length≤2730 * ks.length∧puresP (itemsF ks fs)=true∧depthsP (itemsF ks fs)≤1∧countsP (itemsF ks fs)≤41 * ks.length:=by
  intro ks
  induction ks with
  | nil=>intro fs _ _;simp [itemsF,writesP,puresP,depthsP,countsP]
  | cons k ks ih =>
   intro fs h hn
   cases fs with
   | nil=>simp [fitsP] at h
   | cons f fs =>
    simp [fitsP] at h
    obtain ⟨i1,i2,i3,i4⟩:=ih fs h.2 (fun x hx=>hn x (by simp [hx]))
    obtain ⟨j1,j2,j3,j4⟩:=fitF_len h.1 (hn f (by simp))
    simp only [itemsF,writesP,puresP,depthsP,countsP,List.length_append,List.length_cons,Nat.mul_add]
    refine ⟨by omega,by rw [j2,i2];rfl,by omega,by omega⟩
 obtain ⟨h1,h2,h3,h4⟩:=key ks fs h hn
 have hh:=qbb 192 _ (show (writesP (itemsF ks fs)).length < 65536 by omega)
 unfold recF
 refine ⟨by rw [qcd];omega,by rw [qdg];exact h2,by rw [qcx];omega,?_⟩
 show 1+countsP _≤_
 omega
/- Records read back, in plain Lean: fields out of items, and that they are the only ones; of no program. -/
/-- a number's item, read -/
def valQ (x:Item):Option Nat:=if x.l=true∨0 < x.ks.length∨8 < x.b.length∨digs (num x.b)≠x.b then none else some (num x.b)
/-- a plain field out of an item -/
def unLf (c:UInt8) (x:Item):Option Lf:=if c=110 then (valQ x).map fun n=>(n,[]) else if x.l=true then none else some (0,x.b)
def unLfs (c:UInt8):List Item→Option (List Lf)
 | []=>some []
 | x :: xs=>match unLf c x,unLfs c xs with
  | some f,some r=>some (f :: r)
  | _,_=>none
def unF (k:Kd) (x:Item):Option Fd:=if k.star=true then (if x.l=true then (unLfs k.c x.ks).map fun l=>⟨0,[],l⟩ else none) else (unLf k.c x).map fun f=>⟨f.1,f.2,[]⟩
def unFs:List Kd→List Item→Option (List Fd)
 | [],[]=>some []
 | k :: ks,x :: xs=>match unF k x,unFs ks xs with
  | some f,some r=>some (f :: r)
  | _,_=>none
 | _,_=>none
def unTop (ks:List Kd) (x:Item):Option (List Fd):=if x.l=true then unFs ks x.ks else none
theorem qen {x:Item} (hp:pureP x=true) (hl:x.l=false):x=leafIt x.b:=by
 cases x with
 | mk l b ks =>
  simp only [Item.l] at hl
  subst hl
  simp [pureP] at hp
  simp only [Item.b,leafIt]
  rw [hp.1]
theorem qgf {x:Item} (hp:pureP x=true) (hl:x.l=true):x=listIt x.ks:=by
 cases x with
 | mk l b ks =>
  simp only [Item.l] at hl
  subst hl
  simp [pureP] at hp
  simp only [Item.ks,listIt]
  rw [hp.1]
theorem qfu {x:Item} (hp:pureP x=true):puresP x.ks=true:=by
 cases x with
 | mk l b ks=>simp only [pureP,Bool.and_eq_true] at hp;exact hp.2
theorem qrz {x:Item} {n:Nat} (hp:pureP x=true) (h:valQ x=some n):x=leafIt (digs n)∧n < 18446744073709551616:=by
 unfold valQ at h
 split at h
 ·cases h
 ·rename_i hn
  simp only [not_or] at hn
  obtain ⟨h1,h2,h3,h4⟩:=hn
  injection h with h
  subst h
  have h4:=Decidable.not_not.1 h4
  refine ⟨?_,?_⟩
  ·rw [h4];exact qen hp (by simpa using h1)
  ·have:=qps x.b
   have h5:(256:Nat) ^ x.b.length≤256 ^ 8:=Nat.pow_le_pow_right (by decide) (by omega)
   have h6:(256:Nat) ^ 8=18446744073709551616:=by decide
   omega
theorem qre {n:Nat} (h:n < 18446744073709551616):valQ (leafIt (digs n))=some n:=by
 have:=qbl 8 n (by omega)
 unfold valQ
 rw [if_neg]
 ·show some (num (digs n))=_;rw [qfz]
 ·simp only [not_or]
  refine ⟨by simp [leafIt,Item.l],by simp [leafIt,Item.ks],by show ¬ 8 < (digs n).length;omega,?_⟩
  show ¬ digs (num (digs n))≠digs n
  rw [qfz];simp
theorem qkh {c:UInt8} {x:Item} {f:Lf} (hp:pureP x=true) (h:unLf c x=some f):x=lfI c f∧f.1 < 18446744073709551616:=by
 unfold unLf at h
 unfold lfI
 split at h
 ·rename_i hc
  cases hv:valQ x with
  | none=>rw [hv] at h;cases h
  | some n =>
   rw [hv] at h
   injection h with h
   subst h
   rw [if_pos hc]
   exact qrz hp hv
 ·rename_i hc
  split at h
  ·cases h
  ·rename_i hl
   injection h with h
   subst h
   rw [if_neg hc]
   exact ⟨qen hp (by simpa using hl),by show (0:Nat) < _;omega⟩
theorem qna {c:UInt8} {f:Lf} (hf:fitC c f=true) (hn:f.1 < 18446744073709551616):unLf c (lfI c f)=some f:=by
 obtain ⟨n,b⟩:=f
 unfold fitC at hf
 unfold unLf lfI
 split
 ·rename_i hc
  rw [if_pos hc] at hf
  simp at hf
  subst hf
  show Option.map _ (valQ (leafIt (digs n)))=_
  rw [qre hn];rfl
 ·rename_i hc
  rw [if_neg hc] at hf
  have:n=0:=by split at hf <;> (simp at hf;exact hf.1)
  subst this
  rfl
theorem qi3 {c:UInt8}:∀ {xs:List Item} {l:List Lf},puresP xs=true→unLfs c xs=some l→xs=l.map (lfI c)∧∀ f∈l,f.1 < 18446744073709551616
 | [],l,_,h=>by
  simp [unLfs] at h;subst h;exact ⟨rfl,fun f hf=>by cases hf⟩
 | x :: xs,l,hp,h=>by
  simp only [puresP,Bool.and_eq_true] at hp
  rw [unLfs] at h
  split at h
  ·rename_i f r hf hr
   injection h with h
   subst h
   obtain ⟨a1,a2⟩:=qkh hp.1 hf
   obtain ⟨b1,b2⟩:=qi3 hp.2 hr
   refine ⟨by rw [List.map_cons,← a1,← b1],fun g hg=>?_⟩
   rcases List.mem_cons.1 hg with rfl | hg
   ·exact a2
   ·exact b2 g hg
  ·cases h
theorem qli {c:UInt8}:∀ {l:List Lf},(∀ f∈l,fitC c f=true)→(∀ f∈l,f.1 < 18446744073709551616)→unLfs c (l.map (lfI c))=some l
 | [],_,_=>rfl
 | f :: l,hf,hn=>by
  rw [List.map_cons,unLfs,qna (hf f (by simp)) (hn f (by simp)),qli (fun g hg=>hf g (by simp [hg])) (fun g hg=>hn g (by simp [hg]))]
theorem unF_some {k:Kd} {x:Item} {f:Fd} (hp:pureP x=true) (h:unF k x=some f):x=itemF k f∧f.n < 18446744073709551616∧∀ y∈f.l,y.1 < 18446744073709551616:=by
 unfold unF at h
 unfold itemF
 split at h
 ·rename_i hs
  rw [if_pos hs]
  split at h
  ·rename_i hl
   cases hv:unLfs k.c x.ks with
   | none=>rw [hv] at h;cases h
   | some l =>
    rw [hv] at h
    injection h with h
    subst h
    obtain ⟨a1,a2⟩:=qi3 (qfu hp) hv
    exact ⟨(qgf hp hl).trans (by rw [a1]),by show (0:Nat) < _;omega,a2⟩
  ·cases h
 ·rename_i hs
  rw [if_neg hs]
  cases hv:unLf k.c x with
  | none=>rw [hv] at h;cases h
  | some l =>
   rw [hv] at h
   injection h with h
   subst h
   obtain ⟨a1,a2⟩:=qkh hp hv
   exact ⟨a1,a2,fun y hy=>by cases hy⟩
theorem unF_fit {k:Kd} {f:Fd} (hf:fitF k f=true) (hn:f.n < 18446744073709551616∧∀ y∈f.l,y.1 < 18446744073709551616):unF k (itemF k f)=some f:=by
 obtain ⟨n,b,l⟩:=f
 unfold fitF at hf
 unfold unF itemF
 split
 ·rename_i hs
  rw [if_pos hs] at hf
  simp only [Bool.and_eq_true,decide_eq_true_eq,List.all_eq_true] at hf
  obtain ⟨⟨⟨h1,h2⟩,_⟩,h3⟩:=hf
  have h1:n=0:=by simpa using h1
  have h2:b = []:=by simpa using h2
  subst h1;subst h2
  show (unLfs k.c (l.map (lfI k.c))).map _=_
  rw [qli h3 hn.2];rfl
 ·rename_i hs
  rw [if_neg hs] at hf
  simp only [Bool.and_eq_true] at hf
  have h1:l = []:=by simpa using hf.1
  subst h1
  show Option.map _ (unLf k.c (lfI k.c (n,b)))=_
  rw [qna hf.2 hn.1];rfl
theorem qkg:∀ {ks:List Kd} {xs:List Item} {l:List Fd},puresP xs=true→unFs ks xs=some l→xs=itemsF ks l∧smallF l∧l.length=ks.length
 | [],[],l,_,h=>by
  simp [unFs] at h;subst h;exact ⟨rfl,fun f hf=>absurd hf List.not_mem_nil,rfl⟩
 | [],x :: xs,l,_,h=>by simp [unFs] at h
 | k :: ks,[],l,_,h=>by simp [unFs] at h
 | k :: ks,x :: xs,l,hp,h=>by
  simp only [puresP,Bool.and_eq_true] at hp
  rw [unFs] at h
  split at h
  ·rename_i f r hf hr
   injection h with h
   subst h
   obtain ⟨a1,a2⟩:=unF_some hp.1 hf
   obtain ⟨b1,b2,b3⟩:=qkg hp.2 hr
   refine ⟨by rw [itemsF,← a1,← b1],fun g hg=>?_,by simp [b3]⟩
   rcases List.mem_cons.1 hg with rfl | hg
   ·exact a2
   ·exact b2 g hg
  ·cases h
theorem qn6:∀ {ks:List Kd} {l:List Fd},fitsP ks l=true→smallF l→unFs ks (itemsF ks l)=some l
 | [],[],_,_=>rfl
 | [],f :: l,h,_=>by simp [fitsP] at h
 | k :: ks,[],h,_=>by simp [fitsP] at h
 | k :: ks,f :: l,h,hn=>by
  simp only [fitsP,Bool.and_eq_true] at h
  rw [itemsF,unFs,unF_fit h.1 (hn f (by simp)),qn6 h.2 (fun g hg=>hn g (by simp [hg]))]
theorem qpi {ks:List Kd} {x:Item} {l:List Fd} (hp:pureP x=true) (h:unTop ks x=some l):x=recF ks l∧smallF l∧l.length=ks.length:=by
 unfold unTop at h
 split at h
 ·rename_i hl
  obtain ⟨a,b,c⟩:=qkg (qfu hp) h
  refine ⟨(qgf hp hl).trans ?_,b,c⟩
  unfold recF;rw [a]
 ·cases h
theorem qhu {ks:List Kd} {l:List Fd} (h:fitsP ks l=true) (hn:smallF l):unTop ks (recF ks l)=some l:=by
 unfold unTop recF
 rw [if_pos (by rfl)]
 exact qn6 h hn
/-- two records of a form with the same bytes -/
theorem qig {ks:List Kd} {l m:List Fd} (hk:ks.length≤20) (h:fitsP ks l=true) (hn:smallF l) (h':fitsP ks m=true) (hn':smallF m) (e:writeP (recF ks l)=writeP (recF ks m)):l=m:=by
 obtain ⟨a1,a2,_,_⟩:=qev h hn hk
 obtain ⟨b1,b2,_,_⟩:=qev h' hn' hk
 have:=(qbx _ _ [] [] a2 b2 (by omega) (by omega) (by rw [e])).1
 have h1:=qhu h hn
 rw [this,qhu h' hn'] at h1
 injection h1 with h1
 exact h1.symm
/-- what reading a record says of a text -/
def FrSaid (ks:List Kd) (s:Bytes) (l:List Fd) (no:Nat):Prop :=
 (no=0∧fitsP ks l=true∧smallF l∧s=writeP (recF ks l)∧s.length≤4000) ∨
 (0 < no∧l = []∧(s.length≤4000→∀ m,fitsP ks m=true→smallF m→s≠writeP (recF ks m)))
/- Half bytes in plain Lean; of no program. -/
def nibs:Bytes→Bytes
 | []=>[]
 | c :: k=>c / 16 :: c % 16 :: nibs k
theorem nibs_len (k:Bytes):(nibs k).length=2 * k.length:=by
 induction k with
 | nil=>rfl
 | cons c k ih=>simp [nibs,ih];omega
theorem qq6 (k:Bytes):∀ x∈nibs k,x.toNat < 16:=by
 induction k with
 | nil=>intro x h;cases h
 | cons c k ih =>
  intro x h
  have hc:=c.toNat_lt
  simp only [nibs,List.mem_cons] at h
  rcases h with rfl | rfl | h
  ·rw [UInt8.toNat_div];show c.toNat / 16 < 16;omega
  ·rw [UInt8.toNat_mod];show c.toNat % 16 < 16;omega
  ·exact ih x h
/- Tries in plain Lean: keys in half bytes; what walk hands on; of no program. -/
/-- pairs by half bytes -/
def partsP (l:List KV):List KV:=l.map fun p=>(nibs p.1,p.2)
/-- pairs that a trie may have -/
structure OkL (l:List KV):Prop where
 rise:Rise l
 key:∀ p∈l,1≤p.1.length∧p.1.length≤32
 val:∀ p∈l,1≤p.2.length∧p.2.length≤500
 le:l.length≤64
theorem OkL.nil:OkL []:=⟨List.Pairwise.nil,fun p h=>(by cases h),fun p h=>(by cases h),by simp⟩
theorem qkz {l:List KV} {q:KV} (h:q∈partsP l):∃ p∈l,q=(nibs p.1,p.2):=by
 unfold partsP at h
 obtain ⟨p,h1,h2⟩:=List.mem_map.1 h
 exact ⟨p,h1,h2.symm⟩
theorem OkL.short {l:List KV} (h:OkL l):Short 66 (partsP l):=fun q hq=>by
 obtain ⟨p,hp,rfl⟩:=qkz hq
 have:=h.key p hp
 simp only [nibs_len];omega
theorem OkL.half {l:List KV} (h:OkL l):Half (partsP l):=fun q hq=>by
 obtain ⟨p,hp,rfl⟩:=qkz hq
 exact qq6 p.1
/-- nodes stand in a row of nodes -/
def Sub (ns ms:List TN) (b:Nat):Prop:=∀ j n,ms[j]? = some n→ns[b+j]? = some n
theorem Sub.left {ns a c:List TN} {b:Nat} (h:Sub ns (a ++ c) b):Sub ns a b:=fun j n hj=>h j n (by rw [List.getElem?_append_left (List.getElem?_eq_some_iff.1 hj).1];exact hj)
theorem Sub.right {ns a c:List TN} {b:Nat} (h:Sub ns (a ++ c) b):Sub ns c (b+a.length):=fun j n hj=>by
 have:=h (a.length+j) n (by rw [List.getElem?_append_right (by omega),Nat.add_sub_cancel_left];exact hj)
 rw [Nat.add_assoc];exact this
theorem Sub.last {ns a:List TN} {n:TN} {b:Nat} (h:Sub ns (a ++ [n]) b):ns[b+a.length]? = some n:=by
 have:=h.right 0 n rfl
 simpa using this
theorem Sub.refl (ns:List TN):Sub ns ns 0:=fun j n hj=>by rw [Nat.zero_add];exact hj
/- Sums of 32 bytes (SHA-2) and sums with a key, in plain Lean; of no program. -/
abbrev W32:=BitVec 32
def rotr (x:W32) (k:Nat):W32:=x <<< (32 - k) ||| x >>> k
def kS:List W32:=[0x428a2f98,0x71374491,0xb5c0fbcf,0xe9b5dba5,0x3956c25b,0x59f111f1,0x923f82a4,0xab1c5ed5,
 0xd807aa98,0x12835b01,0x243185be,0x550c7dc3,0x72be5d74,0x80deb1fe,0x9bdc06a7,0xc19bf174,
 0xe49b69c1,0xefbe4786,0x0fc19dc6,0x240ca1cc,0x2de92c6f,0x4a7484aa,0x5cb0a9dc,0x76f988da,
 0x983e5152,0xa831c66d,0xb00327c8,0xbf597fc7,0xc6e00bf3,0xd5a79147,0x06ca6351,0x14292967,
 0x27b70a85,0x2e1b2138,0x4d2c6dfc,0x53380d13,0x650a7354,0x766a0abb,0x81c2c92e,0x92722c85,
 0xa2bfe8a1,0xa81a664b,0xc24b8b70,0xc76c51a3,0xd192e819,0xd6990624,0xf40e3585,0x106aa070,
 0x19a4c116,0x1e376c08,0x2748774c,0x34b0bcb5,0x391c0cb3,0x4ed8aa4a,0x5b9cca4f,0x682e6ff3,
 0x748f82ee,0x78a5636f,0x84c87814,0x8cc70208,0x90befffa,0xa4506ceb,0xbef9a3f7,0xc67178f2]
/-- eight words -/
structure H8 where
 a:W32
 b:W32
 c:W32
 d:W32
 e:W32
 f:W32
 g:W32
 h:W32
deriving DecidableEq
def H8.row (x:H8):List W32:=[x.a,x.b,x.c,x.d,x.e,x.f,x.g,x.h]
def firstS:H8:=⟨0x6a09e667,0xbb67ae85,0x3c6ef372,0xa54ff53a,0x510e527f,0x9b05688c,0x1f83d9ab,0x5be0cd19⟩
/-- the words of a block: the first i bytes of word t -/
def wordI (b:Bytes) (t:Nat):Nat→W32
 | 0=>0
 | i+1=>wordI b t i <<< 8 ||| BitVec.ofNat 32 (b.getD (4 * t+i) 0).toNat
def wordT (b:Bytes) (t:Nat):W32:=wordI b t 4
def sig0 (x:W32):W32:=rotr x 7 ^^^ rotr x 18 ^^^ x >>> 3
def sig1 (x:W32):W32:=rotr x 17 ^^^ rotr x 19 ^^^ x >>> 10
def nextW (w:List W32) (k:Nat):W32:=w.getD k 0+sig0 (w.getD (k+1) 0)+w.getD (k+9) 0+sig1 (w.getD (k+14) 0)
def baseS (b:Bytes) (t:Nat):List W32:=tab 64 (wordT b) (fun _=>0) t
def spreadS (b:Bytes):Nat→List W32
 | 0=>baseS b 16
 | k+1=>(spreadS b k).set (16+k) (nextW (spreadS b k) k)
theorem qfg (b:Bytes):∀ k,(spreadS b k).length=64
 | 0=>qb0 _ _ _ _
 | k+1=>by rw [spreadS,List.length_set,qfg b k]
/-- one step -/
def chS (e f g:W32):W32:=e &&& f ^^^ (~~~ e &&& g)
def mostS (a b c:W32):W32:=a &&& b ^^^ (a &&& c) ^^^ (b &&& c)
def oneS (s:H8) (k w:W32):W32:=s.h+(rotr s.e 6 ^^^ rotr s.e 11 ^^^ rotr s.e 25)+chS s.e s.f s.g+k+w
def twoS (s:H8):W32:=(rotr s.a 2 ^^^ rotr s.a 13 ^^^ rotr s.a 22)+mostS s.a s.b s.c
def stepS (s:H8) (k w:W32):H8:=⟨oneS s k w+twoS s,s.a,s.b,s.c,s.d+oneS s k w,s.e,s.f,s.g⟩
def stepsS (w:List W32) (s:H8):Nat→H8
 | 0=>s
 | t+1=>stepS (stepsS w s t) (kS.getD t 0) (w.getD t 0)
def sumH (x y:H8):H8:=⟨x.a+y.a,x.b+y.b,x.c+y.c,x.d+y.d,x.e+y.e,x.f+y.f,x.g+y.g,x.h+y.h⟩
def blockS (h:H8) (b:Bytes):H8:=sumH (stepsS (spreadS b 48) h 64) h
/-- the highest bytes first -/
def highS (n:Nat) (many:Nat):Bytes:=(List.range many).map fun j=>UInt8.ofNat (n / 2 ^ (8 * (many - 1 - j)) % 256)
def zerosS (n:Nat):Nat:=(64+55 - n % 64) % 64
def padS (s:Bytes):Bytes:=s ++ (128 :: List.replicate (zerosS s.length) 0 ++ highS (8 * s.length) 8)
def blocksS (h:H8) (p:Bytes):Nat→H8
 | 0=>h
 | j+1=>blocksS (blockS h (p.take 64)) (p.drop 64) j
def outS (h:H8):Bytes:=highS h.a.toNat 4 ++ highS h.b.toNat 4 ++ highS h.c.toNat 4 ++ highS h.d.toNat 4 ++ highS h.e.toNat 4 ++ highS h.f.toNat 4 ++ highS h.g.toNat 4 ++ highS h.h.toNat 4
def sumS (s:Bytes):Bytes:=outS (blocksS firstS (padS s) ((s.length+72) / 64))
theorem qdi (n many:Nat):(highS n many).length=many:=by simp [highS]
theorem qjj (s:Bytes):(sumS s).length=32:=by simp [sumS,outS,qdi]
theorem padS_len (s:Bytes):(padS s).length=64 * ((s.length+72) / 64):=by
 simp only [padS,List.length_append,List.length_cons,List.length_replicate,qdi,zerosS]
 omega
/-- a key, turned, of a block's length -/
def keyS (key:Bytes) (v:UInt8):Bytes:=(List.range 64).map fun j=>key.getD j 0 ^^^ v
def macS (key s:Bytes):Bytes :=
 let k:=if 64 < key.length then sumS key else key
 sumS (keyS k 92 ++ sumS (keyS k 54 ++ s))
theorem qg7 (k s:Bytes):(macS k s).length=32:=qjj _
theorem qfs (k:Bytes) (v:UInt8):(keyS k v).length=64:=by simp [keyS]
end Go.Proofs.YteoednifdpdbnaaGreat
