/- Keccak in plain Lean: one round, all rounds, the sum; of no program. -/
import Derived.Test.YtdfmheademcbkaaGreatZ04
import Derived.KernelRfl
namespace Go.Proofs.YtdfmheademcbkaaGreat
set_option linter.unusedVariables false
set_option linter.unusedSimpArgs false
abbrev W64:=BitVec 64
def rotl (x:W64) (k:Nat):W64:=x <<< k ||| x >>> (64 - k)
theorem rotl_zero (x:W64):rotl x 0=x:=by unfold rotl;ext i;simp
/-- a row that is worked out up to a place -/
def tab {α:Type} (n:Nat) (f z:Nat→α) (k:Nat):List α:=(List.range n).map fun j=>if j < k then f j else z j
theorem tab_len {α:Type} (n:Nat) (f z:Nat→α) (k:Nat):(tab n f z k).length=n:=by simp [tab]
theorem tab_get {α:Type} {n:Nat} {f z:Nat→α} {k j:Nat} (h:j < n):(tab n f z k)[j]? = some (if j < k then f j else z j):=by simp [tab,h]
theorem tab_set {α:Type} {n:Nat} {f z:Nat→α} {k:Nat}:(tab n f z k).set k (f k)=tab n f z (k+1):=by
 apply List.ext_getElem?
 intro j
 rw [List.getElem?_set,tab_len]
 by_cases hj:j < n
 ·rw [tab_get hj,tab_get hj]
  by_cases hk:k=j
  ·subst hk;simp [hj]
  ·rw [if_neg hk]
   by_cases h:j < k
   ·rw [if_pos h,if_pos (by omega)]
   ·rw [if_neg h,if_neg (by omega)]
 ·rw [List.getElem?_eq_none (by rw [tab_len];omega),List.getElem?_eq_none (by rw [tab_len];omega)]
  split
  ·rw [if_neg (by omega)]
  ·rfl
theorem tab_zero {α:Type} (n:Nat) (f z:Nat→α):tab n f z 0=(List.range n).map z:=by simp [tab]
theorem tab_all {α:Type} (n:Nat) (f z:Nat→α):tab n f z n=(List.range n).map f:=by
 unfold tab
 exact List.map_congr_left fun j hj=>by rw [if_pos (List.mem_range.1 hj)]
theorem range_getD {α:Type} (l:List α) (d:α):(List.range l.length).map (fun j=>l.getD j d)=l:=by
 apply List.ext_getElem
 ·simp
 ·intro i h1 h2
  simp at h1
  simp [List.getD_eq_getElem?_getD,h1]
def kC (a:List W64) (x:Nat):W64:=a.getD x 0 ^^^ a.getD (x+5) 0 ^^^ a.getD (x+10) 0 ^^^ a.getD (x+15) 0 ^^^ a.getD (x+20) 0
def kD (c:List W64) (x:Nat):W64:=c.getD ((x+4) % 5) 0 ^^^ rotl (c.getD ((x+1) % 5) 0) 1
def byL:List Nat:=[0,1,62,28,27,36,44,6,55,20,3,10,43,25,39,41,45,15,21,8,18,2,61,56,14]
def toL:List Nat:=[0,10,20,5,15,16,1,11,21,6,7,17,2,12,22,23,8,18,3,13,14,24,9,19,4]
def kB (a d:List W64):Nat→List W64
 | 0=>List.replicate 25 0
 | k+1=>(kB a d k).set (toL.getD k 0) (rotl (a.getD k 0 ^^^ d.getD (k % 5) 0) (byL.getD k 0))
def kE (b:List W64) (i:Nat):W64:=b.getD i 0 ^^^ (~~~ b.getD (i / 5 * 5+(i+1) % 5) 0 &&& b.getD (i / 5 * 5+(i+2) % 5) 0)
def roundC (a:List W64):List W64:=(List.range 5).map (kC a)
def roundD (a:List W64):List W64:=(List.range 5).map (kD (roundC a))
def roundB (a:List W64):List W64:=kB a (roundD a) 25
def roundE (a:List W64):List W64:=(List.range 25).map (kE (roundB a))
/-- a state, mixed once -/
def roundK (a:List W64) (last:W64):List W64:=(roundE a).set 0 ((roundE a).getD 0 0 ^^^ last)
theorem toL_lt:∀ k,k < 25→toL.getD k 0 < 25:=by decide
theorem byL_lt:∀ k,k < 25→byL.getD k 0 < 64:=by decide
theorem kB_len (a d:List W64) (k:Nat):(kB a d k).length=25:=by
 induction k with
 | zero=>rfl
 | succ k ih=>simp [kB,ih]
theorem roundK_len (a:List W64) (r:W64):(roundK a r).length=25:=by simp [roundK,roundE]
/-- by how much the word of x and y is turned, and where it comes -/
def atP (x y:Nat):Nat:=x % 5+5 * (y % 5)
def rCk (a:List W64) (x:Nat):Nat→W64
 | 0=>0
 | k+1=>rCk a x k ^^^ a.getD (atP x k) 0
def rD (c:List W64) (x:Nat):W64:=c.getD ((x+4) % 5) 0 ^^^ rotl (c.getD ((x+1) % 5) 0) 1
/-- x + 5 y places of the row are set -/
def rB (a c:List W64):Nat→List W64
 | 0=>List.replicate 25 0
 | k+1=>(rB a c k).set (atP (k % 5) (2 * (k / 5)+3 * (k % 5))) (rotl (a.getD (atP (k / 5) (k % 5)) 0 ^^^ rD c (k / 5)) (byL.getD (atP (k / 5) (k % 5)) 0))
def rE (b:List W64):Nat→List W64
 | 0=>List.replicate 25 0
 | k+1=>(rE b k).set (atP (k / 5) (k % 5)) (b.getD (atP (k / 5) (k % 5)) 0 ^^^ (~~~ b.getD (atP (k / 5+1) (k % 5)) 0 &&& b.getD (atP (k / 5+2) (k % 5)) 0))
theorem rB_len (a c:List W64) (k:Nat):(rB a c k).length=25:=by
 induction k with
 | zero=>rfl
 | succ k ih=>simp [rB,ih]
theorem rE_len (b:List W64) (k:Nat):(rE b k).length=25:=by
 induction k with
 | zero=>rfl
 | succ k ih=>simp [rE,ih]
theorem rCk_eq (a:List W64) (x:Nat):x < 5→rCk a x 5=kC a x:=by
 intro h
 have:x=0∨x=1∨x=2∨x=3∨x=4:=by omega
 rcases this with rfl | rfl | rfl | rfl | rfl <;> simp [rCk,kC,atP]
theorem list25 {α:Type} {l:List α} (h:l.length=25):∃ a0 a1 a2 a3 a4 a5 a6 a7 a8 a9 b0 b1 b2 b3 b4 b5 b6 b7 b8 b9 c0 c1 c2 c3 c4,l = [a0,a1,a2,a3,a4,a5,a6,a7,a8,a9,b0,b1,b2,b3,b4,b5,b6,b7,b8,b9,c0,c1,c2,c3,c4]:=by
 match l,h with
 | [a0,a1,a2,a3,a4,a5,a6,a7,a8,a9,b0,b1,b2,b3,b4,b5,b6,b7,b8,b9,c0,c1,c2,c3,c4],_=>exact ⟨_,_,_,_,_,_,_,_,_,_,_,_,_,_,_,_,_,_,_,_,_,_,_,_,_,rfl⟩
theorem rB_eq (a c:List W64) (ha:a.length=25):rB a c 25=kB a ((List.range 5).map (kD c)) 25:=by
 obtain ⟨a0,a1,a2,a3,a4,a5,a6,a7,a8,a9,b0,b1,b2,b3,b4,b5,b6,b7,b8,b9,c0,c1,c2,c3,c4,rfl⟩:=list25 ha
 kernel_rfl
theorem rE_eq (b:List W64) (hb:b.length=25):rE b 25=(List.range 25).map (kE b):=by
 obtain ⟨a0,a1,a2,a3,a4,a5,a6,a7,a8,a9,b0,b1,b2,b3,b4,b5,b6,b7,b8,b9,c0,c1,c2,c3,c4,rfl⟩:=list25 hb
 kernel_rfl
/-- what a round's last step turns -/
def lastL:List W64:=[0x1,0x8082,0x800000000000808a,0x8000000080008000,0x808b,0x80000001,0x8000000080008081,0x8000000000008009,0x8a,0x88,0x80008009,0x8000000a,
 0x8000808b,0x800000000000008b,0x8000000000008089,0x8000000000008003,0x8000000000008002,0x8000000000000080,0x800a,0x800000008000000a,0x8000000080008081,0x8000000000008080,0x80000001,0x8000000080008008]
def mixK (a:List W64):Nat→List W64
 | 0=>a
 | k+1=>roundK (mixK a k) (lastL.getD k 0)
theorem mixK_len (a:List W64) (h:a.length=25) (k:Nat):(mixK a k).length=25:=by
 cases k with
 | zero=>exact h
 | succ k=>exact roundK_len _ _
/-- the tables, as they are made -/
def xyK:Nat→Nat×Nat
 | 0=>(1,0)
 | t+1=>((xyK t).2,(2 * (xyK t).1+3 * (xyK t).2) % 5)
def byK:Nat→List Nat
 | 0=>List.replicate 25 0
 | t+1=>(byK t).set ((xyK t).1+5 * (xyK t).2) ((t+1) * (t+2) / 2 % 64)
def toK (i:Nat):Nat:=i / 5+5 * ((2 * (i % 5)+3 * (i / 5)) % 5)
theorem byK_len (t:Nat):(byK t).length=25:=by
 induction t with
 | zero=>rfl
 | succ t ih=>simp [byK,ih]
theorem byK_all:byK 24=byL:=by decide +kernel
theorem toK_all:(List.range 25).map toK=toL:=by decide +kernel
theorem xyK_lt (t:Nat):(xyK t).1 < 5∧(xyK t).2 < 5:=by
 induction t with
 | zero=>decide
 | succ t ih=>exact ⟨ih.2,Nat.mod_lt _ (by omega)⟩
/-- the register -/
def regK:Nat→Nat
 | 0=>1
 | k+1=>if 2 * regK k > 255 then (2 * regK k) ^^^ 369 else 2 * regK k
theorem regK_lt (k:Nat):regK k < 256:=by
 induction k with
 | zero=>decide
 | succ k ih =>
  simp only [regK]
  split
  ·have:∀ n,n < 256→2 * n > 255→(2 * n) ^^^ 369 < 256:=by decide +kernel
   exact this _ ih ‹_›
  ·omega
def lastK (i:Nat):Nat→W64
 | 0=>0
 | j+1=>if regK (j+7 * i) % 2=1 then lastK i j ||| (1:W64) <<< (2 ^ j - 1) else lastK i j
theorem lastK_eq:∀ i,i < 24→lastK i 7=lastL.getD i 0:=by decide +kernel
/- Keccak in plain Lean: padding, taking in, the sum; of no program. -/
/-- what is put behind a text, of so many bytes -/
def tailK (n:Nat):Bytes:=((List.replicate n (0:UInt8)).set 0 1).set (n - 1) (((List.replicate n (0:UInt8)).set 0 1).getD (n - 1) 0 ||| 128)
def padN (s:Bytes):Nat:=136 - s.length % 136
def padK (s:Bytes):Bytes:=s ++ tailK (padN s)
theorem tailK_len (n:Nat):(tailK n).length=n:=by simp [tailK]
theorem padN_lt (s:Bytes):1≤padN s∧padN s≤136:=by unfold padN;omega
theorem padK_len (s:Bytes):(padK s).length=136 * (s.length / 136+1):=by
 rw [padK,List.length_append,tailK_len,padN];omega
/-- the first bytes of a word, the lowest first -/
def byteW (l:Bytes) (k:Nat):W64:=BitVec.ofNat 64 (l.getD k 0).toNat <<< (8 * k)
def wpart (l:Bytes):Nat→W64
 | 0=>0
 | k+1=>wpart l k ^^^ byteW l k
/-- a block is taken in -/
def xorK (a:List W64) (b:Bytes) (i:Nat):W64:=a.getD i 0 ^^^ wpart (b.drop (8 * i)) 8
def takeK (a:List W64) (b:Bytes):List W64:=tab 25 (xorK a b) (fun i=>a.getD i 0) 17
def absK (p:Bytes):Nat→List W64
 | 0=>List.replicate 25 0
 | j+1=>mixK (takeK (absK p j) (p.drop (136 * j))) 24
theorem takeK_len (a:List W64) (b:Bytes):(takeK a b).length=25:=tab_len _ _ _ _
theorem absK_len (p:Bytes) (j:Nat):(absK p j).length=25:=by
 cases j with
 | zero=>rfl
 | succ j=>exact mixK_len _ (takeK_len _ _) _
theorem set_same {α:Type} (l:List α) (i:Nat) (d:α):l.set i (l.getD i d)=l:=by
 apply List.ext_getElem?
 intro j
 rw [List.getElem?_set]
 split
 ·rename_i h;subst h
  split
  ·rename_i h;simp [List.getD_eq_getElem?_getD,h]
  ·rename_i h;rw [List.getElem?_eq_none (by omega)]
 ·rfl
/-- the words of a block of which so many, and so many bytes of the next one, are taken in -/
def midK (a:List W64) (b:Bytes) (i k:Nat):List W64:=(tab 25 (xorK a b) (fun i=>a.getD i 0) i).set i (a.getD i 0 ^^^ wpart (b.drop (8 * i)) k)
theorem midK_zero (a:List W64) (b:Bytes) (i:Nat) (hi:i < 25):midK a b i 0=tab 25 (xorK a b) (fun i=>a.getD i 0) i:=by
 have h:=set_same (tab 25 (xorK a b) (fun i=>a.getD i 0) i) i 0
 have e:(tab 25 (xorK a b) (fun i=>a.getD i 0) i).getD i 0=a.getD i 0:=by
  rw [List.getD_eq_getElem?_getD,tab_get hi];simp
 rw [e] at h
 unfold midK
 rw [wpart,show a.getD i 0 ^^^ (0:W64)=a.getD i 0 from BitVec.xor_zero]
 exact h
theorem midK_all (a:List W64) (b:Bytes) (i:Nat):midK a b i 8=tab 25 (xorK a b) (fun i=>a.getD i 0) (i+1):=tab_set
theorem midK_len (a:List W64) (b:Bytes) (i k:Nat):(midK a b i k).length=25:=by simp [midK,tab_len]
theorem midK_get (a:List W64) (b:Bytes) (i k:Nat) (hi:i < 25):(midK a b i k).getD i 0=a.getD i 0 ^^^ wpart (b.drop (8 * i)) k:=by
 unfold midK
 rw [List.getD_eq_getElem?_getD,List.getElem?_set]
 simp [tab_len,hi]
theorem midK_set (a:List W64) (b:Bytes) (i k:Nat):(midK a b i k).set i (a.getD i 0 ^^^ wpart (b.drop (8 * i)) k ^^^ byteW (b.drop (8 * i)) k)=midK a b i (k+1):=by
 unfold midK
 rw [List.set_set,wpart,BitVec.xor_assoc]
/-- the bytes that come out -/
def outK (a:List W64) (i:Nat):UInt8:=UInt8.ofNat ((a.getD (i / 8) 0 >>> (8 * (i % 8))).toNat % 256)
def sumK (s:Bytes):Bytes:=(List.range 32).map (outK (absK (padK s) (s.length / 136+1)))
theorem sumK_len (s:Bytes):(sumK s).length=32:=by simp [sumK]
/-- the number of bytes, the lowest first -/
def numL:Bytes→Nat
 | []=>0
 | c :: l=>c.toNat+256 * numL l
theorem xor_hi (x y k:Nat) (hx:x < 2 ^ k):x ^^^ (y * 2 ^ k)=x+y * 2 ^ k:=by
 have h1:=Nat.two_pow_add_eq_or_of_lt hx y
 rw [Nat.mul_comm,Nat.add_comm] at h1
 rw [h1]
 apply Nat.eq_of_testBit_eq
 intro i
 rw [Nat.testBit_xor,Nat.testBit_or,Nat.mul_comm,Nat.testBit_two_pow_mul]
 by_cases hi:k≤i
 ·rw [Nat.testBit_lt_two_pow (Nat.lt_of_lt_of_le hx (Nat.pow_le_pow_right (by omega) hi))];simp
 ·simp [hi]
theorem numL_take_succ (l:Bytes):∀ k,k < l.length→numL (l.take (k+1))=numL (l.take k)+(l.getD k 0).toNat * 2 ^ (8 * k):=by
 induction l with
 | nil=>intro k h;simp at h
 | cons c l ih =>
  intro k h
  cases k with
  | zero=>simp [numL]
  | succ k =>
   have:=ih k (by simpa using h)
   simp only [List.take_succ_cons,numL,this,List.getD_cons_succ]
   rw [Nat.mul_add,show 8 * (k+1)=8+8 * k by omega,Nat.pow_add,Nat.mul_left_comm 256,show (2:Nat) ^ 8=256 from rfl]
   omega
theorem numL_lt (l:Bytes):numL l < 2 ^ (8 * l.length):=by
 induction l with
 | nil=>simp [numL]
 | cons c l ih =>
  have:=c.toNat_lt
  rw [numL,List.length_cons,show 8 * (l.length+1)=8 * l.length+8 by omega,Nat.pow_add]
  omega
theorem wpart_num (l:Bytes):∀ k,k≤8→k≤l.length→(wpart l k).toNat=numL (l.take k):=by
 intro k
 induction k with
 | zero=>intro _ _;simp [wpart,numL]
 | succ k ih =>
  intro h8 hl
  have h1:=ih (by omega) (by omega)
  have h2:=numL_take_succ l k (by omega)
  have h3:=numL_lt (l.take k)
  rw [List.length_take,Nat.min_eq_left (by omega)] at h3
  have hc:=(l.getD k 0).toNat_lt
  have hp:(l.getD k 0).toNat * 2 ^ (8 * k) < 2 ^ 64:=by
   have h5:2 ^ (8 * k)≤2 ^ 56:=Nat.pow_le_pow_right (by omega) (by omega)
   calc (l.getD k 0).toNat * 2 ^ (8 * k)≤(l.getD k 0).toNat * 2 ^ 56:=Nat.mul_le_mul_left _ h5
    _ < 2 ^ 64:=by omega
  have hb:(byteW l k).toNat=(l.getD k 0).toNat * 2 ^ (8 * k):=by
   unfold byteW
   rw [BitVec.toNat_shiftLeft,BitVec.toNat_ofNat,Nat.shiftLeft_eq,Nat.mod_eq_of_lt (a:=(l.getD k 0).toNat) (by omega),Nat.mod_eq_of_lt hp]
  rw [wpart,BitVec.toNat_xor,h1,hb,xor_hi _ _ _ h3,h2]
theorem wpart_eq (l:Bytes) (h:l.length=8):wpart l 8=BitVec.ofNat 64 (numL l):=by
 apply BitVec.eq_of_toNat_eq
 have h1:=wpart_num l 8 (Nat.le_refl _) (by omega)
 have h2:=numL_lt l
 rw [h] at h2
 rw [h1,BitVec.toNat_ofNat,List.take_of_length_le (by omega),Nat.mod_eq_of_lt (by omega)]
theorem byteW_get {q:Bytes} {i k:Nat} {c:UInt8} (h:q[8 * i+k]? = some c):byteW (q.drop (8 * i)) k=BitVec.ofNat 64 c.toNat <<< (8 * k):=by
 unfold byteW
 rw [List.getD_eq_getElem?_getD,List.getElem?_drop,h];rfl
theorem wpart_take (l:Bytes) (k:Nat) (n:Nat) (h:k≤n):wpart (l.take n) k=wpart l k:=by
 induction k with
 | zero=>rfl
 | succ k ih =>
  rw [wpart,wpart,ih (by omega)]
  congr 1
  unfold byteW
  rw [List.getD_eq_getElem?_getD,List.getD_eq_getElem?_getD,List.getElem?_take,if_pos (by omega)]
/-- the reference's padding -/
theorem tailK_ref (n:Nat) (h:1≤n):tailK n=(1 :: List.replicate (n - 1) (0:UInt8)).set (n - 1) ((1 :: List.replicate (n - 1) (0:UInt8)).getD (n - 1) 0+128):=by
 obtain ⟨m,rfl⟩:∃ m,n=m+1:=⟨n - 1,by omega⟩
 unfold tailK
 simp only [List.replicate_succ,List.set_cons_zero,Nat.add_sub_cancel]
 congr 1
 cases m with
 | zero=>rfl
 | succ m =>
  rw [List.getD_cons_succ]
  have:(List.replicate (m+1) (0:UInt8)).getD m 0=0:=by simp [List.getD_eq_getElem?_getD]
  rw [this];rfl
/- Tries in plain Lean: nodes of pairs, what nodes are told by, the sum; of no program. -/
/-- a key, and its value -/
abbrev KV:=Bytes×Bytes
/-- how many bytes two texts begin with alike -/
def shareP:Bytes→Bytes→Nat
 | a :: x,b :: y=>if a=b then shareP x y+1 else 0
 | _,_=>0
/-- one text stands ahead of another one -/
def ltB:Bytes→Bytes→Prop
 | _,[]=>False
 | [],_ :: _=>True
 | a :: x,b :: y=>a.toNat < b.toNat∨(a=b∧ltB x y)
def Rise (l:List KV):Prop:=l.Pairwise fun p q=>ltB p.1 q.1
theorem ltB_irrefl (a:Bytes):¬ ltB a a:=by
 induction a with
 | nil=>exact fun h=>h
 | cons c a ih=>intro h;rcases h with h | h;omega;exact ih h.2
theorem ltB_trans {a b c:Bytes} (h1:ltB a b) (h2:ltB b c):ltB a c:=by
 induction a generalizing b c with
 | nil =>
  match b,c with
  | [],[]=>exact False.elim h2
  | _ :: _,[]=>exact False.elim h2
  | _,_ :: _=>trivial
 | cons x a ih =>
  match b,c with
  | [],_=>exact False.elim h1
  | _ :: _,[]=>exact False.elim h2
  | y :: b,z :: c =>
   rcases h1 with h1 | ⟨rfl,h1⟩ <;> rcases h2 with h2 | ⟨rfl,h2⟩
   ·exact .inl (by omega)
   ·exact .inl h1
   ·exact .inl h2
   ·exact .inr ⟨rfl,ih h1 h2⟩
theorem ltB_total (a b:Bytes):ltB a b∨a=b∨ltB b a:=by
 induction a generalizing b with
 | nil=>cases b with
  | nil=>exact .inr (.inl rfl)
  | cons y b=>exact .inl trivial
 | cons x a ih =>
  cases b with
  | nil=>exact .inr (.inr trivial)
  | cons y b =>
   rcases Nat.lt_trichotomy x.toNat y.toNat with h | h | h
   ·exact .inl (.inl h)
   ·have:=UInt8.toNat_inj.1 h
    subst this
    rcases ih b with h | h | h
    ·exact .inl (.inr ⟨rfl,h⟩)
    ·exact .inr (.inl (by rw [h]))
    ·exact .inr (.inr (.inr ⟨rfl,h⟩))
   ·exact .inr (.inr (.inl h))
theorem ltB_asymm {a b:Bytes} (h:ltB a b):¬ ltB b a:=fun h1=>ltB_irrefl a (ltB_trans h h1)
theorem shareP_le (a b:Bytes):shareP a b≤a.length∧shareP a b≤b.length:=by
 induction a generalizing b with
 | nil=>simp [shareP]
 | cons x a ih =>
  cases b with
  | nil=>simp [shareP]
  | cons y b =>
   rw [shareP]
   split
   ·have:=ih b;simp;omega
   ·simp
theorem shareP_self (a:Bytes):shareP a a=a.length:=by
 induction a with
 | nil=>rfl
 | cons x a ih=>rw [shareP,if_pos rfl,ih];rfl
theorem shareP_comm (a b:Bytes):shareP a b=shareP b a:=by
 induction a generalizing b with
 | nil=>cases b <;> rfl
 | cons x a ih =>
  cases b with
  | nil=>rfl
  | cons y b =>
   rw [shareP,shareP]
   by_cases h:x=y
   ·subst h;rw [if_pos rfl,if_pos rfl,ih]
   ·rw [if_neg h,if_neg (Ne.symm h)]
theorem shareP_take {a b:Bytes} {k:Nat} (h:k≤shareP a b):a.take k=b.take k:=by
 induction a generalizing b k with
 | nil=>simp [shareP] at h;subst h;simp
 | cons x a ih =>
  cases b with
  | nil=>simp [shareP] at h;subst h;simp
  | cons y b =>
   cases k with
   | zero=>simp
   | succ k =>
    rw [shareP] at h
    split at h
    ·rename_i hxy;subst hxy
     rw [List.take_succ_cons,List.take_succ_cons,ih (b:=b) (by omega)]
    ·omega
theorem shareP_ge {a b:Bytes} {k:Nat} (h:a.take k=b.take k) (h1:k≤a.length) (h2:k≤b.length):k≤shareP a b:=by
 induction a generalizing b k with
 | nil=>simp at h1;omega
 | cons x a ih =>
  cases b with
  | nil=>simp at h2;omega
  | cons y b =>
   cases k with
   | zero=>omega
   | succ k =>
    simp at h h1 h2
    rw [shareP,if_pos h.1]
    have:=ih h.2 h1 h2
    omega
/-- of three texts that rise, the outer ones begin alike no longer than the first two -/
theorem shareP_mid {a b c:Bytes} (h1:ltB a b) (h2:ltB b c):shareP a c≤shareP a b:=by
 induction a generalizing b c with
 | nil=>simp [shareP]
 | cons x a ih =>
  match b,c with
  | [],_=>exact False.elim h1
  | _ :: _,[]=>exact False.elim h2
  | y :: b,z :: c =>
   rw [shareP,shareP]
   by_cases hxz:x=z
   ·subst hxz
    rcases h1 with h1 | ⟨rfl,h1⟩
    ·rcases h2 with h2 | ⟨rfl,h2⟩ <;> omega
    ·rcases h2 with h2 | ⟨_,h2⟩
     ·omega
     ·rw [if_pos rfl,if_pos rfl];have:=ih h1 h2;omega
   ·rw [if_neg hxz];omega
theorem ltB_drop {a b:Bytes} {k:Nat} (h:a.take k=b.take k) (h1:ltB a b):ltB (a.drop k) (b.drop k):=by
 induction k generalizing a b with
 | zero=>exact h1
 | succ k ih =>
  match a,b with
  | [],[]=>exact False.elim h1
  | _ :: _,[]=>exact False.elim h1
  | [],_ :: _=>simp at h
  | x :: a,y :: b =>
   simp at h
   rcases h1 with h1 | ⟨rfl,h1⟩
   ·rw [h.1] at h1;omega
   ·exact ih h.2 h1
/-- pairs without so many half bytes of their keys -/
def lessP (l:List KV) (k:Nat):List KV:=l.map fun p=>(p.1.drop k,p.2)
/-- those that begin with a half byte, without it -/
def pickP (l:List KV) (c:Nat):List KV:=l.filter fun p=>p.1.head? == some (UInt8.ofNat c)
def cutK (l:List KV) (c:Nat):List KV:=lessP (pickP l c) 1
/-- how many half bytes all keys begin with alike, where they rise -/
def comP (l:List KV):Nat:=match l with
 | []=>0
 | p :: r=>shareP p.1 ((p :: r).getLast (by simp)).1
theorem lessP_len (l:List KV) (k:Nat):(lessP l k).length=l.length:=by simp [lessP]
structure TN where
 k:Nat
 part:Bytes
 value:Bytes
 kids:List Int
def noKids:List Int:=List.replicate 16 (-1)
/-- the value of the key without half bytes -/
def topV (l:List KV):Bytes:=match l with
 | ([],v) :: _=>v
 | _=>[]
def kidsP (f:List KV→Nat→List TN×Int) (l:List KV) (b:Nat):Nat→List TN×List Int
 | 0=>([],[])
 | c+1=>((kidsP f l b c).1 ++ (f (cutK l c) (b+(kidsP f l b c).1.length)).1,(kidsP f l b c).2 ++ [(f (cutK l c) (b+(kidsP f l b c).1.length)).2])
/-- the nodes of pairs whose keys rise, behind so many others; the topmost one -/
def buildP:Nat→List KV→Nat→List TN×Int
 | 0,_,_=>([],-1)
 | _+1,[],_=>([],-1)
 | _+1,[p],b=>([⟨1,p.1,p.2,noKids⟩],b)
 | N+1,p :: q :: r,b =>
  if 0 < comP (p :: q :: r) then
   ((buildP N (lessP (p :: q :: r) (comP (p :: q :: r))) b).1 ++ [⟨2,p.1.take (comP (p :: q :: r)),[],noKids.set 0 (buildP N (lessP (p :: q :: r) (comP (p :: q :: r))) b).2⟩],
    (b+(buildP N (lessP (p :: q :: r) (comP (p :: q :: r))) b).1.length:Nat))
  else
   ((kidsP (buildP N) (p :: q :: r) b 16).1 ++ [⟨3,[],topV (p :: q :: r),(kidsP (buildP N) (p :: q :: r) b 16).2⟩],(b+(kidsP (buildP N) (p :: q :: r) b 16).1.length:Nat))
/-- a part, packed -/
def joinP:Bytes→Bytes
 | a :: b :: r=>(16 * a+b) :: joinP r
 | _=>[]
def packP (s:Bytes) (ends:Bool):Bytes :=
 if s.length % 2=1 then joinP ((if ends then 3 else 1) :: s) else joinP ((if ends then 2 else 0) :: 0 :: s)
def leafIt (s:Bytes):Item:=.mk false s []
def listIt (l:List Item):Item:=.mk true [] l
/-- what an item is told by -/
def tellP (x:Item):Item:=if 32≤(writeP x).length then leafIt (sumK (writeP x)) else x
/-- the item of the node of pairs -/
def itemP:Nat→List KV→Item
 | 0,_=>leafIt []
 | _+1,[]=>leafIt []
 | _+1,[p]=>listIt [leafIt (packP p.1 true),leafIt p.2]
 | N+1,p :: q :: r =>
  if 0 < comP (p :: q :: r) then listIt [leafIt (packP (p.1.take (comP (p :: q :: r))) false),if (lessP (p :: q :: r) (comP (p :: q :: r))).isEmpty then leafIt [] else tellP (itemP N (lessP (p :: q :: r) (comP (p :: q :: r))))]
  else listIt ((List.range 16).map (fun c=>if (cutK (p :: q :: r) c).isEmpty then leafIt [] else tellP (itemP N (cutK (p :: q :: r) c))) ++ [leafIt (topV (p :: q :: r))])
def toldP (N:Nat) (l:List KV):Item:=if l.isEmpty then leafIt [] else tellP (itemP N l)
/- Tries in plain Lean: pairs that rise, what is left of them; of no program. -/
theorem comP_le {p:KV} {r:List KV} (h:Rise (p :: r)):∀ q∈p :: r,comP (p :: r)≤shareP p.1 q.1:=by
 intro q hq
 have hl:comP (p :: r)=shareP p.1 ((p :: r).getLast (by simp)).1:=rfl
 rcases List.mem_cons.1 hq with rfl | hq
 ·rw [shareP_self,hl];exact (shareP_le _ _).1
 ·have hr:=List.pairwise_cons.1 h
  have hne:r ≠ []:=by intro e;subst e;cases hq
  have hlast:(p :: r).getLast (by simp)=r.getLast hne:=List.getLast_cons hne
  rw [hl,hlast]
  obtain ⟨a,b,hab⟩:=List.append_of_mem hq
  cases b with
  | nil =>
   have:r.getLast hne=q:=by subst hab;simp
   rw [this];exact Nat.le_refl _
  | cons z b =>
   have hz:r.getLast hne∈z :: b:=by
    have:r.getLast hne=(z :: b).getLast (by simp):=by
     subst hab
     rw [List.getLast_append_of_ne_nil _ (by simp),List.getLast_cons (by simp)]
    rw [this];exact List.getLast_mem _
   have h2:ltB q.1 (r.getLast hne).1:=by
    have:=hr.2
    rw [hab] at this
    have:=(List.pairwise_append.1 this).2.1
    exact (List.pairwise_cons.1 this).1 _ hz
   exact shareP_mid (hr.1 q hq) h2
theorem comP_take {p:KV} {r:List KV} (h:Rise (p :: r)):∀ q∈p :: r,q.1.take (comP (p :: r))=p.1.take (comP (p :: r)) :=
 fun q hq=>(shareP_take (comP_le h q hq)).symm
theorem comP_len {p:KV} {r:List KV} (h:Rise (p :: r)):∀ q∈p :: r,comP (p :: r)≤q.1.length :=
 fun q hq=>Nat.le_trans (comP_le h q hq) (shareP_le _ _).2
theorem rise_less {l:List KV} (h:Rise l) {k:Nat} {t:Bytes} (ht:∀ q∈l,q.1.take k=t):Rise (lessP l k):=by
 unfold Rise lessP
 rw [List.pairwise_map]
 refine List.Pairwise.imp_of_mem ?_ h
 intro a b ha hb hab
 exact ltB_drop (by rw [ht a ha,ht b hb]) hab
theorem head_take {a:Bytes} {c:UInt8} (h:a.head? = some c):a.take 1 = [c]:=by
 cases a with
 | nil=>cases h
 | cons x a=>simp at h;subst h;rfl
theorem pick_head {l:List KV} {c:Nat} {q:KV} (h:q∈pickP l c):q∈l∧q.1.head? = some (UInt8.ofNat c):=by
 unfold pickP at h
 rw [List.mem_filter] at h
 exact ⟨h.1,by simpa using h.2⟩
theorem rise_pick {l:List KV} (h:Rise l) (c:Nat):Rise (pickP l c):=List.Pairwise.filter _ h
theorem rise_cut {l:List KV} (h:Rise l) (c:Nat):Rise (cutK l c) :=
 rise_less (rise_pick h c) (fun q hq=>head_take (pick_head hq).2)
theorem less_mem {l:List KV} {k:Nat} {q:KV} (h:q∈lessP l k):∃ p∈l,q=(p.1.drop k,p.2):=by
 unfold lessP at h
 obtain ⟨p,h1,h2⟩:=List.mem_map.1 h
 exact ⟨p,h1,h2.symm⟩
/-- half bytes alone -/
def Half (l:List KV):Prop:=∀ p∈l,∀ x∈p.1,x.toNat < 16
theorem half_less {l:List KV} (h:Half l) (k:Nat):Half (lessP l k):=fun q hq x hx=>by
 obtain ⟨p,h1,rfl⟩:=less_mem hq
 exact h p h1 x (List.mem_of_mem_drop hx)
theorem half_cut {l:List KV} (h:Half l) (c:Nat):Half (cutK l c):=half_less (fun p hp=>h p (pick_head hp).1) 1
/-- keys of fewer than so many half bytes -/
def Short (N:Nat) (l:List KV):Prop:=∀ p∈l,p.1.length < N
theorem short_less {N:Nat} {l:List KV} {k:Nat} (h:Short (N+1) l) (hk:0 < k) (hl:∀ p∈l,k≤p.1.length):Short N (lessP l k):=fun q hq=>by
 obtain ⟨p,h1,rfl⟩:=less_mem hq
 have:=h p h1
 have:=hl p h1
 simp;omega
theorem short_cut {N:Nat} {l:List KV} (h:Short (N+1) l) (c:Nat):Short N (cutK l c) :=
 short_less (fun p hp=>h p (pick_head hp).1) (by omega) (fun p hp=>by
  have:=(pick_head hp).2
  cases hh:p.1 with
  | nil=>rw [hh] at this;cases this
  | cons x a=>simp)
/-- what is left from a half byte on -/
def fromP (l:List KV) (c:Nat):List KV:=l.filter fun p=>match p.1 with | []=>false | x :: _=>decide (c≤x.toNat)
theorem fromP_nil (v:Bytes) (l:List KV) (c:Nat):fromP (([],v) :: l) c=fromP l c:=rfl
theorem fromP_cons (x:UInt8) (k v:Bytes) (l:List KV) (c:Nat):fromP ((x :: k,v) :: l) c=if c≤x.toNat then (x :: k,v) :: fromP l c else fromP l c:=by
 unfold fromP
 rw [List.filter_cons]
 by_cases h:c≤x.toNat <;> simp [h]
theorem pickP_nil (v:Bytes) (l:List KV) (c:Nat):pickP (([],v) :: l) c=pickP l c:=rfl
theorem pickP_cons (x:UInt8) (k v:Bytes) (l:List KV) (c:Nat):pickP ((x :: k,v) :: l) c=if x=UInt8.ofNat c then (x :: k,v) :: pickP l c else pickP l c:=by
 unfold pickP
 rw [List.filter_cons]
 by_cases h:x=UInt8.ofNat c <;> simp [h]
theorem from_step {l:List KV} (h:Rise l) (c:Nat) (hc:c < 256):fromP l c=pickP l c ++ fromP l (c+1):=by
 have hcx:(UInt8.ofNat c).toNat=c:=by simp;omega
 induction l with
 | nil=>rfl
 | cons p l ih =>
  have hr:=List.pairwise_cons.1 h
  have ih:=ih hr.2
  obtain ⟨k,v⟩:=p
  cases k with
  | nil=>rw [fromP_nil,fromP_nil,pickP_nil];exact ih
  | cons x k =>
   rw [fromP_cons,fromP_cons,pickP_cons]
   by_cases h1:x=UInt8.ofNat c
   ·have h2:x.toNat=c:=by rw [h1,hcx]
    rw [if_pos h1,if_pos (by omega),if_neg (by omega),ih]
    rfl
   ·have hne:x.toNat≠c:=fun e=>h1 (UInt8.toNat_inj.1 (by rw [e,hcx]))
    rw [if_neg h1]
    by_cases h2:c≤x.toNat
    ·rw [if_pos h2,if_pos (by omega)]
     have hall:∀ q∈l,∃ y t,q.1=y :: t∧x.toNat≤y.toNat:=fun q hq=>by
      have:=hr.1 q hq
      cases hq1:q.1 with
      | nil=>rw [hq1] at this;exact False.elim this
      | cons y t =>
       rw [hq1] at this
       refine ⟨y,t,rfl,?_⟩
       rcases this with h | ⟨rfl,_⟩ <;> omega
     have hpk:pickP l c = []:=by
      unfold pickP
      rw [List.filter_eq_nil_iff]
      intro q hq
      obtain ⟨y,t,e,hy⟩:=hall q hq
      rw [e]
      simp only [List.head?_cons,beq_iff_eq,Option.some.injEq]
      intro he
      rw [he,hcx] at hy
      omega
     rw [hpk,List.nil_append] at ih ⊢
     rw [ih]
    ·rw [if_neg h2,if_neg (by omega),ih]
theorem from_end {l:List KV} (h:Half l):fromP l 16 = []:=by
 unfold fromP
 rw [List.filter_eq_nil_iff]
 intro q hq
 cases hq1:q.1 with
 | nil=>simp
 | cons x k=>have:=h q hq x (by rw [hq1];simp);simp;omega
/-- a branch's pairs, but for the one without half bytes -/
def innerP (l:List KV):List KV:=match l with
 | ([],_) :: r=>r
 | l=>l
theorem ltB_nil {a:Bytes} (h:ltB a []):False:=by cases a <;> exact h
theorem rise_tail_ne {p:KV} {r:List KV} (h:Rise (p :: r)):∀ q∈r,q.1 ≠ []:=fun q hq e=>by
 have:=(List.pairwise_cons.1 h).1 q hq
 rw [e] at this
 exact ltB_nil this
theorem from_zero {l:List KV} (h:Rise l):fromP l 0=innerP l:=by
 have hall:∀ r:List KV,(∀ q∈r,q.1 ≠ [])→fromP r 0=r:=fun r hr=>by
  unfold fromP
  rw [List.filter_eq_self]
  intro q hq
  cases hq1:q.1 with
  | nil=>exact absurd hq1 (hr q hq)
  | cons x k=>simp
 match l with
 | []=>rfl
 | ([],v) :: r=>exact (by rw [show fromP (([],v) :: r) 0=fromP r 0 from rfl,hall r (rise_tail_ne h)];rfl)
 | (x :: k,v) :: r =>
  rw [show innerP ((x :: k,v) :: r)=(x :: k,v) :: r from rfl]
  refine hall _ (fun q hq=>?_)
  rcases List.mem_cons.1 hq with rfl | hq
  ·simp
  ·exact rise_tail_ne h q hq
theorem from_mem {l:List KV} {c:Nat} {q:KV} (h:q∈fromP l c):q∈l∧∃ x t,q.1=x :: t∧c≤x.toNat:=by
 unfold fromP at h
 rw [List.mem_filter] at h
 refine ⟨h.1,?_⟩
 cases hq:q.1 with
 | nil=>rw [hq] at h;simp at h
 | cons x t=>rw [hq] at h;exact ⟨x,t,rfl,by simpa using h.2⟩
/-- where the first one left begins with a half byte, none begins with one ahead of it -/
theorem from_skip {l:List KV} (h:Rise l) {c:Nat} {x:UInt8} {t v:Bytes} {r:List KV} (hf:fromP l c=(x :: t,v) :: r):∀ j,c≤j→j≤x.toNat→fromP l j=fromP l c∧(j < x.toNat→pickP l j = []):=by
 have hx:=x.toNat_lt
 intro j hcj
 induction j with
 | zero=>intro _;have:c=0:=by omega
         subst this
         refine ⟨rfl,fun h0=>?_⟩
         have h1:=from_step h 0 (by omega)
         cases hp:pickP l 0 with
         | nil=>rfl
         | cons q p =>
          rw [hf,hp] at h1
          injection h1 with h1 _
          have h2:=(pick_head (l:=l) (c:=0) (q:=q) (by rw [hp];simp)).2
          rw [← h1] at h2
          simp at h2
          subst h2
          simp at h0
 | succ j ih =>
  intro hjx
  have key:fromP l (j+1)=fromP l c:=by
   by_cases e:c=j+1
   ·rw [e]
   ·obtain ⟨i1,i2⟩:=ih (by omega) (by omega)
    have:=from_step h j (by omega)
    rw [i2 (by omega),List.nil_append] at this
    rw [← this,i1]
  refine ⟨key,fun hlt=>?_⟩
  have h1:=from_step h (j+1) (by omega)
  cases hp:pickP l (j+1) with
  | nil=>rfl
  | cons q p =>
   rw [key,hf,hp] at h1
   injection h1 with h1 _
   have h2:=(pick_head (l:=l) (c:=j+1) (q:=q) (by rw [hp];simp)).2
   rw [← h1] at h2
   have h3:x=UInt8.ofNat (j+1):=by simpa using h2
   have h4:x.toNat=j+1:=by rw [h3];exact u8_ofNat (by omega)
   omega
theorem pick_from {l:List KV} (h:Rise l) {c:Nat} (hc:c < 256):(fromP l c).take (pickP l c).length=pickP l c∧(fromP l c).drop (pickP l c).length=fromP l (c+1):=by
 rw [from_step h c hc];simp
/-- how a branch's kids stand where none begin with the next half bytes -/
theorem kidsP_skip {f:List KV→Nat→List TN×Int} (hf:∀ b,f [] b=([],-1)) {l:List KV} {b c d:Nat} (hcd:c≤d) (h:∀ j,c≤j→j < d→pickP l j = []) :
  kidsP f l b d=((kidsP f l b c).1,(kidsP f l b c).2 ++ List.replicate (d - c) (-1)):=by
 induction d with
 | zero=>have:c=0:=by omega
         subst this;simp [kidsP]
 | succ d ih =>
  by_cases e:c=d+1
  ·subst e;simp
  ·have ih:=ih (by omega) (fun j h1 h2=>h j h1 (by omega))
   have hp:=h d (by omega) (by omega)
   have hcut:cutK l d = []:=by unfold cutK;rw [hp];rfl
   rw [kidsP,hcut,hf,ih]
   simp only [List.append_nil]
   rw [show d+1 - c=(d - c)+1 by omega,List.replicate_succ']
   simp
theorem kidsP_len (f:List KV→Nat→List TN×Int) (l:List KV) (b c:Nat):(kidsP f l b c).2.length=c:=by
 induction c with
 | zero=>rfl
 | succ c ih=>simp [kidsP,ih]
theorem buildP_nil (N b:Nat):buildP N [] b=([],-1):=by cases N <;> rfl
/- Tries in plain Lean: the sums of nodes, one behind the other, are what the reference's recursion tells; how long and how deep items are; of no program. -/
/-- what a node below is told by -/
def tellAt (its:List Item) (i:Int):Item:=if i = -1 then leafIt [] else its.getD i.toNat (leafIt [])
def nodeIt (its:List Item) (n:TN):Item :=
 if n.k=2 then listIt [leafIt (packP n.part false),tellAt its (n.kids.getD 0 0)]
 else if n.k=3 then listIt (n.kids.map (tellAt its) ++ [leafIt n.value])
 else listIt [leafIt (packP n.part true),leafIt n.value]
def sumsP (its:List Item):List TN→List Item
 | []=>its
 | n :: ns=>sumsP (its ++ [tellP (nodeIt its n)]) ns
theorem sumsP_append (a b:List TN):∀ its,sumsP its (a ++ b)=sumsP (sumsP its a) b:=by
 induction a with
 | nil=>intro its;rfl
 | cons n a ih=>intro its;exact ih _
theorem sumsP_one (its:List Item) (n:TN):sumsP its [n]=its ++ [tellP (nodeIt its n)]:=rfl
theorem sumsP_len (ns:List TN):∀ its,(sumsP its ns).length=its.length+ns.length:=by
 induction ns with
 | nil=>intro its;rfl
 | cons n ns ih=>intro its;rw [sumsP,ih];simp;omega
theorem tellAt_here (its:List Item) (x:Item) (more:List Item):tellAt (its ++ [x] ++ more) (its.length:Int)=x:=by
 unfold tellAt
 rw [if_neg (by omega),Int.toNat_natCast,List.getD_eq_getElem?_getD,List.append_assoc,List.getElem?_append_right (Nat.le_refl _)]
 simp
theorem toldP_nil (N:Nat):toldP N []=leafIt []:=rfl
theorem toldP_cons (N:Nat) {l:List KV} (h:l ≠ []):toldP N l=tellP (itemP N l):=by
 unfold toldP;rw [if_neg (by simpa using h)]
theorem itemP_joint (N:Nat) (p q:KV) (r:List KV) (h:0 < comP (p :: q :: r)):itemP (N+1) (p :: q :: r)=listIt [leafIt (packP (p.1.take (comP (p :: q :: r))) false),toldP N (lessP (p :: q :: r) (comP (p :: q :: r)))]:=by
 rw [itemP,if_pos h];rfl
theorem itemP_branch (N:Nat) (p q:KV) (r:List KV) (h:¬ 0 < comP (p :: q :: r)):itemP (N+1) (p :: q :: r)=listIt ((List.range 16).map (fun c=>toldP N (cutK (p :: q :: r) c)) ++ [leafIt (topV (p :: q :: r))]):=by
 rw [itemP,if_neg h];rfl
/-- where nodes of pairs end -/
structure SumsSaid (N:Nat) (l:List KV) (its:List Item):Prop where
 ex:∃ new,sumsP its (buildP N l its.length).1=its ++ new
 at_:∀ more,tellAt (sumsP its (buildP N l its.length).1 ++ more) (buildP N l its.length).2=toldP N l
 top:l ≠ []→∃ ns n,(buildP N l its.length).1=ns ++ [n]∧nodeIt (sumsP its ns) n=itemP N l∧(buildP N l its.length).2=((its.length+ns.length:Nat):Int)
theorem sums_kids {f:List KV→Nat→List TN×Int} {g:List KV→Item} {l:List KV} (its:List Item)
  (h:∀ c its',(∃ new,sumsP its' (f (cutK l c) its'.length).1=its' ++ new)∧∀ more,tellAt (sumsP its' (f (cutK l c) its'.length).1 ++ more) (f (cutK l c) its'.length).2=g (cutK l c)) :
  ∀ c,(∃ new,sumsP its (kidsP f l its.length c).1=its ++ new) ∧
   ∀ more,(kidsP f l its.length c).2.map (tellAt (sumsP its (kidsP f l its.length c).1 ++ more))=(List.range c).map (fun c=>g (cutK l c)):=by
 intro c
 induction c with
 | zero=>exact ⟨⟨[],by simp [kidsP,sumsP]⟩,fun more=>rfl⟩
 | succ c ih =>
  obtain ⟨⟨new,i1⟩,i2⟩:=ih
  have hl:its.length+(kidsP f l its.length c).1.length=(sumsP its (kidsP f l its.length c).1).length:=by rw [sumsP_len]
  obtain ⟨⟨new',h1⟩,h2⟩:=h c (sumsP its (kidsP f l its.length c).1)
  rw [← hl] at h1 h2
  refine ⟨⟨new ++ new',?_⟩,fun more=>?_⟩
  ·rw [kidsP]
   simp only []
   rw [sumsP_append,h1,i1,List.append_assoc]
  ·rw [kidsP]
   simp only []
   rw [sumsP_append,List.map_append,List.range_succ,List.map_append,List.map_cons,List.map_nil,h2 more,h1,List.append_assoc,i2 (new' ++ more)]
   rfl
theorem sums_said (N:Nat):∀ l,Short N l→Rise l→∀ its,SumsSaid N l its:=by
 induction N with
 | zero =>
  intro l hs hr its
  cases l with
  | nil=>exact ⟨⟨[],by simp [buildP,sumsP]⟩,fun more=>rfl,fun h=>absurd rfl h⟩
  | cons p l=>exact absurd (hs p (by simp)) (by omega)
 | succ N ih =>
  intro l hs hr its
  match l,hs,hr with
  | [],_,_=>exact ⟨⟨[],by simp [buildP,sumsP]⟩,fun more=>rfl,fun h=>absurd rfl h⟩
  | [p],hs,hr =>
   have hb:buildP (N+1) [p] its.length=([⟨1,p.1,p.2,noKids⟩],(its.length:Int)):=rfl
   have hn:nodeIt its ⟨1,p.1,p.2,noKids⟩=itemP (N+1) [p]:=by simp [nodeIt,itemP]
   refine ⟨⟨[tellP (nodeIt its ⟨1,p.1,p.2,noKids⟩)],by rw [hb];rfl⟩,fun more=>?_,fun _=>⟨[],_,by rw [hb];rfl,hn,by rw [hb];simp⟩⟩
   rw [hb]
   simp only [sumsP_one]
   rw [tellAt_here,hn,toldP_cons _ (by simp)]
  | p :: q :: r,hs,hr =>
   by_cases hk:0 < comP (p :: q :: r)
   ·have hrl:Rise (lessP (p :: q :: r) (comP (p :: q :: r))):=rise_less hr (comP_take hr)
    have hsl:Short N (lessP (p :: q :: r) (comP (p :: q :: r))):=short_less hs hk (comP_len hr)
    obtain ⟨⟨new,h1⟩,h2,_⟩:=ih _ hsl hrl its
    have hb:buildP (N+1) (p :: q :: r) its.length=((buildP N (lessP (p :: q :: r) (comP (p :: q :: r))) its.length).1 ++ [⟨2,p.1.take (comP (p :: q :: r)),[],noKids.set 0 (buildP N (lessP (p :: q :: r) (comP (p :: q :: r))) its.length).2⟩],
      ((its.length+(buildP N (lessP (p :: q :: r) (comP (p :: q :: r))) its.length).1.length:Nat):Int)):=by rw [buildP,if_pos hk]
    have hit:=itemP_joint N p q r hk
    obtain ⟨B,hB⟩:∃ B,buildP N (lessP (p :: q :: r) (comP (p :: q :: r))) its.length=B:=⟨_,rfl⟩
    rw [hB] at hb h1 h2
    obtain ⟨ns,t⟩:=B
    simp only [] at hb h1 h2
    have hn:nodeIt (sumsP its ns) ⟨2,p.1.take (comP (p :: q :: r)),[],noKids.set 0 t⟩=itemP (N+1) (p :: q :: r):=by
     rw [hit]
     have:=h2 []
     rw [List.append_nil] at this
     simp [nodeIt,noKids,List.replicate,this]
    refine ⟨⟨new ++ [tellP (itemP (N+1) (p :: q :: r))],?_⟩,fun more=>?_,fun _=>⟨ns,_,by rw [hb],hn,by rw [hb]⟩⟩
    ·rw [hb]
     simp only []
     rw [sumsP_append,sumsP_one,hn,h1,List.append_assoc]
    ·rw [hb]
     simp only []
     rw [sumsP_append,sumsP_one,hn,← sumsP_len,tellAt_here,toldP_cons _ (by simp)]
   ·have hks:=sums_kids (f:=buildP N) (g:=toldP N) (l:=p :: q :: r) its (fun c its'=>by
     obtain ⟨h1,h2,_⟩:=ih _ (short_cut hs c) (rise_cut hr c) its'
     exact ⟨h1,h2⟩) 16
    obtain ⟨⟨new,h1⟩,h2⟩:=hks
    have hb:buildP (N+1) (p :: q :: r) its.length=((kidsP (buildP N) (p :: q :: r) its.length 16).1 ++ [⟨3,[],topV (p :: q :: r),(kidsP (buildP N) (p :: q :: r) its.length 16).2⟩],
      ((its.length+(kidsP (buildP N) (p :: q :: r) its.length 16).1.length:Nat):Int)):=by rw [buildP,if_neg hk]
    have hit:=itemP_branch N p q r hk
    obtain ⟨B,hB⟩:∃ B,kidsP (buildP N) (p :: q :: r) its.length 16=B:=⟨_,rfl⟩
    rw [hB] at hb h1 h2
    obtain ⟨ns,ks⟩:=B
    simp only [] at hb h1 h2
    have hn:nodeIt (sumsP its ns) ⟨3,[],topV (p :: q :: r),ks⟩=itemP (N+1) (p :: q :: r):=by
     rw [hit]
     have:=h2 []
     rw [List.append_nil] at this
     simp [nodeIt,this]
    refine ⟨⟨new ++ [tellP (itemP (N+1) (p :: q :: r))],?_⟩,fun more=>?_,fun _=>⟨ns,_,by rw [hb],hn,by rw [hb]⟩⟩
    ·rw [hb]
     simp only []
     rw [sumsP_append,sumsP_one,hn,h1,List.append_assoc]
    ·rw [hb]
     simp only []
     rw [sumsP_append,sumsP_one,hn,← sumsP_len,tellAt_here,toldP_cons _ (by simp)]
/- Tries in plain Lean: how long and how deep a node's item is; of no program. -/
theorem pure_count (x:Item):pureP x=true→countP x≤(writeP x).length:=by
 induction x using Item.rec (motive_2:=fun l=>puresP l=true→countsP l≤(writesP l).length) with
 | mk l b ks ih =>
  intro h
  simp only [pureP,Bool.and_eq_true] at h
  cases l
  ·have:ks = []:=by simpa using h.1
   subst this
   have:=writeP_len (.mk false b [])
   simp [countP,countsP];omega
  ·have:=ih h.2
   have h2:=headP_len 192 (writesP ks).length
   simp only [countP,writeP,List.length_append];omega
 | nil=>simp [countsP]
 | cons k ks ih1 ih2 =>
  rename_i h
  simp only [puresP,Bool.and_eq_true] at h
  have:=ih1 h.1
  have:=ih2 h.2
  simp only [countsP,writesP,List.length_append];omega
theorem leaf_len (b:Bytes) (h:b.length < 65536):(writeP (leafIt b)).length≤b.length+3:=by
 unfold leafIt
 simp only [writeP]
 split
 ·omega
 ·rw [List.length_append];have:=headP_len_le 128 b.length h;omega
theorem leaf_len55 (b:Bytes) (h:b.length≤55):(writeP (leafIt b)).length≤b.length+1:=by
 unfold leafIt
 simp only [writeP]
 split
 ·omega
 ·rw [List.length_append];unfold headP;rw [if_pos h];simp;omega
theorem leaf_len2 (b:Bytes) (h:b.length≠1) (h2:b.length≤55):(writeP (leafIt b)).length=b.length+1:=by
 unfold leafIt
 simp only [writeP]
 rw [if_neg (by omega),List.length_append];unfold headP;rw [if_pos h2];simp;omega
theorem leaf_depth (b:Bytes):depthP (leafIt b)=0:=rfl
theorem list_len (l:List Item):(writeP (listIt l)).length=(headP 192 (writesP l).length).length+(writesP l).length:=by
 unfold listIt;rw [writeP,List.length_append]
theorem list_pure (l:List Item):pureP (listIt l)=puresP l:=by unfold listIt;simp [pureP]
theorem list_depth (l:List Item):depthP (listIt l)=depthsP l+1:=by unfold listIt;simp [depthP]
theorem pures_iff (l:List Item):puresP l=true↔∀ x∈l,pureP x=true:=by
 induction l with
 | nil=>simp [puresP]
 | cons k l ih=>simp [puresP,ih]
theorem depths_le (l:List Item) (d:Nat):depthsP l≤d↔∀ x∈l,depthP x≤d:=by
 induction l with
 | nil=>simp [depthsP]
 | cons k l ih=>simp only [depthsP,List.mem_cons,forall_eq_or_imp,← ih];omega
theorem writes_le (l:List Item) (n:Nat) (h:∀ x∈l,(writeP x).length≤n):(writesP l).length≤n * l.length:=by
 induction l with
 | nil=>simp [writesP]
 | cons k l ih =>
  have:=h k (by simp)
  have:=ih (fun x hx=>h x (by simp [hx]))
  simp only [writesP,List.length_append,List.length_cons,Nat.mul_add];omega
theorem writes_mem (l:List Item) {x:Item} (h:x∈l):(writeP x).length+l.length≤(writesP l).length+1:=by
 induction l with
 | nil=>cases h
 | cons k l ih =>
  simp only [writesP,List.length_append,List.length_cons]
  rcases List.mem_cons.1 h with rfl | h
  ·have:=writesP_len l;omega
  ·have:=ih h;have:=writeP_len k;omega
theorem joinP_len:∀ (s:Bytes),(joinP s).length=s.length / 2
 | []=>rfl
 | [_]=>by simp [joinP]
 | _ :: _ :: r=>by rw [joinP,List.length_cons,joinP_len r];simp only [List.length_cons];omega
theorem packP_len (s:Bytes) (e:Bool):(packP s e).length≤s.length / 2+1∧1≤(packP s e).length:=by
 unfold packP
 split <;> rw [joinP_len] <;> simp <;> omega
structure TellFine (x:Item) (d:Nat):Prop where
 pure:pureP x=true
 len:(writeP x).length≤33
 depth:depthP x≤d
theorem tell_fine {x:Item} (h:pureP x=true) {d:Nat} (hd:(writeP x).length < 32→depthP x≤d):TellFine (tellP x) d:=by
 unfold tellP
 split
 ·exact ⟨rfl,by have:=leaf_len55 (sumK (writeP x)) (by rw [sumK_len];omega);rw [sumK_len] at this;exact this,by rw [leaf_depth];omega⟩
 ·exact ⟨h,by omega,hd (by omega)⟩
theorem tell_len (x:Item) {n:Nat} (hn:n≤32) (h:n≤(writeP x).length):n≤(writeP (tellP x)).length:=by
 unfold tellP
 split
 ·rw [leaf_len2 _ (by rw [sumK_len];omega) (by rw [sumK_len];omega),sumK_len];omega
 ·exact h
/-- values of few bytes -/
def Small (l:List KV):Prop:=∀ p∈l,p.2.length≤500
theorem small_less {l:List KV} (h:Small l) (k:Nat):Small (lessP l k):=fun q hq=>by
 obtain ⟨p,h1,rfl⟩:=less_mem hq
 exact h p h1
theorem small_cut {l:List KV} (h:Small l) (c:Nat):Small (cutK l c):=small_less (fun p hp=>h p (pick_head hp).1) 1
theorem small_val {l:List KV} (h:Small l):(topV l).length≤500:=by
 match l with
 | []=>simp [topV]
 | ([],v) :: _=>exact h ([],v) (by simp)
 | (_ :: _,_) :: _=>simp [topV]
theorem shareP_drop (a b:Bytes):shareP (a.drop (shareP a b)) (b.drop (shareP a b))=0:=by
 induction a generalizing b with
 | nil=>simp [shareP]
 | cons x a ih =>
  cases b with
  | nil=>simp [shareP]
  | cons y b =>
   by_cases h:x=y
   ·rw [show shareP (x :: a) (y :: b)=shareP a b+1 from if_pos h];exact ih b
   ·have h0:shareP (x :: a) (y :: b)=0:=if_neg h
    rw [h0];exact h0
theorem com_less (p:KV) (r:List KV):comP (lessP (p :: r) (comP (p :: r)))=0:=by
 obtain ⟨k,hk⟩:∃ k,comP (p :: r)=k:=⟨_,rfl⟩
 have h0:comP (p :: r)=shareP p.1 ((p :: r).getLast (by simp)).1:=rfl
 have h1:(lessP (p :: r) k).getLast (by simp [lessP])=(((p :: r).getLast (by simp)).1.drop k,((p :: r).getLast (by simp)).2):=by
  unfold lessP;rw [List.getLast_map]
 rw [hk]
 show shareP (p.1.drop k) ((lessP (p :: r) k).getLast (by simp [lessP])).1=0
 rw [h1]
 rw [← hk,h0]
 exact shareP_drop _ _
structure ItemFine (N:Nat) (l:List KV):Prop where
 pure:pureP (itemP N l)=true
 len:(writeP (itemP N l)).length≤1100
 depth:depthP (itemP N l)≤4
 two:2≤l.length→18≤(writeP (itemP N l)).length
 one:l.length=1→depthP (itemP N l)≤1
 low:(writeP (itemP N l)).length < 32→depthP (itemP N l)≤3
 branch:2≤l.length→comP l=0→(writeP (itemP N l)).length < 32→depthP (itemP N l)≤2
theorem item_fine (N:Nat) (hN:N≤66):∀ l,l ≠ []→Short N l→Rise l→Small l→ItemFine N l:=by
 induction N with
 | zero =>
  intro l hne hs
  cases l with
  | nil=>exact absurd rfl hne
  | cons p l=>exact absurd (hs p (by simp)) (by omega)
 | succ N ih =>
  have ih:=ih (by omega)
  intro l hne hs hr hv
  match l,hne,hs,hr,hv with
  | [p],_,hs,_,hv =>
   have e:itemP (N+1) [p]=listIt [leafIt (packP p.1 true),leafIt p.2]:=rfl
   have h1:=packP_len p.1 true
   have h2:=hs p (by simp)
   have h3:=hv p (by simp)
   have l1:=leaf_len (packP p.1 true) (by omega)
   have l2:=leaf_len p.2 (by omega)
   have hw:(writesP [leafIt (packP p.1 true),leafIt p.2]).length≤600:=by simp only [writesP,List.length_append,List.length_nil];omega
   have hh:=headP_len_le 192 _ (show (writesP [leafIt (packP p.1 true),leafIt p.2]).length < 65536 by omega)
   have hd:depthP (itemP (N+1) [p])=1:=by rw [e];rfl
   refine ⟨by rw [e];rfl,by rw [e,list_len];omega,by omega,by simp,by omega,by omega,by simp⟩
  | p :: q :: r,_,hs,hr,hv =>
   by_cases hk:0 < comP (p :: q :: r)
   ·have e:=itemP_joint N p q r hk
    have hl2:2≤(lessP (p :: q :: r) (comP (p :: q :: r))).length:=by rw [lessP_len];simp
    have hne':lessP (p :: q :: r) (comP (p :: q :: r)) ≠ []:=by intro e;rw [e] at hl2;simp at hl2
    have hc0:=com_less p (q :: r)
    have hf:=ih _ hne' (short_less hs hk (comP_len hr)) (rise_less hr (comP_take hr)) (small_less hv _)
    obtain ⟨m,hm⟩:∃ m,lessP (p :: q :: r) (comP (p :: q :: r))=m:=⟨_,rfl⟩
    rw [hm] at e hf hl2 hne' hc0
    rw [toldP_cons _ hne'] at e
    have ht:=tell_fine hf.pure (d:=2) (hf.branch hl2 hc0)
    have htl:=tell_len _ (by omega) (hf.two hl2)
    have h1:=packP_len (p.1.take (comP (p :: q :: r))) false
    rw [List.length_take] at h1
    have h2:=hs p (by simp)
    have l1:=leaf_len (packP (p.1.take (comP (p :: q :: r))) false) (by omega)
    have l0:=writeP_len (leafIt (packP (p.1.take (comP (p :: q :: r))) false))
    have hw:(writesP [leafIt (packP (p.1.take (comP (p :: q :: r))) false),tellP (itemP N m)]).length≤200:=by
     have:=ht.len
     simp only [writesP,List.length_append,List.length_nil];omega
    have hw2:19≤(writesP [leafIt (packP (p.1.take (comP (p :: q :: r))) false),tellP (itemP N m)]).length:=by
     simp only [writesP,List.length_append,List.length_nil];omega
    have hh:=headP_len_le 192 _ (show (writesP [leafIt (packP (p.1.take (comP (p :: q :: r))) false),tellP (itemP N m)]).length < 65536 by omega)
    have hd:depthP (itemP (N+1) (p :: q :: r))≤3:=by
     rw [e,list_depth]
     have:=ht.depth
     simp only [depthsP,leaf_depth];omega
    refine ⟨?_,by rw [e,list_len];omega,by omega,fun _=>by rw [e,list_len];omega,by simp,fun _=>hd,fun _ h=>by omega⟩
    rw [e,list_pure,pures_iff]
    intro x hx
    simp only [List.mem_cons,List.not_mem_nil,or_false] at hx
    rcases hx with rfl | rfl
    ·rfl
    ·exact ht.pure
   ·have e:=itemP_branch N p q r hk
    have hkid:∀ c,TellFine (toldP N (cutK (p :: q :: r) c)) 3∧((writeP (toldP N (cutK (p :: q :: r) c))).length < 18→depthP (toldP N (cutK (p :: q :: r) c))≤1):=fun c=>by
     by_cases hn:cutK (p :: q :: r) c = []
     ·rw [hn,toldP_nil]
      exact ⟨⟨rfl,by have:=leaf_len55 [] (by simp);simp at this;omega,by rw [leaf_depth];omega⟩,fun _=>by rw [leaf_depth];omega⟩
     ·have hf:=ih _ hn (short_cut hs c) (rise_cut hr c) (small_cut hv c)
      rw [toldP_cons _ hn]
      refine ⟨tell_fine hf.pure hf.low,fun hlt=>?_⟩
      rcases Nat.lt_or_ge (cutK (p :: q :: r) c).length 2 with h2 | h2
      ·have h1:(cutK (p :: q :: r) c).length=1:=by
        rcases Nat.eq_zero_or_pos (cutK (p :: q :: r) c).length with h0 | h0
        ·exact absurd (List.eq_nil_of_length_eq_zero h0) hn
        ·omega
       exact (tell_fine hf.pure (d:=1) (fun _=>hf.one h1)).depth
      ·have:=tell_len _ (by omega) (hf.two h2);omega
    have hmem:∀ x∈(List.range 16).map (fun c=>toldP N (cutK (p :: q :: r) c)),∃ c,x=toldP N (cutK (p :: q :: r) c):=fun x hx=>by
     obtain ⟨c,_,rfl⟩:=List.mem_map.1 hx;exact ⟨c,rfl⟩
    obtain ⟨L,hL⟩:∃ L,(List.range 16).map (fun c=>toldP N (cutK (p :: q :: r) c))=L:=⟨_,rfl⟩
    have hLl:L.length=16:=by rw [← hL];simp
    rw [hL] at e hmem
    have hval:=small_val hv
    obtain ⟨V,hV⟩:∃ V,topV (p :: q :: r)=V:=⟨_,rfl⟩
    rw [hV] at e hval
    have lv:=leaf_len V (by omega)
    have lv0:=writeP_len (leafIt V)
    have hwl:=writes_le L 33 (fun x hx=>by obtain ⟨c,rfl⟩:=hmem x hx;exact (hkid c).1.len)
    have hwa:(writesP (L ++ [leafIt V])).length=(writesP L).length+(writeP (leafIt V)).length:=by rw [writesP_append];simp [writesP]
    have hwlo:=writesP_len L
    have hh:=headP_len_le 192 _ (show (writesP (L ++ [leafIt V])).length < 65536 by omega)
    have hh1:=headP_len 192 (writesP (L ++ [leafIt V])).length
    have hd:∀ d,(∀ x∈L,depthP x≤d)→depthP (itemP (N+1) (p :: q :: r))≤d+1:=fun d hx=>by
     rw [e,list_depth]
     have:depthsP (L ++ [leafIt V])≤d:=(depths_le _ _).2 (fun x hm=>by
      rcases List.mem_append.1 hm with hm | hm
      ·exact hx x hm
      ·rw [List.mem_singleton] at hm;subst hm;rw [leaf_depth];omega)
     omega
    have hd2:(writeP (itemP (N+1) (p :: q :: r))).length < 32→depthP (itemP (N+1) (p :: q :: r))≤2:=fun hlt=>hd 1 (fun x hx=>by
     have:=writes_mem L hx
     rw [e,list_len] at hlt
     obtain ⟨c,rfl⟩:=hmem x hx
     exact (hkid c).2 (by omega))
    refine ⟨?_,by rw [e,list_len];omega,hd 3 (fun x hx=>by obtain ⟨c,rfl⟩:=hmem x hx;exact (hkid c).1.depth),fun _=>by rw [e,list_len];omega,by simp,fun h=>by have:=hd2 h;omega,fun _ _=>hd2⟩
    rw [e,list_pure,pures_iff]
    intro x hx
    rcases List.mem_append.1 hx with hx | hx
    ·obtain ⟨c,rfl⟩:=hmem x hx;exact (hkid c).1.pure
    ·rw [List.mem_singleton] at hx;subst hx;rfl
/- Records in plain Lean: forms of plain kinds and of lists of these, fields, what they are as items; of no program. -/
/-- a kind: its sign, and whether it is a list of such -/
structure Kd where
 c:UInt8
 star:Bool
/-- n, h, a, s, b -/
def okC (c:UInt8):Prop:=c=110∨c=104∨c=97∨c=115∨c=98
def Kd.txt (k:Kd):Bytes:=if k.star then [42,k.c] else [k.c]
def formP:List Kd→Bytes
 | []=>[]
 | k :: ks=>k.txt ++ formP ks
def OkForm (ks:List Kd):Prop:=∀ k∈ks,okC k.c
theorem txt_len (k:Kd):1≤k.txt.length∧k.txt.length≤2:=by unfold Kd.txt;split <;> simp
theorem formP_append (a b:List Kd):formP (a ++ b)=formP a ++ formP b:=by
 induction a with
 | nil=>rfl
 | cons k a ih=>simp [formP,ih]
theorem formP_len (ks:List Kd):ks.length≤(formP ks).length∧(formP ks).length≤2 * ks.length:=by
 induction ks with
 | nil=>simp [formP]
 | cons k ks ih=>have:=txt_len k;simp [formP];omega
/-- a number and bytes; with fields of these -/
abbrev Lf:=Nat×Bytes
structure Fd where
 n:Nat
 b:Bytes
 l:List Lf
def sizeC (c:UInt8):Nat:=if c=104 then 32 else if c=97 then 20 else 65
/-- does a plain field fit a plain kind? -/
def fitC (c:UInt8) (f:Lf):Bool:=if c=110 then f.2.isEmpty else if c=98 then f.1 == 0 && decide (f.2.length≤64) else f.1 == 0 && f.2.length == sizeC c
def fitF (k:Kd) (f:Fd):Bool:=if k.star then f.n == 0 && f.b.isEmpty && decide (f.l.length≤40) && f.l.all (fitC k.c) else f.l.isEmpty && fitC k.c (f.n,f.b)
def fitsP:List Kd→List Fd→Bool
 | [],[]=>true
 | k :: ks,f :: fs=>fitF k f && fitsP ks fs
 | _,_=>false
def lfI (c:UInt8) (f:Lf):Item:=leafIt (if c=110 then digs f.1 else f.2)
def itemF (k:Kd) (f:Fd):Item:=if k.star then listIt (f.l.map (lfI k.c)) else lfI k.c (f.n,f.b)
def itemsF:List Kd→List Fd→List Item
 | k :: ks,f :: fs=>itemF k f :: itemsF ks fs
 | _,_=>[]
def recF (ks:List Kd) (fs:List Fd):Item:=listIt (itemsF ks fs)
/-- numbers of 64 bits -/
def smallF (fs:List Fd):Prop:=∀ f∈fs,f.n < 18446744073709551616∧∀ x∈f.l,x.1 < 18446744073709551616
theorem fitsP_len {ks:List Kd} {fs:List Fd} (h:fitsP ks fs=true):ks.length=fs.length:=by
 induction ks generalizing fs with
 | nil=>cases fs with
  | nil=>rfl
  | cons f fs=>simp [fitsP] at h
 | cons k ks ih=>cases fs with
  | nil=>simp [fitsP] at h
  | cons f fs=>simp [fitsP] at h;simp [ih h.2]
theorem fitC_len {c:UInt8} {f:Lf} (h:fitC c f=true) (hn:f.1 < 18446744073709551616):(writeP (lfI c f)).length≤68:=by
 unfold fitC at h
 unfold lfI
 split
 ·have:=digs_len_lt 8 f.1 (by omega)
  have:=leaf_len55 (digs f.1) (by omega)
  omega
 ·rename_i hc
  rw [if_neg hc] at h
  have:f.2.length≤65:=by
   split at h
   ·simp at h;omega
   ·simp at h;rw [h.2];unfold sizeC;split
    ·omega
    ·split <;> omega
  have:=leaf_len f.2 (by omega)
  omega
theorem fitF_len {k:Kd} {f:Fd} (h:fitF k f=true) (hn:f.n < 18446744073709551616∧∀ x∈f.l,x.1 < 18446744073709551616):(writeP (itemF k f)).length≤2730∧pureP (itemF k f)=true∧depthP (itemF k f)≤1∧countP (itemF k f)≤41:=by
 unfold fitF at h
 unfold itemF
 split
 ·rename_i hs
  rw [if_pos hs] at h
  simp only [Bool.and_eq_true,decide_eq_true_eq,List.all_eq_true] at h
  obtain ⟨⟨⟨_,_⟩,hl⟩,hall⟩:=h
  have hw:=writes_le (f.l.map (lfI k.c)) 68 (fun x hx=>by
   obtain ⟨y,hy,rfl⟩:=List.mem_map.1 hx
   exact fitC_len (hall y hy) (hn.2 y hy))
  rw [List.length_map] at hw
  have hh:=headP_len_le 192 _ (show (writesP (f.l.map (lfI k.c))).length < 65536 by omega)
  refine ⟨by rw [list_len];omega,?_,?_,?_⟩
  ·rw [list_pure,pures_iff];intro x hx;obtain ⟨y,_,rfl⟩:=List.mem_map.1 hx;rfl
  ·rw [list_depth]
   have:depthsP (f.l.map (lfI k.c))≤0:=(depths_le _ _).2 (fun x hx=>by obtain ⟨y,_,rfl⟩:=List.mem_map.1 hx;exact Nat.le_refl _)
   omega
  ·have:∀ l:List Lf,countsP (l.map (lfI k.c))=l.length:=fun l=>by
    induction l with
    | nil=>rfl
    | cons a l ih=>rw [List.map_cons,countsP,ih];simp [lfI,leafIt,countP,countsP];omega
   show 1+countsP _≤41
   rw [this];omega
 ·rename_i hs
  rw [if_neg hs] at h
  simp only [Bool.and_eq_true] at h
  exact ⟨by have:=fitC_len h.2 hn.1;omega,rfl,Nat.zero_le _,by show 1+0≤41;omega⟩
theorem rec_fine {ks:List Kd} {fs:List Fd} (h:fitsP ks fs=true) (hn:smallF fs) (hk:ks.length≤20) :
  (writeP (recF ks fs)).length≤60000∧pureP (recF ks fs)=true∧depthP (recF ks fs)≤2∧countP (recF ks fs)≤900:=by
 have key:∀ (ks:List Kd) (fs:List Fd),fitsP ks fs=true→smallF fs→(writesP (itemsF ks fs)).length≤2730 * ks.length∧puresP (itemsF ks fs)=true∧depthsP (itemsF ks fs)≤1∧countsP (itemsF ks fs)≤41 * ks.length:=by
  intro ks
  induction ks with
  | nil=>intro fs _ _;simp [itemsF,writesP,puresP,depthsP,countsP]
  | cons k ks ih =>
   intro fs h hn
   cases fs with
   | nil=>simp [fitsP] at h
   | cons f fs =>
    simp [fitsP] at h
    obtain ⟨i1,i2,i3,i4⟩:=ih fs h.2 (fun x hx=>hn x (by simp [hx]))
    obtain ⟨j1,j2,j3,j4⟩:=fitF_len h.1 (hn f (by simp))
    simp only [itemsF,writesP,puresP,depthsP,countsP,List.length_append,List.length_cons,Nat.mul_add]
    refine ⟨by omega,by rw [j2,i2];rfl,by omega,by omega⟩
 obtain ⟨h1,h2,h3,h4⟩:=key ks fs h hn
 have hh:=headP_len_le 192 _ (show (writesP (itemsF ks fs)).length < 65536 by omega)
 unfold recF
 refine ⟨by rw [list_len];omega,by rw [list_pure];exact h2,by rw [list_depth];omega,?_⟩
 show 1+countsP _≤_
 omega
/- Half bytes in plain Lean; of no program. -/
def nibs:Bytes→Bytes
 | []=>[]
 | c :: k=>c / 16 :: c % 16 :: nibs k
theorem nibs_len (k:Bytes):(nibs k).length=2 * k.length:=by
 induction k with
 | nil=>rfl
 | cons c k ih=>simp [nibs,ih];omega
theorem nibs_append (a b:Bytes):nibs (a ++ b)=nibs a ++ nibs b:=by
 induction a with
 | nil=>rfl
 | cons c a ih=>simp [nibs,ih]
theorem nibs_half (k:Bytes):∀ x∈nibs k,x.toNat < 16:=by
 induction k with
 | nil=>intro x h;cases h
 | cons c k ih =>
  intro x h
  have hc:=c.toNat_lt
  simp only [nibs,List.mem_cons] at h
  rcases h with rfl | rfl | h
  ·rw [UInt8.toNat_div];show c.toNat / 16 < 16;omega
  ·rw [UInt8.toNat_mod];show c.toNat % 16 < 16;omega
  ·exact ih x h
def nibAt (k:Bytes) (i:Nat):UInt8:=if i % 2=0 then k.getD (i / 2) 0 / 16 else k.getD (i / 2) 0 % 16
theorem nibs_get (k:Bytes):∀ i,i < 2 * k.length→(nibs k)[i]? = some (nibAt k i):=by
 induction k with
 | nil=>intro i h;simp at h
 | cons c k ih =>
  intro i h
  match i with
  | 0=>rfl
  | 1=>rfl
  | i+2 =>
   have:=ih i (by simp at h;omega)
   simp only [nibs,List.getElem?_cons_succ,this]
   unfold nibAt
   rw [show (i+2) % 2=i % 2 by omega,show (i+2) / 2=i / 2+1 by omega,List.getD_cons_succ]
theorem nibs_tab (k:Bytes):(List.range (2 * k.length)).map (nibAt k)=nibs k:=by
 apply List.ext_getElem?
 intro i
 by_cases h:i < 2 * k.length
 ·rw [nibs_get k i h,List.getElem?_map,List.getElem?_range h];rfl
 ·rw [List.getElem?_eq_none (by simp;omega),List.getElem?_eq_none (by rw [nibs_len];omega)]
theorem join_nibs (k:Bytes):joinP (nibs k)=k:=by
 induction k with
 | nil=>rfl
 | cons c k ih =>
  simp only [nibs,joinP,ih]
  congr 1
  apply UInt8.toNat_inj.1
  have hc:=c.toNat_lt
  rw [UInt8.toNat_add,UInt8.toNat_mul,UInt8.toNat_div,UInt8.toNat_mod]
  show (16 * (c.toNat / 16) % 256+c.toNat % 16) % 256=c.toNat
  omega
def joinAt (s:Bytes) (i:Nat):UInt8:=16 * s.getD (2 * i) 0+s.getD (2 * i+1) 0
theorem join_get:∀ (s:Bytes) (i:Nat),i < s.length / 2→(joinP s)[i]? = some (joinAt s i)
 | [],i,h=>by simp at h
 | [_],i,h=>by simp at h
 | a :: b :: r,0,_=>rfl
 | a :: b :: r,i+1,h=>by
  have:=join_get r i (by simp at h;omega)
  simp only [joinP,List.getElem?_cons_succ,this]
  unfold joinAt
  rw [show 2 * (i+1)=2 * i+1+1 by omega,List.getD_cons_succ,List.getD_cons_succ,List.getD_cons_succ,List.getD_cons_succ]
theorem join_tab (s:Bytes):(List.range (s.length / 2)).map (joinAt s)=joinP s:=by
 apply List.ext_getElem?
 intro i
 by_cases h:i < s.length / 2
 ·rw [join_get s i h,List.getElem?_map,List.getElem?_range h];rfl
 ·rw [List.getElem?_eq_none (by simp;omega),List.getElem?_eq_none (by rw [joinP_len];omega)]
theorem joinP_snoc (s:Bytes) (a b:UInt8) (h:s.length % 2=0):joinP (s ++ [a,b])=joinP s ++ [16 * a+b]:=by
 match s,h with
 | [],_=>rfl
 | [_],h=>simp at h
 | x :: y :: r,h =>
  have:=joinP_snoc r a b (by simp at h;omega)
  simp [joinP,this]
theorem shareP_take_succ {a b:Bytes} {n:Nat} {x y:UInt8} (hs:a.take n=b.take n) (hx:a[n]? = some x) (hy:b[n]? = some y):(x=y→a.take (n+1)=b.take (n+1))∧(x≠y→shareP a b=n):=by
 have h1:a.take (n+1)=a.take n ++ [x]:=by rw [List.take_add_one,hx];rfl
 have h2:b.take (n+1)=b.take n ++ [y]:=by rw [List.take_add_one,hy];rfl
 have la:=(List.getElem?_eq_some_iff.1 hx).1
 have lb:=(List.getElem?_eq_some_iff.1 hy).1
 refine ⟨fun e=>by rw [h1,h2,hs,e],fun hne=>?_⟩
 have hge:=shareP_ge hs (by omega) (by omega)
 rcases Nat.lt_or_ge n (shareP a b) with h | h
 ·have:=shareP_take (a:=a) (b:=b) (k:=n+1) h
  rw [h1,h2,hs] at this
  have:=List.append_cancel_left this
  simp at this
  exact absurd this hne
 ·omega
theorem shareP_end {a b:Bytes} {n:Nat} (hs:a.take n=b.take n) (h1:n≤a.length) (h2:n≤b.length) (h:n=a.length∨n=b.length):shareP a b=n:=by
 have hge:=shareP_ge hs h1 h2
 have:=shareP_le a b
 omega
/- Tries in plain Lean: keys in half bytes; what walk hands on; of no program. -/
theorem ltB_nibs {a b:Bytes} (h:ltB a b):ltB (nibs a) (nibs b):=by
 induction a generalizing b with
 | nil=>cases b with
  | nil=>exact h
  | cons y b=>trivial
 | cons x a ih =>
  cases b with
  | nil=>exact h
  | cons y b =>
   rcases h with h | ⟨rfl,h⟩
   ·show ltB (x / 16 :: x % 16 :: nibs a) (y / 16 :: y % 16 :: nibs b)
    have h1:(x / 16).toNat=x.toNat / 16:=by rw [UInt8.toNat_div];rfl
    have h2:(y / 16).toNat=y.toNat / 16:=by rw [UInt8.toNat_div];rfl
    have h3:(x % 16).toNat=x.toNat % 16:=by rw [UInt8.toNat_mod];rfl
    have h4:(y % 16).toNat=y.toNat % 16:=by rw [UInt8.toNat_mod];rfl
    by_cases hd:x.toNat / 16 < y.toNat / 16
    ·exact .inl (by omega)
    ·refine .inr ⟨UInt8.toNat_inj.1 (by omega),.inl (by omega)⟩
   ·exact .inr ⟨rfl,.inr ⟨rfl,ih h⟩⟩
/-- pairs by half bytes -/
def partsP (l:List KV):List KV:=l.map fun p=>(nibs p.1,p.2)
theorem partsP_len (l:List KV):(partsP l).length=l.length:=by simp [partsP]
/-- pairs that a trie may have -/
structure OkL (l:List KV):Prop where
 rise:Rise l
 key:∀ p∈l,1≤p.1.length∧p.1.length≤32
 val:∀ p∈l,1≤p.2.length∧p.2.length≤500
 le:l.length≤64
theorem OkL.nil:OkL []:=⟨List.Pairwise.nil,fun p h=>(by cases h),fun p h=>(by cases h),by simp⟩
theorem rise_parts {l:List KV} (h:Rise l):Rise (partsP l):=by
 unfold Rise partsP
 rw [List.pairwise_map]
 exact List.Pairwise.imp (fun h=>ltB_nibs h) h
theorem parts_mem {l:List KV} {q:KV} (h:q∈partsP l):∃ p∈l,q=(nibs p.1,p.2):=by
 unfold partsP at h
 obtain ⟨p,h1,h2⟩:=List.mem_map.1 h
 exact ⟨p,h1,h2.symm⟩
theorem OkL.short {l:List KV} (h:OkL l):Short 66 (partsP l):=fun q hq=>by
 obtain ⟨p,hp,rfl⟩:=parts_mem hq
 have:=h.key p hp
 simp only [nibs_len];omega
theorem OkL.half {l:List KV} (h:OkL l):Half (partsP l):=fun q hq=>by
 obtain ⟨p,hp,rfl⟩:=parts_mem hq
 exact nibs_half p.1
theorem OkL.small {l:List KV} (h:OkL l):Small (partsP l):=fun q hq=>by
 obtain ⟨p,hp,rfl⟩:=parts_mem hq
 exact (h.val p hp).2
/-- what walk hands on -/
def outP (t:Bytes) (l:List KV):List KV:=l.map fun p=>(joinP (t ++ p.1),p.2)
theorem outP_append (t:Bytes) (a b:List KV):outP t (a ++ b)=outP t a ++ outP t b:=by simp [outP]
theorem outP_len (t:Bytes) (l:List KV):(outP t l).length=l.length:=by simp [outP]
theorem outP_less {t u:Bytes} {l:List KV} {k:Nat} (h:∀ p∈l,p.1.take k=u):outP (t ++ u) (lessP l k)=outP t l:=by
 unfold outP lessP
 rw [List.map_map]
 refine List.map_congr_left fun p hp=>?_
 have:=h p hp
 simp only [Function.comp]
 rw [← this,List.append_assoc,List.take_append_drop]
theorem outP_parts (l:List KV):outP [] (partsP l)=l:=by
 unfold outP partsP
 rw [List.map_map]
 conv=>rhs;rw [← List.map_id l]
 refine List.map_congr_left fun p hp=>?_
 simp only [Function.comp,List.nil_append,join_nibs,id]
/-- pairs below a part -/
structure Good (t:Bytes) (p:KV):Prop where
 half:∀ x∈t ++ p.1,x.toNat < 16
 even:(t ++ p.1).length % 2=0
 ge:2≤(t ++ p.1).length
 le:(t ++ p.1).length≤64
 val:1≤p.2.length∧p.2.length≤500
def Goods (t:Bytes) (l:List KV):Prop:=∀ p∈l,Good t p
theorem goods_parts {l:List KV} (h:OkL l):Goods [] (partsP l):=fun q hq=>by
 obtain ⟨p,hp,rfl⟩:=parts_mem hq
 have:=h.key p hp
 refine ⟨fun x hx=>nibs_half p.1 x (by simpa using hx),?_,?_,?_,h.val p hp⟩ <;> simp only [List.nil_append,nibs_len] <;> omega
theorem goods_less {t u:Bytes} {l:List KV} {k:Nat} (hg:Goods t l) (h:∀ p∈l,p.1.take k=u):Goods (t ++ u) (lessP l k):=fun q hq=>by
 obtain ⟨p,hp,rfl⟩:=less_mem hq
 have hpk:=hg p hp
 have hu:=h p hp
 have e:(t ++ u) ++ p.1.drop k=t ++ p.1:=by rw [← hu,List.append_assoc,List.take_append_drop]
 exact ⟨by rw [e];exact hpk.half,by rw [e];exact hpk.even,by rw [e];exact hpk.ge,by rw [e];exact hpk.le,hpk.val⟩
theorem cut_take {l:List KV} {c:Nat}:∀ p∈pickP l c,p.1.take 1 = [UInt8.ofNat c]:=fun p hp=>head_take (pick_head hp).2
theorem goods_cut {t:Bytes} {l:List KV} (h:Goods t l) (c:Nat):Goods (t ++ [UInt8.ofNat c]) (cutK l c) :=
 goods_less (fun p hp=>h p (pick_head hp).1) cut_take
theorem outP_cut (t:Bytes) (l:List KV) (c:Nat):outP (t ++ [UInt8.ofNat c]) (cutK l c)=outP t (pickP l c):=outP_less cut_take
/-- nodes stand in a row of nodes -/
def Sub (ns ms:List TN) (b:Nat):Prop:=∀ j n,ms[j]? = some n→ns[b+j]? = some n
theorem Sub.left {ns a c:List TN} {b:Nat} (h:Sub ns (a ++ c) b):Sub ns a b:=fun j n hj=>h j n (by rw [List.getElem?_append_left (List.getElem?_eq_some_iff.1 hj).1];exact hj)
theorem Sub.right {ns a c:List TN} {b:Nat} (h:Sub ns (a ++ c) b):Sub ns c (b+a.length):=fun j n hj=>by
 have:=h (a.length+j) n (by rw [List.getElem?_append_right (by omega),Nat.add_sub_cancel_left];exact hj)
 rw [Nat.add_assoc];exact this
theorem Sub.last {ns a:List TN} {n:TN} {b:Nat} (h:Sub ns (a ++ [n]) b):ns[b+a.length]? = some n:=by
 have:=h.right 0 n rfl
 simpa using this
theorem Sub.refl (ns:List TN):Sub ns ns 0:=fun j n hj=>by rw [Nat.zero_add];exact hj
/-- where the topmost node of pairs lies -/
theorem buildP_top (N:Nat) (l:List KV) (b:Nat) (h:l ≠ []) (hs:Short N l):(buildP N l b).2=((b+(buildP N l b).1.length - 1:Nat):Int)∧1≤(buildP N l b).1.length:=by
 match N,l,h with
 | 0,p :: l,_=>exact absurd (hs p (by simp)) (by omega)
 | N+1,[p],_=>exact ⟨by simp [buildP],by simp [buildP]⟩
 | N+1,p :: q :: r,_ =>
  rw [buildP]
  split <;> exact ⟨by simp,by simp⟩
theorem kidsP_pre (f:List KV→Nat→List TN×Int) (l:List KV) (b:Nat) {c d:Nat} (h:c≤d):∃ m k,(kidsP f l b d).1=(kidsP f l b c).1 ++ m∧(kidsP f l b d).2=(kidsP f l b c).2 ++ k:=by
 induction d with
 | zero=>have:c=0:=by omega
         subst this;exact ⟨[],[],by simp,by simp⟩
 | succ d ih =>
  by_cases e:c=d+1
  ·subst e;exact ⟨[],[],by simp,by simp⟩
  ·obtain ⟨m,k,h1,h2⟩:=ih (by omega)
   refine ⟨m ++ (f (cutK l d) (b+(kidsP f l b d).1.length)).1,k ++ [(f (cutK l d) (b+(kidsP f l b d).1.length)).2],?_,?_⟩
   ·rw [kidsP];simp only [];rw [h1,List.append_assoc]
   ·rw [kidsP];simp only [];rw [h2,List.append_assoc]
/-- a branch's kid, and its nodes -/
theorem kidsP_at (f:List KV→Nat→List TN×Int) (l:List KV) (b:Nat) {c d:Nat} (h:c < d):(kidsP f l b d).2[c]? = some (f (cutK l c) (b+(kidsP f l b c).1.length)).2 ∧
  ∀ ns,Sub ns (kidsP f l b d).1 b→Sub ns (f (cutK l c) (b+(kidsP f l b c).1.length)).1 (b+(kidsP f l b c).1.length):=by
 obtain ⟨m,k,h1,h2⟩:=kidsP_pre f l b (c:=c+1) (d:=d) (by omega)
 have e1:(kidsP f l b (c+1)).1=(kidsP f l b c).1 ++ (f (cutK l c) (b+(kidsP f l b c).1.length)).1:=rfl
 have e2:(kidsP f l b (c+1)).2=(kidsP f l b c).2 ++ [(f (cutK l c) (b+(kidsP f l b c).1.length)).2]:=rfl
 refine ⟨?_,fun ns hs=>?_⟩
 ·rw [h2,e2,List.append_assoc,List.getElem?_append_right (by rw [kidsP_len];omega),kidsP_len,Nat.sub_self];rfl
 ·rw [h1,e1] at hs
  exact hs.left.right
/-- below the node that tells of so many -/
theorem kidsP_lt (f:List KV→Nat→List TN×Int) (l:List KV) (b:Nat) {c d:Nat} (h:c < d):(kidsP f l b c).1.length+(f (cutK l c) (b+(kidsP f l b c).1.length)).1.length≤(kidsP f l b d).1.length:=by
 obtain ⟨m,k,h1,h2⟩:=kidsP_pre f l b (c:=c+1) (d:=d) (by omega)
 have e1:(kidsP f l b (c+1)).1=(kidsP f l b c).1 ++ (f (cutK l c) (b+(kidsP f l b c).1.length)).1:=rfl
 rw [h1,e1]
 simp only [List.length_append];omega
def topL:List KV→List KV
 | ([],v) :: _=>[([],v)]
 | _=>[]
theorem inner_top {l:List KV} (h:Rise l):l=topL l ++ fromP l 0:=by
 rw [from_zero h]
 match l with
 | []=>rfl
 | ([],v) :: r=>rfl
 | (x :: k,v) :: r=>rfl
/- Each node of a trie of pairs, at its turn, is one that can be summed; of no program. -/
/-- a node that can be summed behind these items -/
structure NodeOk (its:List Item) (n:TN):Prop where
 pure:pureP (nodeIt its n)=true
 len:(writeP (nodeIt its n)).length≤1100
 depth:depthP (nodeIt its n)≤4
 half:∀ x∈n.part,x.toNat < 16
 part:n.part.length≤100
 value:n.value.length≤500
 wide:n.kids.length=16
 kid:∀ i∈n.kids,i = -1∨(0≤i∧i < its.length)
 kind:n.k=1∨n.k=2∨n.k=3
theorem nodeOk_mk {its:List Item} {n:TN} {N:Nat} {l:List KV} (hi:nodeIt its n=itemP N l) (hf:ItemFine N l) (h1:∀ x∈n.part,x.toNat < 16) (h2:n.part.length≤100) (h3:n.value.length≤500) (h4:n.kids.length=16)
  (h5:∀ i∈n.kids,i = -1∨(0≤i∧i < its.length)) (h6:n.k=1∨n.k=2∨n.k=3):NodeOk its n :=
 ⟨by rw [hi];exact hf.pure,by rw [hi];exact hf.len,by rw [hi];exact hf.depth,h1,h2,h3,h4,h5,h6⟩
def OkSums (its:List Item):List TN→Prop
 | []=>True
 | n :: ns=>NodeOk its n∧OkSums (its ++ [tellP (nodeIt its n)]) ns
theorem okSums_append (a b:List TN):∀ its,OkSums its (a ++ b)↔OkSums its a∧OkSums (sumsP its a) b:=by
 induction a with
 | nil=>intro its;exact ⟨fun h=>⟨trivial,h⟩,fun h=>h.2⟩
 | cons n a ih =>
  intro its
  show NodeOk its n∧OkSums _ (a ++ b)↔(NodeOk its n∧OkSums _ a)∧OkSums _ b
  rw [ih]
  exact ⟨fun h=>⟨⟨h.1,h.2.1⟩,h.2.2⟩,fun h=>⟨h.1.1,h.1.2,h.2⟩⟩
theorem top_it {N:Nat} {l:List KV} {its:List Item} (hs:Short N l) (hr:Rise l) (hne:l ≠ []) {ns:List TN} {n:TN} (hb:(buildP N l its.length).1=ns ++ [n]):nodeIt (sumsP its ns) n=itemP N l:=by
 obtain ⟨ns',n',h1,h2,_⟩:=(sums_said N l hs hr its).top hne
 rw [hb] at h1
 obtain ⟨e1,e2⟩:=List.append_inj' h1 rfl
 injection e2 with e2
 subst e1;subst e2
 exact h2
theorem noKids_mem:∀ i∈noKids,i = -1:=fun i hi=>(List.mem_replicate.1 hi).2
theorem kid_range {N:Nat} {l:List KV} {its:List Item} (hs:Short N l):(buildP N l its.length).2 = -1∨(0≤(buildP N l its.length).2∧(buildP N l its.length).2 < (sumsP its (buildP N l its.length).1).length):=by
 by_cases h:l = []
 ·subst h;rw [buildP_nil];exact .inl rfl
 ·obtain ⟨h1,h2⟩:=buildP_top N l its.length h hs
  refine .inr ?_
  rw [h1,sumsP_len]
  omega
theorem ok_kids {f:List KV→Nat→List TN×Int} {l:List KV} (its:List Item)
  (h:∀ c its',OkSums its' (f (cutK l c) its'.length).1∧((f (cutK l c) its'.length).2 = -1∨(0≤(f (cutK l c) its'.length).2∧(f (cutK l c) its'.length).2 < (sumsP its' (f (cutK l c) its'.length).1).length))) :
  ∀ c,OkSums its (kidsP f l its.length c).1∧∀ i∈(kidsP f l its.length c).2,i = -1∨(0≤i∧i < (sumsP its (kidsP f l its.length c).1).length):=by
 intro c
 induction c with
 | zero=>exact ⟨trivial,fun i hi=>by simp [kidsP] at hi⟩
 | succ c ih =>
  obtain ⟨i1,i2⟩:=ih
  have hl:its.length+(kidsP f l its.length c).1.length=(sumsP its (kidsP f l its.length c).1).length:=by rw [sumsP_len]
  obtain ⟨h1,h2⟩:=h c (sumsP its (kidsP f l its.length c).1)
  rw [← hl] at h1 h2
  have e1:(kidsP f l its.length (c+1)).1=(kidsP f l its.length c).1 ++ (f (cutK l c) (its.length+(kidsP f l its.length c).1.length)).1:=rfl
  have e2:(kidsP f l its.length (c+1)).2=(kidsP f l its.length c).2 ++ [(f (cutK l c) (its.length+(kidsP f l its.length c).1.length)).2]:=rfl
  rw [e1,e2]
  refine ⟨(okSums_append _ _ _).2 ⟨i1,h1⟩,fun i hi=>?_⟩
  rw [sumsP_append]
  rcases List.mem_append.1 hi with hi | hi
  ·rcases i2 i hi with h | h
   ·exact .inl h
   ·refine .inr ⟨h.1,?_⟩
    rw [sumsP_len];omega
  ·rw [List.mem_singleton] at hi
   rw [hi]
   exact h2
theorem ok_sums (N:Nat) (hN:N≤66):∀ l,Short N l→Rise l→Small l→Half l→∀ its,OkSums its (buildP N l its.length).1:=by
 induction N with
 | zero =>
  intro l hs hr hm hh its
  cases l with
  | nil=>exact trivial
  | cons p l=>exact absurd (hs p (by simp)) (by omega)
 | succ N ih =>
  intro l hs hr hm hh its
  match l,hs,hr,hm,hh with
  | [],_,_,_,_=>exact trivial
  | [p],hs,hr,hm,hh =>
   have hb:(buildP (N+1) [p] its.length).1 = [] ++ [⟨1,p.1,p.2,noKids⟩]:=rfl
   have hi:=top_it hs hr (by simp) hb
   have hf:=item_fine (N+1) hN [p] (by simp) hs hr hm
   rw [hb]
   refine ⟨?_,trivial⟩
   have hi:nodeIt its ⟨1,p.1,p.2,noKids⟩=itemP (N+1) [p]:=hi
   refine nodeOk_mk hi hf (hh p (by simp)) ?_ (hm p (by simp)) rfl (fun i h=>.inl (noKids_mem i h)) (.inl rfl)
   have:=hs p (by simp);show p.1.length≤100;omega
  | p :: q :: r,hs,hr,hm,hh =>
   have hf:=item_fine (N+1) hN _ (by simp) hs hr hm
   have hp:(p :: q :: r)[0]? = some p:=rfl
   by_cases hk:0 < comP (p :: q :: r)
   ·have hB:(buildP (N+1) (p :: q :: r) its.length).1=(buildP N (lessP (p :: q :: r) (comP (p :: q :: r))) its.length).1 ++ [⟨2,p.1.take (comP (p :: q :: r)),[],noKids.set 0 (buildP N (lessP (p :: q :: r) (comP (p :: q :: r))) its.length).2⟩]:=by rw [buildP,if_pos hk]
    have hi:=top_it hs hr (by simp) hB
    have hs':=short_less hs hk (comP_len hr)
    rw [hB]
    refine (okSums_append _ _ _).2 ⟨ih (by omega) _ hs' (rise_less hr (comP_take hr)) (small_less hm _) (half_less hh _) its,?_,trivial⟩
    refine nodeOk_mk hi hf (fun x hx=>hh p (by simp) x (List.mem_of_mem_take hx)) ?_ (by simp) (by simp [noKids]) (fun i h=>?_) (.inr (.inl rfl))
    ·have:=hs p (by simp);show (p.1.take _).length≤100;rw [List.length_take];omega
    ·rcases List.mem_or_eq_of_mem_set h with h | h
     ·exact .inl (noKids_mem i h)
     ·rw [h];exact kid_range hs'
   ·have hB:(buildP (N+1) (p :: q :: r) its.length).1=(kidsP (buildP N) (p :: q :: r) its.length 16).1 ++ [⟨3,[],topV (p :: q :: r),(kidsP (buildP N) (p :: q :: r) its.length 16).2⟩]:=by rw [buildP,if_neg hk]
    have hi:=top_it hs hr (by simp) hB
    obtain ⟨k1,k2⟩:=ok_kids (f:=buildP N) (l:=p :: q :: r) its (fun c its'=>⟨ih (by omega) _ (short_cut hs c) (rise_cut hr c) (small_cut hm c) (half_cut hh c) its',kid_range (short_cut hs c)⟩) 16
    rw [hB]
    have hlen:=kidsP_len (buildP N) (p :: q :: r) its.length 16
    have htv:=small_val hm
    generalize (kidsP (buildP N) (p :: q :: r) its.length 16).2=ks at hi k2 hlen ⊢
    generalize topV (p :: q :: r)=tv at hi htv ⊢
    generalize (kidsP (buildP N) (p :: q :: r) its.length 16).1=A at hi k1 k2 ⊢
    have hn:NodeOk (sumsP its A) ⟨3,[],tv,ks⟩:=nodeOk_mk hi hf (fun x hx=>(by cases hx)) (by simp) htv hlen k2 (.inr (.inr rfl))
    rw [okSums_append]
    exact ⟨k1,hn,trivial⟩
end Go.Proofs.YtdfmheademcbkaaGreat
