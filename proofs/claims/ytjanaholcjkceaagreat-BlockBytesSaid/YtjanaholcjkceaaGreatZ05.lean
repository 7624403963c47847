/- Keccak in plain Lean: one round, all rounds, the sum; of no program. -/
import Derived.Test.YtjanaholcjkceaaGreatZ04
import Derived.KernelRfl
namespace Go.Proofs.YtjanaholcjkceaaGreat
set_option linter.unusedVariables false
set_option linter.unusedSimpArgs false
abbrev W64:=BitVec 64
def rotl (x:W64) (k:Nat):W64:=x <<< k ||| x >>> (64 - k)
theorem rotl_zero (x:W64):rotl x 0=x:=by unfold rotl;ext i;simp
/-- a row that is worked out up to a place -/
def tab {α:Type} (n:Nat) (f z:Nat→α) (k:Nat):List α:=(List.range n).map fun j=>if j < k then f j else z j
theorem tab_len {α:Type} (n:Nat) (f z:Nat→α) (k:Nat):(tab n f z k).length=n:=by simp [tab]
theorem tab_get {α:Type} {n:Nat} {f z:Nat→α} {k j:Nat} (h:j < n):(tab n f z k)[j]? = some (if j < k then f j else z j):=by simp [tab,h]
theorem tab_set {α:Type} {n:Nat} {f z:Nat→α} {k:Nat}:(tab n f z k).set k (f k)=tab n f z (k+1):=by
 apply List.ext_getElem?
 intro j
 rw [List.getElem?_set,tab_len]
 by_cases hj:j < n
 ·rw [tab_get hj,tab_get hj]
  by_cases hk:k=j
  ·subst hk;simp [hj]
  ·rw [if_neg hk]
   by_cases h:j < k
   ·rw [if_pos h,if_pos (by omega)]
   ·rw [if_neg h,if_neg (by omega)]
 ·rw [List.getElem?_eq_none (by rw [tab_len];omega),List.getElem?_eq_none (by rw [tab_len];omega)]
  split
  ·rw [if_neg (by omega)]
  ·rfl
theorem tab_zero {α:Type} (n:Nat) (f z:Nat→α):tab n f z 0=(List.range n).map z:=by simp [tab]
theorem tab_all {α:Type} (n:Nat) (f z:Nat→α):tab n f z n=(List.range n).map f:=by
 unfold tab
 exact List.map_congr_left fun j hj=>by rw [if_pos (List.mem_range.1 hj)]
theorem range_getD {α:Type} (l:List α) (d:α):(List.range l.length).map (fun j=>l.getD j d)=l:=by
 apply List.ext_getElem
 ·simp
 ·intro i h1 h2
  simp at h1
  simp [List.getD_eq_getElem?_getD,h1]
def kC (a:List W64) (x:Nat):W64:=a.getD x 0 ^^^ a.getD (x+5) 0 ^^^ a.getD (x+10) 0 ^^^ a.getD (x+15) 0 ^^^ a.getD (x+20) 0
def kD (c:List W64) (x:Nat):W64:=c.getD ((x+4) % 5) 0 ^^^ rotl (c.getD ((x+1) % 5) 0) 1
def byL:List Nat:=[0,1,62,28,27,36,44,6,55,20,3,10,43,25,39,41,45,15,21,8,18,2,61,56,14]
def toL:List Nat:=[0,10,20,5,15,16,1,11,21,6,7,17,2,12,22,23,8,18,3,13,14,24,9,19,4]
def kB (a d:List W64):Nat→List W64
 | 0=>List.replicate 25 0
 | k+1=>(kB a d k).set (toL.getD k 0) (rotl (a.getD k 0 ^^^ d.getD (k % 5) 0) (byL.getD k 0))
def kE (b:List W64) (i:Nat):W64:=b.getD i 0 ^^^ (~~~ b.getD (i / 5 * 5+(i+1) % 5) 0 &&& b.getD (i / 5 * 5+(i+2) % 5) 0)
def roundC (a:List W64):List W64:=(List.range 5).map (kC a)
def roundD (a:List W64):List W64:=(List.range 5).map (kD (roundC a))
def roundB (a:List W64):List W64:=kB a (roundD a) 25
def roundE (a:List W64):List W64:=(List.range 25).map (kE (roundB a))
/-- a state, mixed once -/
def roundK (a:List W64) (last:W64):List W64:=(roundE a).set 0 ((roundE a).getD 0 0 ^^^ last)
theorem toL_lt:∀ k,k < 25→toL.getD k 0 < 25:=by decide
theorem byL_lt:∀ k,k < 25→byL.getD k 0 < 64:=by decide
theorem kB_len (a d:List W64) (k:Nat):(kB a d k).length=25:=by
 induction k with
 | zero=>rfl
 | succ k ih=>simp [kB,ih]
theorem roundK_len (a:List W64) (r:W64):(roundK a r).length=25:=by simp [roundK,roundE]
/-- by how much the word of x and y is turned, and where it comes -/
def atP (x y:Nat):Nat:=x % 5+5 * (y % 5)
def rCk (a:List W64) (x:Nat):Nat→W64
 | 0=>0
 | k+1=>rCk a x k ^^^ a.getD (atP x k) 0
def rD (c:List W64) (x:Nat):W64:=c.getD ((x+4) % 5) 0 ^^^ rotl (c.getD ((x+1) % 5) 0) 1
/-- x + 5 y places of the row are set -/
def rB (a c:List W64):Nat→List W64
 | 0=>List.replicate 25 0
 | k+1=>(rB a c k).set (atP (k % 5) (2 * (k / 5)+3 * (k % 5))) (rotl (a.getD (atP (k / 5) (k % 5)) 0 ^^^ rD c (k / 5)) (byL.getD (atP (k / 5) (k % 5)) 0))
def rE (b:List W64):Nat→List W64
 | 0=>List.replicate 25 0
 | k+1=>(rE b k).set (atP (k / 5) (k % 5)) (b.getD (atP (k / 5) (k % 5)) 0 ^^^ (~~~ b.getD (atP (k / 5+1) (k % 5)) 0 &&& b.getD (atP (k / 5+2) (k % 5)) 0))
theorem rB_len (a c:List W64) (k:Nat):(rB a c k).length=25:=by
 induction k with
 | zero=>rfl
 | succ k ih=>simp [rB,ih]
theorem rE_len (b:List W64) (k:Nat):(rE b k).length=25:=by
 induction k with
 | zero=>rfl
 | succ k ih=>simp [rE,ih]
theorem rCk_eq (a:List W64) (x:Nat):x < 5→rCk a x 5=kC a x:=by
 intro h
 have:x=0∨x=1∨x=2∨x=3∨x=4:=by omega
 rcases this with rfl | rfl | rfl | rfl | rfl <;> simp [rCk,kC,atP]
theorem list25 {α:Type} {l:List α} (h:l.length=25):∃ a0 a1 a2 a3 a4 a5 a6 a7 a8 a9 b0 b1 b2 b3 b4 b5 b6 b7 b8 b9 c0 c1 c2 c3 c4,l = [a0,a1,a2,a3,a4,a5,a6,a7,a8,a9,b0,b1,b2,b3,b4,b5,b6,b7,b8,b9,c0,c1,c2,c3,c4]:=by
 match l,h with
 | [a0,a1,a2,a3,a4,a5,a6,a7,a8,a9,b0,b1,b2,b3,b4,b5,b6,b7,b8,b9,c0,c1,c2,c3,c4],_=>exact ⟨_,_,_,_,_,_,_,_,_,_,_,_,_,_,_,_,_,_,_,_,_,_,_,_,_,rfl⟩
theorem rB_eq (a c:List W64) (ha:a.length=25):rB a c 25=kB a ((List.range 5).map (kD c)) 25:=by
 obtain ⟨a0,a1,a2,a3,a4,a5,a6,a7,a8,a9,b0,b1,b2,b3,b4,b5,b6,b7,b8,b9,c0,c1,c2,c3,c4,rfl⟩:=list25 ha
 kernel_rfl
theorem rE_eq (b:List W64) (hb:b.length=25):rE b 25=(List.range 25).map (kE b):=by
 obtain ⟨a0,a1,a2,a3,a4,a5,a6,a7,a8,a9,b0,b1,b2,b3,b4,b5,b6,b7,b8,b9,c0,c1,c2,c3,c4,rfl⟩:=list25 hb
 kernel_rfl
/-- what a round's last step turns -/
def lastL:List W64:=[0x1,0x8082,0x800000000000808a,0x8000000080008000,0x808b,0x80000001,0x8000000080008081,0x8000000000008009,0x8a,0x88,0x80008009,0x8000000a,
 0x8000808b,0x800000000000008b,0x8000000000008089,0x8000000000008003,0x8000000000008002,0x8000000000000080,0x800a,0x800000008000000a,0x8000000080008081,0x8000000000008080,0x80000001,0x8000000080008008]
def mixK (a:List W64):Nat→List W64
 | 0=>a
 | k+1=>roundK (mixK a k) (lastL.getD k 0)
theorem mixK_len (a:List W64) (h:a.length=25) (k:Nat):(mixK a k).length=25:=by
 cases k with
 | zero=>exact h
 | succ k=>exact roundK_len _ _
/-- the tables, as they are made -/
def xyK:Nat→Nat×Nat
 | 0=>(1,0)
 | t+1=>((xyK t).2,(2 * (xyK t).1+3 * (xyK t).2) % 5)
def byK:Nat→List Nat
 | 0=>List.replicate 25 0
 | t+1=>(byK t).set ((xyK t).1+5 * (xyK t).2) ((t+1) * (t+2) / 2 % 64)
def toK (i:Nat):Nat:=i / 5+5 * ((2 * (i % 5)+3 * (i / 5)) % 5)
theorem byK_len (t:Nat):(byK t).length=25:=by
 induction t with
 | zero=>rfl
 | succ t ih=>simp [byK,ih]
theorem byK_all:byK 24=byL:=by decide +kernel
theorem toK_all:(List.range 25).map toK=toL:=by decide +kernel
theorem xyK_lt (t:Nat):(xyK t).1 < 5∧(xyK t).2 < 5:=by
 induction t with
 | zero=>decide
 | succ t ih=>exact ⟨ih.2,Nat.mod_lt _ (by omega)⟩
/-- the register -/
def regK:Nat→Nat
 | 0=>1
 | k+1=>if 2 * regK k > 255 then (2 * regK k) ^^^ 369 else 2 * regK k
theorem regK_lt (k:Nat):regK k < 256:=by
 induction k with
 | zero=>decide
 | succ k ih =>
  simp only [regK]
  split
  ·have:∀ n,n < 256→2 * n > 255→(2 * n) ^^^ 369 < 256:=by decide +kernel
   exact this _ ih ‹_›
  ·omega
def lastK (i:Nat):Nat→W64
 | 0=>0
 | j+1=>if regK (j+7 * i) % 2=1 then lastK i j ||| (1:W64) <<< (2 ^ j - 1) else lastK i j
theorem lastK_eq:∀ i,i < 24→lastK i 7=lastL.getD i 0:=by decide +kernel
/- Keccak in plain Lean: padding, taking in, the sum; of no program. -/
/-- what is put behind a text, of so many bytes -/
def tailK (n:Nat):Bytes:=((List.replicate n (0:UInt8)).set 0 1).set (n - 1) (((List.replicate n (0:UInt8)).set 0 1).getD (n - 1) 0 ||| 128)
def padN (s:Bytes):Nat:=136 - s.length % 136
def padK (s:Bytes):Bytes:=s ++ tailK (padN s)
theorem tailK_len (n:Nat):(tailK n).length=n:=by simp [tailK]
theorem padN_lt (s:Bytes):1≤padN s∧padN s≤136:=by unfold padN;omega
theorem padK_len (s:Bytes):(padK s).length=136 * (s.length / 136+1):=by
 rw [padK,List.length_append,tailK_len,padN];omega
/-- the first bytes of a word, the lowest first -/
def byteW (l:Bytes) (k:Nat):W64:=BitVec.ofNat 64 (l.getD k 0).toNat <<< (8 * k)
def wpart (l:Bytes):Nat→W64
 | 0=>0
 | k+1=>wpart l k ^^^ byteW l k
/-- a block is taken in -/
def xorK (a:List W64) (b:Bytes) (i:Nat):W64:=a.getD i 0 ^^^ wpart (b.drop (8 * i)) 8
def takeK (a:List W64) (b:Bytes):List W64:=tab 25 (xorK a b) (fun i=>a.getD i 0) 17
def absK (p:Bytes):Nat→List W64
 | 0=>List.replicate 25 0
 | j+1=>mixK (takeK (absK p j) (p.drop (136 * j))) 24
theorem takeK_len (a:List W64) (b:Bytes):(takeK a b).length=25:=tab_len _ _ _ _
theorem absK_len (p:Bytes) (j:Nat):(absK p j).length=25:=by
 cases j with
 | zero=>rfl
 | succ j=>exact mixK_len _ (takeK_len _ _) _
theorem set_same {α:Type} (l:List α) (i:Nat) (d:α):l.set i (l.getD i d)=l:=by
 apply List.ext_getElem?
 intro j
 rw [List.getElem?_set]
 split
 ·rename_i h;subst h
  split
  ·rename_i h;simp [List.getD_eq_getElem?_getD,h]
  ·rename_i h;rw [List.getElem?_eq_none (by omega)]
 ·rfl
/-- the words of a block of which so many, and so many bytes of the next one, are taken in -/
def midK (a:List W64) (b:Bytes) (i k:Nat):List W64:=(tab 25 (xorK a b) (fun i=>a.getD i 0) i).set i (a.getD i 0 ^^^ wpart (b.drop (8 * i)) k)
theorem midK_zero (a:List W64) (b:Bytes) (i:Nat) (hi:i < 25):midK a b i 0=tab 25 (xorK a b) (fun i=>a.getD i 0) i:=by
 have h:=set_same (tab 25 (xorK a b) (fun i=>a.getD i 0) i) i 0
 have e:(tab 25 (xorK a b) (fun i=>a.getD i 0) i).getD i 0=a.getD i 0:=by
  rw [List.getD_eq_getElem?_getD,tab_get hi];simp
 rw [e] at h
 unfold midK
 rw [wpart,show a.getD i 0 ^^^ (0:W64)=a.getD i 0 from BitVec.xor_zero]
 exact h
theorem midK_all (a:List W64) (b:Bytes) (i:Nat):midK a b i 8=tab 25 (xorK a b) (fun i=>a.getD i 0) (i+1):=tab_set
theorem midK_len (a:List W64) (b:Bytes) (i k:Nat):(midK a b i k).length=25:=by simp [midK,tab_len]
theorem midK_get (a:List W64) (b:Bytes) (i k:Nat) (hi:i < 25):(midK a b i k).getD i 0=a.getD i 0 ^^^ wpart (b.drop (8 * i)) k:=by
 unfold midK
 rw [List.getD_eq_getElem?_getD,List.getElem?_set]
 simp [tab_len,hi]
theorem midK_set (a:List W64) (b:Bytes) (i k:Nat):(midK a b i k).set i (a.getD i 0 ^^^ wpart (b.drop (8 * i)) k ^^^ byteW (b.drop (8 * i)) k)=midK a b i (k+1):=by
 unfold midK
 rw [List.set_set,wpart,BitVec.xor_assoc]
/-- the bytes that come out -/
def outK (a:List W64) (i:Nat):UInt8:=UInt8.ofNat ((a.getD (i / 8) 0 >>> (8 * (i % 8))).toNat % 256)
def sumK (s:Bytes):Bytes:=(List.range 32).map (outK (absK (padK s) (s.length / 136+1)))
theorem sumK_len (s:Bytes):(sumK s).length=32:=by simp [sumK]
/-- the number of bytes, the lowest first -/
def numL:Bytes→Nat
 | []=>0
 | c :: l=>c.toNat+256 * numL l
theorem xor_hi (x y k:Nat) (hx:x < 2 ^ k):x ^^^ (y * 2 ^ k)=x+y * 2 ^ k:=by
 have h1:=Nat.two_pow_add_eq_or_of_lt hx y
 rw [Nat.mul_comm,Nat.add_comm] at h1
 rw [h1]
 apply Nat.eq_of_testBit_eq
 intro i
 rw [Nat.testBit_xor,Nat.testBit_or,Nat.mul_comm,Nat.testBit_two_pow_mul]
 by_cases hi:k≤i
 ·rw [Nat.testBit_lt_two_pow (Nat.lt_of_lt_of_le hx (Nat.pow_le_pow_right (by omega) hi))];simp
 ·simp [hi]
theorem numL_take_succ (l:Bytes):∀ k,k < l.length→numL (l.take (k+1))=numL (l.take k)+(l.getD k 0).toNat * 2 ^ (8 * k):=by
 induction l with
 | nil=>intro k h;simp at h
 | cons c l ih =>
  intro k h
  cases k with
  | zero=>simp [numL]
  | succ k =>
   have:=ih k (by simpa using h)
   simp only [List.take_succ_cons,numL,this,List.getD_cons_succ]
   rw [Nat.mul_add,show 8 * (k+1)=8+8 * k by omega,Nat.pow_add,Nat.mul_left_comm 256,show (2:Nat) ^ 8=256 from rfl]
   omega
theorem numL_lt (l:Bytes):numL l < 2 ^ (8 * l.length):=by
 induction l with
 | nil=>simp [numL]
 | cons c l ih =>
  have:=c.toNat_lt
  rw [numL,List.length_cons,show 8 * (l.length+1)=8 * l.length+8 by omega,Nat.pow_add]
  omega
theorem wpart_num (l:Bytes):∀ k,k≤8→k≤l.length→(wpart l k).toNat=numL (l.take k):=by
 intro k
 induction k with
 | zero=>intro _ _;simp [wpart,numL]
 | succ k ih =>
  intro h8 hl
  have h1:=ih (by omega) (by omega)
  have h2:=numL_take_succ l k (by omega)
  have h3:=numL_lt (l.take k)
  rw [List.length_take,Nat.min_eq_left (by omega)] at h3
  have hc:=(l.getD k 0).toNat_lt
  have hp:(l.getD k 0).toNat * 2 ^ (8 * k) < 2 ^ 64:=by
   have h5:2 ^ (8 * k)≤2 ^ 56:=Nat.pow_le_pow_right (by omega) (by omega)
   calc (l.getD k 0).toNat * 2 ^ (8 * k)≤(l.getD k 0).toNat * 2 ^ 56:=Nat.mul_le_mul_left _ h5
    _ < 2 ^ 64:=by omega
  have hb:(byteW l k).toNat=(l.getD k 0).toNat * 2 ^ (8 * k):=by
   unfold byteW
   rw [BitVec.toNat_shiftLeft,BitVec.toNat_ofNat,Nat.shiftLeft_eq,Nat.mod_eq_of_lt (a:=(l.getD k 0).toNat) (by omega),Nat.mod_eq_of_lt hp]
  rw [wpart,BitVec.toNat_xor,h1,hb,xor_hi _ _ _ h3,h2]
theorem wpart_eq (l:Bytes) (h:l.length=8):wpart l 8=BitVec.ofNat 64 (numL l):=by
 apply BitVec.eq_of_toNat_eq
 have h1:=wpart_num l 8 (Nat.le_refl _) (by omega)
 have h2:=numL_lt l
 rw [h] at h2
 rw [h1,BitVec.toNat_ofNat,List.take_of_length_le (by omega),Nat.mod_eq_of_lt (by omega)]
theorem byteW_get {q:Bytes} {i k:Nat} {c:UInt8} (h:q[8 * i+k]? = some c):byteW (q.drop (8 * i)) k=BitVec.ofNat 64 c.toNat <<< (8 * k):=by
 unfold byteW
 rw [List.getD_eq_getElem?_getD,List.getElem?_drop,h];rfl
theorem wpart_take (l:Bytes) (k:Nat) (n:Nat) (h:k≤n):wpart (l.take n) k=wpart l k:=by
 induction k with
 | zero=>rfl
 | succ k ih =>
  rw [wpart,wpart,ih (by omega)]
  congr 1
  unfold byteW
  rw [List.getD_eq_getElem?_getD,List.getD_eq_getElem?_getD,List.getElem?_take,if_pos (by omega)]
/-- the reference's padding -/
theorem tailK_ref (n:Nat) (h:1≤n):tailK n=(1 :: List.replicate (n - 1) (0:UInt8)).set (n - 1) ((1 :: List.replicate (n - 1) (0:UInt8)).getD (n - 1) 0+128):=by
 obtain ⟨m,rfl⟩:∃ m,n=m+1:=⟨n - 1,by omega⟩
 unfold tailK
 simp only [List.replicate_succ,List.set_cons_zero,Nat.add_sub_cancel]
 congr 1
 cases m with
 | zero=>rfl
 | succ m =>
  rw [List.getD_cons_succ]
  have:(List.replicate (m+1) (0:UInt8)).getD m 0=0:=by simp [List.getD_eq_getElem?_getD]
  rw [this];rfl
/- Tries in plain Lean: nodes of pairs, what nodes are told by, the sum; of no program. -/
def leafIt (s:Bytes):Item:=.mk false s []
def listIt (l:List Item):Item:=.mk true [] l
/- Tries in plain Lean: how long and how deep a node's item is; of no program. -/
theorem leaf_len (b:Bytes) (h:b.length < 65536):(writeP (leafIt b)).length≤b.length+3:=by
 unfold leafIt
 simp only [writeP]
 split
 ·omega
 ·rw [List.length_append];have:=headP_len_le 128 b.length h;omega
theorem leaf_len55 (b:Bytes) (h:b.length≤55):(writeP (leafIt b)).length≤b.length+1:=by
 unfold leafIt
 simp only [writeP]
 split
 ·omega
 ·rw [List.length_append];unfold headP;rw [if_pos h];simp;omega
theorem list_len (l:List Item):(writeP (listIt l)).length=(headP 192 (writesP l).length).length+(writesP l).length:=by
 unfold listIt;rw [writeP,List.length_append]
theorem list_pure (l:List Item):pureP (listIt l)=puresP l:=by unfold listIt;simp [pureP]
theorem list_depth (l:List Item):depthP (listIt l)=depthsP l+1:=by unfold listIt;simp [depthP]
theorem pures_iff (l:List Item):puresP l=true↔∀ x∈l,pureP x=true:=by
 induction l with
 | nil=>simp [puresP]
 | cons k l ih=>simp [puresP,ih]
theorem depths_le (l:List Item) (d:Nat):depthsP l≤d↔∀ x∈l,depthP x≤d:=by
 induction l with
 | nil=>simp [depthsP]
 | cons k l ih=>simp only [depthsP,List.mem_cons,forall_eq_or_imp,← ih];omega
theorem writes_le (l:List Item) (n:Nat) (h:∀ x∈l,(writeP x).length≤n):(writesP l).length≤n * l.length:=by
 induction l with
 | nil=>simp [writesP]
 | cons k l ih =>
  have:=h k (by simp)
  have:=ih (fun x hx=>h x (by simp [hx]))
  simp only [writesP,List.length_append,List.length_cons,Nat.mul_add];omega
/- Records in plain Lean: forms of plain kinds and of lists of these, fields, what they are as items; of no program. -/
/-- a kind: its sign, and whether it is a list of such -/
structure Kd where
 c:UInt8
 star:Bool
/-- n, h, a, s, b -/
def okC (c:UInt8):Prop:=c=110∨c=104∨c=97∨c=115∨c=98
def Kd.txt (k:Kd):Bytes:=if k.star then [42,k.c] else [k.c]
def formP:List Kd→Bytes
 | []=>[]
 | k :: ks=>k.txt ++ formP ks
def OkForm (ks:List Kd):Prop:=∀ k∈ks,okC k.c
theorem txt_len (k:Kd):1≤k.txt.length∧k.txt.length≤2:=by unfold Kd.txt;split <;> simp
theorem formP_append (a b:List Kd):formP (a ++ b)=formP a ++ formP b:=by
 induction a with
 | nil=>rfl
 | cons k a ih=>simp [formP,ih]
theorem formP_len (ks:List Kd):ks.length≤(formP ks).length∧(formP ks).length≤2 * ks.length:=by
 induction ks with
 | nil=>simp [formP]
 | cons k ks ih=>have:=txt_len k;simp [formP];omega
/-- a number and bytes; with fields of these -/
abbrev Lf:=Nat×Bytes
structure Fd where
 n:Nat
 b:Bytes
 l:List Lf
def sizeC (c:UInt8):Nat:=if c=104 then 32 else if c=97 then 20 else 65
/-- does a plain field fit a plain kind? -/
def fitC (c:UInt8) (f:Lf):Bool:=if c=110 then f.2.isEmpty else if c=98 then f.1 == 0 && decide (f.2.length≤64) else f.1 == 0 && f.2.length == sizeC c
def fitF (k:Kd) (f:Fd):Bool:=if k.star then f.n == 0 && f.b.isEmpty && decide (f.l.length≤40) && f.l.all (fitC k.c) else f.l.isEmpty && fitC k.c (f.n,f.b)
def fitsP:List Kd→List Fd→Bool
 | [],[]=>true
 | k :: ks,f :: fs=>fitF k f && fitsP ks fs
 | _,_=>false
def lfI (c:UInt8) (f:Lf):Item:=leafIt (if c=110 then digs f.1 else f.2)
def itemF (k:Kd) (f:Fd):Item:=if k.star then listIt (f.l.map (lfI k.c)) else lfI k.c (f.n,f.b)
def itemsF:List Kd→List Fd→List Item
 | k :: ks,f :: fs=>itemF k f :: itemsF ks fs
 | _,_=>[]
def recF (ks:List Kd) (fs:List Fd):Item:=listIt (itemsF ks fs)
/-- numbers of 64 bits -/
def smallF (fs:List Fd):Prop:=∀ f∈fs,f.n < 18446744073709551616∧∀ x∈f.l,x.1 < 18446744073709551616
theorem fitsP_len {ks:List Kd} {fs:List Fd} (h:fitsP ks fs=true):ks.length=fs.length:=by
 induction ks generalizing fs with
 | nil=>cases fs with
  | nil=>rfl
  | cons f fs=>simp [fitsP] at h
 | cons k ks ih=>cases fs with
  | nil=>simp [fitsP] at h
  | cons f fs=>simp [fitsP] at h;simp [ih h.2]
theorem fitC_len {c:UInt8} {f:Lf} (h:fitC c f=true) (hn:f.1 < 18446744073709551616):(writeP (lfI c f)).length≤68:=by
 unfold fitC at h
 unfold lfI
 split
 ·have:=digs_len_lt 8 f.1 (by omega)
  have:=leaf_len55 (digs f.1) (by omega)
  omega
 ·rename_i hc
  rw [if_neg hc] at h
  have:f.2.length≤65:=by
   split at h
   ·simp at h;omega
   ·simp at h;rw [h.2];unfold sizeC;split
    ·omega
    ·split <;> omega
  have:=leaf_len f.2 (by omega)
  omega
theorem fitF_len {k:Kd} {f:Fd} (h:fitF k f=true) (hn:f.n < 18446744073709551616∧∀ x∈f.l,x.1 < 18446744073709551616):(writeP (itemF k f)).length≤2730∧pureP (itemF k f)=true∧depthP (itemF k f)≤1∧countP (itemF k f)≤41:=by
 unfold fitF at h
 unfold itemF
 split
 ·rename_i hs
  rw [if_pos hs] at h
  simp only [Bool.and_eq_true,decide_eq_true_eq,List.all_eq_true] at h
  obtain ⟨⟨⟨_,_⟩,hl⟩,hall⟩:=h
  have hw:=writes_le (f.l.map (lfI k.c)) 68 (fun x hx=>by
   obtain ⟨y,hy,rfl⟩:=List.mem_map.1 hx
   exact fitC_len (hall y hy) (hn.2 y hy))
  rw [List.length_map] at hw
  have hh:=headP_len_le 192 _ (show (writesP (f.l.map (lfI k.c))).length < 65536 by omega)
  refine ⟨by rw [list_len];omega,?_,?_,?_⟩
  ·rw [list_pure,pures_iff];intro x hx;obtain ⟨y,_,rfl⟩:=List.mem_map.1 hx;rfl
  ·rw [list_depth]
   have:depthsP (f.l.map (lfI k.c))≤0:=(depths_le _ _).2 (fun x hx=>by obtain ⟨y,_,rfl⟩:=List.mem_map.1 hx;exact Nat.le_refl _)
   omega
  ·have:∀ l:List Lf,countsP (l.map (lfI k.c))=l.length:=fun l=>by
    induction l with
    | nil=>rfl
    | cons a l ih=>rw [List.map_cons,countsP,ih];simp [lfI,leafIt,countP,countsP];omega
   show 1+countsP _≤41
   rw [this];omega
 ·rename_i hs
  rw [if_neg hs] at h
  simp only [Bool.and_eq_true] at h
  exact ⟨by have:=fitC_len h.2 hn.1;omega,rfl,Nat.zero_le _,by show 1+0≤41;omega⟩
theorem rec_fine {ks:List Kd} {fs:List Fd} (h:fitsP ks fs=true) (hn:smallF fs) (hk:ks.length≤20) :
  (writeP (recF ks fs)).length≤60000∧pureP (recF ks fs)=true∧depthP (recF ks fs)≤2∧countP (recF ks fs)≤900:=by
 have key:∀ (ks:List Kd) (fs:List Fd),fitsP ks fs=true→smallF fs→(writesP (itemsF ks fs)).length≤2730 * ks.length∧puresP (itemsF ks fs)=true∧depthsP (itemsF ks fs)≤1∧countsP (itemsF ks fs)≤41 * ks.length:=by
  intro ks
  induction ks with
  | nil=>intro fs _ _;simp [itemsF,writesP,puresP,depthsP,countsP]
  | cons k ks ih =>
   intro fs h hn
   cases fs with
   | nil=>simp [fitsP] at h
   | cons f fs =>
    simp [fitsP] at h
    obtain ⟨i1,i2,i3,i4⟩:=ih fs h.2 (fun x hx=>hn x (by simp [hx]))
    obtain ⟨j1,j2,j3,j4⟩:=fitF_len h.1 (hn f (by simp))
    simp only [itemsF,writesP,puresP,depthsP,countsP,List.length_append,List.length_cons,Nat.mul_add]
    refine ⟨by omega,by rw [j2,i2];rfl,by omega,by omega⟩
 obtain ⟨h1,h2,h3,h4⟩:=key ks fs h hn
 have hh:=headP_len_le 192 _ (show (writesP (itemsF ks fs)).length < 65536 by omega)
 unfold recF
 refine ⟨by rw [list_len];omega,by rw [list_pure];exact h2,by rw [list_depth];omega,?_⟩
 show 1+countsP _≤_
 omega
/- Records read back, in plain Lean: fields out of items, and that they are the only ones; of no program. -/
/-- a number's item, read -/
def valQ (x:Item):Option Nat:=if x.l=true∨0 < x.ks.length∨8 < x.b.length∨digs (num x.b)≠x.b then none else some (num x.b)
/-- a plain field out of an item -/
def unLf (c:UInt8) (x:Item):Option Lf:=if c=110 then (valQ x).map fun n=>(n,[]) else if x.l=true then none else some (0,x.b)
def unLfs (c:UInt8):List Item→Option (List Lf)
 | []=>some []
 | x :: xs=>match unLf c x,unLfs c xs with
  | some f,some r=>some (f :: r)
  | _,_=>none
def unF (k:Kd) (x:Item):Option Fd:=if k.star=true then (if x.l=true then (unLfs k.c x.ks).map fun l=>⟨0,[],l⟩ else none) else (unLf k.c x).map fun f=>⟨f.1,f.2,[]⟩
def unFs:List Kd→List Item→Option (List Fd)
 | [],[]=>some []
 | k :: ks,x :: xs=>match unF k x,unFs ks xs with
  | some f,some r=>some (f :: r)
  | _,_=>none
 | _,_=>none
def unTop (ks:List Kd) (x:Item):Option (List Fd):=if x.l=true then unFs ks x.ks else none
theorem leafIt_eta {x:Item} (hp:pureP x=true) (hl:x.l=false):x=leafIt x.b:=by
 cases x with
 | mk l b ks =>
  simp only [Item.l] at hl
  subst hl
  simp [pureP] at hp
  simp only [Item.b,leafIt]
  rw [hp.1]
theorem listIt_eta {x:Item} (hp:pureP x=true) (hl:x.l=true):x=listIt x.ks:=by
 cases x with
 | mk l b ks =>
  simp only [Item.l] at hl
  subst hl
  simp [pureP] at hp
  simp only [Item.ks,listIt]
  rw [hp.1]
theorem pure_kids {x:Item} (hp:pureP x=true):puresP x.ks=true:=by
 cases x with
 | mk l b ks=>simp only [pureP,Bool.and_eq_true] at hp;exact hp.2
theorem valQ_some {x:Item} {n:Nat} (hp:pureP x=true) (h:valQ x=some n):x=leafIt (digs n)∧n < 18446744073709551616:=by
 unfold valQ at h
 split at h
 ·cases h
 ·rename_i hn
  simp only [not_or] at hn
  obtain ⟨h1,h2,h3,h4⟩:=hn
  injection h with h
  subst h
  have h4:=Decidable.not_not.1 h4
  refine ⟨?_,?_⟩
  ·rw [h4];exact leafIt_eta hp (by simpa using h1)
  ·have:=num_lt x.b
   have h5:(256:Nat) ^ x.b.length≤256 ^ 8:=Nat.pow_le_pow_right (by decide) (by omega)
   have h6:(256:Nat) ^ 8=18446744073709551616:=by decide
   omega
theorem valQ_digs {n:Nat} (h:n < 18446744073709551616):valQ (leafIt (digs n))=some n:=by
 have:=digs_len_lt 8 n (by omega)
 unfold valQ
 rw [if_neg]
 ·show some (num (digs n))=_;rw [num_digs]
 ·simp only [not_or]
  refine ⟨by simp [leafIt,Item.l],by simp [leafIt,Item.ks],by show ¬ 8 < (digs n).length;omega,?_⟩
  show ¬ digs (num (digs n))≠digs n
  rw [num_digs];simp
theorem unLf_some {c:UInt8} {x:Item} {f:Lf} (hp:pureP x=true) (h:unLf c x=some f):x=lfI c f∧f.1 < 18446744073709551616:=by
 unfold unLf at h
 unfold lfI
 split at h
 ·rename_i hc
  cases hv:valQ x with
  | none=>rw [hv] at h;cases h
  | some n =>
   rw [hv] at h
   injection h with h
   subst h
   rw [if_pos hc]
   exact valQ_some hp hv
 ·rename_i hc
  split at h
  ·cases h
  ·rename_i hl
   injection h with h
   subst h
   rw [if_neg hc]
   exact ⟨leafIt_eta hp (by simpa using hl),by show (0:Nat) < _;omega⟩
theorem unLf_fit {c:UInt8} {f:Lf} (hf:fitC c f=true) (hn:f.1 < 18446744073709551616):unLf c (lfI c f)=some f:=by
 obtain ⟨n,b⟩:=f
 unfold fitC at hf
 unfold unLf lfI
 split
 ·rename_i hc
  rw [if_pos hc] at hf
  simp at hf
  subst hf
  show Option.map _ (valQ (leafIt (digs n)))=_
  rw [valQ_digs hn];rfl
 ·rename_i hc
  rw [if_neg hc] at hf
  have:n=0:=by split at hf <;> (simp at hf;exact hf.1)
  subst this
  rfl
theorem unLfs_some {c:UInt8}:∀ {xs:List Item} {l:List Lf},puresP xs=true→unLfs c xs=some l→xs=l.map (lfI c)∧∀ f∈l,f.1 < 18446744073709551616
 | [],l,_,h=>by
  simp [unLfs] at h;subst h;exact ⟨rfl,fun f hf=>by cases hf⟩
 | x :: xs,l,hp,h=>by
  simp only [puresP,Bool.and_eq_true] at hp
  rw [unLfs] at h
  split at h
  ·rename_i f r hf hr
   injection h with h
   subst h
   obtain ⟨a1,a2⟩:=unLf_some hp.1 hf
   obtain ⟨b1,b2⟩:=unLfs_some hp.2 hr
   refine ⟨by rw [List.map_cons,← a1,← b1],fun g hg=>?_⟩
   rcases List.mem_cons.1 hg with rfl | hg
   ·exact a2
   ·exact b2 g hg
  ·cases h
theorem unLfs_fit {c:UInt8}:∀ {l:List Lf},(∀ f∈l,fitC c f=true)→(∀ f∈l,f.1 < 18446744073709551616)→unLfs c (l.map (lfI c))=some l
 | [],_,_=>rfl
 | f :: l,hf,hn=>by
  rw [List.map_cons,unLfs,unLf_fit (hf f (by simp)) (hn f (by simp)),unLfs_fit (fun g hg=>hf g (by simp [hg])) (fun g hg=>hn g (by simp [hg]))]
theorem unF_some {k:Kd} {x:Item} {f:Fd} (hp:pureP x=true) (h:unF k x=some f):x=itemF k f∧f.n < 18446744073709551616∧∀ y∈f.l,y.1 < 18446744073709551616:=by
 unfold unF at h
 unfold itemF
 split at h
 ·rename_i hs
  rw [if_pos hs]
  split at h
  ·rename_i hl
   cases hv:unLfs k.c x.ks with
   | none=>rw [hv] at h;cases h
   | some l =>
    rw [hv] at h
    injection h with h
    subst h
    obtain ⟨a1,a2⟩:=unLfs_some (pure_kids hp) hv
    exact ⟨(listIt_eta hp hl).trans (by rw [a1]),by show (0:Nat) < _;omega,a2⟩
  ·cases h
 ·rename_i hs
  rw [if_neg hs]
  cases hv:unLf k.c x with
  | none=>rw [hv] at h;cases h
  | some l =>
   rw [hv] at h
   injection h with h
   subst h
   obtain ⟨a1,a2⟩:=unLf_some hp hv
   exact ⟨a1,a2,fun y hy=>by cases hy⟩
theorem unF_fit {k:Kd} {f:Fd} (hf:fitF k f=true) (hn:f.n < 18446744073709551616∧∀ y∈f.l,y.1 < 18446744073709551616):unF k (itemF k f)=some f:=by
 obtain ⟨n,b,l⟩:=f
 unfold fitF at hf
 unfold unF itemF
 split
 ·rename_i hs
  rw [if_pos hs] at hf
  simp only [Bool.and_eq_true,decide_eq_true_eq,List.all_eq_true] at hf
  obtain ⟨⟨⟨h1,h2⟩,_⟩,h3⟩:=hf
  have h1:n=0:=by simpa using h1
  have h2:b = []:=by simpa using h2
  subst h1;subst h2
  show (unLfs k.c (l.map (lfI k.c))).map _=_
  rw [unLfs_fit h3 hn.2];rfl
 ·rename_i hs
  rw [if_neg hs] at hf
  simp only [Bool.and_eq_true] at hf
  have h1:l = []:=by simpa using hf.1
  subst h1
  show Option.map _ (unLf k.c (lfI k.c (n,b)))=_
  rw [unLf_fit hf.2 hn.1];rfl
theorem unFs_some:∀ {ks:List Kd} {xs:List Item} {l:List Fd},puresP xs=true→unFs ks xs=some l→xs=itemsF ks l∧smallF l∧l.length=ks.length
 | [],[],l,_,h=>by
  simp [unFs] at h;subst h;exact ⟨rfl,fun f hf=>absurd hf List.not_mem_nil,rfl⟩
 | [],x :: xs,l,_,h=>by simp [unFs] at h
 | k :: ks,[],l,_,h=>by simp [unFs] at h
 | k :: ks,x :: xs,l,hp,h=>by
  simp only [puresP,Bool.and_eq_true] at hp
  rw [unFs] at h
  split at h
  ·rename_i f r hf hr
   injection h with h
   subst h
   obtain ⟨a1,a2⟩:=unF_some hp.1 hf
   obtain ⟨b1,b2,b3⟩:=unFs_some hp.2 hr
   refine ⟨by rw [itemsF,← a1,← b1],fun g hg=>?_,by simp [b3]⟩
   rcases List.mem_cons.1 hg with rfl | hg
   ·exact a2
   ·exact b2 g hg
  ·cases h
theorem unFs_fit:∀ {ks:List Kd} {l:List Fd},fitsP ks l=true→smallF l→unFs ks (itemsF ks l)=some l
 | [],[],_,_=>rfl
 | [],f :: l,h,_=>by simp [fitsP] at h
 | k :: ks,[],h,_=>by simp [fitsP] at h
 | k :: ks,f :: l,h,hn=>by
  simp only [fitsP,Bool.and_eq_true] at h
  rw [itemsF,unFs,unF_fit h.1 (hn f (by simp)),unFs_fit h.2 (fun g hg=>hn g (by simp [hg]))]
theorem unTop_some {ks:List Kd} {x:Item} {l:List Fd} (hp:pureP x=true) (h:unTop ks x=some l):x=recF ks l∧smallF l∧l.length=ks.length:=by
 unfold unTop at h
 split at h
 ·rename_i hl
  obtain ⟨a,b,c⟩:=unFs_some (pure_kids hp) h
  refine ⟨(listIt_eta hp hl).trans ?_,b,c⟩
  unfold recF;rw [a]
 ·cases h
theorem unTop_fit {ks:List Kd} {l:List Fd} (h:fitsP ks l=true) (hn:smallF l):unTop ks (recF ks l)=some l:=by
 unfold unTop recF
 rw [if_pos (by rfl)]
 exact unFs_fit h hn
/-- two records of a form with the same bytes -/
theorem rec_inj {ks:List Kd} {l m:List Fd} (hk:ks.length≤20) (h:fitsP ks l=true) (hn:smallF l) (h':fitsP ks m=true) (hn':smallF m) (e:writeP (recF ks l)=writeP (recF ks m)):l=m:=by
 obtain ⟨a1,a2,_,_⟩:=rec_fine h hn hk
 obtain ⟨b1,b2,_,_⟩:=rec_fine h' hn' hk
 have:=(writeP_inj _ _ [] [] a2 b2 (by omega) (by omega) (by rw [e])).1
 have h1:=unTop_fit h hn
 rw [this,unTop_fit h' hn'] at h1
 injection h1 with h1
 exact h1.symm
/-- what reading a record says of a text -/
def FrSaid (ks:List Kd) (s:Bytes) (l:List Fd) (no:Nat):Prop :=
 (no=0∧fitsP ks l=true∧smallF l∧s=writeP (recF ks l)∧s.length≤4000) ∨
 (0 < no∧l = []∧(s.length≤4000→∀ m,fitsP ks m=true→smallF m→s≠writeP (recF ks m)))
end Go.Proofs.YtjanaholcjkceaaGreat
