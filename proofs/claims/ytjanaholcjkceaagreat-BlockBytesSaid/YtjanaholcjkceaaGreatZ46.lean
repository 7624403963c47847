/- Numbers in digits of 16 bits, the lowest first: what they are worth; of no program. -/
import Derived.Test.YtjanaholcjkceaaGreatZ06
namespace Go.Proofs.YtjanaholcjkceaaGreat
set_option linter.unusedVariables false
set_option linter.unusedSimpArgs false
def valD:List Nat→Nat
 | []=>0
 | d :: l=>d+65536 * valD l
def okDg (l:List Nat):Prop:=∀ d∈l,d < 65536
theorem okDg_cons {d:Nat} {l:List Nat} (h:okDg (d :: l)):d < 65536∧okDg l:=⟨h d (by simp),fun x hx=>h x (by simp [hx])⟩
theorem okDg_get {l:List Nat} (h:okDg l) (i:Nat):l.getD i 0 < 65536:=by
 rw [List.getD_eq_getElem?_getD]
 cases hi:l[i]? with
 | none=>decide
 | some x=>exact h x (List.mem_of_getElem? hi)
theorem valD_lt:∀ {l:List Nat},okDg l→valD l < 65536 ^ l.length
 | [],_=>by simp [valD]
 | d :: l,h=>by
  obtain ⟨h1,h2⟩:=okDg_cons h
  have:=valD_lt h2
  rw [valD,List.length_cons,Nat.pow_succ]
  omega
theorem valD_append (a b:List Nat):valD (a ++ b)=valD a+65536 ^ a.length * valD b:=by
 induction a with
 | nil=>simp [valD]
 | cons d a ih =>
  rw [List.cons_append,valD,valD,ih,List.length_cons,Nat.pow_succ,Nat.mul_add,Nat.add_assoc,Nat.mul_comm (65536 ^ a.length) 65536,Nat.mul_assoc]
theorem valD_drop (l:List Nat) (i:Nat):valD (l.drop i)=l.getD i 0+65536 * valD (l.drop (i+1)):=by
 by_cases h:i < l.length
 ·rw [List.drop_eq_getElem_cons h,valD,List.getD_eq_getElem?_getD,List.getElem?_eq_getElem h];rfl
 ·rw [List.drop_of_length_le (by omega),List.drop_of_length_le (by omega),List.getD_eq_getElem?_getD,List.getElem?_eq_none (by omega)];rfl
theorem valD_take (l:List Nat) (i:Nat):valD (l.take (i+1))=valD (l.take i)+65536 ^ i * l.getD i 0:=by
 by_cases h:i < l.length
 ·rw [List.take_succ_eq_append_getElem h,valD_append,List.length_take,Nat.min_eq_left (by omega),List.getD_eq_getElem?_getD,List.getElem?_eq_getElem h]
  simp [valD]
 ·rw [List.take_of_length_le (by omega),List.take_of_length_le (by omega),List.getD_eq_getElem?_getD,List.getElem?_eq_none (by omega)];simp
theorem valD_split (l:List Nat) (i:Nat):valD l=valD (l.take i)+65536 ^ i * valD (l.drop i):=by
 by_cases h:i≤l.length
 ·conv=>lhs;rw [← List.take_append_drop i l]
  rw [valD_append,List.length_take,Nat.min_eq_left h]
 ·rw [List.take_of_length_le (by omega),List.drop_of_length_le (by omega)];simp [valD]
theorem valD_zeros (n:Nat):valD (List.replicate n 0)=0:=by
 induction n with
 | zero=>rfl
 | succ n ih=>rw [List.replicate_succ,valD,ih]
theorem okDg_take {l:List Nat} (h:okDg l) (i:Nat):okDg (l.take i):=fun x hx=>h x (List.mem_of_mem_take hx)
theorem valD_set {l:List Nat} {i:Nat} (h:i < l.length) (v:Nat):valD (l.set i v)+65536 ^ i * l.getD i 0=valD l+65536 ^ i * v:=by
 induction l generalizing i with
 | nil=>simp at h
 | cons d l ih =>
  cases i with
  | zero=>simp [valD];omega
  | succ i =>
   have:=ih (i:=i) (by simpa using h)
   rw [List.set_cons_succ,valD,valD,List.getD_cons_succ,Nat.pow_succ]
   have e1:65536 ^ i * 65536 * l.getD i 0=65536 * (65536 ^ i * l.getD i 0):=by rw [Nat.mul_comm (65536 ^ i) 65536,Nat.mul_assoc]
   have e2:65536 ^ i * 65536 * v=65536 * (65536 ^ i * v):=by rw [Nat.mul_comm (65536 ^ i) 65536,Nat.mul_assoc]
   rw [e1,e2]
   omega
/-- a word's digit -/
def dgW (w k:Nat):Nat:=w / 2 ^ (16 * k) % 65536
def ofD (x:U4):List Nat:=(List.range 16).map fun i=>dgW (x.word (i / 4)) (i % 4)
theorem ofD_len (x:U4):(ofD x).length=16:=by simp [ofD]
theorem ofD_ok (x:U4):okDg (ofD x):=fun d hd=>by
 obtain ⟨i,_,rfl⟩:=List.mem_map.1 hd
 exact Nat.mod_lt _ (by decide)
theorem dgW_val {w:Nat} (h:w < 18446744073709551616) (r:Nat):dgW w 0+65536 * (dgW w 1+65536 * (dgW w 2+65536 * (dgW w 3+65536 * r)))=w+18446744073709551616 * r:=by
 unfold dgW
 simp only [Nat.mul_zero,Nat.pow_zero,Nat.div_one,Nat.mul_one,Nat.reduceMul,Nat.reducePow]
 omega
theorem ofD_val {x:U4} (h:x.Wf):valD (ofD x)=x.val:=by
 obtain ⟨ha,hb,hc,hd⟩:=h
 have e:ofD x = [dgW x.a 0,dgW x.a 1,dgW x.a 2,dgW x.a 3,dgW x.b 0,dgW x.b 1,dgW x.b 2,dgW x.b 3,dgW x.c 0,dgW x.c 1,dgW x.c 2,dgW x.c 3,dgW x.d 0,dgW x.d 1,dgW x.d 2,dgW x.d 3]:=rfl
 rw [e]
 simp only [valD]
 have h4:=dgW_val hd 0
 simp only [Nat.mul_zero,Nat.add_zero] at h4 ⊢
 rw [h4,dgW_val hc,dgW_val hb,dgW_val ha]
 rfl
/-- the number of a row's lowest 16 digits, word by word -/
def wdD (l:List Nat) (j:Nat):Nat:=((l.getD (4 * j+3) 0 * 65536+l.getD (4 * j+2) 0) * 65536+l.getD (4 * j+1) 0) * 65536+l.getD (4 * j) 0
def toD (l:List Nat):U4:=⟨wdD l 0,wdD l 1,wdD l 2,wdD l 3⟩
theorem wdD_lt {l:List Nat} (h:okDg l) (j:Nat):wdD l j < 18446744073709551616:=by
 have h0:=okDg_get h (4 * j)
 have h1:=okDg_get h (4 * j+1)
 have h2:=okDg_get h (4 * j+2)
 have h3:=okDg_get h (4 * j+3)
 unfold wdD;omega
theorem wdD_drop (l:List Nat) (j:Nat):valD (l.drop (4 * j))=wdD l j+18446744073709551616 * valD (l.drop (4 * (j+1))):=by
 rw [valD_drop,valD_drop l (4 * j+1),valD_drop l (4 * j+1+1),valD_drop l (4 * j+1+1+1)]
 unfold wdD
 rw [show 4 * j+1+1+1=4 * j+3 by omega,show 4 * j+1+1=4 * j+2 by omega,show 4 * j+3+1=4 * (j+1) by omega]
 omega
theorem toD_of {l:List Nat} (h:okDg l):toD l=U4.of (valD l):=by
 have e0:=wdD_drop l 0
 have e1:=wdD_drop l 1
 have e2:=wdD_drop l 2
 have e3:=wdD_drop l 3
 simp only [Nat.mul_zero,List.drop_zero,Nat.zero_add,Nat.mul_one,Nat.reduceMul,Nat.reduceAdd] at e0 e1 e2 e3
 have l0:=wdD_lt h 0
 have l1:=wdD_lt h 1
 have l2:=wdD_lt h 2
 have l3:=wdD_lt h 3
 unfold toD U4.of
 rw [e0,e1,e2,e3]
 generalize wdD l 0=w0 at *
 generalize wdD l 1=w1 at *
 generalize wdD l 2=w2 at *
 generalize wdD l 3=w3 at *
 generalize valD (List.drop 16 l)=r
 simp only [U4.mk.injEq]
 refine ⟨by omega,by omega,by omega,by omega⟩
/-- the loop of To: behind the digits from k on -/
def stD (l:List Nat):Nat→List Nat
 | 0=>[0,0,0,0]
 | n+1=>(stD l n).set ((15 - n) / 4) (((stD l n).getD ((15 - n) / 4) 0 * 65536+l.getD (15 - n) 0))
theorem stD_len (l:List Nat):∀ n,(stD l n).length=4
 | 0=>rfl
 | n+1=>by rw [stD,List.length_set,stD_len l n]
theorem stD_all (l:List Nat):stD l 16 = [wdD l 0,wdD l 1,wdD l 2,wdD l 3]:=by
 simp [stD,wdD]
theorem stD_small {l:List Nat} (h:okDg l):∀ n,n < 16→(stD l n).getD ((15 - n) / 4) 0 < 281474976710656
 | 0,_=>by simp [stD]
 | 1,_=>by have:=okDg_get h 15;simp [stD];simp only [List.getD_eq_getElem?_getD] at *;omega
 | 2,_=>by have:=okDg_get h 15;have:=okDg_get h 14;simp [stD];simp only [List.getD_eq_getElem?_getD] at *;omega
 | 3,_=>by have:=okDg_get h 15;have:=okDg_get h 14;have:=okDg_get h 13;simp [stD];simp only [List.getD_eq_getElem?_getD] at *;omega
 | 4,_=>by simp [stD]
 | 5,_=>by have:=okDg_get h 11;simp [stD];simp only [List.getD_eq_getElem?_getD] at *;omega
 | 6,_=>by have:=okDg_get h 11;have:=okDg_get h 10;simp [stD];simp only [List.getD_eq_getElem?_getD] at *;omega
 | 7,_=>by have:=okDg_get h 11;have:=okDg_get h 10;have:=okDg_get h 9;simp [stD];simp only [List.getD_eq_getElem?_getD] at *;omega
 | 8,_=>by simp [stD]
 | 9,_=>by have:=okDg_get h 7;simp [stD];simp only [List.getD_eq_getElem?_getD] at *;omega
 | 10,_=>by have:=okDg_get h 7;have:=okDg_get h 6;simp [stD];simp only [List.getD_eq_getElem?_getD] at *;omega
 | 11,_=>by have:=okDg_get h 7;have:=okDg_get h 6;have:=okDg_get h 5;simp [stD];simp only [List.getD_eq_getElem?_getD] at *;omega
 | 12,_=>by simp [stD]
 | 13,_=>by have:=okDg_get h 3;simp [stD];simp only [List.getD_eq_getElem?_getD] at *;omega
 | 14,_=>by have:=okDg_get h 3;have:=okDg_get h 2;simp [stD];simp only [List.getD_eq_getElem?_getD] at *;omega
 | 15,_=>by have:=okDg_get h 3;have:=okDg_get h 2;have:=okDg_get h 1;simp [stD];simp only [List.getD_eq_getElem?_getD] at *;omega
 | n+16,h=>by omega
/-- a sum's carry ahead of digit i, and its digits -/
def cyD (a b:List Nat):Nat→Nat
 | 0=>0
 | i+1=>(a.getD i 0+b.getD i 0+cyD a b i) / 65536
def smD (a b:List Nat) (n:Nat):List Nat:=(List.range n).map fun i=>(a.getD i 0+b.getD i 0+cyD a b i) % 65536
theorem smD_len (a b:List Nat) (n:Nat):(smD a b n).length=n:=by simp [smD]
theorem smD_succ (a b:List Nat) (n:Nat):smD a b (n+1)=smD a b n ++ [(a.getD n 0+b.getD n 0+cyD a b n) % 65536]:=by simp [smD,List.range_succ]
theorem smD_ok (a b:List Nat) (n:Nat):okDg (smD a b n):=fun d hd=>by
 obtain ⟨i,_,rfl⟩:=List.mem_map.1 hd
 exact Nat.mod_lt _ (by decide)
theorem cyD_le {a b:List Nat} (ha:okDg a) (hb:okDg b):∀ i,cyD a b i≤1
 | 0=>by simp [cyD]
 | i+1=>by
  have:=cyD_le ha hb i
  have:=okDg_get ha i
  have:=okDg_get hb i
  rw [cyD];omega
theorem smD_val (a b:List Nat):∀ i,valD (smD a b i)+65536 ^ i * cyD a b i=valD (a.take i)+valD (b.take i)
 | 0=>by simp [smD,cyD,valD]
 | i+1=>by
  have ih:=smD_val a b i
  rw [smD_succ,valD_append,smD_len,valD_take,valD_take,cyD,Nat.pow_succ]
  simp only [valD,Nat.mul_zero,Nat.add_zero]
  obtain ⟨n,hn⟩:∃ n,a.getD i 0+b.getD i 0+cyD a b i=n:=⟨_,rfl⟩
  rw [hn]
  have e1:65536 ^ i * (n % 65536)+65536 ^ i * 65536 * (n / 65536)=65536 ^ i * n:=by rw [Nat.mul_assoc,← Nat.mul_add,Nat.mod_add_div]
  have e2:65536 ^ i * n=65536 ^ i * a.getD i 0+65536 ^ i * b.getD i 0+65536 ^ i * cyD a b i:=by rw [← hn,Nat.mul_add,Nat.mul_add]
  omega
theorem cyD_end {a b:List Nat} (ha:okDg a) (hb:okDg b) {n:Nat} (h1:a.length≤n) (h2:b.length≤n):cyD a b (n+1)=0:=by
 have:=cyD_le ha hb n
 rw [cyD,List.getD_eq_getElem?_getD,List.getElem?_eq_none (by omega),List.getD_eq_getElem?_getD,List.getElem?_eq_none (by omega)]
 show (0+0+cyD a b n) / 65536=0
 omega
theorem smD_all {a b:List Nat} {n:Nat} (h1:a.length≤n) (h2:b.length≤n) (h:cyD a b n=0):valD (smD a b n)=valD a+valD b:=by
 have:=smD_val a b n
 rw [h,List.take_of_length_le h1,List.take_of_length_le h2] at this
 omega
/-- from the top: the first digits that are not the same tell -/
theorem lessD {a b:List Nat} (ha:okDg a) (hb:okDg b) {i:Nat} (he:∀ j,i < j→a.getD j 0=b.getD j 0) (h:a.getD i 0≠b.getD i 0):(a.getD i 0 < b.getD i 0)↔valD a < valD b:=by
 have hd:∀ n j,i < j→a.length+b.length≤n+j→valD (a.drop j)=valD (b.drop j):=fun n=>by
  induction n with
  | zero=>intro j hj hn;rw [List.drop_of_length_le (by omega),List.drop_of_length_le (by omega)]
  | succ n ih =>
   intro j hj hn
   rw [valD_drop a j,valD_drop b j,he j hj,ih (j+1) (by omega) (by omega)]
 have h1:=hd (a.length+b.length) (i+1) (by omega) (by omega)
 have sa:=valD_split a i
 have sb:=valD_split b i
 rw [valD_drop] at sa sb
 rw [h1] at sa
 have la:=valD_lt (okDg_take ha i)
 have lb:=valD_lt (okDg_take hb i)
 have pa:65536 ^ (a.take i).length≤65536 ^ i:=Nat.pow_le_pow_right (by decide) (by rw [List.length_take];omega)
 have pb:65536 ^ (b.take i).length≤65536 ^ i:=Nat.pow_le_pow_right (by decide) (by rw [List.length_take];omega)
 generalize 65536 ^ i=P at *
 rw [Nat.mul_add] at sa sb
 constructor
 ·intro hl
  have:P * (a.getD i 0+1)≤P * b.getD i 0:=Nat.mul_le_mul_left _ hl
  rw [Nat.mul_add,Nat.mul_one] at this
  omega
 ·intro hl
  rcases Nat.lt_or_gt_of_ne h with h | h
  ·exact h
  ·have:P * (b.getD i 0+1)≤P * a.getD i 0:=Nat.mul_le_mul_left _ h
   rw [Nat.mul_add,Nat.mul_one] at this
   omega
theorem sameD {a b:List Nat} (he:∀ j,a.getD j 0=b.getD j 0):valD a=valD b:=by
 have hd:∀ n j,a.length+b.length≤n+j→valD (a.drop j)=valD (b.drop j):=fun n=>by
  induction n with
  | zero=>intro j hn;rw [List.drop_of_length_le (by omega),List.drop_of_length_le (by omega)]
  | succ n ih =>
   intro j hn
   rw [valD_drop a j,valD_drop b j,he j,ih (j+1) (by omega)]
 have:=hd (a.length+b.length) 0 (by omega)
 simpa using this
/-- one step of a product -/
theorem mul_step {P S V T x ab n cr q r vL vL':Nat} (h1:vL+cr * P=V+S) (h2:vL'+P * x=vL+P * r) (hn:n=x+ab+cr) (hr:r+65536 * q=n):vL'+q * (P * 65536)=V+(S+P * ab):=by
 have e1:P * r+q * (P * 65536)=P * n:=by rw [← hr,Nat.mul_add,Nat.mul_comm q,Nat.mul_assoc]
 have e2:P * n=P * x+P * ab+P * cr:=by rw [hn,Nat.mul_add,Nat.mul_add]
 rw [Nat.mul_comm cr P] at h1
 omega
/- A product in digits, step by step; of no program. -/
structure TmInv (a b:List Nat) (i:Nat) (L:List Nat):Prop where
 ok:okDg L
 len:L.length=a.length+b.length+1
 val:valD L=valD (a.take i) * valD b
 zero:∀ j,i+b.length≤j→L.getD j 0=0
structure TmIn (a b:List Nat) (i k cy:Nat) (L:List Nat):Prop where
 ok:okDg L
 len:L.length=a.length+b.length+1
 val:valD L+cy * 65536 ^ (i+k)=valD (a.take i) * valD b+65536 ^ i * (a.getD i 0 * valD (b.take k))
 cr:cy < 65536
 kl:k≤b.length+1
 last:k=b.length+1→cy=0
 zero:k≤b.length→∀ j,i+b.length≤j→L.getD j 0=0
 zero':∀ j,i+1+b.length≤j→L.getD j 0=0
theorem getD_set {l:List Nat} {i j v:Nat}:(l.set i v).getD j 0=if i=j∧i < l.length then v else l.getD j 0:=by
 rw [List.getD_eq_getElem?_getD,List.getD_eq_getElem?_getD,List.getElem?_set]
 by_cases h:i=j
 ·subst h
  by_cases h2:i < l.length
  ·simp [h2]
  ·simp [h2]
 ·simp [h]
theorem tm_zero (a b:List Nat):TmInv a b 0 (List.replicate (a.length+b.length+1) 0) where
 ok:=fun d hd=>by rw [List.eq_of_mem_replicate hd];decide
 len:=List.length_replicate
 val:=by rw [valD_zeros,List.take_zero,valD,Nat.zero_mul]
 zero:=fun j _=>by
  rw [List.getD_eq_getElem?_getD,List.getElem?_replicate]
  split <;> rfl
theorem tm_start {a b:List Nat} {i:Nat} {L:List Nat} (h:TmInv a b i L):TmIn a b i 0 0 L where
 ok:=h.ok
 len:=h.len
 val:=by rw [h.val];simp [valD]
 cr:=by decide
 kl:=Nat.zero_le _
 last:=fun _=>rfl
 zero:=fun _=>h.zero
 zero':=fun j hj=>h.zero j (by omega)
theorem tm_step {a b:List Nat} {i k cr:Nat} {L:List Nat} (ha:okDg a) (hb:okDg b) (h:TmIn a b i k cr L) (hc:k < b.length∨0 < cr) (hi:i < a.length) :
  i+k < L.length∧k≤b.length∧L.getD (i+k) 0 < 65536∧a.getD i 0 * b.getD k 0≤4294836225∧TmIn a b i (k+1) ((L.getD (i+k) 0+a.getD i 0 * b.getD k 0+cr) / 65536) (L.set (i+k) ((L.getD (i+k) 0+a.getD i 0 * b.getD k 0+cr) % 65536)):=by
 have hk:k≤b.length:=by
  have:=h.kl
  rcases Nat.lt_or_ge b.length k with hl | hl
  ·have:=h.last (by omega);omega
  ·exact hl
 have hik:i+k < L.length:=by rw [h.len];omega
 have hx:=okDg_get h.ok (i+k)
 have h1:=okDg_get ha i
 have h2:=okDg_get hb k
 have hcr:=h.cr
 have hab:a.getD i 0 * b.getD k 0≤4294836225:=by
  have:=Nat.mul_le_mul (show a.getD i 0≤65535 by omega) (show b.getD k 0≤65535 by omega)
  omega
 obtain ⟨n,hn⟩:∃ n,L.getD (i+k) 0+a.getD i 0 * b.getD k 0+cr=n:=⟨_,rfl⟩
 rw [hn]
 refine ⟨hik,hk,hx,hab,⟨?_,?_,?_,?_,by omega,?_,?_,?_⟩⟩
 ·intro d hd
  rcases List.mem_or_eq_of_mem_set hd with hd | rfl
  ·exact h.ok d hd
  ·exact Nat.mod_lt _ (by decide)
 ·rw [List.length_set];exact h.len
 ·have hv:=valD_set hik (n % 65536)
  have:=mul_step (T:=0) (P:=65536 ^ (i+k)) h.val hv hn.symm (r:=n % 65536) (q:=n / 65536) (Nat.mod_add_div _ _)
  rw [show i+(k+1)=(i+k)+1 by omega,Nat.pow_succ,this,valD_take,Nat.mul_add,Nat.mul_add,Nat.pow_add,Nat.mul_assoc]
  congr 2
  ac_rfl
 ·omega
 ·intro hl
  have h0:L.getD (i+k) 0=0:=h.zero hk _ (by omega)
  have hb0:b.getD k 0=0:=by rw [List.getD_eq_getElem?_getD,List.getElem?_eq_none (by omega)];rfl
  rw [h0,hb0,Nat.mul_zero] at hn
  omega
 ·intro hl j hj
  rw [getD_set,if_neg (by omega)]
  exact h.zero (by omega) j hj
 ·intro j hj
  rw [getD_set,if_neg (by omega)]
  exact h.zero' j hj
theorem tm_end {a b:List Nat} {i k cr:Nat} {L:List Nat} (h:TmIn a b i k cr L) (hk:b.length≤k) (hc:cr=0):TmInv a b (i+1) L where
 ok:=h.ok
 len:=h.len
 val:=by
  have:=h.val
  rw [hc,Nat.zero_mul,Nat.add_zero,List.take_of_length_le hk] at this
  rw [this,valD_take,Nat.add_mul,Nat.mul_assoc]
 zero:=fun j hj=>h.zero' j (by omega)
theorem tm_fin {a b:List Nat} {L:List Nat} (h:TmInv a b a.length L):valD L=valD a * valD b:=by
 rw [h.val,List.take_of_length_le qn]
end Go.Proofs.YtjanaholcjkceaaGreat
