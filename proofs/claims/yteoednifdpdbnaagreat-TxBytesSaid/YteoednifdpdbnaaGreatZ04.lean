/- Signatures, transfers, headers and blocks in plain Lean: which may be, their bytes, and back; of no program. -/
import Derived.Test.YteoednifdpdbnaaGreatZ02
import Derived.Test.YteoednifdpdbnaaGreatZ03
import Derived.Lib.Bytealg
namespace Go.Proofs.YteoednifdpdbnaaGreat
set_option linter.unusedVariables false
set_option linter.unusedSimpArgs false
theorem qig:(0:Nat) < 18446744073709551616:=by decide
/-- a signature -/
structure Sg where
 r:U4
 s:U4
 v:Int
deriving DecidableEq
structure Sg.Wf (x:Sg):Prop where
 r:x.r.Wf
 s:x.s.Wf
 v0:-9223372036854775808≤x.v
 v1:x.v≤9223372036854775807
def ordN:Nat:=115792089237316195423570985008687907852837564279074904382605163141518161494337
def insideN (a:U4):Bool:=decide (0 < a.val) && decide (a.val < ordN)
def highN (a:U4):Bool:=decide (ordN < 2 * a.val)
def okSg (x:Sg):Bool:=insideN x.r && insideN x.s && !highN x.s && (x.v == 0 || x.v == 1)
def zeroU:U4:=⟨0,0,0,0⟩
def zeroSg:Sg:=⟨zeroU,zeroU,0⟩
theorem qfx:zeroU.Wf:=⟨by decide,by decide,by decide,by decide⟩
theorem quw:zeroSg.Wf:=⟨qfx,qfx,by decide,by decide⟩
theorem qsu:okSg zeroSg=false:=by decide
/-- a number's 32 bytes -/
def uB (x:U4):Bytes:=bytesOf 32 x.val
theorem qd9 (x:U4):(uB x).length=32:=qfo _ _
def sgB (x:Sg):Bytes:=uB x.r ++ uB x.s ++ [UInt8.ofNat (x.v % 256).toNat]
theorem qnf (x:Sg):(sgB x).length=65:=by simp [sgB,qd9]
def uOf (s:Bytes):U4:=U4.of (natOf s)
theorem qjy (s:Bytes):(uOf s).Wf:=U4.of_wf _
def sgOf (s:Bytes):Sg:=⟨uOf (s.take 32),uOf ((s.drop 32).take 32),((s.getD 64 0).toNat:Int)⟩
theorem sgOf_wf (s:Bytes):(sgOf s).Wf:=⟨qjy _,qjy _,by have:=(s.getD 64 0).toNat_lt;simp only [sgOf];omega,by have:=(s.getD 64 0).toNat_lt;simp only [sgOf];omega⟩
theorem p256:(256:Nat) ^ 32=two256:=by decide
theorem uOf_uB {x:U4} (h:x.Wf):uOf (uB x)=x:=by
 unfold uOf uB
 rw [qiq,p256,Nat.mod_eq_of_lt (U4.val_lt h),U4.of_val h]
theorem uB_uOf {s:Bytes} (h:s.length=32):uB (uOf s)=s:=by
 have h1:=qfr s
 rw [h,p256] at h1
 unfold uB uOf
 rw [U4.val_of h1,← h,qhy]
theorem qo3 {x:Sg} (h:okSg x=true):x.v=0∨x.v=1:=by
 unfold okSg at h
 simp only [Bool.and_eq_true,Bool.or_eq_true,beq_iff_eq] at h
 exact h.2
theorem sgOf_sgB {x:Sg} (h:x.Wf) (hk:okSg x=true):sgOf (sgB x)=x:=by
 obtain ⟨r,s,v⟩:=x
 have hv:=qo3 hk
 simp only [] at hv
 have l1:(uB r).length=32:=qd9 r
 have l2:(uB s).length=32:=qd9 s
 unfold sgOf sgB
 simp only []
 have e1:(uB r ++ uB s ++ [UInt8.ofNat (v % 256).toNat]).take 32=uB r:=by
  rw [List.append_assoc,List.take_append_of_le_length (by omega),List.take_of_length_le (by omega)]
 have e2:((uB r ++ uB s ++ [UInt8.ofNat (v % 256).toNat]).drop 32).take 32=uB s:=by
  rw [List.append_assoc,List.drop_append,l1,Nat.sub_self,List.drop_of_length_le (by omega),List.drop_zero,List.nil_append,List.take_append_of_le_length (by omega),List.take_of_length_le (by omega)]
 have e3:(uB r ++ uB s ++ [UInt8.ofNat (v % 256).toNat]).getD 64 0=UInt8.ofNat (v % 256).toNat:=by
  rw [List.getD_eq_getElem?_getD,List.getElem?_append_right (by rw [List.length_append,l1,l2];decide),List.length_append,l1,l2];rfl
 rw [e1,e2,e3,uOf_uB h.r,uOf_uB h.s]
 rcases hv with rfl | rfl <;> rfl
theorem sgB_sgOf {s:Bytes} (h:s.length=65) (hk:okSg (sgOf s)=true):sgB (sgOf s)=s:=by
 have hv:=qo3 hk
 simp only [sgOf] at hv
 unfold sgB sgOf
 simp only []
 rw [uB_uOf (by rw [List.length_take];omega),uB_uOf (by rw [List.length_take,List.length_drop];omega)]
 have hc:(UInt8.ofNat (((s.getD 64 0).toNat:Int) % 256).toNat)=s.getD 64 0:=by
  have h1:(((s.getD 64 0).toNat:Int) % 256).toNat=(s.getD 64 0).toNat:=by omega
  rw [h1];simp
 rw [hc]
 have h1:s.drop 64 = [s.getD 64 0]:=by
  rw [List.drop_eq_getElem_cons (by omega),List.drop_of_length_le (by omega),List.getD_eq_getElem?_getD,List.getElem?_eq_getElem (by omega)];rfl
 rw [List.append_assoc,← h1,show s.drop 64=(s.drop 32).drop 32 by rw [List.drop_drop],List.take_append_drop,List.take_append_drop]
/-- a transfer -/
structure Tr where
 to:Bytes
 am:Nat
 no:Nat
 sg:Sg
deriving DecidableEq
structure Tr.Wf (t:Tr):Prop where
 am:t.am < 18446744073709551616
 no:t.no < 18446744073709551616
 sg:t.sg.Wf
def okTr (t:Tr):Bool:=t.to.length == 20 && okSg t.sg
def zeroTr:Tr:=⟨[],0,0,zeroSg⟩
def trK:List Kd:=[⟨97,false⟩,⟨110,false⟩,⟨110,false⟩,⟨115,false⟩]
theorem qn9:OkForm trK:=by
 intro k hk
 simp only [trK,List.mem_cons,List.not_mem_nil,or_false] at hk
 rcases hk with rfl | rfl | rfl | rfl <;> simp [okC]
def trF (t:Tr):List Fd:=[⟨0,t.to,[]⟩,⟨t.am,[],[]⟩,⟨t.no,[],[]⟩,⟨0,sgB t.sg,[]⟩]
def trB (t:Tr):Bytes:=writeP (recF trK (trF t))
theorem qdf {t:Tr} (h:okTr t=true):fitsP trK (trF t)=true:=by
 unfold okTr at h
 simp only [Bool.and_eq_true,beq_iff_eq] at h
 simp [fitsP,trK,trF,fitF,fitC,sizeC,qnf,h.1]
theorem qcy {t:Tr} (h:t.Wf):smallF (trF t):=by
 intro f hf
 simp only [trF,List.mem_cons,List.not_mem_nil,or_false] at hf
 rcases hf with rfl | rfl | rfl | rfl
 ·exact ⟨qig,fun x hx=>by cases hx⟩
 ·exact ⟨h.am,fun x hx=>by cases hx⟩
 ·exact ⟨h.no,fun x hx=>by cases hx⟩
 ·exact ⟨qig,fun x hx=>by cases hx⟩
theorem qg7 {n:Nat} (h:n < 18446744073709551616):(writeP (leafIt (digs n))).length≤9:=by
 have:=qbf 8 n (by omega)
 have:=qdj (digs n) (by omega)
 omega
theorem qh5 {t:Tr} (h:okTr t=true) (hw:t.Wf):(trB t).length≤120:=by
 unfold okTr at h
 simp only [Bool.and_eq_true,beq_iff_eq] at h
 have h1:=qdj t.to (by omega)
 have h2:=qg7 hw.am
 have h3:=qg7 hw.no
 have h4:=qo7 (sgB t.sg) (by rw [qnf];decide)
 rw [qnf] at h4
 have hl:(writesP (itemsF trK (trF t))).length=(writeP (leafIt t.to)).length+((writeP (leafIt (digs t.am))).length+((writeP (leafIt (digs t.no))).length+((writeP (leafIt (sgB t.sg))).length+0))):=by
  simp only [trK,trF,itemsF,itemF,lfI,writesP,List.length_append,List.length_nil]
  rfl
 unfold trB recF
 rw [qg6]
 have:=qb4 192 (writesP (itemsF trK (trF t))).length (by omega)
 omega
def trOf (l:List Fd):Tr:=⟨(l.getD 0 ⟨0,[],[]⟩).b,(l.getD 1 ⟨0,[],[]⟩).n,(l.getD 2 ⟨0,[],[]⟩).n,sgOf (l.getD 3 ⟨0,[],[]⟩).b⟩
theorem qky {t:Tr} (h:okTr t=true) (hw:t.Wf):trOf (trF t)=t:=by
 unfold okTr at h
 simp only [Bool.and_eq_true,beq_iff_eq] at h
 obtain ⟨to,am,no,sg⟩:=t
 simp only [trOf,trF,List.getD_cons_zero,List.getD_cons_succ,Tr.mk.injEq,true_and]
 exact sgOf_sgB hw.sg h.2
/-- fields that fit a transfer's form -/
theorem qu0 {l:List Fd} (h:fitsP trK l=true) (hn:smallF l):∃ (b:Bytes) (x y:Nat) (g:Bytes),l = [⟨0,b,[]⟩,⟨x,[],[]⟩,⟨y,[],[]⟩,⟨0,g,[]⟩]∧b.length=20∧g.length=65∧x < 18446744073709551616∧y < 18446744073709551616:=by
 have hl:=qen h
 match l,hl with
 | [f0,f1,f2,f3],_ =>
  obtain ⟨n0,b0,l0⟩:=f0
  obtain ⟨n1,b1,l1⟩:=f1
  obtain ⟨n2,b2,l2⟩:=f2
  obtain ⟨n3,b3,l3⟩:=f3
  simp [fitsP,trK,fitF,fitC,sizeC] at h
  obtain ⟨⟨rfl,rfl,h1⟩,⟨rfl,rfl⟩,⟨rfl,rfl⟩,rfl,rfl,h2⟩:=h
  exact ⟨b0,n1,n2,b3,rfl,h1,h2,(hn ⟨n1,[],[]⟩ (by simp)).1,(hn ⟨n2,[],[]⟩ (by simp)).1⟩
/-- what reading a transfer says -/
def TrSaid (s:Bytes) (t:Tr) (no:Nat):Prop:=(no=0∧okTr t=true∧t.Wf∧s=trB t)∨(no=4∧t=zeroTr∧∀ u:Tr,okTr u=true→u.Wf→s≠trB u)
theorem qi1 {s:Bytes} {l:List Fd} {no:Nat} (h:FrSaid trK s l no) (hn:0 < no):TrSaid s zeroTr 4:=by
 rcases h with ⟨rfl,_⟩ | ⟨_,_,h⟩
 ·omega
 ·refine .inr ⟨rfl,rfl,fun u hu hw e=>?_⟩
  have:=qh5 hu hw
  exact h (by rw [e];omega) _ (qdf hu) (qcy hw) e
theorem qh2 {s:Bytes} {l:List Fd} (h:FrSaid trK s l 0):l.length=4∧(l.getD 3 ⟨0,[],[]⟩).b.length=65∧(okSg (sgOf (l.getD 3 ⟨0,[],[]⟩).b)=true→TrSaid s (trOf l) 0)∧(okSg (sgOf (l.getD 3 ⟨0,[],[]⟩).b)=false→TrSaid s zeroTr 4):=by
 rcases h with ⟨_,h1,h2,h3,h4⟩ | ⟨h,_⟩
 ·obtain ⟨b,x,y,g,rfl,hb,hg,hx,hy⟩:=qu0 h1 h2
  refine ⟨rfl,hg,fun hk=>?_,fun hk=>?_⟩
  ·have hk:okSg (sgOf g)=true:=hk
   refine .inl ⟨rfl,?_,⟨hx,hy,sgOf_wf g⟩,?_⟩
   ·show (b.length == 20 && okSg (sgOf g))=true
    rw [hk,hb];rfl
   ·rw [h3]
    unfold trB
    congr 2
    show _=([⟨0,b,[]⟩,⟨x,[],[]⟩,⟨y,[],[]⟩,⟨0,sgB (sgOf g),[]⟩]:List Fd)
    rw [sgB_sgOf hg hk]
  ·have hk:okSg (sgOf g)=false:=hk
   refine .inr ⟨rfl,rfl,fun u hu hw e=>?_⟩
   have:=qrk (by decide) h1 h2 (qdf hu) (qcy hw) (h3.symm.trans e)
   have ho:=qky hu hw
   rw [← this] at ho
   have:sgOf g=u.sg:=by rw [← ho];rfl
   rw [this] at hk
   unfold okTr at hu
   rw [hk] at hu
   simp at hu
 ·omega
theorem trB_inj {t u:Tr} (h:okTr t=true) (hw:t.Wf) (h':okTr u=true) (hw':u.Wf) (e:trB t=trB u):t=u:=by
 have:=qrk (by decide) (qdf h) (qcy hw) (qdf h') (qcy hw') e
 rw [← qky h hw,this,qky h' hw']
abbrev sgR (x:Sg):Array Value:=#[.int .u64 (x.r.a:Int),.int .u64 (x.r.b:Int),.int .u64 (x.r.c:Int),.int .u64 (x.r.d:Int),.int .u64 (x.s.a:Int),.int .u64 (x.s.b:Int),.int .u64 (x.s.c:Int),.int .u64 (x.s.d:Int),.int .i64 x.v]
abbrev trR (t:Tr):Array Value:=#[.string (bs t.to),.int .u64 (t.am:Int),.int .u64 (t.no:Int),.int .u64 (t.sg.r.a:Int),.int .u64 (t.sg.r.b:Int),.int .u64 (t.sg.r.c:Int),.int .u64 (t.sg.r.d:Int),.int .u64 (t.sg.s.a:Int),.int .u64 (t.sg.s.b:Int),.int .u64 (t.sg.s.c:Int),.int .u64 (t.sg.s.d:Int),.int .i64 t.sg.v]
/- Numbers in digits of 16 bits, the lowest first: what they are worth; of no program. -/
def valD:List Nat→Nat
 | []=>0
 | d :: l=>d+65536 * valD l
def okDg (l:List Nat):Prop:=∀ d∈l,d < 65536
theorem qsd {d:Nat} {l:List Nat} (h:okDg (d :: l)):d < 65536∧okDg l:=⟨h d (by simp),fun x hx=>h x (by simp [hx])⟩
theorem qaz {l:List Nat} (h:okDg l) (i:Nat):l.getD i 0 < 65536:=by
 rw [List.getD_eq_getElem?_getD]
 cases hi:l[i]? with
 | none=>decide
 | some x=>exact h x (List.mem_of_getElem? hi)
theorem qks:∀ {l:List Nat},okDg l→valD l < 65536 ^ l.length
 | [],_=>by simp [valD]
 | d :: l,h=>by
  obtain ⟨h1,h2⟩:=qsd h
  have:=qks h2
  rw [valD,List.length_cons,Nat.pow_succ]
  omega
theorem qfe (a b:List Nat):valD (a ++ b)=valD a+65536 ^ a.length * valD b:=by
 induction a with
 | nil=>simp [valD]
 | cons d a ih =>
  rw [List.cons_append,valD,valD,ih,List.length_cons,Nat.pow_succ,Nat.mul_add,Nat.add_assoc,Nat.mul_comm (65536 ^ a.length) 65536,Nat.mul_assoc]
theorem qb8 (l:List Nat) (i:Nat):valD (l.drop i)=l.getD i 0+65536 * valD (l.drop (i+1)):=by
 by_cases h:i < l.length
 ·rw [List.drop_eq_getElem_cons h,valD,List.getD_eq_getElem?_getD,List.getElem?_eq_getElem h];rfl
 ·rw [List.drop_of_length_le (by omega),List.drop_of_length_le (by omega),List.getD_eq_getElem?_getD,List.getElem?_eq_none (by omega)];rfl
theorem qf1 (l:List Nat) (i:Nat):valD (l.take (i+1))=valD (l.take i)+65536 ^ i * l.getD i 0:=by
 by_cases h:i < l.length
 ·rw [List.take_succ_eq_append_getElem h,qfe,List.length_take,Nat.min_eq_left (by omega),List.getD_eq_getElem?_getD,List.getElem?_eq_getElem h]
  simp [valD]
 ·rw [List.take_of_length_le (by omega),List.take_of_length_le (by omega),List.getD_eq_getElem?_getD,List.getElem?_eq_none (by omega)];simp
theorem qge (l:List Nat) (i:Nat):valD l=valD (l.take i)+65536 ^ i * valD (l.drop i):=by
 by_cases h:i≤l.length
 ·conv=>lhs;rw [← List.take_append_drop i l]
  rw [qfe,List.length_take,Nat.min_eq_left h]
 ·rw [List.take_of_length_le (by omega),List.drop_of_length_le (by omega)];simp [valD]
theorem qp6 (n:Nat):valD (List.replicate n 0)=0:=by
 induction n with
 | zero=>rfl
 | succ n ih=>rw [List.replicate_succ,valD,ih]
theorem qhs {l:List Nat} (h:okDg l) (i:Nat):okDg (l.take i):=fun x hx=>h x (List.mem_of_mem_take hx)
theorem valD_set {l:List Nat} {i:Nat} (h:i < l.length) (v:Nat):valD (l.set i v)+65536 ^ i * l.getD i 0=valD l+65536 ^ i * v:=by
 induction l generalizing i with
 | nil=>simp at h
 | cons d l ih =>
  cases i with
  | zero=>simp [valD];omega
  | succ i =>
   have:=ih (i:=i) (by simpa using h)
   rw [List.set_cons_succ,valD,valD,List.getD_cons_succ,Nat.pow_succ]
   have e1:65536 ^ i * 65536 * l.getD i 0=65536 * (65536 ^ i * l.getD i 0):=by rw [Nat.mul_comm (65536 ^ i) 65536,Nat.mul_assoc]
   have e2:65536 ^ i * 65536 * v=65536 * (65536 ^ i * v):=by rw [Nat.mul_comm (65536 ^ i) 65536,Nat.mul_assoc]
   rw [e1,e2]
   omega
/-- a word's digit -/
def dgW (w k:Nat):Nat:=w / 2 ^ (16 * k) % 65536
def ofD (x:U4):List Nat:=(List.range 16).map fun i=>dgW (x.word (i / 4)) (i % 4)
theorem qcb (x:U4):(ofD x).length=16:=by simp [ofD]
theorem qiy (x:U4):okDg (ofD x):=fun d hd=>by
 obtain ⟨i,_,rfl⟩:=List.mem_map.1 hd
 exact Nat.mod_lt _ (by decide)
theorem qj7 {w:Nat} (h:w < 18446744073709551616) (r:Nat):dgW w 0+65536 * (dgW w 1+65536 * (dgW w 2+65536 * (dgW w 3+65536 * r)))=w+18446744073709551616 * r:=by
 unfold dgW
 simp only [Nat.mul_zero,Nat.pow_zero,Nat.div_one,Nat.mul_one,Nat.reduceMul,Nat.reducePow]
 omega
theorem qhz {x:U4} (h:x.Wf):valD (ofD x)=x.val:=by
 obtain ⟨ha,hb,hc,hd⟩:=h
 have e:ofD x = [dgW x.a 0,dgW x.a 1,dgW x.a 2,dgW x.a 3,dgW x.b 0,dgW x.b 1,dgW x.b 2,dgW x.b 3,dgW x.c 0,dgW x.c 1,dgW x.c 2,dgW x.c 3,dgW x.d 0,dgW x.d 1,dgW x.d 2,dgW x.d 3]:=rfl
 rw [e]
 simp only [valD]
 have h4:=qj7 hd 0
 simp only [Nat.mul_zero,Nat.add_zero] at h4 ⊢
 rw [h4,qj7 hc,qj7 hb,qj7 ha]
 rfl
/-- the number of a row's lowest 16 digits, word by word -/
def wdD (l:List Nat) (j:Nat):Nat:=((l.getD (4 * j+3) 0 * 65536+l.getD (4 * j+2) 0) * 65536+l.getD (4 * j+1) 0) * 65536+l.getD (4 * j) 0
def toD (l:List Nat):U4:=⟨wdD l 0,wdD l 1,wdD l 2,wdD l 3⟩
theorem qpb {l:List Nat} (h:okDg l) (j:Nat):wdD l j < 18446744073709551616:=by
 have h0:=qaz h (4 * j)
 have h1:=qaz h (4 * j+1)
 have h2:=qaz h (4 * j+2)
 have h3:=qaz h (4 * j+3)
 unfold wdD;omega
theorem qg5 (l:List Nat) (j:Nat):valD (l.drop (4 * j))=wdD l j+18446744073709551616 * valD (l.drop (4 * (j+1))):=by
 rw [qb8,qb8 l (4 * j+1),qb8 l (4 * j+1+1),qb8 l (4 * j+1+1+1)]
 unfold wdD
 rw [show 4 * j+1+1+1=4 * j+3 by omega,show 4 * j+1+1=4 * j+2 by omega,show 4 * j+3+1=4 * (j+1) by omega]
 omega
theorem toD_of {l:List Nat} (h:okDg l):toD l=U4.of (valD l):=by
 have e0:=qg5 l 0
 have e1:=qg5 l 1
 have e2:=qg5 l 2
 have e3:=qg5 l 3
 simp only [Nat.mul_zero,List.drop_zero,Nat.zero_add,Nat.mul_one,Nat.reduceMul,Nat.reduceAdd] at e0 e1 e2 e3
 have l0:=qpb h 0
 have l1:=qpb h 1
 have l2:=qpb h 2
 have l3:=qpb h 3
 unfold toD U4.of
 rw [e0,e1,e2,e3]
 generalize wdD l 0=w0 at *
 generalize wdD l 1=w1 at *
 generalize wdD l 2=w2 at *
 generalize wdD l 3=w3 at *
 generalize valD (List.drop 16 l)=r
 simp only [U4.mk.injEq]
 refine ⟨by omega,by omega,by omega,by omega⟩
/-- the loop of To: behind the digits from k on -/
def stD (l:List Nat):Nat→List Nat
 | 0=>[0,0,0,0]
 | n+1=>(stD l n).set ((15 - n) / 4) (((stD l n).getD ((15 - n) / 4) 0 * 65536+l.getD (15 - n) 0))
theorem qs3 (l:List Nat):∀ n,(stD l n).length=4
 | 0=>rfl
 | n+1=>by rw [stD,List.length_set,qs3 l n]
theorem stD_all (l:List Nat):stD l 16 = [wdD l 0,wdD l 1,wdD l 2,wdD l 3]:=by
 simp [stD,wdD]
theorem qtq {l:List Nat} (h:okDg l):∀ n,n < 16→(stD l n).getD ((15 - n) / 4) 0 < 281474976710656
 | 0,_=>by simp [stD]
 | 1,_=>by have:=qaz h 15;simp [stD];simp only [List.getD_eq_getElem?_getD] at *;omega
 | 2,_=>by have:=qaz h 15;have:=qaz h 14;simp [stD];simp only [List.getD_eq_getElem?_getD] at *;omega
 | 3,_=>by have:=qaz h 15;have:=qaz h 14;have:=qaz h 13;simp [stD];simp only [List.getD_eq_getElem?_getD] at *;omega
 | 4,_=>by simp [stD]
 | 5,_=>by have:=qaz h 11;simp [stD];simp only [List.getD_eq_getElem?_getD] at *;omega
 | 6,_=>by have:=qaz h 11;have:=qaz h 10;simp [stD];simp only [List.getD_eq_getElem?_getD] at *;omega
 | 7,_=>by have:=qaz h 11;have:=qaz h 10;have:=qaz h 9;simp [stD];simp only [List.getD_eq_getElem?_getD] at *;omega
 | 8,_=>by simp [stD]
 | 9,_=>by have:=qaz h 7;simp [stD];simp only [List.getD_eq_getElem?_getD] at *;omega
 | 10,_=>by have:=qaz h 7;have:=qaz h 6;simp [stD];simp only [List.getD_eq_getElem?_getD] at *;omega
 | 11,_=>by have:=qaz h 7;have:=qaz h 6;have:=qaz h 5;simp [stD];simp only [List.getD_eq_getElem?_getD] at *;omega
 | 12,_=>by simp [stD]
 | 13,_=>by have:=qaz h 3;simp [stD];simp only [List.getD_eq_getElem?_getD] at *;omega
 | 14,_=>by have:=qaz h 3;have:=qaz h 2;simp [stD];simp only [List.getD_eq_getElem?_getD] at *;omega
 | 15,_=>by have:=qaz h 3;have:=qaz h 2;have:=qaz h 1;simp [stD];simp only [List.getD_eq_getElem?_getD] at *;omega
 | n+16,h=>by omega
/-- a sum's carry ahead of digit i, and its digits -/
def cyD (a b:List Nat):Nat→Nat
 | 0=>0
 | i+1=>(a.getD i 0+b.getD i 0+cyD a b i) / 65536
def smD (a b:List Nat) (n:Nat):List Nat:=(List.range n).map fun i=>(a.getD i 0+b.getD i 0+cyD a b i) % 65536
theorem qnd (a b:List Nat) (n:Nat):(smD a b n).length=n:=by simp [smD]
theorem qhb (a b:List Nat) (n:Nat):smD a b (n+1)=smD a b n ++ [(a.getD n 0+b.getD n 0+cyD a b n) % 65536]:=by simp [smD,List.range_succ]
theorem smD_ok (a b:List Nat) (n:Nat):okDg (smD a b n):=fun d hd=>by
 obtain ⟨i,_,rfl⟩:=List.mem_map.1 hd
 exact Nat.mod_lt _ (by decide)
theorem ql9 {a b:List Nat} (ha:okDg a) (hb:okDg b):∀ i,cyD a b i≤1
 | 0=>by simp [cyD]
 | i+1=>by
  have:=ql9 ha hb i
  have:=qaz ha i
  have:=qaz hb i
  rw [cyD];omega
theorem qrq (a b:List Nat):∀ i,valD (smD a b i)+65536 ^ i * cyD a b i=valD (a.take i)+valD (b.take i)
 | 0=>by simp [smD,cyD,valD]
 | i+1=>by
  have ih:=qrq a b i
  rw [qhb,qfe,qnd,qf1,qf1,cyD,Nat.pow_succ]
  simp only [valD,Nat.mul_zero,Nat.add_zero]
  obtain ⟨n,hn⟩:∃ n,a.getD i 0+b.getD i 0+cyD a b i=n:=⟨_,rfl⟩
  rw [hn]
  have e1:65536 ^ i * (n % 65536)+65536 ^ i * 65536 * (n / 65536)=65536 ^ i * n:=by rw [Nat.mul_assoc,← Nat.mul_add,Nat.mod_add_div]
  have e2:65536 ^ i * n=65536 ^ i * a.getD i 0+65536 ^ i * b.getD i 0+65536 ^ i * cyD a b i:=by rw [← hn,Nat.mul_add,Nat.mul_add]
  omega
theorem cyD_end {a b:List Nat} (ha:okDg a) (hb:okDg b) {n:Nat} (h1:a.length≤n) (h2:b.length≤n):cyD a b (n+1)=0:=by
 have:=ql9 ha hb n
 rw [cyD,List.getD_eq_getElem?_getD,List.getElem?_eq_none (by omega),List.getD_eq_getElem?_getD,List.getElem?_eq_none (by omega)]
 show (0+0+cyD a b n) / 65536=0
 omega
theorem smD_all {a b:List Nat} {n:Nat} (h1:a.length≤n) (h2:b.length≤n) (h:cyD a b n=0):valD (smD a b n)=valD a+valD b:=by
 have:=qrq a b n
 rw [h,List.take_of_length_le h1,List.take_of_length_le h2] at this
 omega
/-- from the top: the first digits that are not the same tell -/
theorem lessD {a b:List Nat} (ha:okDg a) (hb:okDg b) {i:Nat} (he:∀ j,i < j→a.getD j 0=b.getD j 0) (h:a.getD i 0≠b.getD i 0):(a.getD i 0 < b.getD i 0)↔valD a < valD b:=by
 have hd:∀ n j,i < j→a.length+b.length≤n+j→valD (a.drop j)=valD (b.drop j):=fun n=>by
  induction n with
  | zero=>intro j hj hn;rw [List.drop_of_length_le (by omega),List.drop_of_length_le (by omega)]
  | succ n ih =>
   intro j hj hn
   rw [qb8 a j,qb8 b j,he j hj,ih (j+1) (by omega) (by omega)]
 have h1:=hd (a.length+b.length) (i+1) (by omega) (by omega)
 have sa:=qge a i
 have sb:=qge b i
 rw [qb8] at sa sb
 rw [h1] at sa
 have la:=qks (qhs ha i)
 have lb:=qks (qhs hb i)
 have pa:65536 ^ (a.take i).length≤65536 ^ i:=Nat.pow_le_pow_right (by decide) (by rw [List.length_take];omega)
 have pb:65536 ^ (b.take i).length≤65536 ^ i:=Nat.pow_le_pow_right (by decide) (by rw [List.length_take];omega)
 generalize 65536 ^ i=P at *
 rw [Nat.mul_add] at sa sb
 constructor
 ·intro hl
  have:P * (a.getD i 0+1)≤P * b.getD i 0:=Nat.mul_le_mul_left _ hl
  rw [Nat.mul_add,Nat.mul_one] at this
  omega
 ·intro hl
  rcases Nat.lt_or_gt_of_ne h with h | h
  ·exact h
  ·have:P * (b.getD i 0+1)≤P * a.getD i 0:=Nat.mul_le_mul_left _ h
   rw [Nat.mul_add,Nat.mul_one] at this
   omega
theorem sameD {a b:List Nat} (he:∀ j,a.getD j 0=b.getD j 0):valD a=valD b:=by
 have hd:∀ n j,a.length+b.length≤n+j→valD (a.drop j)=valD (b.drop j):=fun n=>by
  induction n with
  | zero=>intro j hn;rw [List.drop_of_length_le (by omega),List.drop_of_length_le (by omega)]
  | succ n ih =>
   intro j hn
   rw [qb8 a j,qb8 b j,he j,ih (j+1) (by omega)]
 have:=hd (a.length+b.length) 0 (by omega)
 simpa using this
/-- one step of a product -/
theorem mul_step {P S V T x ab n cr q r vL vL':Nat} (h1:vL+cr * P=V+S) (h2:vL'+P * x=vL+P * r) (hn:n=x+ab+cr) (hr:r+65536 * q=n):vL'+q * (P * 65536)=V+(S+P * ab):=by
 have e1:P * r+q * (P * 65536)=P * n:=by rw [← hr,Nat.mul_add,Nat.mul_comm q,Nat.mul_assoc]
 have e2:P * n=P * x+P * ab+P * cr:=by rw [hn,Nat.mul_add,Nat.mul_add]
 rw [Nat.mul_comm cr P] at h1
 omega
/- Headers and blocks in plain Lean: which may be, their bytes, and back; of no program. -/
/-- a header -/
structure Hd where
 parent:Bytes
 height:Nat
 root:Bytes
 txs:Bytes
 prop:Bytes
 van:Bytes
 vals:List Bytes
 vote:Bytes
 add:Bool
 round:Nat
 seals:List Sg
structure Hd.Wf (h:Hd):Prop where
 height:h.height < 18446744073709551616
 round:h.round < 18446744073709551616
 seals:∀ x∈h.seals,x.Wf
def addN (b:Bool):Nat:=if b then 1 else 0
/-- a block -/
structure Bk where
 hd:Hd
 txs:List Tr
structure Bk.Wf (b:Bk):Prop where
 hd:b.hd.Wf
 txs:∀ t∈b.txs,t.Wf
def sumT (t:Tr):Bytes:=sumK (trB t)
/- A product in digits, step by step; of no program. -/
structure TmInv (a b:List Nat) (i:Nat) (L:List Nat):Prop where
 ok:okDg L
 len:L.length=a.length+b.length+1
 val:valD L=valD (a.take i) * valD b
 zero:∀ j,i+b.length≤j→L.getD j 0=0
structure TmIn (a b:List Nat) (i k cy:Nat) (L:List Nat):Prop where
 ok:okDg L
 len:L.length=a.length+b.length+1
 val:valD L+cy * 65536 ^ (i+k)=valD (a.take i) * valD b+65536 ^ i * (a.getD i 0 * valD (b.take k))
 cr:cy < 65536
 kl:k≤b.length+1
 last:k=b.length+1→cy=0
 zero:k≤b.length→∀ j,i+b.length≤j→L.getD j 0=0
 zero':∀ j,i+1+b.length≤j→L.getD j 0=0
theorem qn4 {l:List Nat} {i j v:Nat}:(l.set i v).getD j 0=if i=j∧i < l.length then v else l.getD j 0:=by
 rw [List.getD_eq_getElem?_getD,List.getD_eq_getElem?_getD,List.getElem?_set]
 by_cases h:i=j
 ·subst h
  by_cases h2:i < l.length
  ·simp [h2]
  ·simp [h2]
 ·simp [h]
theorem tm_zero (a b:List Nat):TmInv a b 0 (List.replicate (a.length+b.length+1) 0) where
 ok:=fun d hd=>by rw [List.eq_of_mem_replicate hd];decide
 len:=List.length_replicate
 val:=by rw [qp6,List.take_zero,valD,Nat.zero_mul]
 zero:=fun j _=>by
  rw [List.getD_eq_getElem?_getD,List.getElem?_replicate]
  split <;> rfl
theorem tm_start {a b:List Nat} {i:Nat} {L:List Nat} (h:TmInv a b i L):TmIn a b i 0 0 L where
 ok:=h.ok
 len:=h.len
 val:=by rw [h.val];simp [valD]
 cr:=by decide
 kl:=Nat.zero_le _
 last:=fun _=>rfl
 zero:=fun _=>h.zero
 zero':=fun j hj=>h.zero j (by omega)
theorem tm_step {a b:List Nat} {i k cr:Nat} {L:List Nat} (ha:okDg a) (hb:okDg b) (h:TmIn a b i k cr L) (hc:k < b.length∨0 < cr) (hi:i < a.length) :
  i+k < L.length∧k≤b.length∧L.getD (i+k) 0 < 65536∧a.getD i 0 * b.getD k 0≤4294836225∧TmIn a b i (k+1) ((L.getD (i+k) 0+a.getD i 0 * b.getD k 0+cr) / 65536) (L.set (i+k) ((L.getD (i+k) 0+a.getD i 0 * b.getD k 0+cr) % 65536)):=by
 have hk:k≤b.length:=by
  have:=h.kl
  rcases Nat.lt_or_ge b.length k with hl | hl
  ·have:=h.last (by omega);omega
  ·exact hl
 have hik:i+k < L.length:=by rw [h.len];omega
 have hx:=qaz h.ok (i+k)
 have h1:=qaz ha i
 have h2:=qaz hb k
 have hcr:=h.cr
 have hab:a.getD i 0 * b.getD k 0≤4294836225:=by
  have:=Nat.mul_le_mul (show a.getD i 0≤65535 by omega) (show b.getD k 0≤65535 by omega)
  omega
 obtain ⟨n,hn⟩:∃ n,L.getD (i+k) 0+a.getD i 0 * b.getD k 0+cr=n:=⟨_,rfl⟩
 rw [hn]
 refine ⟨hik,hk,hx,hab,⟨?_,?_,?_,?_,by omega,?_,?_,?_⟩⟩
 ·intro d hd
  rcases List.mem_or_eq_of_mem_set hd with hd | rfl
  ·exact h.ok d hd
  ·exact Nat.mod_lt _ (by decide)
 ·rw [List.length_set];exact h.len
 ·have hv:=valD_set hik (n % 65536)
  have:=mul_step (T:=0) (P:=65536 ^ (i+k)) h.val hv hn.symm (r:=n % 65536) (q:=n / 65536) (Nat.mod_add_div _ _)
  rw [show i+(k+1)=(i+k)+1 by omega,Nat.pow_succ,this,qf1,Nat.mul_add,Nat.mul_add,Nat.pow_add,Nat.mul_assoc]
  congr 2
  ac_rfl
 ·omega
 ·intro hl
  have h0:L.getD (i+k) 0=0:=h.zero hk _ (by omega)
  have hb0:b.getD k 0=0:=by rw [List.getD_eq_getElem?_getD,List.getElem?_eq_none (by omega)];rfl
  rw [h0,hb0,Nat.mul_zero] at hn
  omega
 ·intro hl j hj
  rw [qn4,if_neg (by omega)]
  exact h.zero (by omega) j hj
 ·intro j hj
  rw [qn4,if_neg (by omega)]
  exact h.zero' j hj
theorem tm_end {a b:List Nat} {i k cr:Nat} {L:List Nat} (h:TmIn a b i k cr L) (hk:b.length≤k) (hc:cr=0):TmInv a b (i+1) L where
 ok:=h.ok
 len:=h.len
 val:=by
  have:=h.val
  rw [hc,Nat.zero_mul,Nat.add_zero,List.take_of_length_le hk] at this
  rw [this,qf1,Nat.add_mul,Nat.mul_assoc]
 zero:=fun j hj=>h.zero' j (by omega)
theorem tm_fin {a b:List Nat} {L:List Nat} (h:TmInv a b a.length L):valD L=valD a * valD b:=by
 rw [h.val,List.take_of_length_le qn]
/- Numbers modulo the curve's two primes in plain Lean; of no program. -/
/-- the curve's prime; the moduli, and by how much each is below 2^256 -/
def priN:Nat:=115792089237316195423570985008687907853269984665640564039457584007908834671663
def modN (k:Nat):Nat:=if k=0 then priN else ordN
def cN (k:Nat):U4:=if k=0 then ⟨4294968273,0,0,0⟩ else ⟨4624529908474429119,4994812053365940164,1,0⟩
theorem quo {k:Nat} (h:k≤1):k=0∨k=1:=by omega
theorem cN_wf (k:Nat):(cN k).Wf:=by
 unfold cN
 split
 ·exact ⟨by decide,by decide,by decide,by decide⟩
 ·exact ⟨by decide,by decide,by decide,by decide⟩
theorem qi9 (k:Nat):(cN k).val+modN k=two256:=by
 unfold cN modN
 split
 ·decide +kernel
 ·decide +kernel
theorem qdg (k:Nat):two256 < 2 * modN k∧modN k < two256:=by
 unfold modN
 split
 ·decide +kernel
 ·decide +kernel
theorem qhe (k:Nat):0 < modN k:=by have:=qdg k;omega
theorem qfk (k v:Nat):v % modN k < two256:=Nat.lt_trans (Nat.mod_lt _ (qhe k)) (qdg k).2
theorem cN_small (k:Nat):0 < (cN k).val∧2 * (cN k).val < two256:=by
 have h1:=qi9 k
 have h2:=qdg k
 omega
theorem qbz:0 < two256:=by decide
/-- one round of folding down: what is left is the same modulo, and less -/
theorem qpo {c m low high l h sum o:Nat} (hcm:c+m=two256) (hm:0 < m) (hh:0 < high) (h1:l+two256 * h=high * c) (h2:sum+two256 * o=low+l) :
  (sum+two256 * (h+o)) % m=(low+two256 * high) % m∧sum+two256 * (h+o) < low+two256 * high:=by
 have e:low+two256 * high=(sum+two256 * (h+o))+m * high:=by
  have h3:two256 * high=high * c+m * high:=by rw [← hcm,Nat.add_mul,Nat.mul_comm c high]
  rw [Nat.mul_add]
  omega
 rw [e]
 refine ⟨(Nat.add_mul_mod_self_left _ _ _).symm,?_⟩
 have:0 < m * high:=Nat.mul_pos hm hh
 omega
theorem qq9 {c low high l h sum o:Nat} (hc:2 * c < two256) (hb:high < two256) (h1:l+two256 * h=high * c) (h2:sum+two256 * o=low+l) (ho:o≤1):h+o < two256:=by
 have h3:high * c≤two256 * c:=Nat.mul_le_mul_right _ (Nat.le_of_lt hb)
 have h4:two256 * h≤two256 * c:=by omega
 have h5:h≤c:=Nat.le_of_mul_le_mul_left h4 qbz
 have h6:4 < two256:=by decide
 omega
/-- the end of folding down -/
theorem qol {k low:Nat} (hl:low < two256) {s o:Nat} (h:s+two256 * o=low+(cN k).val) (hs:s < two256) (ho:o≤1):low % modN k=if o=1 then s else low:=by
 have h1:=qi9 k
 have h2:=qdg k
 split
 ·rename_i e
  subst e
  have:low=s+modN k:=by omega
  rw [this,Nat.add_mod_right,Nat.mod_eq_of_lt (by omega)]
 ·obtain rfl:o=0:=by omega
  rw [Nat.mul_zero,Nat.add_zero] at h
  exact Nat.mod_eq_of_lt (by omega)
/-- the difference of two that are below the modulus -/
theorem qtk {k a b d u:Nat} (ha:a < modN k) (hb:b < modN k) (h:d+b=a+two256 * u) (hd:d < two256) (hu:u≤1):(a+modN k - b) % modN k=if u=1 then d - (cN k).val else d:=by
 have h1:=qi9 k
 have h2:=qdg k
 split
 ·rename_i e
  subst e
  rw [Nat.mod_eq_of_lt (by omega)]
  omega
 ·have:u=0:=by omega
  subst this
  have e:a+modN k - b=d+modN k:=by omega
  rw [e,Nat.add_mod_right,Nat.mod_eq_of_lt (by omega)]
/-- a number by its cells; the rows of U4 by numbers -/
theorem U4.of_zero:U4.of 0=zeroU:=rfl
theorem U4.of_eq {a b:Nat} (ha:a < two256) (hb:b < two256):U4.of a=U4.of b↔a=b:=⟨fun h=>by rw [← U4.val_of ha,← U4.val_of hb,h],fun h=>by rw [h]⟩
/-- what is reckoned -/
def addM (m a b:Nat):Nat:=(a+b) % m
def subM (m a b:Nat):Nat:=(a % m+m - b % m) % m
def mulM (m a b:Nat):Nat:=a * b % m
/-- how many bits a number has -/
def bitsN (n:Nat):Nat:=if n=0 then 0 else n.log2+1
theorem qkd {n:Nat} (h:n < two256):bitsN n≤256:=by
 unfold bitsN
 split
 ·omega
 ·rename_i h0
  have h2:n < 2 ^ 256:=Nat.lt_of_lt_of_eq h (by decide)
  have:n.log2 < 256:=(Nat.log2_lt h0).2 h2
  omega
/-- a power: the bits from the highest one on -/
def powS (m a n:Nat):Nat→Nat→Nat
 | 0,out=>out
 | i+1,out=>powS m a n i (if n.testBit i then mulM m (mulM m out out) a else mulM m out out)
def powM (m a n:Nat):Nat:=powS m a n (bitsN n) 1
def invM (k a:Nat):Nat:=if a % modN k=0 then 0 else powM (modN k) a (modN k - 2)
theorem qsq (k a n:Nat):∀ i out,out < two256→powS (modN k) a n i out < two256
 | 0,_,h=>h
 | i+1,out,h=>by
  rw [powS]
  refine qsq k a n i _ ?_
  split
  ·exact qfk _ _
  ·exact qfk _ _
theorem powM_lt (k a n:Nat):powM (modN k) a n < two256:=qsq _ _ _ _ _ (by decide)
theorem qto (k a:Nat):invM k a < two256:=by
 unfold invM
 split
 ·exact qbz
 ·exact powM_lt _ _ _
theorem qq1 (k a b:Nat):addM (modN k) a b < two256:=qfk _ _
theorem qrv (k a b:Nat):subM (modN k) a b < two256:=qfk _ _
theorem qhv (k a b:Nat):mulM (modN k) a b < two256:=qfk _ _
/- Points of the curve in plain Lean, as the program reckons them; of no program. -/
def mP (a b:Nat):Nat:=mulM (modN 0) a b
def aP (a b:Nat):Nat:=addM (modN 0) a b
def sP (a b:Nat):Nat:=subM (modN 0) a b
theorem mP_lt (a b:Nat):mP a b < two256:=qhv 0 _ _
theorem aP_lt (a b:Nat):aP a b < two256:=qq1 0 _ _
theorem sP_lt (a b:Nat):sP a b < two256:=qrv 0 _ _
/-- a point; one whose numbers are divided by the square and the cube of a third one -/
structure Pt where
 x:Nat
 y:Nat
 o:Bool
deriving DecidableEq
structure Wp where
 x:Nat
 y:Nat
 o:Bool
 z:Nat
structure Pt.Wf (p:Pt):Prop where
 x:p.x < two256
 y:p.y < two256
structure Wp.Wf (p:Wp):Prop where
 x:p.x < two256
 y:p.y < two256
 z:p.z < two256
def zeroP:Pt:=⟨0,0,true⟩
def widenP (p:Pt):Wp:=⟨p.x,p.y,p.o,1⟩
def zeroW:Wp:=widenP zeroP
def curveP (x:Nat):Nat:=aP (mP (mP x x) x) 7
def onP (p:Pt):Bool:=if p.o then decide (p=zeroP) else decide (p.x < priN) && (decide (p.y < priN) && decide (mP p.y p.y=curveP p.x))
def narrowP (p:Wp):Pt:=if p.o then zeroP else ⟨mP p.x (mP (invM 0 p.z) (invM 0 p.z)),mP p.y (mP (mP (invM 0 p.z) (invM 0 p.z)) (invM 0 p.z)),false⟩
def twiceV (x y z:Nat):Wp :=
 let yy:=mP y y
 let s0:=mP x yy
 let s1:=aP s0 s0
 let s:=aP s1 s1
 let xx:=mP x x
 let m:=aP (aP xx xx) xx
 let x3:=sP (mP m m) (aP s s)
 let q0:=mP yy yy
 let q1:=aP q0 q0
 let q2:=aP q1 q1
 let q3:=aP q2 q2
 let yz:=mP y z
 ⟨x3,sP (mP m (sP s x3)) q3,false,aP yz yz⟩
def twiceP (p:Wp):Wp:=if p.o || decide (p.y=0) then zeroW else twiceV p.x p.y p.z
def sumV (px py qx qy z h r:Nat):Wp :=
 let hh:=mP h h
 let hhh:=mP hh h
 let v:=mP px hh
 let x3:=sP (sP (mP r r) hhh) (aP v v)
 ⟨x3,sP (mP r (sP v x3)) (mP py hhh),false,mP h z⟩
def sumP (p q:Wp):Wp :=
 if p.o then q else if q.o then p else
 let pz:=mP p.z p.z
 let qz:=mP q.z q.z
 let px:=mP p.x qz
 let qx:=mP q.x pz
 let py:=mP p.y (mP qz q.z)
 let qy:=mP q.y (mP pz p.z)
 let h:=sP qx px
 let r:=sP qy py
 if h=0 then (if r=0 then twiceP p else zeroW) else sumV px py qx qy (mP p.z q.z) h r
/-- so often: the bits of two numbers from the highest one on -/
def bothS (n m:Nat) (a b c:Wp):Nat→Wp→Wp
 | 0,w=>w
 | i+1,w =>
  let w2:=twiceP w
  bothS n m a b c i (if n.testBit i && m.testBit i then sumP w2 c else if n.testBit i then sumP w2 a else if m.testBit i then sumP w2 b else w2)
def bothP (p:Pt) (n:Nat) (q:Pt) (m:Nat):Pt:=narrowP (bothS n m (widenP p) (widenP q) (sumP (widenP p) (widenP q)) (max (bitsN n) (bitsN m)) zeroW)
def baseP:Pt:=⟨55066263022277343669578718895168534326250603453777594175500187360389116729240,32670510020758816978083085130507043184471273380659243275938904335757337482424,false⟩
theorem qku:zeroW.Wf:=⟨by decide,by decide,by decide⟩
theorem qr3 (x y z:Nat):(twiceV x y z).Wf:=⟨sP_lt _ _,sP_lt _ _,aP_lt _ _⟩
theorem qmr (p:Wp):(twiceP p).Wf:=by
 unfold twiceP
 split
 ·exact qku
 ·exact qr3 _ _ _
theorem sumV_wf (px py qx qy z h r:Nat):(sumV px py qx qy z h r).Wf:=⟨sP_lt _ _,sP_lt _ _,mP_lt _ _⟩
theorem qj6 {p q:Wp} (hp:p.Wf) (hq:q.Wf):(sumP p q).Wf:=by
 unfold sumP
 split
 ·exact hq
 split
 ·exact hp
 simp only []
 split
 ·split
  ·exact qmr _
  ·exact qku
 ·exact sumV_wf _ _ _ _ _ _ _
theorem ql2 {p:Pt} (hp:p.Wf):(widenP p).Wf:=⟨hp.x,hp.y,show (1:Nat) < two256 by decide⟩
theorem qqd (p:Wp):(narrowP p).Wf:=by
 unfold narrowP
 split
 ·exact ⟨by decide,by decide⟩
 ·exact ⟨mP_lt _ _,mP_lt _ _⟩
theorem bothP_wf (p:Pt) (n:Nat) (q:Pt) (m:Nat):(bothP p n q m).Wf:=qqd _
end Go.Proofs.YteoednifdpdbnaaGreat
