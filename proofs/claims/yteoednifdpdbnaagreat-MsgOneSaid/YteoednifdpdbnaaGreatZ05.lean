/- Signatures, transfers, headers and blocks in plain Lean: which may be, their bytes, and back; of no program. -/
import Derived.Test.YteoednifdpdbnaaGreatZ02
import Derived.Test.YteoednifdpdbnaaGreatZ04
import Derived.Test.YteoednifdpdbnaaGreatZ03
namespace Go.Proofs.YteoednifdpdbnaaGreat
set_option linter.unusedVariables false
set_option linter.unusedSimpArgs false
theorem qcf:(0:Nat) < 18446744073709551616:=by decide
/-- a signature -/
structure Sg where
 r:U4
 s:U4
 v:Int
deriving DecidableEq
structure Sg.Wf (x:Sg):Prop where
 r:x.r.Wf
 s:x.s.Wf
 v0:-9223372036854775808≤x.v
 v1:x.v≤9223372036854775807
def ordN:Nat:=115792089237316195423570985008687907852837564279074904382605163141518161494337
def insideN (a:U4):Bool:=decide (0 < a.val) && decide (a.val < ordN)
def highN (a:U4):Bool:=decide (ordN < 2 * a.val)
def okSg (x:Sg):Bool:=insideN x.r && insideN x.s && !highN x.s && (x.v == 0 || x.v == 1)
def zeroU:U4:=⟨0,0,0,0⟩
def zeroSg:Sg:=⟨zeroU,zeroU,0⟩
theorem qg4:zeroU.Wf:=⟨by decide,by decide,by decide,by decide⟩
theorem qpt:zeroSg.Wf:=⟨qg4,qg4,by decide,by decide⟩
theorem qla:okSg zeroSg=false:=by decide
/-- a number's 32 bytes -/
def uB (x:U4):Bytes:=bytesOf 32 x.val
theorem qgo (x:U4):(uB x).length=32:=qfa _ _
def sgB (x:Sg):Bytes:=uB x.r ++ uB x.s ++ [UInt8.ofNat (x.v % 256).toNat]
theorem qda (x:Sg):(sgB x).length=65:=by simp [sgB,qgo]
def uOf (s:Bytes):U4:=U4.of (natOf s)
theorem qn5 (s:Bytes):(uOf s).Wf:=U4.of_wf _
def sgOf (s:Bytes):Sg:=⟨uOf (s.take 32),uOf ((s.drop 32).take 32),((s.getD 64 0).toNat:Int)⟩
theorem qms (s:Bytes):(sgOf s).Wf:=⟨qn5 _,qn5 _,by have:=(s.getD 64 0).toNat_lt;simp only [sgOf];omega,by have:=(s.getD 64 0).toNat_lt;simp only [sgOf];omega⟩
theorem p256:(256:Nat) ^ 32=two256:=by decide
theorem uOf_uB {x:U4} (h:x.Wf):uOf (uB x)=x:=by
 unfold uOf uB
 rw [qhr,p256,Nat.mod_eq_of_lt (U4.val_lt h),U4.of_val h]
theorem uB_uOf {s:Bytes} (h:s.length=32):uB (uOf s)=s:=by
 have h1:=qf7 s
 rw [h,p256] at h1
 unfold uB uOf
 rw [U4.val_of h1,← h,qhj]
theorem qnv {x:Sg} (h:okSg x=true):x.v=0∨x.v=1:=by
 unfold okSg at h
 simp only [Bool.and_eq_true,Bool.or_eq_true,beq_iff_eq] at h
 exact h.2
theorem qey {x:Sg} (h:x.Wf) (hk:okSg x=true):sgOf (sgB x)=x:=by
 obtain ⟨r,s,v⟩:=x
 have hv:=qnv hk
 simp only [] at hv
 have l1:(uB r).length=32:=qgo r
 have l2:(uB s).length=32:=qgo s
 unfold sgOf sgB
 simp only []
 have e1:(uB r ++ uB s ++ [UInt8.ofNat (v % 256).toNat]).take 32=uB r:=by
  rw [List.append_assoc,List.take_append_of_le_length (by omega),List.take_of_length_le (by omega)]
 have e2:((uB r ++ uB s ++ [UInt8.ofNat (v % 256).toNat]).drop 32).take 32=uB s:=by
  rw [List.append_assoc,List.drop_append,l1,Nat.sub_self,List.drop_of_length_le (by omega),List.drop_zero,List.nil_append,List.take_append_of_le_length (by omega),List.take_of_length_le (by omega)]
 have e3:(uB r ++ uB s ++ [UInt8.ofNat (v % 256).toNat]).getD 64 0=UInt8.ofNat (v % 256).toNat:=by
  rw [List.getD_eq_getElem?_getD,List.getElem?_append_right (by rw [List.length_append,l1,l2];decide),List.length_append,l1,l2];rfl
 rw [e1,e2,e3,uOf_uB h.r,uOf_uB h.s]
 rcases hv with rfl | rfl <;> rfl
theorem qnl {s:Bytes} (h:s.length=65) (hk:okSg (sgOf s)=true):sgB (sgOf s)=s:=by
 have hv:=qnv hk
 simp only [sgOf] at hv
 unfold sgB sgOf
 simp only []
 rw [uB_uOf (by rw [List.length_take];omega),uB_uOf (by rw [List.length_take,List.length_drop];omega)]
 have hc:(UInt8.ofNat (((s.getD 64 0).toNat:Int) % 256).toNat)=s.getD 64 0:=by
  have h1:(((s.getD 64 0).toNat:Int) % 256).toNat=(s.getD 64 0).toNat:=by omega
  rw [h1];simp
 rw [hc]
 have h1:s.drop 64 = [s.getD 64 0]:=by
  rw [List.drop_eq_getElem_cons (by omega),List.drop_of_length_le (by omega),List.getD_eq_getElem?_getD,List.getElem?_eq_getElem (by omega)];rfl
 rw [List.append_assoc,← h1,show s.drop 64=(s.drop 32).drop 32 by rw [List.drop_drop],List.take_append_drop,List.take_append_drop]
/-- a transfer -/
structure Tr where
 to:Bytes
 am:Nat
 no:Nat
 sg:Sg
deriving DecidableEq
structure Tr.Wf (t:Tr):Prop where
 am:t.am < 18446744073709551616
 no:t.no < 18446744073709551616
 sg:t.sg.Wf
def okTr (t:Tr):Bool:=t.to.length == 20 && okSg t.sg
def zeroTr:Tr:=⟨[],0,0,zeroSg⟩
def trK:List Kd:=[⟨97,false⟩,⟨110,false⟩,⟨110,false⟩,⟨115,false⟩]
theorem trK_ok:OkForm trK:=by
 intro k hk
 simp only [trK,List.mem_cons,List.not_mem_nil,or_false] at hk
 rcases hk with rfl | rfl | rfl | rfl <;> simp [okC]
def trF (t:Tr):List Fd:=[⟨0,t.to,[]⟩,⟨t.am,[],[]⟩,⟨t.no,[],[]⟩,⟨0,sgB t.sg,[]⟩]
def trB (t:Tr):Bytes:=writeP (recF trK (trF t))
theorem qem {t:Tr} (h:okTr t=true):fitsP trK (trF t)=true:=by
 unfold okTr at h
 simp only [Bool.and_eq_true,beq_iff_eq] at h
 simp [fitsP,trK,trF,fitF,fitC,sizeC,qda,h.1]
theorem qdh {t:Tr} (h:t.Wf):smallF (trF t):=by
 intro f hf
 simp only [trF,List.mem_cons,List.not_mem_nil,or_false] at hf
 rcases hf with rfl | rfl | rfl | rfl
 ·exact ⟨qcf,fun x hx=>by cases hx⟩
 ·exact ⟨h.am,fun x hx=>by cases hx⟩
 ·exact ⟨h.no,fun x hx=>by cases hx⟩
 ·exact ⟨qcf,fun x hx=>by cases hx⟩
theorem qbv {n:Nat} (h:n < 18446744073709551616):(writeP (leafIt (digs n))).length≤9:=by
 have:=qbl 8 n (by omega)
 have:=qbj (digs n) (by omega)
 omega
theorem qkd {t:Tr} (h:okTr t=true) (hw:t.Wf):(trB t).length≤120:=by
 unfold okTr at h
 simp only [Bool.and_eq_true,beq_iff_eq] at h
 have h1:=qbj t.to (by omega)
 have h2:=qbv hw.am
 have h3:=qbv hw.no
 have h4:=qcm (sgB t.sg) (by rw [qda];decide)
 rw [qda] at h4
 have hl:(writesP (itemsF trK (trF t))).length=(writeP (leafIt t.to)).length+((writeP (leafIt (digs t.am))).length+((writeP (leafIt (digs t.no))).length+((writeP (leafIt (sgB t.sg))).length+0))):=by
  simp only [trK,trF,itemsF,itemF,lfI,writesP,List.length_append,List.length_nil]
  rfl
 unfold trB recF
 rw [qcd]
 have:=qbb 192 (writesP (itemsF trK (trF t))).length (by omega)
 omega
def trOf (l:List Fd):Tr:=⟨(l.getD 0 ⟨0,[],[]⟩).b,(l.getD 1 ⟨0,[],[]⟩).n,(l.getD 2 ⟨0,[],[]⟩).n,sgOf (l.getD 3 ⟨0,[],[]⟩).b⟩
theorem qjl {t:Tr} (h:okTr t=true) (hw:t.Wf):trOf (trF t)=t:=by
 unfold okTr at h
 simp only [Bool.and_eq_true,beq_iff_eq] at h
 obtain ⟨to,am,no,sg⟩:=t
 simp only [trOf,trF,List.getD_cons_zero,List.getD_cons_succ,Tr.mk.injEq,true_and]
 exact qey hw.sg h.2
/-- fields that fit a transfer's form -/
theorem qpr {l:List Fd} (h:fitsP trK l=true) (hn:smallF l):∃ (b:Bytes) (x y:Nat) (g:Bytes),l = [⟨0,b,[]⟩,⟨x,[],[]⟩,⟨y,[],[]⟩,⟨0,g,[]⟩]∧b.length=20∧g.length=65∧x < 18446744073709551616∧y < 18446744073709551616:=by
 have hl:=qhv h
 match l,hl with
 | [f0,f1,f2,f3],_ =>
  obtain ⟨n0,b0,l0⟩:=f0
  obtain ⟨n1,b1,l1⟩:=f1
  obtain ⟨n2,b2,l2⟩:=f2
  obtain ⟨n3,b3,l3⟩:=f3
  simp [fitsP,trK,fitF,fitC,sizeC] at h
  obtain ⟨⟨rfl,rfl,h1⟩,⟨rfl,rfl⟩,⟨rfl,rfl⟩,rfl,rfl,h2⟩:=h
  exact ⟨b0,n1,n2,b3,rfl,h1,h2,(hn ⟨n1,[],[]⟩ (by simp)).1,(hn ⟨n2,[],[]⟩ (by simp)).1⟩
/-- what reading a transfer says -/
def TrSaid (s:Bytes) (t:Tr) (no:Nat):Prop:=(no=0∧okTr t=true∧t.Wf∧s=trB t)∨(no=4∧t=zeroTr∧∀ u:Tr,okTr u=true→u.Wf→s≠trB u)
theorem qmj {s:Bytes} {l:List Fd} {no:Nat} (h:FrSaid trK s l no) (hn:0 < no):TrSaid s zeroTr 4:=by
 rcases h with ⟨rfl,_⟩ | ⟨_,_,h⟩
 ·omega
 ·refine .inr ⟨rfl,rfl,fun u hu hw e=>?_⟩
  have:=qkd hu hw
  exact h (by rw [e];omega) _ (qem hu) (qdh hw) e
theorem qmz {s:Bytes} {l:List Fd} (h:FrSaid trK s l 0):l.length=4∧(l.getD 3 ⟨0,[],[]⟩).b.length=65∧(okSg (sgOf (l.getD 3 ⟨0,[],[]⟩).b)=true→TrSaid s (trOf l) 0)∧(okSg (sgOf (l.getD 3 ⟨0,[],[]⟩).b)=false→TrSaid s zeroTr 4):=by
 rcases h with ⟨_,h1,h2,h3,h4⟩ | ⟨h,_⟩
 ·obtain ⟨b,x,y,g,rfl,hb,hg,hx,hy⟩:=qpr h1 h2
  refine ⟨rfl,hg,fun hk=>?_,fun hk=>?_⟩
  ·have hk:okSg (sgOf g)=true:=hk
   refine .inl ⟨rfl,?_,⟨hx,hy,qms g⟩,?_⟩
   ·show (b.length == 20 && okSg (sgOf g))=true
    rw [hk,hb];rfl
   ·rw [h3]
    unfold trB
    congr 2
    show _=([⟨0,b,[]⟩,⟨x,[],[]⟩,⟨y,[],[]⟩,⟨0,sgB (sgOf g),[]⟩]:List Fd)
    rw [qnl hg hk]
  ·have hk:okSg (sgOf g)=false:=hk
   refine .inr ⟨rfl,rfl,fun u hu hw e=>?_⟩
   have:=qig (by decide) h1 h2 (qem hu) (qdh hw) (h3.symm.trans e)
   have ho:=qjl hu hw
   rw [← this] at ho
   have:sgOf g=u.sg:=by rw [← ho];rfl
   rw [this] at hk
   unfold okTr at hu
   rw [hk] at hu
   simp at hu
 ·omega
theorem trB_inj {t u:Tr} (h:okTr t=true) (hw:t.Wf) (h':okTr u=true) (hw':u.Wf) (e:trB t=trB u):t=u:=by
 have:=qig (by decide) (qem h) (qdh hw) (qem h') (qdh hw') e
 rw [← qjl h hw,this,qjl h' hw']
abbrev sgR (x:Sg):Array Value:=#[.int .u64 (x.r.a:Int),.int .u64 (x.r.b:Int),.int .u64 (x.r.c:Int),.int .u64 (x.r.d:Int),.int .u64 (x.s.a:Int),.int .u64 (x.s.b:Int),.int .u64 (x.s.c:Int),.int .u64 (x.s.d:Int),.int .i64 x.v]
abbrev trR (t:Tr):Array Value:=#[.string (bs t.to),.int .u64 (t.am:Int),.int .u64 (t.no:Int),.int .u64 (t.sg.r.a:Int),.int .u64 (t.sg.r.b:Int),.int .u64 (t.sg.r.c:Int),.int .u64 (t.sg.r.d:Int),.int .u64 (t.sg.s.a:Int),.int .u64 (t.sg.s.b:Int),.int .u64 (t.sg.s.c:Int),.int .u64 (t.sg.s.d:Int),.int .i64 t.sg.v]
/- Numbers modulo the curve's two primes in plain Lean; of no program. -/
/-- the curve's prime; the moduli, and by how much each is below 2^256 -/
def priN:Nat:=115792089237316195423570985008687907853269984665640564039457584007908834671663
def modN (k:Nat):Nat:=if k=0 then priN else ordN
def cN (k:Nat):U4:=if k=0 then ⟨4294968273,0,0,0⟩ else ⟨4624529908474429119,4994812053365940164,1,0⟩
theorem qrr {k:Nat} (h:k≤1):k=0∨k=1:=by omega
theorem cN_wf (k:Nat):(cN k).Wf:=by
 unfold cN
 split
 ·exact ⟨by decide,by decide,by decide,by decide⟩
 ·exact ⟨by decide,by decide,by decide,by decide⟩
theorem qiu (k:Nat):(cN k).val+modN k=two256:=by
 unfold cN modN
 split
 ·decide +kernel
 ·decide +kernel
theorem qc3 (k:Nat):two256 < 2 * modN k∧modN k < two256:=by
 unfold modN
 split
 ·decide +kernel
 ·decide +kernel
theorem qg8 (k:Nat):0 < modN k:=by have:=qc3 k;omega
theorem qe9 (k v:Nat):v % modN k < two256:=Nat.lt_trans (Nat.mod_lt _ (qg8 k)) (qc3 k).2
theorem cN_small (k:Nat):0 < (cN k).val∧2 * (cN k).val < two256:=by
 have h1:=qiu k
 have h2:=qc3 k
 omega
theorem qbt:0 < two256:=by decide
/-- one round of folding down: what is left is the same modulo, and less -/
theorem qpg {c m low high l h sum o:Nat} (hcm:c+m=two256) (hm:0 < m) (hh:0 < high) (h1:l+two256 * h=high * c) (h2:sum+two256 * o=low+l) :
  (sum+two256 * (h+o)) % m=(low+two256 * high) % m∧sum+two256 * (h+o) < low+two256 * high:=by
 have e:low+two256 * high=(sum+two256 * (h+o))+m * high:=by
  have h3:two256 * high=high * c+m * high:=by rw [← hcm,Nat.add_mul,Nat.mul_comm c high]
  rw [Nat.mul_add]
  omega
 rw [e]
 refine ⟨(Nat.add_mul_mod_self_left _ _ _).symm,?_⟩
 have:0 < m * high:=Nat.mul_pos hm hh
 omega
theorem qr0 {c low high l h sum o:Nat} (hc:2 * c < two256) (hb:high < two256) (h1:l+two256 * h=high * c) (h2:sum+two256 * o=low+l) (ho:o≤1):h+o < two256:=by
 have h3:high * c≤two256 * c:=Nat.mul_le_mul_right _ (Nat.le_of_lt hb)
 have h4:two256 * h≤two256 * c:=by omega
 have h5:h≤c:=Nat.le_of_mul_le_mul_left h4 qbt
 have h6:4 < two256:=by decide
 omega
/-- the end of folding down -/
theorem qnq {k low:Nat} (hl:low < two256) {s o:Nat} (h:s+two256 * o=low+(cN k).val) (hs:s < two256) (ho:o≤1):low % modN k=if o=1 then s else low:=by
 have h1:=qiu k
 have h2:=qc3 k
 split
 ·rename_i e
  subst e
  have:low=s+modN k:=by omega
  rw [this,Nat.add_mod_right,Nat.mod_eq_of_lt (by omega)]
 ·obtain rfl:o=0:=by omega
  rw [Nat.mul_zero,Nat.add_zero] at h
  exact Nat.mod_eq_of_lt (by omega)
/-- the difference of two that are below the modulus -/
theorem qq9 {k a b d u:Nat} (ha:a < modN k) (hb:b < modN k) (h:d+b=a+two256 * u) (hd:d < two256) (hu:u≤1):(a+modN k - b) % modN k=if u=1 then d - (cN k).val else d:=by
 have h1:=qiu k
 have h2:=qc3 k
 split
 ·rename_i e
  subst e
  rw [Nat.mod_eq_of_lt (by omega)]
  omega
 ·have:u=0:=by omega
  subst this
  have e:a+modN k - b=d+modN k:=by omega
  rw [e,Nat.add_mod_right,Nat.mod_eq_of_lt (by omega)]
/-- a number by its cells; the rows of U4 by numbers -/
theorem U4.of_zero:U4.of 0=zeroU:=rfl
theorem U4.of_eq {a b:Nat} (ha:a < two256) (hb:b < two256):U4.of a=U4.of b↔a=b:=⟨fun h=>by rw [← U4.val_of ha,← U4.val_of hb,h],fun h=>by rw [h]⟩
/-- what is reckoned -/
def addM (m a b:Nat):Nat:=(a+b) % m
def subM (m a b:Nat):Nat:=(a % m+m - b % m) % m
def mulM (m a b:Nat):Nat:=a * b % m
/-- how many bits a number has -/
def bitsN (n:Nat):Nat:=if n=0 then 0 else n.log2+1
theorem qji {n:Nat} (h:n < two256):bitsN n≤256:=by
 unfold bitsN
 split
 ·omega
 ·rename_i h0
  have h2:n < 2 ^ 256:=Nat.lt_of_lt_of_eq h (by decide)
  have:n.log2 < 256:=(Nat.log2_lt h0).2 h2
  omega
/-- a power: the bits from the highest one on -/
def powS (m a n:Nat):Nat→Nat→Nat
 | 0,out=>out
 | i+1,out=>powS m a n i (if n.testBit i then mulM m (mulM m out out) a else mulM m out out)
def powM (m a n:Nat):Nat:=powS m a n (bitsN n) 1
def invM (k a:Nat):Nat:=if a % modN k=0 then 0 else powM (modN k) a (modN k - 2)
theorem qqx (k a n:Nat):∀ i out,out < two256→powS (modN k) a n i out < two256
 | 0,_,h=>h
 | i+1,out,h=>by
  rw [powS]
  refine qqx k a n i _ ?_
  split
  ·exact qe9 _ _
  ·exact qe9 _ _
theorem powM_lt (k a n:Nat):powM (modN k) a n < two256:=qqx _ _ _ _ _ (by decide)
theorem qtl (k a:Nat):invM k a < two256:=by
 unfold invM
 split
 ·exact qbt
 ·exact powM_lt _ _ _
theorem qrj (k a b:Nat):addM (modN k) a b < two256:=qe9 _ _
theorem qrt (k a b:Nat):subM (modN k) a b < two256:=qe9 _ _
theorem qh2 (k a b:Nat):mulM (modN k) a b < two256:=qe9 _ _
/- Points of the curve in plain Lean, as the program reckons them; of no program. -/
def mP (a b:Nat):Nat:=mulM (modN 0) a b
def aP (a b:Nat):Nat:=addM (modN 0) a b
def sP (a b:Nat):Nat:=subM (modN 0) a b
theorem mP_lt (a b:Nat):mP a b < two256:=qh2 0 _ _
theorem aP_lt (a b:Nat):aP a b < two256:=qrj 0 _ _
theorem sP_lt (a b:Nat):sP a b < two256:=qrt 0 _ _
/-- a point; one whose numbers are divided by the square and the cube of a third one -/
structure Pt where
 x:Nat
 y:Nat
 o:Bool
deriving DecidableEq
structure Wp where
 x:Nat
 y:Nat
 o:Bool
 z:Nat
structure Pt.Wf (p:Pt):Prop where
 x:p.x < two256
 y:p.y < two256
structure Wp.Wf (p:Wp):Prop where
 x:p.x < two256
 y:p.y < two256
 z:p.z < two256
def zeroP:Pt:=⟨0,0,true⟩
def widenP (p:Pt):Wp:=⟨p.x,p.y,p.o,1⟩
def zeroW:Wp:=widenP zeroP
def curveP (x:Nat):Nat:=aP (mP (mP x x) x) 7
def onP (p:Pt):Bool:=if p.o then decide (p=zeroP) else decide (p.x < priN) && (decide (p.y < priN) && decide (mP p.y p.y=curveP p.x))
def narrowP (p:Wp):Pt:=if p.o then zeroP else ⟨mP p.x (mP (invM 0 p.z) (invM 0 p.z)),mP p.y (mP (mP (invM 0 p.z) (invM 0 p.z)) (invM 0 p.z)),false⟩
def twiceV (x y z:Nat):Wp :=
 let yy:=mP y y
 let s0:=mP x yy
 let s1:=aP s0 s0
 let s:=aP s1 s1
 let xx:=mP x x
 let m:=aP (aP xx xx) xx
 let x3:=sP (mP m m) (aP s s)
 let q0:=mP yy yy
 let q1:=aP q0 q0
 let q2:=aP q1 q1
 let q3:=aP q2 q2
 let yz:=mP y z
 ⟨x3,sP (mP m (sP s x3)) q3,false,aP yz yz⟩
def twiceP (p:Wp):Wp:=if p.o || decide (p.y=0) then zeroW else twiceV p.x p.y p.z
def sumV (px py qx qy z h r:Nat):Wp :=
 let hh:=mP h h
 let hhh:=mP hh h
 let v:=mP px hh
 let x3:=sP (sP (mP r r) hhh) (aP v v)
 ⟨x3,sP (mP r (sP v x3)) (mP py hhh),false,mP h z⟩
def sumP (p q:Wp):Wp :=
 if p.o then q else if q.o then p else
 let pz:=mP p.z p.z
 let qz:=mP q.z q.z
 let px:=mP p.x qz
 let qx:=mP q.x pz
 let py:=mP p.y (mP qz q.z)
 let qy:=mP q.y (mP pz p.z)
 let h:=sP qx px
 let r:=sP qy py
 if h=0 then (if r=0 then twiceP p else zeroW) else sumV px py qx qy (mP p.z q.z) h r
/-- so often: the bits of two numbers from the highest one on -/
def bothS (n m:Nat) (a b c:Wp):Nat→Wp→Wp
 | 0,w=>w
 | i+1,w =>
  let w2:=twiceP w
  bothS n m a b c i (if n.testBit i && m.testBit i then sumP w2 c else if n.testBit i then sumP w2 a else if m.testBit i then sumP w2 b else w2)
def bothP (p:Pt) (n:Nat) (q:Pt) (m:Nat):Pt:=narrowP (bothS n m (widenP p) (widenP q) (sumP (widenP p) (widenP q)) (max (bitsN n) (bitsN m)) zeroW)
def baseP:Pt:=⟨55066263022277343669578718895168534326250603453777594175500187360389116729240,32670510020758816978083085130507043184471273380659243275938904335757337482424,false⟩
theorem qjp:zeroW.Wf:=⟨by decide,by decide,by decide⟩
theorem qt4 (x y z:Nat):(twiceV x y z).Wf:=⟨sP_lt _ _,sP_lt _ _,aP_lt _ _⟩
theorem qkp (p:Wp):(twiceP p).Wf:=by
 unfold twiceP
 split
 ·exact qjp
 ·exact qt4 _ _ _
theorem sumV_wf (px py qx qy z h r:Nat):(sumV px py qx qy z h r).Wf:=⟨sP_lt _ _,sP_lt _ _,mP_lt _ _⟩
theorem qjq {p q:Wp} (hp:p.Wf) (hq:q.Wf):(sumP p q).Wf:=by
 unfold sumP
 split
 ·exact hq
 split
 ·exact hp
 simp only []
 split
 ·split
  ·exact qkp _
  ·exact qjp
 ·exact sumV_wf _ _ _ _ _ _ _
theorem qlf {p:Pt} (hp:p.Wf):(widenP p).Wf:=⟨hp.x,hp.y,show (1:Nat) < two256 by decide⟩
theorem qo8 (p:Wp):(narrowP p).Wf:=by
 unfold narrowP
 split
 ·exact ⟨by decide,by decide⟩
 ·exact ⟨mP_lt _ _,mP_lt _ _⟩
theorem bothP_wf (p:Pt) (n:Nat) (q:Pt) (m:Nat):(bothP p n q m).Wf:=qo8 _
/- Headers and blocks in plain Lean: which may be, their bytes, and back; of no program. -/
/-- a header -/
structure Hd where
 parent:Bytes
 height:Nat
 root:Bytes
 txs:Bytes
 prop:Bytes
 van:Bytes
 vals:List Bytes
 vote:Bytes
 add:Bool
 round:Nat
 seals:List Sg
structure Hd.Wf (h:Hd):Prop where
 height:h.height < 18446744073709551616
 round:h.round < 18446744073709551616
 seals:∀ x∈h.seals,x.Wf
/-- do addresses rise? -/
def riseV:Option Bytes→List Bytes→Bool
 | _,[]=>true
 | prev,a :: l=>a.length == 20 && (match prev with | none=>true | some p=>lessB p a) && riseV (some a) l
def okVals (l:List Bytes):Bool:=riseV none l && decide (1≤l.length) && decide (l.length≤16)
def okHd (h:Hd):Bool:=h.parent.length == 32 && h.root.length == 32 && h.txs.length == 32 && h.prop.length == 20 && decide (h.van.length≤8) && okVals h.vals && (h.vote.length == 20 || (h.vote == [] && !h.add)) && decide (h.seals.length≤16) && h.seals.all okSg
structure OkHd (h:Hd):Prop where
 parent:h.parent.length=32
 root:h.root.length=32
 txs:h.txs.length=32
 prop:h.prop.length=20
 van:h.van.length≤8
 vals:okVals h.vals=true
 vote:h.vote.length=20∨(h.vote = []∧h.add=false)
 seals:h.seals.length≤16
 each:∀ x∈h.seals,okSg x=true
theorem qjg (h:Hd):okHd h=true↔OkHd h:=by
 unfold okHd
 simp only [Bool.and_eq_true,Bool.or_eq_true,beq_iff_eq,decide_eq_true_eq,Bool.not_eq_true',List.all_eq_true]
 constructor
 ·rintro ⟨⟨⟨⟨⟨⟨⟨⟨a,b⟩,c⟩,d⟩,e⟩,f⟩,g⟩,i⟩,j⟩
  exact ⟨a,b,c,d,e,f,g,i,j⟩
 ·rintro ⟨a,b,c,d,e,f,g,i,j⟩
  exact ⟨⟨⟨⟨⟨⟨⟨⟨a,b⟩,c⟩,d⟩,e⟩,f⟩,g⟩,i⟩,j⟩
theorem qko:∀ (l:List Bytes) (p:Option Bytes),riseV p l=true→∀ a∈l,a.length=20
 | [],_,_,a,h=>by cases h
 | b :: l,p,h,a,ha=>by
  simp only [riseV,Bool.and_eq_true,beq_iff_eq] at h
  rcases List.mem_cons.1 ha with rfl | ha
  ·exact h.1.1
  ·exact qko l _ h.2 a ha
theorem qge {l:List Bytes} (h:okVals l=true):(∀ a∈l,a.length=20)∧l.length≤16:=by
 unfold okVals at h
 simp only [Bool.and_eq_true,decide_eq_true_eq] at h
 exact ⟨qko l _ h.1.1,h.2⟩
def hdK:List Kd:=[⟨104,false⟩,⟨110,false⟩,⟨104,false⟩,⟨104,false⟩,⟨97,false⟩,⟨98,false⟩,⟨97,true⟩,⟨98,false⟩,⟨110,false⟩,⟨110,false⟩,⟨115,true⟩]
theorem hdK_ok:OkForm hdK:=by
 intro k hk
 simp only [hdK,List.mem_cons,List.not_mem_nil,or_false] at hk
 rcases hk with rfl | rfl | rfl | rfl | rfl | rfl | rfl | rfl | rfl | rfl | rfl <;> simp [okC]
def addN (b:Bool):Nat:=if b then 1 else 0
def valF (a:Bytes):Lf:=(0,a)
def sealF (x:Sg):Lf:=(0,sgB x)
def hdF (h:Hd):List Fd:=[⟨0,h.parent,[]⟩,⟨h.height,[],[]⟩,⟨0,h.root,[]⟩,⟨0,h.txs,[]⟩,⟨0,h.prop,[]⟩,⟨0,h.van,[]⟩,⟨0,[],h.vals.map valF⟩,⟨0,h.vote,[]⟩,⟨addN h.add,[],[]⟩,⟨h.round,[],[]⟩,⟨0,[],h.seals.map sealF⟩]
def hdB (h:Hd):Bytes:=writeP (recF hdK (hdF h))
theorem qg3 {h:Hd} (hk:OkHd h):fitsP hdK (hdF h)=true:=by
 obtain ⟨a,b,c,d,e,f,g,i,j⟩:=hk
 obtain ⟨f1,f2⟩:=qge f
 have hv:h.vote.length≤64:=by
  rcases g with g | ⟨g,_⟩
  ·omega
  ·rw [g];exact Nat.zero_le _
 have h1:(h.vals.map valF).all (fitC 97)=true:=by
  rw [List.all_eq_true]
  intro x hx
  obtain ⟨y,hy,rfl⟩:=List.mem_map.1 hx
  simp [valF,fitC,sizeC,f1 y hy]
 have h2:(h.seals.map sealF).all (fitC 115)=true:=by
  rw [List.all_eq_true]
  intro x hx
  obtain ⟨y,hy,rfl⟩:=List.mem_map.1 hx
  simp [sealF,fitC,sizeC,qda]
 have l1:(h.vals.map valF).length≤40:=by rw [List.length_map];omega
 have l2:(h.seals.map sealF).length≤40:=by rw [List.length_map];omega
 unfold hdK hdF
 generalize h.vals.map valF=V at h1 l1 ⊢
 generalize h.seals.map sealF=S at h2 l2 ⊢
 generalize addN h.add=N
 have e1:fitF ⟨97,true⟩ ⟨0,[],V⟩=true:=by simp only [fitF,if_true,h1,decide_eq_true l1];rfl
 have e2:fitF ⟨115,true⟩ ⟨0,[],S⟩=true:=by simp only [fitF,if_true,h2,decide_eq_true l2];rfl
 simp only [fitsP,e1,e2]
 simp [fitF,fitC,sizeC,a,b,c,d,hv]
 omega
theorem qfr {h:Hd} (hw:h.Wf):smallF (hdF h):=by
 intro f hf
 have h0:addN h.add < 18446744073709551616:=by unfold addN;split <;> decide
 have hv:∀ x∈h.vals.map valF,x.1 < 18446744073709551616:=fun x hx=>by
  obtain ⟨y,_,rfl⟩:=List.mem_map.1 hx
  show (0:Nat) < _;omega
 have hs:∀ x∈h.seals.map sealF,x.1 < 18446744073709551616:=fun x hx=>by
  obtain ⟨y,_,rfl⟩:=List.mem_map.1 hx
  show (0:Nat) < _;omega
 have hz:∀ x∈([]:List Lf),x.1 < 18446744073709551616:=fun x hx=>by cases hx
 simp only [hdF,List.mem_cons,List.not_mem_nil,or_false] at hf
 rcases hf with rfl | rfl | rfl | rfl | rfl | rfl | rfl | rfl | rfl | rfl | rfl
 ·exact ⟨qcf,hz⟩
 ·exact ⟨hw.height,hz⟩
 ·exact ⟨qcf,hz⟩
 ·exact ⟨qcf,hz⟩
 ·exact ⟨qcf,hz⟩
 ·exact ⟨qcf,hz⟩
 ·exact ⟨qcf,hv⟩
 ·exact ⟨qcf,hz⟩
 ·exact ⟨h0,hz⟩
 ·exact ⟨hw.round,hz⟩
 ·exact ⟨qcf,hs⟩
theorem qr9 {h:Hd} (hk:OkHd h) (hw:h.Wf):(hdB h).length≤1700:=by
 obtain ⟨a,b,c,d,e,f,g,i,j⟩:=hk
 obtain ⟨f1,f2⟩:=qge f
 have h0:addN h.add < 18446744073709551616:=by unfold addN;split <;> decide
 have hv:h.vote.length≤20:=by
  rcases g with g | ⟨g,_⟩
  ·omega
  ·rw [g];exact Nat.zero_le _
 have p1:=qbj h.parent (by omega)
 have p2:=qbv hw.height
 have p3:=qbj h.root (by omega)
 have p4:=qbj h.txs (by omega)
 have p5:=qbj h.prop (by omega)
 have p6:=qbj h.van (by omega)
 have p8:=qbj h.vote (by omega)
 have p9:=qbv h0
 have p10:=qbv hw.round
 have q1:=qec ((h.vals.map valF).map (lfI 97)) 21 (fun x hx=>by
  obtain ⟨y,hy,rfl⟩:=List.mem_map.1 hx
  obtain ⟨z,hz,rfl⟩:=List.mem_map.1 hy
  have:=qbj z (by rw [f1 z hz];decide)
  rw [f1 z hz] at this
  exact this)
 have q2:=qec ((h.seals.map sealF).map (lfI 115)) 68 (fun x hx=>by
  obtain ⟨y,hy,rfl⟩:=List.mem_map.1 hx
  obtain ⟨z,hz,rfl⟩:=List.mem_map.1 hy
  have:=qcm (sgB z) (by rw [qda];decide)
  rw [qda] at this
  exact this)
 simp only [List.length_map] at q1 q2
 have r1:=qbb 192 _ (show (writesP ((h.vals.map valF).map (lfI 97))).length < 65536 by omega)
 have r2:=qbb 192 _ (show (writesP ((h.seals.map sealF).map (lfI 115))).length < 65536 by omega)
 have p7:=qcd ((h.vals.map valF).map (lfI 97))
 have p11:=qcd ((h.seals.map sealF).map (lfI 115))
 have hl:(writesP (itemsF hdK (hdF h))).length=(writeP (leafIt h.parent)).length+((writeP (leafIt (digs h.height))).length+((writeP (leafIt h.root)).length+((writeP (leafIt h.txs)).length+((writeP (leafIt h.prop)).length+((writeP (leafIt h.van)).length+((writeP (listIt ((h.vals.map valF).map (lfI 97)))).length+((writeP (leafIt h.vote)).length+((writeP (leafIt (digs (addN h.add)))).length+((writeP (leafIt (digs h.round))).length+((writeP (listIt ((h.seals.map sealF).map (lfI 115)))).length+0)))))))))):=by
  simp only [hdK,hdF,itemsF,itemF,lfI,writesP,List.length_append,List.length_nil]
  rfl
 unfold hdB recF
 rw [qcd]
 have:=qbb 192 (writesP (itemsF hdK (hdF h))).length (by omega)
 omega
def fdAt (l:List Fd) (i:Nat):Fd:=l.getD i ⟨0,[],[]⟩
def hdOf (l:List Fd):Hd:=⟨(fdAt l 0).b,(fdAt l 1).n,(fdAt l 2).b,(fdAt l 3).b,(fdAt l 4).b,(fdAt l 5).b,(fdAt l 6).l.map (·.2),(fdAt l 7).b,(fdAt l 8).n == 1,(fdAt l 9).n,(fdAt l 10).l.map fun x=>sgOf x.2⟩
theorem addN_one (b:Bool):(addN b == 1)=b:=by cases b <;> rfl
theorem qj3 {h:Hd} (hk:OkHd h) (hw:h.Wf):hdOf (hdF h)=h:=by
 obtain ⟨parent,height,root,txs,prop,van,vals,vote,add,round,seals⟩:=h
 have e1:(vals.map valF).map (·.2)=vals:=by rw [List.map_map];exact List.map_id _
 have e2:(seals.map sealF).map (fun x=>sgOf x.2)=seals:=by
  rw [List.map_map]
  have:∀ x∈seals,(fun x:Lf=>sgOf x.2) (sealF x)=x:=fun x hx=>qey (hw.seals x hx) (hk.each x hx)
  exact (List.map_congr_left this).trans (List.map_id _)
 simp only [hdOf,fdAt,hdF,List.getD_cons_zero,List.getD_cons_succ,Hd.mk.injEq,true_and,e1,e2,addN_one]
/-- fields that fit a header's form -/
theorem qtr {l:List Fd} (h:fitsP hdK l=true) (hn:smallF l):∃ (b0:Bytes) (n1:Nat) (b2 b3 b4 b5:Bytes) (l6:List Lf) (b7:Bytes) (n8 n9:Nat) (l10:List Lf),
  l = [⟨0,b0,[]⟩,⟨n1,[],[]⟩,⟨0,b2,[]⟩,⟨0,b3,[]⟩,⟨0,b4,[]⟩,⟨0,b5,[]⟩,⟨0,[],l6⟩,⟨0,b7,[]⟩,⟨n8,[],[]⟩,⟨n9,[],[]⟩,⟨0,[],l10⟩] ∧
  n1 < 18446744073709551616∧n8 < 18446744073709551616∧n9 < 18446744073709551616∧(∀ x∈l6,x.1=0∧x.2.length=20)∧(∀ x∈l10,x.1=0∧x.2.length=65)∧l6.length≤40∧l10.length≤40:=by
 have hl:=qhv h
 match l,hl with
 | [f0,f1,f2,f3,f4,f5,f6,f7,f8,f9,f10],_ =>
  obtain ⟨m0,c0,k0⟩:=f0
  obtain ⟨m1,c1,k1⟩:=f1
  obtain ⟨m2,c2,k2⟩:=f2
  obtain ⟨m3,c3,k3⟩:=f3
  obtain ⟨m4,c4,k4⟩:=f4
  obtain ⟨m5,c5,k5⟩:=f5
  obtain ⟨m6,c6,k6⟩:=f6
  obtain ⟨m7,c7,k7⟩:=f7
  obtain ⟨m8,c8,k8⟩:=f8
  obtain ⟨m9,c9,k9⟩:=f9
  obtain ⟨m10,c10,k10⟩:=f10
  have a1:=(hn ⟨m1,c1,k1⟩ (by simp)).1
  have a8:=(hn ⟨m8,c8,k8⟩ (by simp)).1
  have a9:=(hn ⟨m9,c9,k9⟩ (by simp)).1
  simp [fitsP,hdK,fitF,fitC,sizeC] at h
  obtain ⟨⟨rfl,rfl,_⟩,⟨rfl,rfl⟩,⟨rfl,rfl,_⟩,⟨rfl,rfl,_⟩,⟨rfl,rfl,_⟩,⟨rfl,rfl,_⟩,⟨⟨⟨rfl,rfl⟩,g6⟩,h6⟩,⟨rfl,rfl,_⟩,⟨rfl,rfl⟩,⟨rfl,rfl⟩,⟨⟨rfl,rfl⟩,g10⟩,h10⟩:=h
  exact ⟨c0,m1,c2,c3,c4,c5,k6,c7,m8,m9,k10,rfl,a1,a8,a9,fun x hx=>h6 _ _ hx,fun x hx=>h10 _ _ hx,g6,g10⟩
/-- what reading a header says -/
def zeroHd:Hd:=⟨[],0,[],[],[],[],[],[],false,0,[]⟩
def HdSaid (s:Bytes) (h:Hd) (no:Nat):Prop:=(no=0∧OkHd h∧h.Wf∧s=hdB h)∨(no=4∧h=zeroHd∧∀ u:Hd,OkHd u→u.Wf→s≠hdB u)
theorem qmv {s:Bytes} {l:List Fd} {no:Nat} (h:FrSaid hdK s l no) (hn:0 < no):HdSaid s zeroHd 4:=by
 rcases h with ⟨rfl,_⟩ | ⟨_,_,h⟩
 ·omega
 ·refine .inr ⟨rfl,rfl,fun u hu hw e=>?_⟩
  have:=qr9 hu hw
  exact h (by rw [e];omega) _ (qg3 hu) (qfr hw) e
/-- what holds of fields that are read -/
theorem qmp {s:Bytes} {l:List Fd} (h:FrSaid hdK s l 0):l.length=11∧(∀ x∈(fdAt l 6).l,x.1=0∧x.2.length=20)∧(∀ x∈(fdAt l 10).l,x.1=0∧x.2.length=65)∧(fdAt l 6).l.length≤40∧(fdAt l 10).l.length≤40∧(hdOf l).Wf ∧
  ((∀ x∈(fdAt l 10).l,okSg (sgOf x.2)=true)→(fdAt l 8).n≤1→OkHd (hdOf l)→HdSaid s (hdOf l) 0) ∧
  ((∃ x∈(fdAt l 10).l,okSg (sgOf x.2)=false)→HdSaid s zeroHd 4)∧(1 < (fdAt l 8).n→HdSaid s zeroHd 4)∧(¬ OkHd (hdOf l)→HdSaid s zeroHd 4):=by
 rcases h with ⟨_,h1,h2,h3,h4⟩ | ⟨h,_⟩
 ·obtain ⟨b0,n1,b2,b3,b4,b5,l6,b7,n8,n9,l10,rfl,i1,i8,i9,i6,i10,j6,j10⟩:=qtr h1 h2
  have back:∀ u:Hd,OkHd u→u.Wf→s=hdB u → [⟨0,b0,[]⟩,⟨n1,[],[]⟩,⟨0,b2,[]⟩,⟨0,b3,[]⟩,⟨0,b4,[]⟩,⟨0,b5,[]⟩,⟨0,[],l6⟩,⟨0,b7,[]⟩,⟨n8,[],[]⟩,⟨n9,[],[]⟩,⟨0,[],l10⟩]=hdF u:=fun u hu hw e =>
   qig (by decide) h1 h2 (qg3 hu) (qfr hw) (h3.symm.trans e)
  refine ⟨rfl,i6,i10,j6,j10,⟨i1,i9,fun x hx=>?_⟩,fun hs ha hk=>.inl ⟨rfl,hk,⟨i1,i9,fun x hx=>?_⟩,?_⟩,fun hs=>.inr ⟨rfl,rfl,fun u hu hw e=>?_⟩,fun ha=>.inr ⟨rfl,rfl,fun u hu hw e=>?_⟩,fun hk=>.inr ⟨rfl,rfl,fun u hu hw e=>?_⟩⟩
  ·obtain ⟨y,_,rfl⟩:=List.mem_map.1 (show x∈l10.map (fun x=>sgOf x.2) from hx)
   exact qms _
  ·obtain ⟨y,_,rfl⟩:=List.mem_map.1 (show x∈l10.map (fun x=>sgOf x.2) from hx)
   exact qms _
  ·rw [h3]
   unfold hdB
   congr 2
   have e6:(l6.map (·.2)).map valF=l6:=by
    rw [List.map_map]
    refine (List.map_congr_left (g:=id) fun x hx=>?_).trans (List.map_id _)
    obtain ⟨p,q⟩:=x
    have:=(i6 _ hx).1
    simp only [] at this
    subst this;rfl
   have e10:(l10.map fun x=>sgOf x.2).map sealF=l10:=by
    rw [List.map_map]
    refine (List.map_congr_left (g:=id) fun x hx=>?_).trans (List.map_id _)
    have h5:=hs x hx
    obtain ⟨p,q⟩:=x
    obtain ⟨g1,g2⟩:=i10 _ hx
    simp only [] at g1 g2 h5
    subst g1
    show (0,sgB (sgOf q))=(0,q)
    rw [qnl g2 h5]
   have ha:n8≤1:=ha
   have e8:addN (n8 == 1)=n8:=by
    rcases (by omega:n8=0∨n8=1) with rfl | rfl <;> rfl
   simp only [hdF,hdOf,fdAt,List.getD_cons_zero,List.getD_cons_succ,e6,e10,e8]
  ·obtain ⟨x,hx,hx2⟩:=hs
   have:=back u hu hw e
   have hl10:l10=u.seals.map sealF:=by simp only [hdF,List.cons.injEq,Fd.mk.injEq,and_true,true_and] at this;exact this.2.2.2.2.2.2.2.2.2.2
   rw [show (fdAt _ 10).l=l10 from rfl,hl10] at hx
   obtain ⟨y,hy,rfl⟩:=List.mem_map.1 hx
   rw [show sgOf (sealF y).2=y from qey (hw.seals y hy) (hu.each y hy),hu.each y hy] at hx2
   cases hx2
  ·have:=back u hu hw e
   have h8:n8=addN u.add:=by simp only [hdF,List.cons.injEq,Fd.mk.injEq,and_true,true_and] at this;exact this.2.2.2.2.2.2.2.2.1
   have ha:1 < n8:=ha
   unfold addN at h8
   split at h8 <;> omega
  ·have:=back u hu hw e
   rw [this,qj3 hu hw] at hk
   exact hk hu
 ·omega
theorem hdB_inj {h u:Hd} (hk:OkHd h) (hw:h.Wf) (hk':OkHd u) (hw':u.Wf) (e:hdB h=hdB u):h=u:=by
 have:=qig (by decide) (qg3 hk) (qfr hw) (qg3 hk') (qfr hw') e
 rw [← qj3 hk hw,this,qj3 hk' hw']
/-- a block -/
structure Bk where
 hd:Hd
 txs:List Tr
structure Bk.Wf (b:Bk):Prop where
 hd:b.hd.Wf
 txs:∀ t∈b.txs,t.Wf
def sumT (t:Tr):Bytes:=sumK (trB t)
def sumsT (l:List Tr):Bytes:=sumK (l.map sumT).flatten
structure OkBk (b:Bk):Prop where
 hd:OkHd b.hd
 len:b.txs.length≤4
 each:∀ t∈b.txs,okTr t=true
 sum:sumsT b.txs=b.hd.txs
def okBk (b:Bk):Bool:=okHd b.hd && decide (b.txs.length≤4) && b.txs.all okTr && sumsT b.txs == b.hd.txs
theorem qm9 (b:Bk):okBk b=true↔OkBk b:=by
 unfold okBk
 simp only [Bool.and_eq_true,beq_iff_eq,decide_eq_true_eq,List.all_eq_true,qjg]
 exact ⟨fun ⟨⟨⟨a,b⟩,c⟩,d⟩=>⟨a,b,c,d⟩,fun ⟨a,b,c,d⟩=>⟨⟨⟨a,b⟩,c⟩,d⟩⟩
def bkL (b:Bk):List Item:=leafIt (hdB b.hd) :: b.txs.map fun t=>leafIt (trB t)
def bkI (b:Bk):Item:=listIt (bkL b)
def bkB (b:Bk):Bytes:=writeP (bkI b)
theorem qn8 (b:Bk):pureP (bkI b)=true∧depthP (bkI b)≤1:=by
 unfold bkI
 rw [qdg,qcx,qde]
 refine ⟨fun x hx=>?_,?_⟩
 ·rcases List.mem_cons.1 hx with rfl | hx
  ·rfl
  ·obtain ⟨t,_,rfl⟩:=List.mem_map.1 hx;rfl
 ·have:depthsP (bkL b)≤0:=(qfp _ _).2 (fun x hx=>by
   rcases List.mem_cons.1 hx with rfl | hx
   ·exact Nat.le_refl _
   ·obtain ⟨t,_,rfl⟩:=List.mem_map.1 hx;exact Nat.le_refl _)
  omega
theorem qmc {b:Bk} (hk:OkBk b) (hw:b.Wf):(bkB b).length≤2300∧countP (bkI b)≤6:=by
 have h1:=qr9 hk.hd hw.hd
 have h2:=qcm (hdB b.hd) (by omega)
 have h3:=qec (b.txs.map fun t=>leafIt (trB t)) 123 (fun x hx=>by
  obtain ⟨t,ht,rfl⟩:=List.mem_map.1 hx
  have h4:=qkd (hk.each t ht) (hw.txs t ht)
  have:=qcm (trB t) (by omega)
  omega)
 rw [List.length_map] at h3
 have:=hk.len
 have h5:(writesP (bkL b)).length=(writeP (leafIt (hdB b.hd))).length+(writesP (b.txs.map fun t=>leafIt (trB t))).length:=by
  simp only [bkL,writesP,List.length_append]
 have h6:=qbb 192 (writesP (bkL b)).length (by omega)
 have h7:∀ l:List Tr,countsP (l.map fun t=>leafIt (trB t))=l.length:=fun l=>by
  induction l with
  | nil=>rfl
  | cons a l ih=>rw [List.map_cons,countsP,ih];simp [leafIt,countP,countsP];omega
 refine ⟨?_,?_⟩
 ·unfold bkB bkI
  rw [qcd];omega
 ·show 1+(countP (leafIt (hdB b.hd))+countsP (b.txs.map fun t=>leafIt (trB t)))≤6
  rw [h7]
  show 1+(1+0+b.txs.length)≤6
  omega
def zeroBk:Bk:=⟨zeroHd,[]⟩
/-- what reading a block says -/
def BkSaid (s:Bytes) (b:Bk) (no:Nat):Prop:=(no=0∧OkBk b∧b.Wf∧s=bkB b)∨(no=4∧b=zeroBk∧∀ u:Bk,OkBk u→u.Wf→s≠bkB u)
abbrev hdR (h:Hd) (v:Option Addr) (cv:Nat) (s:Option Addr) (cs:Nat):Array Value:=#[.string (bs h.parent),.int .u64 (h.height:Int),.string (bs h.root),.string (bs h.txs),.string (bs h.prop),.string (bs h.van),.slice v h.vals.length cv,.string (bs h.vote),.bool h.add,.int .u64 (h.round:Int),.slice s h.seals.length cs]
abbrev hbR (h:Hd) (v:Option Addr) (cv:Nat) (s:Option Addr) (cs:Nat) (u:Value):Array Value:=#[.string (bs h.parent),.int .u64 (h.height:Int),.string (bs h.root),.string (bs h.txs),.string (bs h.prop),.string (bs h.van),.slice v h.vals.length cv,.string (bs h.vote),.bool h.add,.int .u64 (h.round:Int),.slice s h.seals.length cs,u]
abbrev bkR (b:Bk) (v:Option Addr) (cv:Nat) (s:Option Addr) (cs:Nat) (t:Option Addr) (ct:Nat):Array Value:=#[.string (bs b.hd.parent),.int .u64 (b.hd.height:Int),.string (bs b.hd.root),.string (bs b.hd.txs),.string (bs b.hd.prop),.string (bs b.hd.van),.slice v b.hd.vals.length cv,.string (bs b.hd.vote),.bool b.hd.add,.int .u64 (b.hd.round:Int),.slice s b.hd.seals.length cs,.slice t b.txs.length ct]
end Go.Proofs.YteoednifdpdbnaaGreat
