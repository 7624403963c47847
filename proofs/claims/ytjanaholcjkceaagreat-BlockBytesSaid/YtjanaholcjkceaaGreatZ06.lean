/- Signatures, transfers, headers and blocks in plain Lean: which may be, their bytes, and back; of no program. -/
import Derived.Test.YtjanaholcjkceaaGreatZ05
import Derived.Test.YtjanaholcjkceaaGreatZ01
import Derived.Lib.Bytealg
namespace Go.Proofs.YtjanaholcjkceaaGreat
set_option linter.unusedVariables false
set_option linter.unusedSimpArgs false
theorem zero64:(0:Nat) < 18446744073709551616:=by decide
/-- a signature -/
structure Sg where
 r:U4
 s:U4
 v:Int
deriving DecidableEq
structure Sg.Wf (x:Sg):Prop where
 r:x.r.Wf
 s:x.s.Wf
 v0:-9223372036854775808≤x.v
 v1:x.v≤9223372036854775807
def ordN:Nat:=115792089237316195423570985008687907852837564279074904382605163141518161494337
def insideN (a:U4):Bool:=decide (0 < a.val) && decide (a.val < ordN)
def highN (a:U4):Bool:=decide (ordN < 2 * a.val)
def okSg (x:Sg):Bool:=insideN x.r && insideN x.s && !highN x.s && (x.v == 0 || x.v == 1)
def zeroU:U4:=⟨0,0,0,0⟩
def zeroSg:Sg:=⟨zeroU,zeroU,0⟩
theorem zeroU_wf:zeroU.Wf:=⟨by decide,by decide,by decide,by decide⟩
theorem zeroSg_wf:zeroSg.Wf:=⟨zeroU_wf,zeroU_wf,by decide,by decide⟩
theorem zeroSg_no:okSg zeroSg=false:=by decide
/-- a number's 32 bytes -/
def uB (x:U4):Bytes:=bytesOf 32 x.val
theorem uB_len (x:U4):(uB x).length=32:=bytesOf_len _ _
def sgB (x:Sg):Bytes:=uB x.r ++ uB x.s ++ [UInt8.ofNat (x.v % 256).toNat]
theorem sgB_len (x:Sg):(sgB x).length=65:=by simp [sgB,uB_len]
def uOf (s:Bytes):U4:=U4.of (natOf s)
theorem uOf_wf (s:Bytes):(uOf s).Wf:=U4.of_wf _
def sgOf (s:Bytes):Sg:=⟨uOf (s.take 32),uOf ((s.drop 32).take 32),((s.getD 64 0).toNat:Int)⟩
theorem sgOf_wf (s:Bytes):(sgOf s).Wf:=⟨uOf_wf _,uOf_wf _,by have:=(s.getD 64 0).toNat_lt;simp only [sgOf];omega,by have:=(s.getD 64 0).toNat_lt;simp only [sgOf];omega⟩
theorem p256:(256:Nat) ^ 32=two256:=by decide
theorem uOf_uB {x:U4} (h:x.Wf):uOf (uB x)=x:=by
 unfold uOf uB
 rw [natOf_bytes,p256,Nat.mod_eq_of_lt (U4.val_lt h),U4.of_val h]
theorem uB_uOf {s:Bytes} (h:s.length=32):uB (uOf s)=s:=by
 have h1:=natOf_lt s
 rw [h,p256] at h1
 unfold uB uOf
 rw [U4.val_of h1,← h,bytesOf_nat]
theorem okSg_v {x:Sg} (h:okSg x=true):x.v=0∨x.v=1:=by
 unfold okSg at h
 simp only [Bool.and_eq_true,Bool.or_eq_true,beq_iff_eq] at h
 exact h.2
theorem sgOf_sgB {x:Sg} (h:x.Wf) (hk:okSg x=true):sgOf (sgB x)=x:=by
 obtain ⟨r,s,v⟩:=x
 have hv:=okSg_v hk
 simp only [] at hv
 have l1:(uB r).length=32:=uB_len r
 have l2:(uB s).length=32:=uB_len s
 unfold sgOf sgB
 simp only []
 have e1:(uB r ++ uB s ++ [UInt8.ofNat (v % 256).toNat]).take 32=uB r:=by
  rw [List.append_assoc,List.take_append_of_le_length (by omega),List.take_of_length_le (by omega)]
 have e2:((uB r ++ uB s ++ [UInt8.ofNat (v % 256).toNat]).drop 32).take 32=uB s:=by
  rw [List.append_assoc,List.drop_append,l1,Nat.sub_self,List.drop_of_length_le (by omega),List.drop_zero,List.nil_append,List.take_append_of_le_length (by omega),List.take_of_length_le (by omega)]
 have e3:(uB r ++ uB s ++ [UInt8.ofNat (v % 256).toNat]).getD 64 0=UInt8.ofNat (v % 256).toNat:=by
  rw [List.getD_eq_getElem?_getD,List.getElem?_append_right (by rw [List.length_append,l1,l2];decide),List.length_append,l1,l2];rfl
 rw [e1,e2,e3,uOf_uB h.r,uOf_uB h.s]
 rcases hv with rfl | rfl <;> rfl
theorem sgB_sgOf {s:Bytes} (h:s.length=65) (hk:okSg (sgOf s)=true):sgB (sgOf s)=s:=by
 have hv:=okSg_v hk
 simp only [sgOf] at hv
 unfold sgB sgOf
 simp only []
 rw [uB_uOf (by rw [List.length_take];omega),uB_uOf (by rw [List.length_take,List.length_drop];omega)]
 have hc:(UInt8.ofNat (((s.getD 64 0).toNat:Int) % 256).toNat)=s.getD 64 0:=by
  have h1:(((s.getD 64 0).toNat:Int) % 256).toNat=(s.getD 64 0).toNat:=by omega
  rw [h1];simp
 rw [hc]
 have h1:s.drop 64 = [s.getD 64 0]:=by
  rw [List.drop_eq_getElem_cons (by omega),List.drop_of_length_le (by omega),List.getD_eq_getElem?_getD,List.getElem?_eq_getElem (by omega)];rfl
 rw [List.append_assoc,← h1,show s.drop 64=(s.drop 32).drop 32 by rw [List.drop_drop],List.take_append_drop,List.take_append_drop]
/-- a transfer -/
structure Tr where
 to:Bytes
 am:Nat
 no:Nat
 sg:Sg
deriving DecidableEq
structure Tr.Wf (t:Tr):Prop where
 am:t.am < 18446744073709551616
 no:t.no < 18446744073709551616
 sg:t.sg.Wf
def okTr (t:Tr):Bool:=t.to.length == 20 && okSg t.sg
def zeroTr:Tr:=⟨[],0,0,zeroSg⟩
theorem zeroTr_wf:zeroTr.Wf:=⟨by decide,by decide,zeroSg_wf⟩
def trK:List Kd:=[⟨97,false⟩,⟨110,false⟩,⟨110,false⟩,⟨115,false⟩]
theorem trK_ok:OkForm trK:=by
 intro k hk
 simp only [trK,List.mem_cons,List.not_mem_nil,or_false] at hk
 rcases hk with rfl | rfl | rfl | rfl <;> simp [okC]
def trF (t:Tr):List Fd:=[⟨0,t.to,[]⟩,⟨t.am,[],[]⟩,⟨t.no,[],[]⟩,⟨0,sgB t.sg,[]⟩]
def trB (t:Tr):Bytes:=writeP (recF trK (trF t))
theorem trF_fits {t:Tr} (h:okTr t=true):fitsP trK (trF t)=true:=by
 unfold okTr at h
 simp only [Bool.and_eq_true,beq_iff_eq] at h
 simp [fitsP,trK,trF,fitF,fitC,sizeC,sgB_len,h.1]
theorem trF_small {t:Tr} (h:t.Wf):smallF (trF t):=by
 intro f hf
 simp only [trF,List.mem_cons,List.not_mem_nil,or_false] at hf
 rcases hf with rfl | rfl | rfl | rfl
 ·exact ⟨zero64,fun x hx=>by cases hx⟩
 ·exact ⟨h.am,fun x hx=>by cases hx⟩
 ·exact ⟨h.no,fun x hx=>by cases hx⟩
 ·exact ⟨zero64,fun x hx=>by cases hx⟩
theorem leaf_num {n:Nat} (h:n < 18446744073709551616):(writeP (leafIt (digs n))).length≤9:=by
 have:=digs_len_lt 8 n (by omega)
 have:=leaf_len55 (digs n) (by omega)
 omega
theorem trB_len {t:Tr} (h:okTr t=true) (hw:t.Wf):(trB t).length≤120:=by
 unfold okTr at h
 simp only [Bool.and_eq_true,beq_iff_eq] at h
 have h1:=leaf_len55 t.to (by omega)
 have h2:=leaf_num hw.am
 have h3:=leaf_num hw.no
 have h4:=leaf_len (sgB t.sg) (by rw [sgB_len];decide)
 rw [sgB_len] at h4
 have hl:(writesP (itemsF trK (trF t))).length=(writeP (leafIt t.to)).length+((writeP (leafIt (digs t.am))).length+((writeP (leafIt (digs t.no))).length+((writeP (leafIt (sgB t.sg))).length+0))):=by
  simp only [trK,trF,itemsF,itemF,lfI,writesP,List.length_append,List.length_nil]
  rfl
 unfold trB recF
 rw [list_len]
 have:=headP_len_le 192 (writesP (itemsF trK (trF t))).length (by omega)
 omega
def trOf (l:List Fd):Tr:=⟨(l.getD 0 ⟨0,[],[]⟩).b,(l.getD 1 ⟨0,[],[]⟩).n,(l.getD 2 ⟨0,[],[]⟩).n,sgOf (l.getD 3 ⟨0,[],[]⟩).b⟩
theorem trOf_trF {t:Tr} (h:okTr t=true) (hw:t.Wf):trOf (trF t)=t:=by
 unfold okTr at h
 simp only [Bool.and_eq_true,beq_iff_eq] at h
 obtain ⟨to,am,no,sg⟩:=t
 simp only [trOf,trF,List.getD_cons_zero,List.getD_cons_succ,Tr.mk.injEq,true_and]
 exact sgOf_sgB hw.sg h.2
/-- fields that fit a transfer's form -/
theorem tr_fields {l:List Fd} (h:fitsP trK l=true) (hn:smallF l):∃ (b:Bytes) (x y:Nat) (g:Bytes),l = [⟨0,b,[]⟩,⟨x,[],[]⟩,⟨y,[],[]⟩,⟨0,g,[]⟩]∧b.length=20∧g.length=65∧x < 18446744073709551616∧y < 18446744073709551616:=by
 have hl:=fitsP_len h
 match l,hl with
 | [f0,f1,f2,f3],_ =>
  obtain ⟨n0,b0,l0⟩:=f0
  obtain ⟨n1,b1,l1⟩:=f1
  obtain ⟨n2,b2,l2⟩:=f2
  obtain ⟨n3,b3,l3⟩:=f3
  simp [fitsP,trK,fitF,fitC,sizeC] at h
  obtain ⟨⟨rfl,rfl,h1⟩,⟨rfl,rfl⟩,⟨rfl,rfl⟩,rfl,rfl,h2⟩:=h
  exact ⟨b0,n1,n2,b3,rfl,h1,h2,(hn ⟨n1,[],[]⟩ (by simp)).1,(hn ⟨n2,[],[]⟩ (by simp)).1⟩
/-- what reading a transfer says -/
def TrSaid (s:Bytes) (t:Tr) (no:Nat):Prop:=(no=0∧okTr t=true∧t.Wf∧s=trB t)∨(no=4∧t=zeroTr∧∀ u:Tr,okTr u=true→u.Wf→s≠trB u)
theorem trSaid_none {s:Bytes} {l:List Fd} {no:Nat} (h:FrSaid trK s l no) (hn:0 < no):TrSaid s zeroTr 4:=by
 rcases h with ⟨rfl,_⟩ | ⟨_,_,h⟩
 ·omega
 ·refine .inr ⟨rfl,rfl,fun u hu hw e=>?_⟩
  have:=trB_len hu hw
  exact h (by rw [e];omega) _ (trF_fits hu) (trF_small hw) e
theorem trSaid_some {s:Bytes} {l:List Fd} (h:FrSaid trK s l 0):l.length=4∧(l.getD 3 ⟨0,[],[]⟩).b.length=65∧(okSg (sgOf (l.getD 3 ⟨0,[],[]⟩).b)=true→TrSaid s (trOf l) 0)∧(okSg (sgOf (l.getD 3 ⟨0,[],[]⟩).b)=false→TrSaid s zeroTr 4):=by
 rcases h with ⟨_,h1,h2,h3,h4⟩ | ⟨h,_⟩
 ·obtain ⟨b,x,y,g,rfl,hb,hg,hx,hy⟩:=tr_fields h1 h2
  refine ⟨rfl,hg,fun hk=>?_,fun hk=>?_⟩
  ·have hk:okSg (sgOf g)=true:=hk
   refine .inl ⟨rfl,?_,⟨hx,hy,sgOf_wf g⟩,?_⟩
   ·show (b.length == 20 && okSg (sgOf g))=true
    rw [hk,hb];rfl
   ·rw [h3]
    unfold trB
    congr 2
    show _=([⟨0,b,[]⟩,⟨x,[],[]⟩,⟨y,[],[]⟩,⟨0,sgB (sgOf g),[]⟩]:List Fd)
    rw [sgB_sgOf hg hk]
  ·have hk:okSg (sgOf g)=false:=hk
   refine .inr ⟨rfl,rfl,fun u hu hw e=>?_⟩
   have:=rec_inj (by decide) h1 h2 (trF_fits hu) (trF_small hw) (h3.symm.trans e)
   have ho:=trOf_trF hu hw
   rw [← this] at ho
   have:sgOf g=u.sg:=by rw [← ho];rfl
   rw [this] at hk
   unfold okTr at hu
   rw [hk] at hu
   simp at hu
 ·omega
theorem trB_inj {t u:Tr} (h:okTr t=true) (hw:t.Wf) (h':okTr u=true) (hw':u.Wf) (e:trB t=trB u):t=u:=by
 have:=rec_inj (by decide) (trF_fits h) (trF_small hw) (trF_fits h') (trF_small hw') e
 rw [← trOf_trF h hw,this,trOf_trF h' hw']
abbrev sgR (x:Sg):Array Value:=#[.int .u64 (x.r.a:Int),.int .u64 (x.r.b:Int),.int .u64 (x.r.c:Int),.int .u64 (x.r.d:Int),.int .u64 (x.s.a:Int),.int .u64 (x.s.b:Int),.int .u64 (x.s.c:Int),.int .u64 (x.s.d:Int),.int .i64 x.v]
abbrev trR (t:Tr):Array Value:=#[.string (bs t.to),.int .u64 (t.am:Int),.int .u64 (t.no:Int),.int .u64 (t.sg.r.a:Int),.int .u64 (t.sg.r.b:Int),.int .u64 (t.sg.r.c:Int),.int .u64 (t.sg.r.d:Int),.int .u64 (t.sg.s.a:Int),.int .u64 (t.sg.s.b:Int),.int .u64 (t.sg.s.c:Int),.int .u64 (t.sg.s.d:Int),.int .i64 t.sg.v]
/- Headers and blocks in plain Lean: which may be, their bytes, and back; of no program. -/
/-- a header -/
structure Hd where
 parent:Bytes
 height:Nat
 root:Bytes
 txs:Bytes
 prop:Bytes
 van:Bytes
 vals:List Bytes
 vote:Bytes
 add:Bool
 round:Nat
 seals:List Sg
structure Hd.Wf (h:Hd):Prop where
 height:h.height < 18446744073709551616
 round:h.round < 18446744073709551616
 seals:∀ x∈h.seals,x.Wf
/-- do addresses rise? -/
def riseV:Option Bytes→List Bytes→Bool
 | _,[]=>true
 | prev,a :: l=>a.length == 20 && (match prev with | none=>true | some p=>lessB p a) && riseV (some a) l
def okVals (l:List Bytes):Bool:=riseV none l && decide (1≤l.length) && decide (l.length≤16)
def okHd (h:Hd):Bool:=h.parent.length == 32 && h.root.length == 32 && h.txs.length == 32 && h.prop.length == 20 && decide (h.van.length≤8) && okVals h.vals && (h.vote.length == 20 || (h.vote == [] && !h.add)) && decide (h.seals.length≤16) && h.seals.all okSg
structure OkHd (h:Hd):Prop where
 parent:h.parent.length=32
 root:h.root.length=32
 txs:h.txs.length=32
 prop:h.prop.length=20
 van:h.van.length≤8
 vals:okVals h.vals=true
 vote:h.vote.length=20∨(h.vote = []∧h.add=false)
 seals:h.seals.length≤16
 each:∀ x∈h.seals,okSg x=true
theorem okHd_iff (h:Hd):okHd h=true↔OkHd h:=by
 unfold okHd
 simp only [Bool.and_eq_true,Bool.or_eq_true,beq_iff_eq,decide_eq_true_eq,Bool.not_eq_true',List.all_eq_true]
 constructor
 ·rintro ⟨⟨⟨⟨⟨⟨⟨⟨a,b⟩,c⟩,d⟩,e⟩,f⟩,g⟩,i⟩,j⟩
  exact ⟨a,b,c,d,e,f,g,i,j⟩
 ·rintro ⟨a,b,c,d,e,f,g,i,j⟩
  exact ⟨⟨⟨⟨⟨⟨⟨⟨a,b⟩,c⟩,d⟩,e⟩,f⟩,g⟩,i⟩,j⟩
theorem riseV_len:∀ (l:List Bytes) (p:Option Bytes),riseV p l=true→∀ a∈l,a.length=20
 | [],_,_,a,h=>by cases h
 | b :: l,p,h,a,ha=>by
  simp only [riseV,Bool.and_eq_true,beq_iff_eq] at h
  rcases List.mem_cons.1 ha with rfl | ha
  ·exact h.1.1
  ·exact riseV_len l _ h.2 a ha
theorem okVals_len {l:List Bytes} (h:okVals l=true):(∀ a∈l,a.length=20)∧l.length≤16:=by
 unfold okVals at h
 simp only [Bool.and_eq_true,decide_eq_true_eq] at h
 exact ⟨riseV_len l _ h.1.1,h.2⟩
def hdK:List Kd:=[⟨104,false⟩,⟨110,false⟩,⟨104,false⟩,⟨104,false⟩,⟨97,false⟩,⟨98,false⟩,⟨97,true⟩,⟨98,false⟩,⟨110,false⟩,⟨110,false⟩,⟨115,true⟩]
theorem hdK_ok:OkForm hdK:=by
 intro k hk
 simp only [hdK,List.mem_cons,List.not_mem_nil,or_false] at hk
 rcases hk with rfl | rfl | rfl | rfl | rfl | rfl | rfl | rfl | rfl | rfl | rfl <;> simp [okC]
def addN (b:Bool):Nat:=if b then 1 else 0
def valF (a:Bytes):Lf:=(0,a)
def sealF (x:Sg):Lf:=(0,sgB x)
def hdF (h:Hd):List Fd:=[⟨0,h.parent,[]⟩,⟨h.height,[],[]⟩,⟨0,h.root,[]⟩,⟨0,h.txs,[]⟩,⟨0,h.prop,[]⟩,⟨0,h.van,[]⟩,⟨0,[],h.vals.map valF⟩,⟨0,h.vote,[]⟩,⟨addN h.add,[],[]⟩,⟨h.round,[],[]⟩,⟨0,[],h.seals.map sealF⟩]
def hdB (h:Hd):Bytes:=writeP (recF hdK (hdF h))
theorem hdF_fits {h:Hd} (hk:OkHd h):fitsP hdK (hdF h)=true:=by
 obtain ⟨a,b,c,d,e,f,g,i,j⟩:=hk
 obtain ⟨f1,f2⟩:=okVals_len f
 have hv:h.vote.length≤64:=by
  rcases g with g | ⟨g,_⟩
  ·omega
  ·rw [g];exact Nat.zero_le _
 have h1:(h.vals.map valF).all (fitC 97)=true:=by
  rw [List.all_eq_true]
  intro x hx
  obtain ⟨y,hy,rfl⟩:=List.mem_map.1 hx
  simp [valF,fitC,sizeC,f1 y hy]
 have h2:(h.seals.map sealF).all (fitC 115)=true:=by
  rw [List.all_eq_true]
  intro x hx
  obtain ⟨y,hy,rfl⟩:=List.mem_map.1 hx
  simp [sealF,fitC,sizeC,sgB_len]
 have l1:(h.vals.map valF).length≤40:=by rw [List.length_map];omega
 have l2:(h.seals.map sealF).length≤40:=by rw [List.length_map];omega
 unfold hdK hdF
 generalize h.vals.map valF=V at h1 l1 ⊢
 generalize h.seals.map sealF=S at h2 l2 ⊢
 generalize addN h.add=N
 have e1:fitF ⟨97,true⟩ ⟨0,[],V⟩=true:=by simp only [fitF,if_true,h1,decide_eq_true l1];rfl
 have e2:fitF ⟨115,true⟩ ⟨0,[],S⟩=true:=by simp only [fitF,if_true,h2,decide_eq_true l2];rfl
 simp only [fitsP,e1,e2]
 simp [fitF,fitC,sizeC,a,b,c,d,hv]
 omega
theorem hdF_small {h:Hd} (hw:h.Wf):smallF (hdF h):=by
 intro f hf
 have h0:addN h.add < 18446744073709551616:=by unfold addN;split <;> decide
 have hv:∀ x∈h.vals.map valF,x.1 < 18446744073709551616:=fun x hx=>by
  obtain ⟨y,_,rfl⟩:=List.mem_map.1 hx
  show (0:Nat) < _;omega
 have hs:∀ x∈h.seals.map sealF,x.1 < 18446744073709551616:=fun x hx=>by
  obtain ⟨y,_,rfl⟩:=List.mem_map.1 hx
  show (0:Nat) < _;omega
 have hz:∀ x∈([]:List Lf),x.1 < 18446744073709551616:=fun x hx=>by cases hx
 simp only [hdF,List.mem_cons,List.not_mem_nil,or_false] at hf
 rcases hf with rfl | rfl | rfl | rfl | rfl | rfl | rfl | rfl | rfl | rfl | rfl
 ·exact ⟨zero64,hz⟩
 ·exact ⟨hw.height,hz⟩
 ·exact ⟨zero64,hz⟩
 ·exact ⟨zero64,hz⟩
 ·exact ⟨zero64,hz⟩
 ·exact ⟨zero64,hz⟩
 ·exact ⟨zero64,hv⟩
 ·exact ⟨zero64,hz⟩
 ·exact ⟨h0,hz⟩
 ·exact ⟨hw.round,hz⟩
 ·exact ⟨zero64,hs⟩
theorem hdB_len {h:Hd} (hk:OkHd h) (hw:h.Wf):(hdB h).length≤1700:=by
 obtain ⟨a,b,c,d,e,f,g,i,j⟩:=hk
 obtain ⟨f1,f2⟩:=okVals_len f
 have h0:addN h.add < 18446744073709551616:=by unfold addN;split <;> decide
 have hv:h.vote.length≤20:=by
  rcases g with g | ⟨g,_⟩
  ·omega
  ·rw [g];exact Nat.zero_le _
 have p1:=leaf_len55 h.parent (by omega)
 have p2:=leaf_num hw.height
 have p3:=leaf_len55 h.root (by omega)
 have p4:=leaf_len55 h.txs (by omega)
 have p5:=leaf_len55 h.prop (by omega)
 have p6:=leaf_len55 h.van (by omega)
 have p8:=leaf_len55 h.vote (by omega)
 have p9:=leaf_num h0
 have p10:=leaf_num hw.round
 have q1:=writes_le ((h.vals.map valF).map (lfI 97)) 21 (fun x hx=>by
  obtain ⟨y,hy,rfl⟩:=List.mem_map.1 hx
  obtain ⟨z,hz,rfl⟩:=List.mem_map.1 hy
  have:=leaf_len55 z (by rw [f1 z hz];decide)
  rw [f1 z hz] at this
  exact this)
 have q2:=writes_le ((h.seals.map sealF).map (lfI 115)) 68 (fun x hx=>by
  obtain ⟨y,hy,rfl⟩:=List.mem_map.1 hx
  obtain ⟨z,hz,rfl⟩:=List.mem_map.1 hy
  have:=leaf_len (sgB z) (by rw [sgB_len];decide)
  rw [sgB_len] at this
  exact this)
 simp only [List.length_map] at q1 q2
 have r1:=headP_len_le 192 _ (show (writesP ((h.vals.map valF).map (lfI 97))).length < 65536 by omega)
 have r2:=headP_len_le 192 _ (show (writesP ((h.seals.map sealF).map (lfI 115))).length < 65536 by omega)
 have p7:=list_len ((h.vals.map valF).map (lfI 97))
 have p11:=list_len ((h.seals.map sealF).map (lfI 115))
 have hl:(writesP (itemsF hdK (hdF h))).length=(writeP (leafIt h.parent)).length+((writeP (leafIt (digs h.height))).length+((writeP (leafIt h.root)).length+((writeP (leafIt h.txs)).length+((writeP (leafIt h.prop)).length+((writeP (leafIt h.van)).length+((writeP (listIt ((h.vals.map valF).map (lfI 97)))).length+((writeP (leafIt h.vote)).length+((writeP (leafIt (digs (addN h.add)))).length+((writeP (leafIt (digs h.round))).length+((writeP (listIt ((h.seals.map sealF).map (lfI 115)))).length+0)))))))))):=by
  simp only [hdK,hdF,itemsF,itemF,lfI,writesP,List.length_append,List.length_nil]
  rfl
 unfold hdB recF
 rw [list_len]
 have:=headP_len_le 192 (writesP (itemsF hdK (hdF h))).length (by omega)
 omega
def fdAt (l:List Fd) (i:Nat):Fd:=l.getD i ⟨0,[],[]⟩
def hdOf (l:List Fd):Hd:=⟨(fdAt l 0).b,(fdAt l 1).n,(fdAt l 2).b,(fdAt l 3).b,(fdAt l 4).b,(fdAt l 5).b,(fdAt l 6).l.map (·.2),(fdAt l 7).b,(fdAt l 8).n == 1,(fdAt l 9).n,(fdAt l 10).l.map fun x=>sgOf x.2⟩
theorem addN_one (b:Bool):(addN b == 1)=b:=by cases b <;> rfl
theorem hdOf_hdF {h:Hd} (hk:OkHd h) (hw:h.Wf):hdOf (hdF h)=h:=by
 obtain ⟨parent,height,root,txs,prop,van,vals,vote,add,round,seals⟩:=h
 have e1:(vals.map valF).map (·.2)=vals:=by rw [List.map_map];exact List.map_id _
 have e2:(seals.map sealF).map (fun x=>sgOf x.2)=seals:=by
  rw [List.map_map]
  have:∀ x∈seals,(fun x:Lf=>sgOf x.2) (sealF x)=x:=fun x hx=>sgOf_sgB (hw.seals x hx) (hk.each x hx)
  exact (List.map_congr_left this).trans (List.map_id _)
 simp only [hdOf,fdAt,hdF,List.getD_cons_zero,List.getD_cons_succ,Hd.mk.injEq,true_and,e1,e2,addN_one]
/-- fields that fit a header's form -/
theorem hd_fields {l:List Fd} (h:fitsP hdK l=true) (hn:smallF l):∃ (b0:Bytes) (n1:Nat) (b2 b3 b4 b5:Bytes) (l6:List Lf) (b7:Bytes) (n8 n9:Nat) (l10:List Lf),
  l = [⟨0,b0,[]⟩,⟨n1,[],[]⟩,⟨0,b2,[]⟩,⟨0,b3,[]⟩,⟨0,b4,[]⟩,⟨0,b5,[]⟩,⟨0,[],l6⟩,⟨0,b7,[]⟩,⟨n8,[],[]⟩,⟨n9,[],[]⟩,⟨0,[],l10⟩] ∧
  n1 < 18446744073709551616∧n8 < 18446744073709551616∧n9 < 18446744073709551616∧(∀ x∈l6,x.1=0∧x.2.length=20)∧(∀ x∈l10,x.1=0∧x.2.length=65)∧l6.length≤40∧l10.length≤40:=by
 have hl:=fitsP_len h
 match l,hl with
 | [f0,f1,f2,f3,f4,f5,f6,f7,f8,f9,f10],_ =>
  obtain ⟨m0,c0,k0⟩:=f0
  obtain ⟨m1,c1,k1⟩:=f1
  obtain ⟨m2,c2,k2⟩:=f2
  obtain ⟨m3,c3,k3⟩:=f3
  obtain ⟨m4,c4,k4⟩:=f4
  obtain ⟨m5,c5,k5⟩:=f5
  obtain ⟨m6,c6,k6⟩:=f6
  obtain ⟨m7,c7,k7⟩:=f7
  obtain ⟨m8,c8,k8⟩:=f8
  obtain ⟨m9,c9,k9⟩:=f9
  obtain ⟨m10,c10,k10⟩:=f10
  have a1:=(hn ⟨m1,c1,k1⟩ (by simp)).1
  have a8:=(hn ⟨m8,c8,k8⟩ (by simp)).1
  have a9:=(hn ⟨m9,c9,k9⟩ (by simp)).1
  simp [fitsP,hdK,fitF,fitC,sizeC] at h
  obtain ⟨⟨rfl,rfl,_⟩,⟨rfl,rfl⟩,⟨rfl,rfl,_⟩,⟨rfl,rfl,_⟩,⟨rfl,rfl,_⟩,⟨rfl,rfl,_⟩,⟨⟨⟨rfl,rfl⟩,g6⟩,h6⟩,⟨rfl,rfl,_⟩,⟨rfl,rfl⟩,⟨rfl,rfl⟩,⟨⟨rfl,rfl⟩,g10⟩,h10⟩:=h
  exact ⟨c0,m1,c2,c3,c4,c5,k6,c7,m8,m9,k10,rfl,a1,a8,a9,fun x hx=>h6 _ _ hx,fun x hx=>h10 _ _ hx,g6,g10⟩
/-- what reading a header says -/
def zeroHd:Hd:=⟨[],0,[],[],[],[],[],[],false,0,[]⟩
def HdSaid (s:Bytes) (h:Hd) (no:Nat):Prop:=(no=0∧OkHd h∧h.Wf∧s=hdB h)∨(no=4∧h=zeroHd∧∀ u:Hd,OkHd u→u.Wf→s≠hdB u)
theorem hdSaid_none {s:Bytes} {l:List Fd} {no:Nat} (h:FrSaid hdK s l no) (hn:0 < no):HdSaid s zeroHd 4:=by
 rcases h with ⟨rfl,_⟩ | ⟨_,_,h⟩
 ·omega
 ·refine .inr ⟨rfl,rfl,fun u hu hw e=>?_⟩
  have:=hdB_len hu hw
  exact h (by rw [e];omega) _ (hdF_fits hu) (hdF_small hw) e
/-- what holds of fields that are read -/
theorem hdSaid_some {s:Bytes} {l:List Fd} (h:FrSaid hdK s l 0):l.length=11∧(∀ x∈(fdAt l 6).l,x.1=0∧x.2.length=20)∧(∀ x∈(fdAt l 10).l,x.1=0∧x.2.length=65)∧(fdAt l 6).l.length≤40∧(fdAt l 10).l.length≤40∧(hdOf l).Wf ∧
  ((∀ x∈(fdAt l 10).l,okSg (sgOf x.2)=true)→(fdAt l 8).n≤1→OkHd (hdOf l)→HdSaid s (hdOf l) 0) ∧
  ((∃ x∈(fdAt l 10).l,okSg (sgOf x.2)=false)→HdSaid s zeroHd 4)∧(1 < (fdAt l 8).n→HdSaid s zeroHd 4)∧(¬ OkHd (hdOf l)→HdSaid s zeroHd 4):=by
 rcases h with ⟨_,h1,h2,h3,h4⟩ | ⟨h,_⟩
 ·obtain ⟨b0,n1,b2,b3,b4,b5,l6,b7,n8,n9,l10,rfl,i1,i8,i9,i6,i10,j6,j10⟩:=hd_fields h1 h2
  have back:∀ u:Hd,OkHd u→u.Wf→s=hdB u → [⟨0,b0,[]⟩,⟨n1,[],[]⟩,⟨0,b2,[]⟩,⟨0,b3,[]⟩,⟨0,b4,[]⟩,⟨0,b5,[]⟩,⟨0,[],l6⟩,⟨0,b7,[]⟩,⟨n8,[],[]⟩,⟨n9,[],[]⟩,⟨0,[],l10⟩]=hdF u:=fun u hu hw e =>
   rec_inj (by decide) h1 h2 (hdF_fits hu) (hdF_small hw) (h3.symm.trans e)
  refine ⟨rfl,i6,i10,j6,j10,⟨i1,i9,fun x hx=>?_⟩,fun hs ha hk=>.inl ⟨rfl,hk,⟨i1,i9,fun x hx=>?_⟩,?_⟩,fun hs=>.inr ⟨rfl,rfl,fun u hu hw e=>?_⟩,fun ha=>.inr ⟨rfl,rfl,fun u hu hw e=>?_⟩,fun hk=>.inr ⟨rfl,rfl,fun u hu hw e=>?_⟩⟩
  ·obtain ⟨y,_,rfl⟩:=List.mem_map.1 (show x∈l10.map (fun x=>sgOf x.2) from hx)
   exact sgOf_wf _
  ·obtain ⟨y,_,rfl⟩:=List.mem_map.1 (show x∈l10.map (fun x=>sgOf x.2) from hx)
   exact sgOf_wf _
  ·rw [h3]
   unfold hdB
   congr 2
   have e6:(l6.map (·.2)).map valF=l6:=by
    rw [List.map_map]
    refine (List.map_congr_left (g:=id) fun x hx=>?_).trans (List.map_id _)
    obtain ⟨p,q⟩:=x
    have:=(i6 _ hx).1
    simp only [] at this
    subst this;rfl
   have e10:(l10.map fun x=>sgOf x.2).map sealF=l10:=by
    rw [List.map_map]
    refine (List.map_congr_left (g:=id) fun x hx=>?_).trans (List.map_id _)
    have h5:=hs x hx
    obtain ⟨p,q⟩:=x
    obtain ⟨g1,g2⟩:=i10 _ hx
    simp only [] at g1 g2 h5
    subst g1
    show (0,sgB (sgOf q))=(0,q)
    rw [sgB_sgOf g2 h5]
   have ha:n8≤1:=ha
   have e8:addN (n8 == 1)=n8:=by
    rcases (by omega:n8=0∨n8=1) with rfl | rfl <;> rfl
   simp only [hdF,hdOf,fdAt,List.getD_cons_zero,List.getD_cons_succ,e6,e10,e8]
  ·obtain ⟨x,hx,hx2⟩:=hs
   have:=back u hu hw e
   have hl10:l10=u.seals.map sealF:=by simp only [hdF,List.cons.injEq,Fd.mk.injEq,and_true,true_and] at this;exact this.2.2.2.2.2.2.2.2.2.2
   rw [show (fdAt _ 10).l=l10 from rfl,hl10] at hx
   obtain ⟨y,hy,rfl⟩:=List.mem_map.1 hx
   rw [show sgOf (sealF y).2=y from sgOf_sgB (hw.seals y hy) (hu.each y hy),hu.each y hy] at hx2
   cases hx2
  ·have:=back u hu hw e
   have h8:n8=addN u.add:=by simp only [hdF,List.cons.injEq,Fd.mk.injEq,and_true,true_and] at this;exact this.2.2.2.2.2.2.2.2.1
   have ha:1 < n8:=ha
   unfold addN at h8
   split at h8 <;> omega
  ·have:=back u hu hw e
   rw [this,hdOf_hdF hu hw] at hk
   exact hk hu
 ·omega
theorem hdB_inj {h u:Hd} (hk:OkHd h) (hw:h.Wf) (hk':OkHd u) (hw':u.Wf) (e:hdB h=hdB u):h=u:=by
 have:=rec_inj (by decide) (hdF_fits hk) (hdF_small hw) (hdF_fits hk') (hdF_small hw') e
 rw [← hdOf_hdF hk hw,this,hdOf_hdF hk' hw']
/-- a block -/
structure Bk where
 hd:Hd
 txs:List Tr
structure Bk.Wf (b:Bk):Prop where
 hd:b.hd.Wf
 txs:∀ t∈b.txs,t.Wf
def sumT (t:Tr):Bytes:=sumK (trB t)
def sumsT (l:List Tr):Bytes:=sumK (l.map sumT).flatten
structure OkBk (b:Bk):Prop where
 hd:OkHd b.hd
 len:b.txs.length≤4
 each:∀ t∈b.txs,okTr t=true
 sum:sumsT b.txs=b.hd.txs
def okBk (b:Bk):Bool:=okHd b.hd && decide (b.txs.length≤4) && b.txs.all okTr && sumsT b.txs == b.hd.txs
theorem okBk_iff (b:Bk):okBk b=true↔OkBk b:=by
 unfold okBk
 simp only [Bool.and_eq_true,beq_iff_eq,decide_eq_true_eq,List.all_eq_true,okHd_iff]
 exact ⟨fun ⟨⟨⟨a,b⟩,c⟩,d⟩=>⟨a,b,c,d⟩,fun ⟨a,b,c,d⟩=>⟨⟨⟨a,b⟩,c⟩,d⟩⟩
def bkL (b:Bk):List Item:=leafIt (hdB b.hd) :: b.txs.map fun t=>leafIt (trB t)
def bkI (b:Bk):Item:=listIt (bkL b)
def bkB (b:Bk):Bytes:=writeP (bkI b)
theorem bkI_fine (b:Bk):pureP (bkI b)=true∧depthP (bkI b)≤1:=by
 unfold bkI
 rw [list_pure,list_depth,pures_iff]
 refine ⟨fun x hx=>?_,?_⟩
 ·rcases List.mem_cons.1 hx with rfl | hx
  ·rfl
  ·obtain ⟨t,_,rfl⟩:=List.mem_map.1 hx;rfl
 ·have:depthsP (bkL b)≤0:=(depths_le _ _).2 (fun x hx=>by
   rcases List.mem_cons.1 hx with rfl | hx
   ·exact Nat.le_refl _
   ·obtain ⟨t,_,rfl⟩:=List.mem_map.1 hx;exact Nat.le_refl _)
  omega
theorem bkB_len {b:Bk} (hk:OkBk b) (hw:b.Wf):(bkB b).length≤2300∧countP (bkI b)≤6:=by
 have h1:=hdB_len hk.hd hw.hd
 have h2:=leaf_len (hdB b.hd) (by omega)
 have h3:=writes_le (b.txs.map fun t=>leafIt (trB t)) 123 (fun x hx=>by
  obtain ⟨t,ht,rfl⟩:=List.mem_map.1 hx
  have h4:=trB_len (hk.each t ht) (hw.txs t ht)
  have:=leaf_len (trB t) (by omega)
  omega)
 rw [List.length_map] at h3
 have:=hk.len
 have h5:(writesP (bkL b)).length=(writeP (leafIt (hdB b.hd))).length+(writesP (b.txs.map fun t=>leafIt (trB t))).length:=by
  simp only [bkL,writesP,List.length_append]
 have h6:=headP_len_le 192 (writesP (bkL b)).length (by omega)
 have h7:∀ l:List Tr,countsP (l.map fun t=>leafIt (trB t))=l.length:=fun l=>by
  induction l with
  | nil=>rfl
  | cons a l ih=>rw [List.map_cons,countsP,ih];simp [leafIt,countP,countsP];omega
 refine ⟨?_,?_⟩
 ·unfold bkB bkI
  rw [list_len];omega
 ·show 1+(countP (leafIt (hdB b.hd))+countsP (b.txs.map fun t=>leafIt (trB t)))≤6
  rw [h7]
  show 1+(1+0+b.txs.length)≤6
  omega
theorem bkB_inj {b u:Bk} (hk:OkBk b) (hw:b.Wf) (hk':OkBk u) (hw':u.Wf) (e:bkB b=bkB u):b=u:=by
 have h1:=(bkB_len hk hw).1
 have h2:=(bkB_len hk' hw').1
 unfold bkB at h1 h2 e
 have e1:=(writeP_inj _ _ [] [] (bkI_fine b).1 (bkI_fine u).1 (by omega) (by omega) (by rw [e])).1
 have e2:bkL b=bkL u:=by
  unfold bkI listIt at e1;injection e1
 unfold bkL at e2
 injection e2 with e3 e4
 have hh:b.hd=u.hd:=hdB_inj hk.hd hw.hd hk'.hd hw'.hd (by unfold leafIt at e3;injection e3)
 have key:∀ (l m:List Tr),(∀ t∈l,okTr t=true∧t.Wf)→(∀ t∈m,okTr t=true∧t.Wf)→(l.map fun t=>leafIt (trB t))=(m.map fun t=>leafIt (trB t))→l=m:=by
  intro l
  induction l with
  | nil=>intro m _ _ h;cases m with
   | nil=>rfl
   | cons a m=>cases h
  | cons a l ih=>intro m hl hm h;cases m with
   | nil=>cases h
   | cons c m =>
    simp only [List.map_cons,List.cons.injEq] at h
    have:a=c:=trB_inj (hl a (by simp)).1 (hl a (by simp)).2 (hm c (by simp)).1 (hm c (by simp)).2 (by have:=h.1;unfold leafIt at this;injection this)
    rw [this,ih m (fun t ht=>hl t (by simp [ht])) (fun t ht=>hm t (by simp [ht])) h.2]
 have ht:=key b.txs u.txs (fun t ht=>⟨hk.each t ht,hw.txs t ht⟩) (fun t ht=>⟨hk'.each t ht,hw'.txs t ht⟩) e4
 obtain ⟨b1,b2⟩:=b
 obtain ⟨u1,u2⟩:=u
 simp only [] at hh ht
 rw [hh,ht]
def zeroBk:Bk:=⟨zeroHd,[]⟩
/-- what reading a block says -/
def BkSaid (s:Bytes) (b:Bk) (no:Nat):Prop:=(no=0∧OkBk b∧b.Wf∧s=bkB b)∨(no=4∧b=zeroBk∧∀ u:Bk,OkBk u→u.Wf→s≠bkB u)
theorem bkSaid_fun {s:Bytes} {b u:Bk} {n m:Nat} (h:BkSaid s b n) (h':BkSaid s u m):b=u∧n=m:=by
 rcases h with ⟨rfl,a1,a2,a3⟩ | ⟨rfl,rfl,a1⟩ <;> rcases h' with ⟨rfl,b1,b2,b3⟩ | ⟨rfl,rfl,b1⟩
 ·exact ⟨bkB_inj a1 a2 b1 b2 (a3.symm.trans b3),rfl⟩
 ·exact absurd a3 (b1 _ a1 a2)
 ·exact absurd b3 (a1 _ b1 b2)
 ·exact ⟨rfl,rfl⟩
abbrev hdR (h:Hd) (v:Option Addr) (cv:Nat) (s:Option Addr) (cs:Nat):Array Value:=#[.string (bs h.parent),.int .u64 (h.height:Int),.string (bs h.root),.string (bs h.txs),.string (bs h.prop),.string (bs h.van),.slice v h.vals.length cv,.string (bs h.vote),.bool h.add,.int .u64 (h.round:Int),.slice s h.seals.length cs]
abbrev hbR (h:Hd) (v:Option Addr) (cv:Nat) (s:Option Addr) (cs:Nat) (u:Value):Array Value:=#[.string (bs h.parent),.int .u64 (h.height:Int),.string (bs h.root),.string (bs h.txs),.string (bs h.prop),.string (bs h.van),.slice v h.vals.length cv,.string (bs h.vote),.bool h.add,.int .u64 (h.round:Int),.slice s h.seals.length cs,u]
abbrev bkR (b:Bk) (v:Option Addr) (cv:Nat) (s:Option Addr) (cs:Nat) (t:Option Addr) (ct:Nat):Array Value:=#[.string (bs b.hd.parent),.int .u64 (b.hd.height:Int),.string (bs b.hd.root),.string (bs b.hd.txs),.string (bs b.hd.prop),.string (bs b.hd.van),.slice v b.hd.vals.length cv,.string (bs b.hd.vote),.bool b.hd.add,.int .u64 (b.hd.round:Int),.slice s b.hd.seals.length cs,.slice t b.txs.length ct]
end Go.Proofs.YtjanaholcjkceaaGreat
