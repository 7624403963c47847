/- RLP in plain Lean: items, how they are written, that writing can be read back; of no program. -/
import Derived.Lib.Strings
namespace Go.Proofs.YteoednifdpdbnaaGreat
set_option linter.unusedVariables false
set_option linter.unusedSimpArgs false
abbrev Bytes:=List UInt8
inductive Item where
 | mk (l:Bool) (b:Bytes) (ks:List Item)
 deriving Inhabited
def Item.l:Item→Bool | .mk l _ _=>l
def Item.b:Item→Bytes | .mk _ b _=>b
def Item.ks:Item→List Item | .mk _ _ ks=>ks
theorem qsj {α:Type} {P:List α→Prop} (nil:P []) (snoc:∀ l c,P l→P (l ++ [c])) (l:List α):P l:=by
 have h:∀ m:List α,P m.reverse:=fun m=>by
  induction m with
  | nil=>exact nil
  | cons a m ih=>rw [List.reverse_cons];exact snoc _ _ ih
 have:=h l.reverse
 rwa [List.reverse_reverse] at this
/-- a number's bytes, the highest first -/
def digs (n:Nat):Bytes:=if _h:n=0 then [] else digs (n / 256) ++ [UInt8.ofNat (n % 256)]
termination_by n
decreasing_by omega
theorem qce:digs 0 = []:=by rw [digs];simp
theorem qds {n:Nat} (h:0 < n):digs n=digs (n / 256) ++ [UInt8.ofNat (n % 256)]:=by
 rw [digs,dif_neg (by omega)]
/-- the number of such bytes -/
def num (l:Bytes):Nat:=l.foldl (fun n c=>n * 256+c.toNat) 0
theorem qma:num []=0:=rfl
theorem qg6 (l:Bytes) (c:UInt8):num (l ++ [c])=num l * 256+c.toNat:=by simp [num]
theorem qfz (n:Nat):num (digs n)=n:=by
 induction n using Nat.strongRecOn with
 | _ n ih =>
  rcases Nat.eq_zero_or_pos n with h | h
  ·subst h;rw [qce];rfl
  ·rw [qds h,qg6,ih (n / 256) (by omega)]
   have:(UInt8.ofNat (n % 256)).toNat=n % 256:=by simp
   rw [this];omega
theorem qbl (k:Nat):∀ n,n < 256 ^ k→(digs n).length≤k:=by
 induction k with
 | zero=>intro n h;have:n=0:=by simpa using h
         subst this;rw [qce];simp
 | succ k ih =>
  intro n h
  rcases Nat.eq_zero_or_pos n with h0 | h0
  ·subst h0;rw [qce];simp
  ·rw [qds h0]
   have:=ih (n / 256) (by rw [Nat.pow_succ] at h;omega)
   simp;exact this
theorem qc4 {n:Nat} (h:0 < n):0 < (digs n).length:=by rw [qds h];simp
/-- the first of such bytes is no 0 -/
theorem qlh (n:Nat):∀ c l,digs n=c :: l→c≠0:=by
 induction n using Nat.strongRecOn with
 | _ n ih =>
  intro c l h
  rcases Nat.eq_zero_or_pos n with h0 | h0
  ·subst h0;rw [qce] at h;cases h
  ·rw [qds h0] at h
   cases hd:digs (n / 256) with
   | nil =>
    rw [hd] at h;simp at h
    have hz:n / 256=0:=by
     rcases Nat.eq_zero_or_pos (n / 256) with h1 | h1
     ·exact h1
     ·have:=qc4 h1;rw [hd] at this;simp at this
    obtain ⟨h,_⟩:=h
    intro hc;rw [hc] at h
    have:(UInt8.ofNat (n % 256)).toNat=0:=by rw [h];rfl
    have h2:(UInt8.ofNat (n % 256)).toNat=n % 256:=by simp
    omega
   | cons a t =>
    rw [hd] at h;simp at h
    exact h.1 ▸ ih (n / 256) (by omega) a t hd
/-- bytes without a 0 ahead are a number's -/
theorem qm7 (l:Bytes) (h:∀ c t,l=c :: t→c≠0):digs (num l)=l:=by
 induction l using qsj with
 | nil=>rw [qma,qce]
 | snoc l c ih =>
  rw [qg6]
  cases l with
  | nil =>
   have hc:c≠0:=h c [] rfl
   have h1:0 < c.toNat:=by
    rcases Nat.eq_zero_or_pos c.toNat with h0 | h0
    ·exact absurd (UInt8.toNat_inj.1 (by simpa using h0)) hc
    ·exact h0
   have h2:=c.toNat_lt
   rw [qma,qds (by omega),show (0 * 256+c.toNat) / 256=0 by omega,qce,show (0 * 256+c.toNat) % 256=c.toNat by omega]
   simp
  | cons a t =>
   have ih':=ih (fun c' t' e=>by simp at e;exact h c' (t' ++ [c]) (by simp [e.1,e.2]))
   have hpos:0 < num (a :: t):=by
    rcases Nat.eq_zero_or_pos (num (a :: t)) with h0 | h0
    ·rw [h0,qce] at ih';cases ih'
    ·exact h0
   have h2:=c.toNat_lt
   rw [qds (by omega),show (num (a :: t) * 256+c.toNat) / 256=num (a :: t) by omega,ih',show (num (a :: t) * 256+c.toNat) % 256=c.toNat by omega]
   simp
theorem qps (l:Bytes):num l < 256 ^ l.length:=by
 induction l using qsj with
 | nil=>simp [qma]
 | snoc l c ih =>
  have h2:=c.toNat_lt
  rw [qg6,List.length_append,List.length_singleton,Nat.pow_succ];omega
/-- what stands ahead of n bytes -/
def headP (from_ n:Nat):Bytes:=if n≤55 then [UInt8.ofNat (from_+n)] else UInt8.ofNat (from_+55+(digs n).length) :: digs n
mutual
def writeP:Item→Bytes
 | .mk true _ ks=>headP 192 (writesP ks).length ++ writesP ks
 | .mk false b _=>if b.length=1∧(b.headD 0).toNat < 128 then b else headP 128 b.length ++ b
def writesP:List Item→Bytes
 | []=>[]
 | k :: ks=>writeP k ++ writesP ks
end
mutual
def pureP:Item→Bool
 | .mk l b ks=>(if l then b.isEmpty else ks.isEmpty) && puresP ks
def puresP:List Item→Bool
 | []=>true
 | k :: ks=>pureP k && puresP ks
end
mutual
def depthP:Item→Nat
 | .mk l _ ks=>depthsP ks+(if l then 1 else 0)
def depthsP:List Item→Nat
 | []=>0
 | k :: ks=>max (depthP k) (depthsP ks)
end
mutual
/-- how many items there are in one, it too -/
def countP:Item→Nat
 | .mk _ _ ks=>1+countsP ks
def countsP:List Item→Nat
 | []=>0
 | k :: ks=>countP k+countsP ks
end
theorem qc8 (a b:List Item):writesP (a ++ b)=writesP a ++ writesP b:=by
 induction a with
 | nil=>simp [writesP]
 | cons k a ih=>simp [writesP,ih]
theorem qf8 (a b:List Item):puresP (a ++ b)=(puresP a && puresP b):=by
 induction a with
 | nil=>simp [puresP]
 | cons k a ih=>simp [puresP,ih,Bool.and_assoc]
theorem qil (a b:List Item):depthsP (a ++ b)=max (depthsP a) (depthsP b):=by
 induction a with
 | nil=>simp [depthsP]
 | cons k a ih=>simp [depthsP,ih,Nat.max_assoc]
theorem qim (a b:List Item):countsP (a ++ b)=countsP a+countsP b:=by
 induction a with
 | nil=>simp [countsP]
 | cons k a ih=>simp [countsP,ih,Nat.add_assoc]
theorem qgc (x:Item):1≤countP x:=by cases x;simp [countP]
theorem qcj (l:List Item):l.length≤countsP l:=by
 induction l with
 | nil=>simp
 | cons k a ih=>have:=qgc k;simp [countsP];omega
theorem qhy (x:Item):depthP x≤countP x:=by
 induction x using Item.rec (motive_2:=fun l=>depthsP l≤countsP l) with
 | mk l b ks ih=>simp only [depthP,countP];split <;> omega
 | nil=>simp [depthsP]
 | cons k ks ih1 ih2=>simp only [depthsP,countsP];omega
theorem qfx (f n:Nat):1≤(headP f n).length:=by unfold headP;split <;> simp
theorem qbb (f n:Nat) (h:n < 65536):(headP f n).length≤3:=by
 unfold headP;split
 ·simp
 ·have:=qbl 2 n h;simp;omega
theorem qdt (f n:Nat) (h:n < 16777216):(headP f n).length≤4:=by
 unfold headP;split
 ·simp
 ·have:=qbl 3 n h;simp;omega
theorem qcy (x:Item):1≤(writeP x).length:=by
 cases x with
 | mk l b ks =>
  cases l
  ·simp only [writeP]
   split
   ·omega
   ·rw [List.length_append];have:=qfx 128 b.length;omega
  ·simp only [writeP]
   rw [List.length_append];have:=qfx 192 (writesP ks).length;omega
theorem qmr (l:List Item):l.length≤(writesP l).length:=by
 induction l with
 | nil=>simp
 | cons k l ih=>have:=qcy k;simp [writesP];omega
theorem qej {n:Nat} (h:n < 256):(UInt8.ofNat n).toNat=n:=by simp;omega
/-- the first byte of a head -/
theorem qch (f n:Nat) (hf:f=128∨f=192) (hn:n < 65536):∃ c t,headP f n=c :: t∧f≤c.toNat∧(f=128→c.toNat < 192) ∧
  (n≤55→t = []∧c.toNat=f+n)∧(55 < n→t=digs n∧c.toNat=f+55+(digs n).length):=by
 unfold headP
 have hl:=qbl 2 n (by omega)
 split
 ·refine ⟨_,_,rfl,?_,?_,?_,?_⟩
  ·rw [qej (by omega)];omega
  ·rw [qej (by omega)];omega
  ·intro _;exact ⟨rfl,qej (by omega)⟩
  ·intro h;omega
 ·refine ⟨_,_,rfl,?_,?_,?_,?_⟩
  ·rw [qej (by omega)];omega
  ·rw [qej (by omega)];omega
  ·intro h;omega
  ·intro _;exact ⟨rfl,qej (by omega)⟩
/-- two heads with what is behind: they are the same -/
theorem qku {f n f' n':Nat} {a a':Bytes} (hf:f=128∨f=192) (hf':f'=128∨f'=192) (hn:n < 65536) (hn':n' < 65536)
  (h:headP f n ++ a=headP f' n' ++ a'):f=f'∧n=n'∧a=a':=by
 obtain ⟨c,t,e,g1,g2,g3,g4⟩:=qch f n hf hn
 obtain ⟨c',t',e',g1',g2',g3',g4'⟩:=qch f' n' hf' hn'
 have hl:=qbl 2 n (by omega)
 have hl':=qbl 2 n' (by omega)
 rw [e,e'] at h
 simp only [List.cons_append,List.cons.injEq] at h
 obtain ⟨hc,h⟩:=h
 subst hc
 have hff:f=f':=by
  rcases hf with rfl | rfl <;> rcases hf' with rfl | rfl
  ·rfl
  ·have:=g2 rfl;omega
  ·have:=g2' rfl;omega
  ·rfl
 subst hff
 by_cases h1:n≤55 <;> by_cases h2:n'≤55
 ·obtain ⟨rfl,k1⟩:=g3 h1
  obtain ⟨rfl,k2⟩:=g3' h2
  exact ⟨rfl,by omega,by simpa using h⟩
 ·obtain ⟨rfl,k1⟩:=g3 h1
  obtain ⟨rfl,k2⟩:=g4' (by omega)
  have:=qc4 (n:=n') (by omega)
  omega
 ·obtain ⟨rfl,k1⟩:=g4 (by omega)
  obtain ⟨rfl,k2⟩:=g3' h2
  have:=qc4 (n:=n) (by omega)
  omega
 ·obtain ⟨rfl,k1⟩:=g4 (by omega)
  obtain ⟨rfl,k2⟩:=g4' (by omega)
  obtain ⟨h3,h4⟩:=List.append_inj h (by omega)
  have:n=n':=by rw [← qfz n,h3,qfz]
  exact ⟨rfl,this,h4⟩
/-- the first byte of an item that is written, and which kind it is -/
theorem qdr (b:Bytes) (ks:List Item) (h:b.length < 65536):∃ c t,writeP (.mk false b ks)=c :: t∧c.toNat < 192∧(c.toNat < 128↔(b.length=1∧(b.headD 0).toNat < 128)):=by
 simp only [writeP]
 split
 ·rename_i h1
  obtain ⟨c,rfl⟩:∃ c,b = [c]:=by
   match b,h1.1 with
   | [c],_=>exact ⟨c,rfl⟩
  have:=h1.2
  simp at this
  exact ⟨c,[],rfl,by omega,by simp⟩
 ·rename_i h1
  obtain ⟨c,t,e,g1,g2,_⟩:=qch 128 b.length (.inl rfl) h
  rw [e]
  exact ⟨c,t ++ b,rfl,g2 rfl,by omega,fun h2=>absurd h2 h1⟩
mutual
/-- what is written is read in one way alone -/
theorem qbx:∀ (x y:Item) (a a':Bytes),pureP x=true→pureP y=true→(writeP x).length < 65536→(writeP y).length < 65536→writeP x ++ a=writeP y ++ a'→x=y∧a=a'
 | .mk false b ks,.mk false b' ks',a,a',hx,hy,lx,ly,h=>by
  simp only [pureP] at hx hy
  simp at hx hy
  obtain ⟨hx,_⟩:=hx
  obtain ⟨hy,_⟩:=hy
  subst hx;subst hy
  have hb:b.length < 65536:=by
   simp only [writeP] at lx;split at lx
   ·exact lx
   ·rw [List.length_append] at lx;omega
  have hb':b'.length < 65536:=by
   simp only [writeP] at ly;split at ly
   ·exact ly
   ·rw [List.length_append] at ly;omega
  obtain ⟨c,t,e,_,g⟩:=qdr b [] hb
  obtain ⟨c',t',e',_,g'⟩:=qdr b' [] hb'
  have hc:c=c':=by rw [e,e'] at h;simp at h;exact h.1
  subst hc
  by_cases h1:b.length=1∧(b.headD 0).toNat < 128
  ·have h2:=g'.1 (g.2 h1)
   simp only [writeP,if_pos h1,if_pos h2] at h
   obtain ⟨h3,h4⟩:=List.append_inj h (by omega)
   exact ⟨by rw [h3],h4⟩
  ·have h2:¬ (b'.length=1∧(b'.headD 0).toNat < 128):=fun h2=>h1 (g.1 (g'.2 h2))
   simp only [writeP,if_neg h1,if_neg h2,List.append_assoc] at h
   obtain ⟨_,h3,h4⟩:=qku (.inl rfl) (.inl rfl) hb hb' h
   obtain ⟨h5,h6⟩:=List.append_inj h4 h3
   exact ⟨by rw [h5],h6⟩
 | .mk true b ks,.mk true b' ks',a,a',hx,hy,lx,ly,h=>by
  simp only [pureP] at hx hy
  simp at hx hy
  obtain ⟨rfl,hx⟩:=hx
  obtain ⟨rfl,hy⟩:=hy
  simp only [writeP,List.length_append] at lx ly
  simp only [writeP,List.append_assoc] at h
  obtain ⟨_,h3,h4⟩:=qku (.inr rfl) (.inr rfl) (by omega) (by omega) h
  obtain ⟨h5,h6⟩:=List.append_inj h4 h3
  exact ⟨by rw [writesP_inj ks ks' hx hy (by omega) (by omega) h5],h6⟩
 | .mk false b ks,.mk true b' ks',a,a',hx,hy,lx,ly,h=>by
  exfalso
  have hb:b.length < 65536:=by
   simp only [writeP] at lx;split at lx
   ·exact lx
   ·rw [List.length_append] at lx;omega
  obtain ⟨c,t,e,g,_⟩:=qdr b ks hb
  simp only [writeP,List.length_append] at ly
  obtain ⟨c',t',e',g1,_⟩:=qch 192 (writesP ks').length (.inr rfl) (by omega)
  rw [e] at h;simp only [writeP,e'] at h
  simp at h
  have:=h.1;subst this;omega
 | .mk true b ks,.mk false b' ks',a,a',hx,hy,lx,ly,h=>by
  exfalso
  have hb:b'.length < 65536:=by
   simp only [writeP] at ly;split at ly
   ·exact ly
   ·rw [List.length_append] at ly;omega
  obtain ⟨c,t,e,g,_⟩:=qdr b' ks' hb
  simp only [writeP,List.length_append] at lx
  obtain ⟨c',t',e',g1,_⟩:=qch 192 (writesP ks).length (.inr rfl) (by omega)
  rw [e] at h;simp only [writeP,e'] at h
  simp at h
  have:=h.1;subst this;omega
theorem writesP_inj:∀ (x y:List Item),puresP x=true→puresP y=true→(writesP x).length < 65536→(writesP y).length < 65536→writesP x=writesP y→x=y
 | [],[],_,_,_,_,_=>rfl
 | [],k :: ks,_,_,_,_,h=>by
  exfalso;have:=qcy k;have h2:=congrArg List.length h;simp only [writesP,List.length_append,List.length_nil] at h2;omega
 | k :: ks,[],_,_,_,_,h=>by
  exfalso;have:=qcy k;have h2:=congrArg List.length h;simp only [writesP,List.length_append,List.length_nil] at h2;omega
 | k :: ks,k' :: ks',hx,hy,lx,ly,h=>by
  simp only [puresP,Bool.and_eq_true] at hx hy
  simp only [writesP,List.length_append] at lx ly
  simp only [writesP] at h
  obtain ⟨h1,h2⟩:=qbx k k' _ _ hx.1 hy.1 (by omega) (by omega) h
  rw [h1,writesP_inj ks ks' hx.2 hy.2 (by omega) (by omega) h2]
end
end Go.Proofs.YteoednifdpdbnaaGreat
