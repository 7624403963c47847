/- RLP in plain Lean: items, how they are written, that writing can be read back; of no program. -/
import Derived.Lib.Strings
namespace Go.Proofs.YtdfmheademcbkaaGreat
set_option linter.unusedVariables false
set_option linter.unusedSimpArgs false
abbrev Bytes:=List UInt8
inductive Item where
 | mk (l:Bool) (b:Bytes) (ks:List Item)
 deriving Inhabited
def Item.l:Item→Bool | .mk l _ _=>l
def Item.b:Item→Bytes | .mk _ b _=>b
def Item.ks:Item→List Item | .mk _ _ ks=>ks
/-- a number's bytes, the highest first -/
def digs (n:Nat):Bytes:=if _h:n=0 then [] else digs (n / 256) ++ [UInt8.ofNat (n % 256)]
termination_by n
decreasing_by omega
theorem digs_zero:digs 0 = []:=by rw [digs];simp
theorem digs_pos {n:Nat} (h:0 < n):digs n=digs (n / 256) ++ [UInt8.ofNat (n % 256)]:=by
 rw [digs,dif_neg (by omega)]
theorem digs_len_lt (k:Nat):∀ n,n < 256 ^ k→(digs n).length≤k:=by
 induction k with
 | zero=>intro n h;have:n=0:=by simpa using h
         subst this;rw [digs_zero];simp
 | succ k ih =>
  intro n h
  rcases Nat.eq_zero_or_pos n with h0 | h0
  ·subst h0;rw [digs_zero];simp
  ·rw [digs_pos h0]
   have:=ih (n / 256) (by rw [Nat.pow_succ] at h;omega)
   simp;exact this
/-- what stands ahead of n bytes -/
def headP (from_ n:Nat):Bytes:=if n≤55 then [UInt8.ofNat (from_+n)] else UInt8.ofNat (from_+55+(digs n).length) :: digs n
mutual
def writeP:Item→Bytes
 | .mk true _ ks=>headP 192 (writesP ks).length ++ writesP ks
 | .mk false b _=>if b.length=1∧(b.headD 0).toNat < 128 then b else headP 128 b.length ++ b
def writesP:List Item→Bytes
 | []=>[]
 | k :: ks=>writeP k ++ writesP ks
end
mutual
def pureP:Item→Bool
 | .mk l b ks=>(if l then b.isEmpty else ks.isEmpty) && puresP ks
def puresP:List Item→Bool
 | []=>true
 | k :: ks=>pureP k && puresP ks
end
mutual
def depthP:Item→Nat
 | .mk l _ ks=>depthsP ks+(if l then 1 else 0)
def depthsP:List Item→Nat
 | []=>0
 | k :: ks=>max (depthP k) (depthsP ks)
end
mutual
/-- how many items there are in one, it too -/
def countP:Item→Nat
 | .mk _ _ ks=>1+countsP ks
def countsP:List Item→Nat
 | []=>0
 | k :: ks=>countP k+countsP ks
end
theorem writesP_append (a b:List Item):writesP (a ++ b)=writesP a ++ writesP b:=by
 induction a with
 | nil=>simp [writesP]
 | cons k a ih=>simp [writesP,ih]
theorem puresP_append (a b:List Item):puresP (a ++ b)=(puresP a && puresP b):=by
 induction a with
 | nil=>simp [puresP]
 | cons k a ih=>simp [puresP,ih,Bool.and_assoc]
theorem depthsP_append (a b:List Item):depthsP (a ++ b)=max (depthsP a) (depthsP b):=by
 induction a with
 | nil=>simp [depthsP]
 | cons k a ih=>simp [depthsP,ih,Nat.max_assoc]
theorem countsP_append (a b:List Item):countsP (a ++ b)=countsP a+countsP b:=by
 induction a with
 | nil=>simp [countsP]
 | cons k a ih=>simp [countsP,ih,Nat.add_assoc]
theorem countP_pos (x:Item):1≤countP x:=by cases x;simp [countP]
theorem countsP_ge (l:List Item):l.length≤countsP l:=by
 induction l with
 | nil=>simp
 | cons k a ih=>have:=countP_pos k;simp [countsP];omega
theorem depthP_le_count (x:Item):depthP x≤countP x:=by
 induction x using Item.rec (motive_2:=fun l=>depthsP l≤countsP l) with
 | mk l b ks ih=>simp only [depthP,countP];split <;> omega
 | nil=>simp [depthsP]
 | cons k ks ih1 ih2=>simp only [depthsP,countsP];omega
theorem headP_len (f n:Nat):1≤(headP f n).length:=by unfold headP;split <;> simp
theorem headP_len_le (f n:Nat) (h:n < 65536):(headP f n).length≤3:=by
 unfold headP;split
 ·simp
 ·have:=digs_len_lt 2 n h;simp;omega
theorem headP_len_le4 (f n:Nat) (h:n < 16777216):(headP f n).length≤4:=by
 unfold headP;split
 ·simp
 ·have:=digs_len_lt 3 n h;simp;omega
theorem writeP_len (x:Item):1≤(writeP x).length:=by
 cases x with
 | mk l b ks =>
  cases l
  ·simp only [writeP]
   split
   ·omega
   ·rw [List.length_append];have:=headP_len 128 b.length;omega
  ·simp only [writeP]
   rw [List.length_append];have:=headP_len 192 (writesP ks).length;omega
theorem writesP_len (l:List Item):l.length≤(writesP l).length:=by
 induction l with
 | nil=>simp
 | cons k l ih=>have:=writeP_len k;simp [writesP];omega
theorem u8_ofNat {n:Nat} (h:n < 256):(UInt8.ofNat n).toNat=n:=by simp;omega
end Go.Proofs.YtdfmheademcbkaaGreat
