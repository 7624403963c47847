/- The pairs of a row of accounts, and what a row tells step by step, in plain Lean; of no program. -/
import Derived.Test.YtdfmheademcbkaaGreatZ06
import Derived.Test.YtdfmheademcbkaaGreatZ36
namespace Go.Proofs.YtdfmheademcbkaaGreat
set_option linter.unusedVariables false
set_option linter.unusedSimpArgs false
open Go.RowKit
/-- numbers of 64 bits -/
def smallA (l:List Ac):Prop:=∀ a∈l,a.bal < 18446744073709551616∧a.non < 18446744073709551616
def ks2:List Kd:=[⟨110,false⟩,⟨110,false⟩]
def fsA (a:Ac):List Fd:=[⟨a.bal,[],[]⟩,⟨a.non,[],[]⟩]
def rowA (a:Ac):Bytes:=writeP (recF ks2 (fsA a))
theorem ks2_ok:OkForm ks2:=fun k hk=>by
 have:k=⟨110,false⟩:=by simpa [ks2] using hk
 subst this;exact .inl rfl
theorem fsA_small {a:Ac} (h:a.bal < 18446744073709551616∧a.non < 18446744073709551616):smallF (fsA a):=fun f hf=>by
 have:f=⟨a.bal,[],[]⟩∨f=⟨a.non,[],[]⟩:=by simpa [fsA] using hf
 rcases this with rfl | rfl
 ·exact ⟨h.1,fun x hx=>by cases hx⟩
 ·exact ⟨h.2,fun x hx=>by cases hx⟩
theorem fsA_l (a:Ac):∀ f∈fsA a,f.l.length≤100000:=fun f hf=>by
 have:f=⟨a.bal,[],[]⟩∨f=⟨a.non,[],[]⟩:=by simpa [fsA] using hf
 rcases this with rfl | rfl <;> simp
theorem fits_two (a:Ac):fitsP ks2 (fsA a)=true:=rfl
theorem rowA_len {a:Ac} (h:a.bal < 18446744073709551616∧a.non < 18446744073709551616):1≤(rowA a).length∧(rowA a).length≤500:=by
 have h1:=digs_len_lt 8 a.bal (by omega)
 have h2:=digs_len_lt 8 a.non (by omega)
 have h3:=leaf_len55 (digs a.bal) (by omega)
 have h4:=leaf_len55 (digs a.non) (by omega)
 have h5:writesP (itemsF ks2 (fsA a))=writeP (leafIt (digs a.bal)) ++ (writeP (leafIt (digs a.non)) ++ []):=rfl
 have h6:(writesP (itemsF ks2 (fsA a))).length≤18:=by rw [h5];simp only [List.length_append,List.length_nil];omega
 have h7:=headP_len_le 192 (writesP (itemsF ks2 (fsA a))).length (by omega)
 have h8:1≤(headP 192 (writesP (itemsF ks2 (fsA a))).length).length:=by unfold headP;split <;> simp
 unfold rowA recF
 rw [list_len]
 omega
theorem fw_row {a:Ac} (h:a.bal < 18446744073709551616∧a.non < 18446744073709551616):fwP ks2 (fsA a)=(rowA a,0):=by
 obtain ⟨_,h2,h3,h4⟩:=rec_fine (fits_two a) (fsA_small h) (by decide)
 have hl:=(rowA_len h).2
 unfold rowA at hl
 unfold fwP
 rw [if_pos (fits_two a)]
 unfold encR
 have hw:wellP (recF ks2 (fsA a))=true:=by unfold wellP;rw [h2];simp;omega
 rw [if_neg (by rw [hw];decide),if_neg (by omega),if_neg (by omega)]
 rfl
/-- where a key stands there is such a place -/
theorem found_ex:∀ (l:List KV) (hr:Rise l) (k:Bytes),∃ i is,FoundP l k i is
 | [],_,k=>⟨0,false,⟨Nat.le_refl _,fun j p h=>by omega,fun j p _ h=>by simp at h,⟨fun h=>(by cases h),fun ⟨p,h,_⟩=>by simp at h⟩⟩⟩
 | p :: l,hr,k=>by
  obtain ⟨h1,h2⟩:=List.pairwise_cons.1 hr
  by_cases hp:ltB p.1 k
  ·obtain ⟨i,is,hf⟩:=found_ex l h2 k
   refine ⟨i+1,is,⟨by have:=hf.le;simp;omega,?_,?_,?_⟩⟩
   ·intro j q hj hq
    cases j with
    | zero=>simp at hq;subst hq;exact hp
    | succ j=>simp at hq;exact hf.low j q (by omega) hq
   ·intro j q hj hq
    cases j with
    | zero=>omega
    | succ j=>simp at hq;exact hf.high j q (by omega) hq
   ·simpa using hf.here
  ·have hh:∀ j q,0≤j→(p :: l)[j]? = some q→¬ ltB q.1 k:=fun j q _ hq=>by
    cases j with
    | zero=>simp at hq;subst hq;exact hp
    | succ j =>
     simp at hq
     intro hqk
     exact hp (ltB_trans (h1 q (List.mem_of_getElem? hq)) hqk)
   by_cases he:p.1=k
   ·exact ⟨0,true,⟨Nat.zero_le _,fun j q h=>by omega,hh,⟨fun _=>⟨p,rfl,he⟩,fun _=>rfl⟩⟩⟩
   ·exact ⟨0,false,⟨Nat.zero_le _,fun j q h=>by omega,hh,⟨fun h=>(by cases h),fun ⟨q,hq,hk⟩=>by simp at hq;subst hq;exact absurd hk he⟩⟩⟩
theorem refPut_ok {l:List KV} {k v:Bytes} (ho:OkL l) (hk:1≤k.length∧k.length≤32) (hv:1≤v.length∧v.length≤500) (hl:l.length < 64):OkL (refPutP l k v)∧(refPutP l k v).length≤l.length+1:=by
 obtain ⟨i,is,hf⟩:=found_ex l ho.rise k
 rw [ref_put ho.rise hf]
 exact ⟨put_ok ho hf hk hv hl,by rw [put_len hf];split <;> omega⟩
/-- all accounts as pairs -/
def pairA (p:List KV) (a:Ac):List KV:=refPutP p (sumK a.addr) (rowA a)
def pairsA (l:List Ac):List KV:=l.foldl pairA []
theorem pairsA_step {l:List Ac} {i:Nat} {a:Ac} (h:l[i]? = some a):pairsA (l.take (i+1))=refPutP (pairsA (l.take i)) (sumK a.addr) (rowA a):=by
 unfold pairsA;rw [take_snoc h,List.foldl_append];rfl
theorem pairsA_ok (l:List Ac) (hs:smallA l):∀ i,i≤l.length→i≤24→OkL (pairsA (l.take i))∧(pairsA (l.take i)).length≤i
 | 0,_,_=>⟨OkL.nil,Nat.zero_le _⟩
 | i+1,hi,h24=>by
  obtain ⟨h1,h2⟩:=pairsA_ok l hs i (by omega) (by omega)
  obtain ⟨a,ha⟩:=getElem_ex (show i < l.length by omega)
  rw [pairsA_step ha]
  have:=refPut_ok h1 (k:=sumK a.addr) (v:=rowA a) (by rw [sumK_len];omega) (rowA_len (hs a (List.mem_of_getElem? ha))) (by omega)
  exact ⟨this.1,by omega⟩
/-- the address ahead -/
def prevA (l:List Ac):Nat→Option Bytes
 | 0=>none
 | i+1=>(l[i]?).map (·.addr)
theorem right_step {l:List Ac} {i:Nat} {a:Ac} (h:l[i]? = some a) (left:Nat):rightL (prevA l i) left (l.drop i)=if badA (prevA l i) left a then false else rightL (prevA l (i+1)) (left - a.bal) (l.drop (i+1)):=by
 obtain ⟨hlt,hn⟩:=List.getElem?_eq_some_iff.1 h
 rw [List.drop_eq_getElem_cons hlt,hn,rightL]
 have:prevA l (i+1)=some a.addr:=by rw [prevA,h];rfl
 rw [this]
theorem right_end {l:List Ac} (p:Option Bytes) (left:Nat):rightL p left (l.drop l.length)=true:=by rw [List.drop_length];rfl
/-- why an account may not be in a row, or that it may -/
theorem badA_n20 {pv:Option Bytes} {left:Nat} {s:Bytes} {b n:Nat} (h:s.length≠20):badA pv left ⟨s,b,n⟩=true:=by simp [badA,h]
theorem badA_prev {p:Bytes} {left:Nat} {s:Bytes} {b n:Nat} (h:lessB p s=false):badA (some p) left ⟨s,b,n⟩=true:=by simp [badA,h]
theorem badA_empty {pv:Option Bytes} {left:Nat} {s:Bytes} {b n:Nat} (h:(b == 0 && n == 0)=true):badA pv left ⟨s,b,n⟩=true:=by simp only [badA,h];simp
theorem badA_much {pv:Option Bytes} {left:Nat} {s:Bytes} {b n:Nat} (h:left < b):badA pv left ⟨s,b,n⟩=true:=by simp [badA,h]
theorem badA_first {left:Nat} {s:Bytes} {b n:Nat} (h1:s.length=20) (h2:(b == 0 && n == 0)=false) (h3:¬ left < b):badA none left ⟨s,b,n⟩=false:=by simp only [badA,h1,h2,decide_eq_false h3];rfl
theorem badA_next {p:Bytes} {left:Nat} {s:Bytes} {b n:Nat} (h:lessB p s=true) (h1:s.length=20) (h2:(b == 0 && n == 0)=false) (h3:¬ left < b):badA (some p) left ⟨s,b,n⟩=false:=by simp only [badA,h,h1,h2,decide_eq_false h3];rfl
open Go.RowKit in
/-- the address ahead stands at a place -/
def PrevAt (w:World) (g p:Nat) (pvo:Option Bytes):Prop:=∀ pv,pvo=some pv→w.cell? ⟨g,p,none⟩=some (.string (bs pv))
open Go.RowKit in
theorem PrevAt.keep {w w':World} {g p:Nat} {pvo:Option Bytes} (h:PrevAt w g p pvo) (hb:Below w.heap.size w w'):PrevAt w' g p pvo:=fun pv e=>(hb.cell (p:=⟨g,p,none⟩) (lt_of_cell (h pv e))).trans (h pv e)
end Go.Proofs.YtdfmheademcbkaaGreat
