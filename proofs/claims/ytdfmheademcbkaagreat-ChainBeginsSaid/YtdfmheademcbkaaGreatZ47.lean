/- The walks of few and alive at accounts. -/
import Derived.Test.YtdfmheademcbkaaGreatZ41
import Derived.Test.YtdfmheademcbkaaGreatZ39
import Derived.Test.YtdfmheademcbkaaGreatZ40
import Derived.Test.YtdfmheademcbkaaGreatZ03
import Derived.Test.YtdfmheademcbkaaGreatZ46
import Derived.ChangeKeysEq
namespace Go.Proofs.YtdfmheademcbkaaGreat
set_option linter.unusedVariables false
set_option linter.unusedSimpArgs false
open Go.RowKit
/-- all accounts' cells -/
def acsC (l:List Ac):List Value:=l.flatMap acC
theorem acsC_append (a b:List Ac):acsC (a ++ b)=acsC a ++ acsC b:=by simp [acsC]
theorem acsC_len (l:List Ac):(acsC l).length=l.length * 3:=by
 induction l with
 | nil=>rfl
 | cons a l ih=>show (acC a ++ acsC l).length=_;rw [List.length_append,ih,List.length_cons,Nat.add_mul];show 3+_=_;omega
theorem acsC_get:∀ {l:List Ac} {i:Nat} {a:Ac},l[i]? = some a→∀ j u,(acC a)[j]? = some u→(acsC l)[i * 3+j]? = some u
 | b :: l,0,a,h,j,u,hj=>by
  simp at h;subst h
  have hl:=(List.getElem?_eq_some_iff.1 hj).1
  show (acC b ++ acsC l)[0 * 3+j]? = _
  rw [Nat.zero_mul,Nat.zero_add,List.getElem?_append_left hl];exact hj
 | b :: l,i+1,a,h,j,u,hj=>by
  simp at h
  show (acC b ++ acsC l)[(i+1) * 3+j]? = _
  rw [List.getElem?_append_right (by show 3≤_;omega)]
  show (acsC l)[(i+1) * 3+j - 3]? = _
  rw [show (i+1) * 3+j - 3=i * 3+j by omega]
  exact acsC_get h j u hj
theorem acsC_one (l:List Ac):∀ u∈acsC l,u.oneCell'=true:=fun u hu=>by
 obtain ⟨a,_,hu⟩:=List.mem_flatMap.1 hu
 simp [acC] at hu
 rcases hu with rfl | rfl | rfl <;> rfl
theorem repN_acsC {S:Nat→Prop} {w:World}:∀ (l:List Ac),RepN S w 3 (l.map acD) (acsC l)
 | []=>.nil
 | a :: l=>.cons (ac_rep a) rfl (repN_acsC l)
theorem acs_lies {S:Nat→Prop} {w:World} {l:List Ac} {A:Option Addr} {c:Nat} (h:AcsV S w l A c):Lies S w A (acsC l):=by
 unfold AcsV at h
 obtain ⟨css,h1,h2,_,_⟩:=Rep.slice_open h
 have:∀ (l:List Ac) (css:List Value),RepN S w 3 (l.map acD) css→css=acsC l:=fun l=>by
  induction l with
  | nil=>intro css h;cases h;rfl
  | cons a l ih =>
   intro css h
   cases h with
   | cons h h0 h1=>rw [ih _ h1,rep_ac h];rfl
 rw [this l css h1] at h2
 exact h2
theorem acs_own {w:World} {base:Nat} {e:TypeId} {A:Option Addr} {n c:Nat} {l:List Ac} (h:w.ownsRow base e 3 (.slice A n c) n (acsC l)) (hn:n=l.length):AcsV Any w l A c:=by
 subst hn
 exact .sl (repN_acsC l) (by simp) (lies_own h (fun _ _ _=>trivial)) (own_cap h).1 (own_cap h).2
theorem elAc:ElemOk Tryz.prog 23 44 (.agg #[.string (bs []),.int .u64 0,.int .u64 0]) 3 32:=⟨Tryz.underlying23,by kernel_rfl,rfl,by omega⟩
def cutA (a:Ac):Ac:=⟨a.addr.take 40,a.bal,a.non⟩
/-- accounts of which so many are cut -/
def cutsA (k:Nat) (l:List Ac):List Ac:=(l.take k).map cutA ++ l.drop k
theorem cutsA_all (l:List Ac):cutsA l.length l=l.map cutA:=by simp [cutsA]
theorem cutsA_get {k:Nat} {l:List Ac} {a:Ac} (h:l[k]? = some a):(cutsA k l)[k]? = some a:=by
 have hk:=(List.getElem?_eq_some_iff.1 h).1
 unfold cutsA
 rw [List.getElem?_append_right (by simp;omega)]
 simp [Nat.min_eq_left (Nat.le_of_lt hk),h]
theorem cutsA_set {k:Nat} {l:List Ac} {a:Ac} (h:l[k]? = some a):(acsC (cutsA k l)).set (k * 3) (.string (bs (a.addr.take 40)))=acsC (cutsA (k+1) l):=by
 have hk:=(List.getElem?_eq_some_iff.1 h).1
 unfold cutsA
 rw [take_snoc h,drop_cons h,acsC_append,List.map_append,acsC_append,acsC_append]
 have hl:(acsC ((l.take k).map cutA)).length=k * 3:=by rw [acsC_len];simp;omega
 rw [List.set_append_right _ _ (by omega),hl,Nat.sub_self,List.append_assoc]
 rfl
/-- a row of the call's own, elements of any size: its cells, and one of them set -/
theorem own_ptr {w:World} {base m n c:Nat} {e:TypeId} {A:Option Addr} {xs:List Value} (h:w.ownsRow base e m (.slice A n c) n xs) (hn:0 < n):∃ g,A=some ⟨g,0,none⟩∧base≤g∧g < w.heap.size:=by
 rcases h.2 with ⟨_,h0⟩ | ⟨g,cap,cur,hv,hb,hh,_⟩
 ·omega
 ·injection hv with h1
  exact ⟨g,h1,hb,(Array.getElem?_eq_some_iff.1 hh).1⟩
theorem own_row {w:World} {base m n c g:Nat} {e:TypeId} {xs:List Value} (h:w.ownsRow base e m (.slice (some ⟨g,0,none⟩) n c) n xs):∃ cur:Array Value,base≤g∧w.heap[g]? = some (.cells cur e (0,0))∧n≤c∧c≤maxLen∧cur.size=c * m∧cur.toList.take (n * m)=xs:=by
 rcases h.2 with ⟨hv,_⟩ | ⟨g',cap,cur,hv,hb,hh,h1,h2,h3,h4⟩
 ·cases hv
 ·injection hv with a1 a2 a3
  injection a1 with a1
  injection a1 with a1
  subst a1;subst a3
  exact ⟨cur,hb,hh,h1,h2,h3,h4⟩
theorem own_cell {w:World} {base m n c g:Nat} {e:TypeId} {xs:List Value} (h:w.ownsRow base e m (.slice (some ⟨g,0,none⟩) n c) n xs) {j:Nat} {u:Value} (hj:xs[j]? = some u):w.cell? ⟨g,j,none⟩=some u:=by
 obtain ⟨cur,_,hh,_,_,_,h4⟩:=own_row h
 rw [cell_of_row _ _ _ _ _ _ hh]
 rw [← h4,List.getElem?_take] at hj
 split at hj
 ·simpa using hj
 ·cases hj
theorem own_free {w:World} {base m n c g:Nat} {e:TypeId} {xs:List Value} (h:w.ownsRow base e m (.slice (some ⟨g,0,none⟩) n c) n xs) (j:Nat):w.frozen? ⟨g,j,none⟩=false:=by
 obtain ⟨cur,_,hh,_⟩:=own_row h
 exact rf hh j
theorem own_set {w:World} {base m n c g:Nat} {e:TypeId} {xs:List Value} (h:w.ownsRow base e m (.slice (some ⟨g,0,none⟩) n c) n xs) (j:Nat) (u:Value):(w.setCell ⟨g,j,none⟩ u).ownsRow base e m (.slice (some ⟨g,0,none⟩) n c) n (xs.set j u):=by
 obtain ⟨cur,hb,hh,h1,h2,h3,h4⟩:=own_row h
 refine ⟨by rw [List.length_set];exact h.1,.inr ⟨g,c,cur.setIfInBounds j u,rfl,hb,heap_setCell_here hh u,h1,h2,by simpa using h3,?_⟩⟩
 rw [Array.toList_setIfInBounds,List.take_set,h4]
theorem fieldsAc:Tryz.prog.underlying 44 = some (.struct (Tryz.prog.fieldsOf 44)):=by kernel_rfl
theorem stoodAc:Tryz.prog.stoodInHeld 44 = false:=by kernel_rfl
theorem guardAc:Tryz.prog.eqGuardType Tryz.prog.depth 44 = false:=by kernel_rfl
theorem eqA0 (s:ByteArray) (w:World):(Op.equalIn 9999 9 (.string s) (.string s)).run Tryz.prog w=.ok true w:=by
 rw [show (9999:Nat)=9998+1 from rfl,run_equalIn_string w 9998 _ _ _ Tryz.underlying9];simp
theorem eqA1 (k:Int) (w:World):(Op.equalIn 9999 22 (.int .u64 k) (.int .u64 k)).run Tryz.prog w=.ok true w:=by
 rw [show (9999:Nat)=9998+1 from rfl,run_equalIn_int w 9998 _ .u64 .u64 _ _ Tryz.underlying22];simp
theorem eqAcM (a:Ac) (w:World):(Op.equalIn 10000 44 (.agg (acC a).toArray) (.agg (acC a).toArray)).run Tryz.prog w=.ok true w:=by
 have p0:(part 9 (acC a).toArray 0).run Tryz.prog w=.ok (.string (bs a.addr)) w:=by simp [part,isAgg,run_underlying Tryz.underlying9,acC,Sem.run_bind]
 have p1:(part 22 (acC a).toArray 1).run Tryz.prog w=.ok (.int .u64 a.bal) w:=by simp [part,isAgg,run_underlying Tryz.underlying22,acC,Sem.run_bind]
 have p2:(part 22 (acC a).toArray 2).run Tryz.prog w=.ok (.int .u64 a.non) w:=by simp [part,isAgg,run_underlying Tryz.underlying22,acC,Sem.run_bind]
 have hm:(Op.eqFields 9999 (acC a).toArray (acC a).toArray (Tryz.prog.fieldsOf 44).toList).run Tryz.prog w=.ok true w:=by
  simp only [Program.fieldsOf,Tryz.underlying44]
  refine eqFields_cons (by decide) p0 p0 (eqA0 _ w) ?_
  refine eqFields_cons (by decide) p1 p1 (eqA1 _ w) ?_
  refine eqFields_cons (by decide) p2 p2 (eqA1 _ w) ?_
  rfl
 rw [show (10000:Nat)=9999+1 from rfl,run_equalIn_agg w 9999 _ _ _ fieldsAc stoodAc,hm]
theorem neqAc (a:Ac) (w:World):(binOp .neq 44 (.agg (acC a).toArray) (.agg (acC a).toArray)).run Tryz.prog w=.ok (.bool false) w:=by
 rw [run_neq_struct,eqAcM];rfl
end Go.Proofs.YtdfmheademcbkaaGreat
