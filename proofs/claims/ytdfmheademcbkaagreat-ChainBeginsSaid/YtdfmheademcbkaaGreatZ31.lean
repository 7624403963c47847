/- The walks of the reference's trie: Put, Get, common. -/
import Derived.Test.YtdfmheademcbkaaGreatZ30
import Derived.Test.YtdfmheademcbkaaGreatZ06
import Derived.Laws.Cover1
namespace Go.Proofs.YtdfmheademcbkaaGreat
set_option linter.unusedVariables false
set_option linter.unusedSimpArgs false
open Go.RowKit
set_option maxHeartbeats 4000000
set_option maxRecDepth 100000
theorem lessB_eq:∀ a b:Bytes,Op.bytesLess a b=lessB a b
 | [],[]=>rfl
 | _ :: _,[]=>rfl
 | [],_ :: _=>rfl
 | a :: x,b :: y=>by rw [Op.bytesLess,lessB,lessB_eq x y]
/-- behind a row of pairs that is made -/
def KvPost (l:List KV) (w:World) (e:Ending) (w':World):Prop :=
 ∃ A c,e=.returned (.slice A l.length c)∧KVs Any w' l A c∧Below w.heap.size w w'
theorem kvs_own {w:World} {base:Nat} {A:Option Addr} {n c:Nat} {l:List KV} (h:w.ownsRow base 121 2 (.slice A n c) n (kvC l)) (hn:n=l.length):KVs Any w l A c:=by
 subst hn;exact ⟨lies_own h (fun _ _ _=>trivial),(own_cap h).1,(own_cap h).2⟩
theorem eqB_ne {a b:Bytes} (h:a≠b):(a == b)=false:=beq_eq_false_iff_ne.2 h
theorem below_pair {B:Nat} {w wr w4:World} {o1 o2:Obj} {A:Option Addr} {n c m:Nat} {xs:List Value} {e:TypeId} (hB:Below B w wr) (h:B≤wr.heap.size) (hown:wr.ownsRow B e m (.slice A n c) n xs) (hg:((wr.alloc o1).alloc o2).grownBy w4 (Value.slice A n c).ownBlock):Below B w w4 :=
 below_app ((hB.alloc h o1).alloc (by simp;omega) o2) ((hown.alloc o1).alloc o2) hg (by simp;omega) (Nat.le_refl _)
theorem pair_box {B n c:Nat} {wr w4:World} {a b:Value} {o2:Obj} {A:Option Addr} {xs:List Value} (hown:wr.ownsRow B 121 2 (.slice A n c) n xs) (hg:((wr.alloc (.cells #[a,b] 121)).alloc o2).grownBy w4 (Value.slice A n c).ownBlock) :
  w4.heap[wr.heap.size]? = some (.cells #[a,b] 121 (0,0)) :=
 (hg.block _ (by simp;omega) (fun e=>by have:=(hown.lt _ e.symm).2;omega)).trans ((heap_alloc_old _ _ (by simp)).trans (heap_alloc_new wr _))
theorem own_kv {w:World} {B:Nat} {A:Option Addr} {n c:Nat} {out:List KV} {p:KV} (h:w.ownsRow B 121 2 (.slice A n c) (out.length+1) (kvC out ++ [.string (bs p.1),.string (bs p.2)])):w.ownsRow B 121 2 (.slice A n c) (out ++ [p]).length (kvC (out ++ [p])):=by
 rw [kvC_append,List.length_append];exact h
theorem own_kv' {w:World} {B:Nat} {A:Option Addr} {n c:Nat} {out:List KV} {p:KV} (h:w.ownsRow B 121 2 (.slice A n c) (out.length+1) (kvC out ++ [.string (bs p.1),.string (bs p.2)])):w.ownsRow B 121 2 (.slice A n c) (out.length+1) (kvC (out ++ [p])):=by
 rw [kvC_append];exact h
theorem refPut_any (l:List KV) (hl:l.length≤1000) (k v:Bytes) (A:Option Addr) (c:Nat) (w:World) (hv:KVs Any w l A c) :
  Calls Tryz.prog 54 #[.slice A l.length c,.string (bs k),.string (bs v)] w (KvPost (refPutP l k v) w):=by
 have hlI:(l.length:Int)≤1000:=by omega
 go_enter Tryz.func54,Tryz.ntmps54
 go_wp2_with fail
 go_loopw [7,8,14] (fun o pu a wr=>∃ (i:Nat),a=.int .i64 i∧i≤l.length∧pu=.bool (putF k v (l.take i)).2∧wr.ownsRow w.heap.size 121 2 o (putF k v (l.take i)).1.length (kvC (putF k v (l.take i)).1)∧(putF k v (l.take i)).1.length≤i+(putF k v (l.take i)).2.toNat∧Below w.heap.size w wr) (fun _ _ a _=>l.length - (intOf a).toNat)
 case atStart=>exact ⟨0,rfl,Nat.zero_le _,rfl,World.ownsRow_lit w _ 0 (Nat.le_refl _) (Nat.zero_le _) rfl,by simp [putF],(Below.refl _ _).alloc (Nat.le_refl _) _⟩
 case round =>
  obtain ⟨i,rfl,hi,rfl,hown,hlen,hB⟩:=hrel
  obtain ⟨A',c',rfl⟩:=own_form hown
  have hBs:=hB.size
  obtain ⟨st,hs⟩:∃ st,putF k v (l.take i)=st:=⟨_,rfl⟩
  rw [hs] at hown hlen ⊢
  obtain ⟨out,pu⟩:=st
  simp only [] at hown hlen ⊢
  by_cases hlt:i < l.length
  ·obtain ⟨p,hp⟩:=getElem_ex hlt
   have hst:putF k v (l.take (i+1))=putS k v (out,pu) p:=by rw [take_snoc hp,putF_snoc,hs]
   obtain ⟨p1,p2⟩:=p
   obtain ⟨g,o,rfl,_,c0,c1⟩:=(hv.keep hB).at_ hp
   have hlt':(i:Int) < l.length:=by omega
   have HST:=Lib.hid hst
   have HW:=Lib.hid hown
   have HB:=Lib.hid hB
   have HV:=Lib.hid hv
   clear hst hs hp hown hB hv
   cases pu with
   | true =>
    have hlen:out.length≤i+1:=hlen
    by_cases he:p1=k
    ·subst he
     have hst2:putF p1 v (l.take (i+1))=(out,true):=by rw [HST.out];simp [putS,putS1]
     have HST2:=Lib.hid hst2
     clear hst2
     go_wp2_with fail
     go_roundw
     case rel=>exact ⟨i+1,by go_num,by omega,by rw [HST2.out],by rw [HST2.out];exact HW.out.alloc _,by rw [HST2.out];exact Nat.le_succ_of_le hlen,HB.out.alloc hBs _⟩
     case measure=>simp [intOf];omega
    ·have hb:(p1 == k)=false:=eqB_ne he
     have hst2:putF k v (l.take (i+1))=(out ++ [(p1,p2)],true):=by rw [HST.out];simp [putS,putS1,hb]
     have HST2:=Lib.hid hst2
     clear hst2
     go_wp2_with (at_builtin;refine wpl_append elKV rfl rfl w.heap.size ((HW.out.alloc _).alloc _) rfl (m:=1) [.string (bs p1),.string (bs p2)] rfl rfl ?_ ?_ ?_ ?_ ?_ ?_;exact (lies_new' _ _ (by simp) _ _);(intro u hu;simp at hu;rcases hu with rfl | rfl <;> rfl);(simp only [maxLen];omega);omega;(simp;omega);intro v1 w4 hown1 hg1 hat1;obtain ⟨A2,c2,rfl⟩:=own_form hown1)
     go_roundw
     case rel=>exact ⟨i+1,by go_num,by omega,by rw [HST2.out],by rw [HST2.out];exact own_kv (p:=(p1,p2)) hown1,by rw [HST2.out];simp;omega,below_pair HB.out hBs HW.out hg1⟩
     case measure=>simp [intOf];omega
   | false =>
    have hlen:out.length≤i:=hlen
    cases hless:lessB p1 k with
    | true =>
     have hb:(p1 == k)=false:=eqB_ne (fun e=>by rw [e] at hless;exact ltB_irrefl _ ((lessB_iff _ _).1 hless))
     have hst2:putF k v (l.take (i+1))=(out ++ [(p1,p2)],false):=by rw [HST.out];simp [putS,putS1,hb,hless]
     have HST2:=Lib.hid hst2
     have hlb:Op.bytesLess p1 k=true:=by rw [lessB_eq];exact hless
     clear hst2 hless
     go_wp2_with (at_builtin;refine wpl_append elKV rfl rfl w.heap.size ((HW.out.alloc _).alloc _) rfl (m:=1) [.string (bs p1),.string (bs p2)] rfl rfl ?_ ?_ ?_ ?_ ?_ ?_;exact (lies_new' _ _ (by simp) _ _);(intro u hu;simp at hu;rcases hu with rfl | rfl <;> rfl);(simp only [maxLen];omega);omega;(simp;omega);intro v1 w4 hown1 hg1 hat1;obtain ⟨A2,c2,rfl⟩:=own_form hown1)
     go_roundw
     case rel=>exact ⟨i+1,by go_num,by omega,by rw [HST2.out],by rw [HST2.out];exact own_kv (p:=(p1,p2)) hown1,by rw [HST2.out];simp;omega,below_pair HB.out hBs HW.out hg1⟩
     case measure=>simp [intOf];omega
    | false =>
     have hlb:Op.bytesLess p1 k=false:=by rw [lessB_eq];exact hless
     by_cases he:p1=k
     ·subst he
      have hst2:putF p1 v (l.take (i+1))=(out ++ [(p1,v)],true):=by rw [HST.out];simp [putS,putS1,hless]
      have HST2:=Lib.hid hst2
      clear hst2 hless
      go_wp2_with (at_builtin;refine wpl_append elKV rfl rfl w.heap.size ((HW.out.alloc _).alloc _) rfl (m:=1) [.string (bs p1),.string (bs v)] rfl rfl ?_ ?_ ?_ ?_ ?_ ?_;exact (lies_new' _ _ (by simp) _ _);(intro u hu;simp at hu;rcases hu with rfl | rfl <;> rfl);(simp only [maxLen];omega);omega;(simp;omega);intro v1 w4 hown1 hg1 hat1;obtain ⟨A2,c2,rfl⟩:=own_form hown1;have hV:=pair_box HW.out hg1;have e0:w4.cell? ⟨wr.heap.size,0,none⟩=some (.string (bs p1)):=rc hV 0 rfl;have e1:w4.cell? ⟨wr.heap.size,1,none⟩=some (.string (bs p2)):=rc hV 1 rfl)
      go_roundw
      case rel=>exact ⟨i+1,by go_num,by omega,by rw [HST2.out],by rw [HST2.out];exact own_kv (p:=(p1,v)) hown1,by rw [HST2.out];simp;omega,below_pair HB.out hBs HW.out hg1⟩
      case measure=>simp [intOf];omega
     ·have hb:(p1 == k)=false:=eqB_ne he
      have hst2:putF k v (l.take (i+1))=(out ++ [(k,v)] ++ [(p1,p2)],true):=by rw [HST.out];simp [putS,putS1,hless,hb]
      have HST2:=Lib.hid hst2
      have tok:True:=trivial
      clear hst2 hless
      go_wp2_with (first | (at_builtin;have _t:=tok;refine wpl_append elKV rfl rfl w.heap.size ((HW.out.alloc _).alloc _) rfl (m:=1) [.string (bs k),.string (bs v)] rfl rfl ?_ ?_ ?_ ?_ ?_ ?_;exact (lies_new' _ _ (by simp) _ _);(intro u hu;simp at hu;rcases hu with rfl | rfl <;> rfl);(simp only [maxLen];omega);omega;(simp;omega);intro v1 w4 hown1 hg1 hat1;obtain ⟨A2,c2,rfl⟩:=own_form hown1;have hV:=pair_box HW.out hg1;have e0:w4.cell? ⟨wr.heap.size,0,none⟩=some (.string (bs p1)):=rc hV 0 rfl;have e1:w4.cell? ⟨wr.heap.size,1,none⟩=some (.string (bs p2)):=rc hV 1 rfl;have HB4:=Lib.hid (below_pair HB.out hBs HW.out hg1);have hB4s:=HB4.out.size;have hown4:=own_kv' (p:=(k,v)) hown1;clear hown1 hg1 hat1 hV tok _t) | (at_builtin;refine wpl_append elKV rfl rfl w.heap.size (hown4.alloc _) rfl (m:=1) [.string (bs p1),.string (bs p2)] rfl rfl ?_ ?_ ?_ ?_ ?_ ?_;exact (lies_new' _ _ (by simp) _ _);(intro u hu;simp at hu;rcases hu with rfl | rfl <;> rfl);(simp only [maxLen];omega);omega;(simp;omega);intro v1 w5 hown5 hg5 hat5;obtain ⟨A5,c5,rfl⟩:=own_form hown5))
      go_roundw
      case rel=>exact ⟨i+1,by go_num,by omega,by rw [HST2.out],by rw [HST2.out];simp only [];rw [kvC_append,List.length_append,List.length_append];exact hown5,by rw [HST2.out];simp;omega,below_app (HB4.out.alloc hB4s _) (hown4.alloc _) hg5 (by simp;omega) (Nat.le_refl _)⟩
      case measure=>simp [intOf];omega
  ·obtain rfl:i=l.length:=by omega
   rw [List.take_length] at hs
   have hlen:out.length≤l.length+1:=by cases pu <;> simp at hlen <;> omega
   cases pu with
   | true =>
    have hq:refPutP l k v=out:=by unfold refPutP;rw [hs];rfl
    have HQ:=Lib.hid hq
    clear hs hq
    go_wp2_with fail
    go_ret
    rw [HQ.out]
    exact ⟨A',c',rfl,kvs_own hown rfl,hB⟩
   | false =>
    have hq:refPutP l k v=out ++ [(k,v)]:=by unfold refPutP;rw [hs];rfl
    have HQ:=Lib.hid hq
    clear hs hq
    have HW:=Lib.hid hown
    have HB:=Lib.hid hB
    clear hown hB
    go_wp2_with (at_builtin;refine wpl_append elKV rfl rfl w.heap.size (HW.out.alloc _) rfl (m:=1) [.string (bs k),.string (bs v)] rfl rfl ?_ ?_ ?_ ?_ ?_ ?_;exact (lies_new' _ _ (by simp) _ _);(intro u hu;simp at hu;rcases hu with rfl | rfl <;> rfl);(simp only [maxLen];omega);omega;(simp;omega);intro v1 w4 hown1 hg1 hat1;obtain ⟨A2,c2,rfl⟩:=own_form hown1)
    go_ret
    rw [HQ.out]
    exact ⟨A2,c2,by rw [List.length_append];rfl,kvs_own (own_kv' (p:=(k,v)) hown1) (by simp),below_app (HB.out.alloc hBs _) (HW.out.alloc _) hg1 (by simp;omega) (Nat.le_refl _)⟩
/- The walks of the reference's trie: Get, common, cut, parts. -/
/-- behind Get -/
def GetPost (l:List KV) (k:Bytes) (w:World) (e:Ending) (w':World):Prop:=∃ b,e=.returned (.tuple #[.string (bs (getP l k)),.bool b])∧Below w.heap.size w w'
def noneYet (l:List KV) (k:Bytes) (i:Nat):Prop:=∀ p∈l.take i,p.1≠k
theorem noneYet.step {l:List KV} {k:Bytes} {i:Nat} {p:KV} (h:noneYet l k i) (hp:l[i]? = some p) (hk:p.1≠k):noneYet l k (i+1):=fun q hq=>by
 rw [take_snoc hp] at hq
 rcases List.mem_append.1 hq with hq | hq
 ·exact h q hq
 ·rw [List.mem_singleton] at hq;subst hq;exact hk
theorem get_here {l:List KV} {k:Bytes} {i:Nat} {p:KV} (h:noneYet l k i) (hp:l[i]? = some p) (hk:p.1=k):getP l k=p.2:=by
 obtain ⟨hi,hn⟩:=List.getElem?_eq_some_iff.1 hp
 have hs:l=l.take i ++ p :: l.drop (i+1):=by rw [← hn,List.getElem_cons_drop,List.take_append_drop]
 have h0:(l.take i).find? (fun p=>p.1 == k)=none:=List.find?_eq_none.2 fun q hq=>by simpa using h q hq
 unfold getP
 rw [hs,List.find?_append,h0,List.find?_cons_of_pos (by simpa using hk)]
 rfl
theorem get_none {l:List KV} {k:Bytes} (h:noneYet l k l.length):getP l k = []:=by
 have h0:l.find? (fun p=>p.1 == k)=none:=List.find?_eq_none.2 fun q hq=>by
  have:=h q (by rw [List.take_length];exact hq)
  simpa using this
 unfold getP;rw [h0];rfl
theorem refGet_any (l:List KV) (hl:l.length≤1000) (k:Bytes) (A:Option Addr) (c:Nat) (w:World) (hv:KVs Any w l A c) :
  Calls Tryz.prog 153 #[.slice A l.length c,.string (bs k)] w (GetPost l k w):=by
 have hlI:(l.length:Int)≤1000:=by omega
 have HV:=Lib.hid hv
 clear hv
 go_enter Tryz.func153,Tryz.ntmps153
 go_wp2_with fail
 go_loopw [10] (fun a wr=>∃ (i:Nat),a=.int .i64 i∧i≤l.length∧Hid (noneYet l k i)∧Below w.heap.size w wr) (fun a _=>l.length - (intOf a).toNat)
 case atStart=>exact ⟨0,rfl,Nat.zero_le _,Lib.hid (fun p hp=>by simp at hp),Below.refl _ _⟩
 case round =>
  obtain ⟨i,rfl,hi,hno,hB⟩:=hrel
  have hBs:=hB.size
  by_cases hlt:i < l.length
  ·obtain ⟨p,hp⟩:=getElem_ex hlt
   obtain ⟨p1,p2⟩:=p
   obtain ⟨g,o,rfl,_,c0,c1⟩:=(HV.out.keep hB).at_ hp
   have hlt':(i:Int) < l.length:=by omega
   have HB:=Lib.hid hB
   have HP:=Lib.hid hp
   clear hp hB
   by_cases he:p1=k
   ·have hb:(p1 == k)=true:=by simpa using he
    go_wp2_with fail
    go_ret2
    exact ⟨true,by rw [get_here hno.out HP.out he];rfl,HB.out.alloc hBs _⟩
   ·have hb:(p1 == k)=false:=eqB_ne he
    go_wp2_with fail
    go_roundw
    case rel=>exact ⟨i+1,by go_num,by omega,Lib.hid (hno.out.step HP.out he),HB.out.alloc hBs _⟩
    case measure=>simp [intOf];omega
  ·obtain rfl:i=l.length:=by omega
   go_wp2_with fail
   go_ret2
   exact ⟨false,by rw [get_none hno.out];rfl,hB⟩
def comG (l:List KV) (k0:Bytes) (i:Nat):Nat:=comF (l.take i) k0
theorem comG_step {l:List KV} {k0:Bytes} {i:Nat} {p:KV} (hp:l[i]? = some p):comG l k0 (i+1)=if shareP p.1 k0 < comG l k0 i then shareP p.1 k0 else comG l k0 i:=by
 unfold comG
 rw [take_snoc hp]
 unfold comF
 rw [List.foldl_append];rfl
theorem refCommon_any (p:KV) (r:List KV) (hl:(p :: r).length≤1000) (hk:∀ q∈p :: r,q.1.length≤1000) (A:Option Addr) (c:Nat) (w:World) (hv:KVs Any w (p :: r) A c) :
  Calls Tryz.prog 149 #[.slice A (p :: r).length c] w fun e w'=>e=.returned (.int .i64 (comF (p :: r) p.1))∧Below w.heap.size w w':=by
 obtain ⟨l,hL⟩:∃ l,l=p :: r:=⟨_,rfl⟩
 have hp0:l[0]? = some p:=by rw [hL];rfl
 rw [← hL] at hl hk hv ⊢
 have hpos:0 < l.length:=by rw [hL];simp
 have hlI:(l.length:Int)≤1000:=by omega
 have hposI:(0:Int) < l.length:=by omega
 obtain ⟨p1,p2⟩:=p
 simp only []
 obtain ⟨g,o,rfl,_,d0,_⟩:=hv.at_ hp0
 rw [Nat.zero_mul,Nat.add_zero] at d0
 have hk0:=hk (p1,p2) (List.mem_of_getElem? hp0)
 simp only [] at hk0
 have HV:=Lib.hid hv
 have HK:=Lib.hid hk
 have HD:=Lib.hid d0
 clear hv hL hp0 hk
 go_enter Tryz.func149,Tryz.ntmps149
 go_wp2_with fail
 clear d0
 go_loopw [3,14] (fun n a wr=>∃ (i m:Nat),a=.int .i64 i∧n=.int .i64 m∧i≤l.length∧Hid (m=comG l p1 i)∧m≤p1.length∧Below w.heap.size w wr) (fun _ a _=>l.length - (intOf a).toNat)
 case atStart=>exact ⟨0,p1.length,rfl,rfl,Nat.zero_le _,Lib.hid rfl,Nat.le_refl _,Below.refl _ _⟩
 case round =>
  obtain ⟨i,m,rfl,rfl,hi,hm,hmp,hB⟩:=hrel
  have hBs:=hB.size
  have d0:wr.cell? ⟨g,o,none⟩=some (.string (bs p1)):=(hB.cell (p:=⟨g,o,none⟩) (lt_of_cell HD.out)).trans HD.out
  have hgl:=lt_of_cell d0
  by_cases hlt:i < l.length
  ·obtain ⟨q,hq⟩:=getElem_ex hlt
   have hst:=comG_step (k0:=p1) hq
   have hqk:=HK.out q (List.mem_of_getElem? hq)
   obtain ⟨q1,q2⟩:=q
   obtain ⟨g',o',e',_,c0,c1⟩:=(HV.out.keep hB).at_ hq
   injection e' with e';injection e' with e1 e2;subst e1;subst e2
   have hlt':(i:Int) < l.length:=by omega
   have HST:=Lib.hid hst
   simp only [] at hqk
   have hsh:=(shareP_le q1 p1).2
   have HSH:=Lib.hid (fun w=>refShare_drew q1 p1 (by omega) (by omega) w)
   have HB:=Lib.hid hB
   obtain ⟨s,hs⟩:∃ s,shareP q1 p1=s:=⟨_,rfl⟩
   rw [hs] at HSH hsh HST
   clear hq hst hB hs
   by_cases hsm:s < m
   ·have hsI:(s:Int) < m:=by omega
    go_wp2_with fail
    go_quiet ((go_at_call 217;exact Calls.quiet_of (HSH.out _)))
    go_wp2_with fail
    go_roundw
    case rel=>exact ⟨i+1,s,by go_num,rfl,by omega,Lib.hid (by rw [HST.out,← hm.out,if_pos hsm]),hsh,below_drewN (HB.out.alloc hBs _) nq⟩
    case measure=>simp [intOf];omega
   ·have hsI:¬ (s:Int) < m:=by omega
    go_wp2_with fail
    go_quiet ((go_at_call 217;exact Calls.quiet_of (HSH.out _)))
    go_wp2_with fail
    go_roundw
    case rel=>exact ⟨i+1,m,by go_num,rfl,by omega,Lib.hid (by rw [HST.out,← hm.out,if_neg hsm]),hmp,below_drewN (HB.out.alloc hBs _) nq⟩
    case measure=>simp [intOf];omega
  ·obtain rfl:i=l.length:=by omega
   have hq:m=comF l p1:=by rw [hm.out];unfold comG;rw [List.take_length]
   have HQ:=Lib.hid hq
   clear hq
   go_wp2_with fail
   go_ret
   rw [← HQ.out]
   exact ⟨rfl,hB⟩
/- The walks of the reference's trie: cut, parts. -/
theorem wrap64_byte (x:UInt8):wrap64 (x.toNat:Int)=(x.toNat:Int):=by have:=x.toNat_lt;unfold wrap64;omega
theorem refParts_any (l:List KV) (hl:l.length≤1000) (hk:∀ p∈l,p.1.length≤1000) (A:Option Addr) (c:Nat) (w:World) (hv:KVs Any w l A c) :
  Calls Tryz.prog 101 #[.slice A l.length c] w (KvPost (partsP l) w):=by
 have hlI:(l.length:Int)≤1000:=by omega
 have HV:=Lib.hid hv
 have HK:=Lib.hid hk
 clear hv hk
 go_enter Tryz.func101,Tryz.ntmps101
 go_wp2_with fail
 go_loopw [3,9] (fun o a wr=>∃ (i:Nat) (out:List KV),a=.int .i64 i∧i≤l.length∧Hid (out=partsP (l.take i))∧out.length≤i∧wr.ownsRow w.heap.size 121 2 o out.length (kvC out)∧Below w.heap.size w wr) (fun _ a _=>l.length - (intOf a).toNat)
 case atStart=>exact ⟨0,[],rfl,Nat.zero_le _,Lib.hid rfl,Nat.le_refl _,World.ownsRow_lit w _ 0 (Nat.le_refl _) (Nat.zero_le _) rfl,(Below.refl _ _).alloc (Nat.le_refl _) _⟩
 case round =>
  obtain ⟨i,out,rfl,hi,hout,hlen,hown,hB⟩:=hrel
  obtain ⟨A',c',rfl⟩:=own_form hown
  have hBs:=hB.size
  by_cases hlt:i < l.length
  ·obtain ⟨p,hp⟩:=getElem_ex hlt
   obtain ⟨p1,p2⟩:=p
   obtain ⟨g,o,rfl,_,c0,c1⟩:=(HV.out.keep hB).at_ hp
   have hlt':(i:Int) < l.length:=by omega
   have hkp:=HK.out _ (List.mem_of_getElem? hp)
   simp only [] at hkp
   have HP:=Lib.hid hp
   have HW:=Lib.hid hown
   have HB:=Lib.hid hB
   clear hp hown hB
   go_wp2_with fail
   have hba:Below wr.heap.size wr (wr.alloc (.cells #[.string (bs p1),.string (bs p2)] 121)).drew:=((Below.refl _ _).alloc (Nat.le_refl _) _).drew
   have e0:(wr.alloc (.cells #[.string (bs p1),.string (bs p2)] 121)).drew.cell? ⟨wr.heap.size,0,none⟩=some (.string (bs p1)):=rc (heap_alloc_new wr _) 0 rfl
   have e1:(wr.alloc (.cells #[.string (bs p1),.string (bs p2)] 121)).drew.cell? ⟨wr.heap.size,1,none⟩=some (.string (bs p2)):=rc (heap_alloc_new wr _) 1 rfl
   have hown3:=own_keep HW.out hba
   have hB3:=below_call HB.out hBs hba
   have hV3:wr.heap.size < (wr.alloc (.cells #[.string (bs p1),.string (bs p2)] 121)).drew.heap.size:=by simp
   obtain ⟨V,hV⟩:∃ V,V=wr.heap.size:=⟨_,rfl⟩
   have hVo:∀ k,(Value.slice A' out.length c').ownBlock=some k→k < V:=fun k e=>by rw [hV];exact (HW.out.lt _ e).2
   rw [← hV] at e0 e1 hV3 hBs ⊢
   refine wp_region_R [(99,fun w'=>w'.cell? ⟨V,0,none⟩=some (.string (bs p1))∧w'.cell? ⟨V,1,none⟩=some (.string (bs p2)))] (by kernel_rfl) ?_
   generalize (wr.alloc (.cells #[.string (bs p1),.string (bs p2)] 121)).drew=w3 at e0 e1 hown3 hB3 hV3 ⊢
   clear hba HB HW
   refine R_p (i:=0) (v:=.slice A' out.length c') (Meets.here ⟨e0,e1⟩ Meets.nil) ?_
   refine R_p (i:=1) (v:=.pointer (some ⟨V,0,none⟩)) (Meets.here ⟨e0,e1⟩ Meets.nil) ?_
   refine R_l (i:=2) (v:=.string (bs p1)) 99 _ List.mem_cons_self rfl (yieldsIf_load_cell rfl rfl rfl (fun w' hS=>hS.1) Tryz.underlying9 rfl) (Meets.here ⟨e0,e1⟩ Meets.nil) ?_
   refine R_p (i:=4) (v:=.pointer (some ⟨V,1,none⟩)) (Meets.here ⟨e0,e1⟩ Meets.nil) ?_
   refine R_l (i:=5) (v:=.string (bs p2)) 99 _ List.mem_cons_self rfl (yieldsIf_load_cell rfl rfl rfl (fun w' hS=>hS.2) Tryz.underlying9 rfl) (Meets.here ⟨e0,e1⟩ Meets.nil) ?_
   refine R_now 3 fun K hK=>?_
   go_simp
   refine (refNibOf_any p1 (by omega) _).mono ?_
   rintro e w4 ⟨rfl,hb4⟩
   replace hown3:=own_keep hown3 hb4
   replace hB3:=below_call hB3 hB3.size hb4
   replace e0:=((bcell hb4).1 V 0 hV3).trans e0
   replace e1:=((bcell hb4).1 V 1 hV3).trans e1
   replace hV3:=Nat.lt_of_lt_of_le hV3 hb4.size
   clear hb4
   refine hK.out _ _ (Meets.here ⟨e0,e1⟩ Meets.nil) (fun hMeets=>?_)
   clear hK K hMeets
   refine lay_R ?_
   refine R_p (i:=6) (v:=.agg #[.string (bs (nibs p1)),.string (bs p2)]) (Meets.here ⟨e0,e1⟩ Meets.nil) ?_
   refine R_now 7 fun K hK=>?_
   have hbb:Below w4.heap.size w4 (w4.alloc (.cells #[.string (bs (nibs p1)),.string (bs p2)] 121)):=(Below.refl _ _).alloc (Nat.le_refl _) _
   replace hown3:=own_keep hown3 hbb
   replace hB3:=below_call hB3 hB3.size hbb
   replace e0:=((bcell hbb).1 V 0 hV3).trans e0
   replace e1:=((bcell hbb).1 V 1 hV3).trans e1
   replace hV3:=Nat.lt_of_lt_of_le hV3 hbb.size
   have hL:=lies_new w4 #[.string (bs (nibs p1)),.string (bs p2)] 121
   clear hbb
   go_simp
   refine hK.out _ _ (Meets.here ⟨e0,e1⟩ Meets.nil) (fun hMeets=>?_)
   clear hK K hMeets
   refine lay_R ?_
   refine R_now 8 fun K hK=>?_
   refine stl_append elKV rfl rfl w.heap.size hown3 rfl (m:=1) [.string (bs (nibs p1)),.string (bs p2)] rfl rfl hL (by intro u hu;simp at hu;rcases hu with rfl | rfl <;> rfl) (by simp only [maxLen];omega) (by omega) (by have:=hB3.size;omega) ?_
   intro v1 w8 hown1 hg1 hat1
   obtain ⟨A2,c2,rfl⟩:=own_form hown1
   have hbl:=hg1.block V hV3 (fun e=>by have:=hVo _ e.symm;omega)
   replace e0:=(World.cell?_of_block (a:=⟨V,0,none⟩) hbl).trans e0
   replace e1:=(World.cell?_of_block (a:=⟨V,1,none⟩) hbl).trans e1
   have hB8:=below_app hB3 hown3 hg1 (by have:=hB3.size;omega) (Nat.le_refl _)
   clear hbl hown3 hB3 hL hg1 hat1
   try simp only [Act.put,List.setIfInBounds_toArray,List.set_cons_zero,List.set_cons_succ,List.getElem_toArray,List.getElem_cons_zero,List.getElem_cons_succ]
   refine hK.out _ _ (Meets.here ⟨e0,e1⟩ Meets.nil) (fun hMeets=>?_)
   clear hK K hMeets
   refine lay_R ?_
   refine R_p (i:=9) (v:=.slice A2 (out.length+1) c2) (Meets.here ⟨e0,e1⟩ Meets.nil) ?_
   refine R_done (by kernel_rfl) ?_ _
   go_wp2_with fail
   go_roundw
   case rel=>exact ⟨i+1,out ++ [(nibs p1,p2)],by go_num,by omega,Lib.hid (by rw [take_snoc HP.out,hout.out];simp [partsP]),by simp;omega,own_kv (p:=(nibs p1,p2)) hown1,hB8⟩
   case measure=>simp [intOf];omega
  ·obtain rfl:i=l.length:=by omega
   have HO:Hid (out=partsP l):=Lib.hid (by rw [hout.out,List.take_length])
   clear hout
   go_wp2_with fail
   go_ret
   rw [← HO.out]
   exact ⟨A',c',rfl,kvs_own hown rfl,hB⟩
theorem refCutAll_any (l:List KV) (hl:l.length≤1000) (k:Nat) (hk:∀ p∈l,k≤p.1.length∧p.1.length≤1000) (A:Option Addr) (c:Nat) (w:World) (hv:KVs Any w l A c) :
  Calls Tryz.prog 152 #[.slice A l.length c,.int .i64 16,.int .i64 (k:Int)] w (KvPost (lessP l k) w):=by
 have hlI:(l.length:Int)≤1000:=by omega
 have HV:=Lib.hid hv
 have HK:=Lib.hid hk
 clear hv hk
 go_enter Tryz.func152,Tryz.ntmps152
 go_wp2_with fail
 go_loopw [7,13] (fun o a wr=>∃ (i:Nat) (out:List KV),a=.int .i64 i∧i≤l.length∧Hid (out=lessP (l.take i) k)∧out.length≤i∧wr.ownsRow w.heap.size 121 2 o out.length (kvC out)∧Below w.heap.size w wr) (fun _ a _=>l.length - (intOf a).toNat)
 case atStart=>exact ⟨0,[],rfl,Nat.zero_le _,Lib.hid rfl,Nat.le_refl _,World.ownsRow_lit w _ 0 (Nat.le_refl _) (Nat.zero_le _) rfl,(Below.refl _ _).alloc (Nat.le_refl _) _⟩
 case round =>
  obtain ⟨i,out,rfl,hi,hout,hlen,hown,hB⟩:=hrel
  obtain ⟨A',c',rfl⟩:=own_form hown
  have hBs:=hB.size
  by_cases hlt:i < l.length
  ·obtain ⟨p,hp⟩:=getElem_ex hlt
   obtain ⟨p1,p2⟩:=p
   obtain ⟨g,o,rfl,_,c0,c1⟩:=(HV.out.keep hB).at_ hp
   have hlt':(i:Int) < l.length:=by omega
   have hkp:=HK.out _ (List.mem_of_getElem? hp)
   simp only [] at hkp
   have HP:=Lib.hid hp
   have HW:=Lib.hid hown
   have HB:=Lib.hid hB
   clear hp hown hB
   have hkI:(k:Int)≤p1.length:=by omega
   have hdk:List.take (p1.length - k) (List.drop k p1)=List.drop k p1:=List.take_of_length_le (by simp)
   go_wp2_with fail
   have hba:Below wr.heap.size wr (wr.alloc (.cells #[.string (bs p1),.string (bs p2)] 121)).drew:=((Below.refl _ _).alloc (Nat.le_refl _) _).drew
   have e0:(wr.alloc (.cells #[.string (bs p1),.string (bs p2)] 121)).drew.cell? ⟨wr.heap.size,0,none⟩=some (.string (bs p1)):=rc (heap_alloc_new wr _) 0 rfl
   have e1:(wr.alloc (.cells #[.string (bs p1),.string (bs p2)] 121)).drew.cell? ⟨wr.heap.size,1,none⟩=some (.string (bs p2)):=rc (heap_alloc_new wr _) 1 rfl
   have hown3:=own_keep HW.out hba
   have hB3:=below_call HB.out hBs hba
   have hV3:wr.heap.size < (wr.alloc (.cells #[.string (bs p1),.string (bs p2)] 121)).drew.heap.size:=by simp
   obtain ⟨V,hV⟩:∃ V,V=wr.heap.size:=⟨_,rfl⟩
   have hVo:∀ k,(Value.slice A' out.length c').ownBlock=some k→k < V:=fun k e=>by rw [hV];exact (HW.out.lt _ e).2
   rw [← hV] at e0 e1 hV3 hBs ⊢
   refine wp_region_R [(99,fun w'=>w'.cell? ⟨V,0,none⟩=some (.string (bs p1))∧w'.cell? ⟨V,1,none⟩=some (.string (bs p2)))] (by kernel_rfl) ?_
   generalize (wr.alloc (.cells #[.string (bs p1),.string (bs p2)] 121)).drew=w3 at e0 e1 hown3 hB3 hV3 ⊢
   clear hba HB HW
   refine R_p (i:=0) (v:=.slice A' out.length c') (Meets.here ⟨e0,e1⟩ Meets.nil) ?_
   refine R_p (i:=1) (v:=.pointer (some ⟨V,0,none⟩)) (Meets.here ⟨e0,e1⟩ Meets.nil) ?_
   refine R_l (i:=2) (v:=.string (bs p1)) 99 _ List.mem_cons_self rfl (yieldsIf_load_cell rfl rfl rfl (fun w' hS=>hS.1) Tryz.underlying9 rfl) (Meets.here ⟨e0,e1⟩ Meets.nil) ?_
   refine R_p (i:=3) (v:=.int .i64 (k:Int)) (Meets.here ⟨e0,e1⟩ Meets.nil) ?_
   refine R_p (i:=4) (v:=.string (bs (p1.drop k))) (Meets.here ⟨e0,e1⟩ Meets.nil) ?_
   refine R_p (i:=5) (v:=.pointer (some ⟨V,1,none⟩)) (Meets.here ⟨e0,e1⟩ Meets.nil) ?_
   refine R_l (i:=6) (v:=.string (bs p2)) 99 _ List.mem_cons_self rfl (yieldsIf_load_cell rfl rfl rfl (fun w' hS=>hS.2) Tryz.underlying9 rfl) (Meets.here ⟨e0,e1⟩ Meets.nil) ?_
   refine R_p (i:=7) (v:=.agg #[.string (bs (p1.drop k)),.string (bs p2)]) (Meets.here ⟨e0,e1⟩ Meets.nil) ?_
   refine R_now 8 fun K hK=>?_
   have hbb:Below w3.heap.size w3 (w3.alloc (.cells #[.string (bs (p1.drop k)),.string (bs p2)] 121)):=(Below.refl _ _).alloc (Nat.le_refl _) _
   replace hown3:=own_keep hown3 hbb
   replace hB3:=below_call hB3 hB3.size hbb
   replace e0:=((bcell hbb).1 V 0 hV3).trans e0
   replace e1:=((bcell hbb).1 V 1 hV3).trans e1
   replace hV3:=Nat.lt_of_lt_of_le hV3 hbb.size
   have hL:=lies_new w3 #[.string (bs (p1.drop k)),.string (bs p2)] 121
   clear hbb
   go_simp
   refine hK.out _ _ (Meets.here ⟨e0,e1⟩ Meets.nil) (fun hMeets=>?_)
   clear hK K hMeets
   refine lay_R ?_
   refine R_now 9 fun K hK=>?_
   refine stl_append elKV rfl rfl w.heap.size hown3 rfl (m:=1) [.string (bs (p1.drop k)),.string (bs p2)] rfl rfl hL (by intro u hu;simp at hu;rcases hu with rfl | rfl <;> rfl) (by simp only [maxLen];omega) (by omega) (by have:=hB3.size;omega) ?_
   intro v1 w8 hown1 hg1 hat1
   obtain ⟨A2,c2,rfl⟩:=own_form hown1
   have hbl:=hg1.block V hV3 (fun e=>by have:=hVo _ e.symm;omega)
   replace e0:=(World.cell?_of_block (a:=⟨V,0,none⟩) hbl).trans e0
   replace e1:=(World.cell?_of_block (a:=⟨V,1,none⟩) hbl).trans e1
   have hB8:=below_app hB3 hown3 hg1 (by have:=hB3.size;omega) (Nat.le_refl _)
   clear hbl hown3 hB3 hL hg1 hat1
   try simp only [Act.put,List.setIfInBounds_toArray,List.set_cons_zero,List.set_cons_succ,List.getElem_toArray,List.getElem_cons_zero,List.getElem_cons_succ]
   refine hK.out _ _ (Meets.here ⟨e0,e1⟩ Meets.nil) (fun hMeets=>?_)
   clear hK K hMeets
   refine lay_R ?_
   refine R_p (i:=10) (v:=.slice A2 (out.length+1) c2) (Meets.here ⟨e0,e1⟩ Meets.nil) ?_
   refine R_done (by kernel_rfl) ?_ _
   go_wp2_with fail
   go_roundw
   case rel=>exact ⟨i+1,out ++ [(p1.drop k,p2)],by go_num,by omega,Lib.hid (by rw [take_snoc HP.out,hout.out];simp [lessP]),by simp;omega,own_kv (p:=(p1.drop k,p2)) hown1,hB8⟩
   case measure=>simp [intOf];omega
  ·obtain rfl:i=l.length:=by omega
   have HO:Hid (out=lessP l k):=Lib.hid (by rw [hout.out,List.take_length])
   clear hout
   go_wp2_with fail
   go_ret
   rw [← HO.out]
   exact ⟨A',c',rfl,kvs_own hown rfl,hB⟩
theorem refCut_any (l:List KV) (hl:l.length≤1000) (k:Nat) (hk16:k < 16) (hk:∀ p∈l,p.1.length≤1000) (A:Option Addr) (c:Nat) (w:World) (hv:KVs Any w l A c) :
  Calls Tryz.prog 152 #[.slice A l.length c,.int .i64 (k:Int),.int .i64 1] w (KvPost (cutK l k) w):=by
 have hlI:(l.length:Int)≤1000:=by omega
 have hkI:((k:Int) == 16)=false:=by rw [beq_eq_false_iff_ne];omega
 have HV:=Lib.hid hv
 have HK:=Lib.hid hk
 clear hv hk
 go_enter Tryz.func152,Tryz.ntmps152
 go_wp2_with fail
 go_loopw [7,13] (fun o a wr=>∃ (i:Nat) (out:List KV),a=.int .i64 i∧i≤l.length∧Hid (out=cutK (l.take i) k)∧out.length≤i∧wr.ownsRow w.heap.size 121 2 o out.length (kvC out)∧Below w.heap.size w wr) (fun _ a _=>l.length - (intOf a).toNat)
 case atStart=>exact ⟨0,[],rfl,Nat.zero_le _,Lib.hid rfl,Nat.le_refl _,World.ownsRow_lit w _ 0 (Nat.le_refl _) (Nat.zero_le _) rfl,(Below.refl _ _).alloc (Nat.le_refl _) _⟩
 case round =>
  obtain ⟨i,out,rfl,hi,hout,hlen,hown,hB⟩:=hrel
  obtain ⟨A',c',rfl⟩:=own_form hown
  have hBs:=hB.size
  by_cases hlt:i < l.length
  ·obtain ⟨p,hp⟩:=getElem_ex hlt
   obtain ⟨p1,p2⟩:=p
   obtain ⟨g,o,rfl,_,c0,c1⟩:=(HV.out.keep hB).at_ hp
   have hlt':(i:Int) < l.length:=by omega
   have hkp:=HK.out _ (List.mem_of_getElem? hp)
   simp only [] at hkp
   have HP:=Lib.hid hp
   have HW:=Lib.hid hown
   have HB:=Lib.hid hB
   clear hp hown hB
   cases p1 with
   | nil =>
    go_wp2_with fail
    go_roundw
    case rel=>exact ⟨i+1,out,by go_num,by omega,Lib.hid (by rw [take_snoc HP.out,hout.out];simp [cutK,pickP,lessP]),by omega,HW.out.alloc _,HB.out.alloc hBs _⟩
    case measure=>simp [intOf];omega
   | cons x t =>
    by_cases hx:x.toNat=k
    ·have hxk:x=UInt8.ofNat k:=UInt8.toNat_inj.1 (by rw [hx];simp;omega)
     have hxI:((x.toNat:Int) == (k:Int))=true:=by simp [hx]
     obtain ⟨p1,hp1⟩:∃ p1,p1=x :: t:=⟨_,rfl⟩
     have HST:Hid (cutK (l.take (i+1)) k=cutK (l.take i) k ++ [(p1.tail,p2)]):=Lib.hid (by rw [take_snoc HP.out,hp1];simp [cutK,pickP,lessP,hxk])
     have HP1:=Lib.hid hp1
     have hpp:0 < p1.length:=by rw [hp1];simp
     have hpI:(0:Int) < p1.length:=by omega
     have hpI1:(1:Int)≤p1.length:=by omega
     have hg0:p1[0]? = some x:=by rw [hp1];rfl
     rw [← hp1] at c0 hkp
     have hdk:List.take (p1.length - 1) p1.tail=p1.tail:=List.take_of_length_le (by simp)
     have hgx:p1[0]'hpp=x:=(List.getElem?_eq_some_iff.1 hg0).2
     have hwx:wrap64 (x.toNat:Int)=(x.toNat:Int):=wrap64_byte x
     clear HP hp1 hg0 hx hxk
     go_wp2_with fail
     have hba:Below wr.heap.size wr (wr.alloc (.cells #[.string (bs p1),.string (bs p2)] 121)).drew:=((Below.refl _ _).alloc (Nat.le_refl _) _).drew
     have e0:(wr.alloc (.cells #[.string (bs p1),.string (bs p2)] 121)).drew.cell? ⟨wr.heap.size,0,none⟩=some (.string (bs p1)):=rc (heap_alloc_new wr _) 0 rfl
     have e1:(wr.alloc (.cells #[.string (bs p1),.string (bs p2)] 121)).drew.cell? ⟨wr.heap.size,1,none⟩=some (.string (bs p2)):=rc (heap_alloc_new wr _) 1 rfl
     have hown3:=own_keep HW.out hba
     have hB3:=below_call HB.out hBs hba
     have hV3:wr.heap.size < (wr.alloc (.cells #[.string (bs p1),.string (bs p2)] 121)).drew.heap.size:=by simp
     obtain ⟨V,hV⟩:∃ V,V=wr.heap.size:=⟨_,rfl⟩
     have hVo:∀ k,(Value.slice A' out.length c').ownBlock=some k→k < V:=fun k e=>by rw [hV];exact (HW.out.lt _ e).2
     rw [← hV] at e0 e1 hV3 hBs ⊢
     refine wp_region_R [(99,fun w'=>w'.cell? ⟨V,0,none⟩=some (.string (bs p1))∧w'.cell? ⟨V,1,none⟩=some (.string (bs p2)))] (by kernel_rfl) ?_
     generalize (wr.alloc (.cells #[.string (bs p1),.string (bs p2)] 121)).drew=w3 at e0 e1 hown3 hB3 hV3 ⊢
     clear hba HB HW
     refine R_p (i:=0) (v:=.slice A' out.length c') (Meets.here ⟨e0,e1⟩ Meets.nil) ?_
     refine R_p (i:=1) (v:=.pointer (some ⟨V,0,none⟩)) (Meets.here ⟨e0,e1⟩ Meets.nil) ?_
     refine R_l (i:=2) (v:=.string (bs p1)) 99 _ List.mem_cons_self rfl (yieldsIf_load_cell rfl rfl rfl (fun w' hS=>hS.1) Tryz.underlying9 rfl) (Meets.here ⟨e0,e1⟩ Meets.nil) ?_
     refine R_p (i:=3) (v:=.int .i64 1) (Meets.here ⟨e0,e1⟩ Meets.nil) ?_
     refine R_p (i:=4) (v:=.string (bs p1.tail)) (Meets.here ⟨e0,e1⟩ Meets.nil) ?_
     refine R_p (i:=5) (v:=.pointer (some ⟨V,1,none⟩)) (Meets.here ⟨e0,e1⟩ Meets.nil) ?_
     refine R_l (i:=6) (v:=.string (bs p2)) 99 _ List.mem_cons_self rfl (yieldsIf_load_cell rfl rfl rfl (fun w' hS=>hS.2) Tryz.underlying9 rfl) (Meets.here ⟨e0,e1⟩ Meets.nil) ?_
     refine R_p (i:=7) (v:=.agg #[.string (bs p1.tail),.string (bs p2)]) (Meets.here ⟨e0,e1⟩ Meets.nil) ?_
     refine R_now 8 fun K hK=>?_
     have hbb:Below w3.heap.size w3 (w3.alloc (.cells #[.string (bs (p1.tail)),.string (bs p2)] 121)):=(Below.refl _ _).alloc (Nat.le_refl _) _
     replace hown3:=own_keep hown3 hbb
     replace hB3:=below_call hB3 hB3.size hbb
     replace e0:=((bcell hbb).1 V 0 hV3).trans e0
     replace e1:=((bcell hbb).1 V 1 hV3).trans e1
     replace hV3:=Nat.lt_of_lt_of_le hV3 hbb.size
     have hL:=lies_new w3 #[.string (bs (p1.tail)),.string (bs p2)] 121
     clear hbb
     go_simp
     refine hK.out _ _ (Meets.here ⟨e0,e1⟩ Meets.nil) (fun hMeets=>?_)
     clear hK K hMeets
     refine lay_R ?_
     refine R_now 9 fun K hK=>?_
     refine stl_append elKV rfl rfl w.heap.size hown3 rfl (m:=1) [.string (bs (p1.tail)),.string (bs p2)] rfl rfl hL (by intro u hu;simp at hu;rcases hu with rfl | rfl <;> rfl) (by simp only [maxLen];omega) (by omega) (by have:=hB3.size;omega) ?_
     intro v1 w8 hown1 hg1 hat1
     obtain ⟨A2,c2,rfl⟩:=own_form hown1
     have hbl:=hg1.block V hV3 (fun e=>by have:=hVo _ e.symm;omega)
     replace e0:=(World.cell?_of_block (a:=⟨V,0,none⟩) hbl).trans e0
     replace e1:=(World.cell?_of_block (a:=⟨V,1,none⟩) hbl).trans e1
     have hB8:=below_app hB3 hown3 hg1 (by have:=hB3.size;omega) (Nat.le_refl _)
     clear hbl hown3 hB3 hL hg1 hat1
     try simp only [Act.put,List.setIfInBounds_toArray,List.set_cons_zero,List.set_cons_succ,List.getElem_toArray,List.getElem_cons_zero,List.getElem_cons_succ]
     refine hK.out _ _ (Meets.here ⟨e0,e1⟩ Meets.nil) (fun hMeets=>?_)
     clear hK K hMeets
     refine lay_R ?_
     refine R_p (i:=10) (v:=.slice A2 (out.length+1) c2) (Meets.here ⟨e0,e1⟩ Meets.nil) ?_
     refine R_done (by kernel_rfl) ?_ _
     go_wp2_with fail
     go_roundw
     case rel=>exact ⟨i+1,out ++ [(p1.tail,p2)],by go_num,by omega,Lib.hid (by rw [HST.out,hout.out]),by simp;omega,own_kv (p:=(p1.tail,p2)) hown1,hB8⟩
     case measure=>simp [intOf];omega
    ·have hxI:((x.toNat:Int) == (k:Int))=false:=by rw [beq_eq_false_iff_ne];omega
     have hxk:¬ x=UInt8.ofNat k:=fun e=>hx (by rw [e];simp;omega)
     obtain ⟨p1,hp1⟩:∃ p1,p1=x :: t:=⟨_,rfl⟩
     have HST:Hid (cutK (l.take (i+1)) k=cutK (l.take i) k):=Lib.hid (by rw [take_snoc HP.out];simp [cutK,pickP,lessP,hxk])
     have hpp:0 < p1.length:=by rw [hp1];simp
     have hpI:(0:Int) < p1.length:=by omega
     have hg0:p1[0]? = some x:=by rw [hp1];rfl
     rw [← hp1] at c0 hkp
     have hgx:p1[0]'hpp=x:=(List.getElem?_eq_some_iff.1 hg0).2
     have hwx:wrap64 (x.toNat:Int)=(x.toNat:Int):=wrap64_byte x
     clear HP hp1 hg0 hx hxk
     go_wp2_with fail
     go_roundw
     case rel=>exact ⟨i+1,out,by go_num,by omega,Lib.hid (by rw [HST.out,hout.out]),by omega,HW.out.alloc _,HB.out.alloc hBs _⟩
     case measure=>simp [intOf];omega
  ·obtain rfl:i=l.length:=by omega
   have HO:Hid (out=cutK l k):=Lib.hid (by rw [hout.out,List.take_length])
   clear hout
   go_wp2_with fail
   go_ret
   rw [← HO.out]
   exact ⟨A',c',rfl,kvs_own hown rfl,hB⟩
end Go.Proofs.YtdfmheademcbkaaGreat
