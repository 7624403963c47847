/- strings.Compare, laid; the walks of trie.find. -/
import Derived.Test.YtdfmheademcbkaaGreatZ18
import Derived.Test.YtdfmheademcbkaaGreatZ06
import Derived.Shelf.Small.Strs
namespace Go.Proofs.YtdfmheademcbkaaGreat
set_option linter.unusedVariables false
set_option linter.unusedSimpArgs false
open Go.RowKit
set_option maxHeartbeats 4000000
set_option maxRecDepth 100000
open Go.Shelf
def renC:Go.Shelf.Ren:=⟨fun | 106=>103 | 213=>159 | 265=>220 | n=>n,fun | 9=>9 | 3=>3 | n=>n,fun | n=>n⟩
theorem lays106:Go.Proofs.Lays.n106 Tryz.prog renC:={
 mixed:=by kernel_rfl
 f106:=Tryz.func103.trans (congrArg some (by kernel_rfl))
 f213:=Tryz.func159.trans (congrArg some (by kernel_rfl))
 f265:=Tryz.func220.trans (congrArg some (by kernel_rfl))
 t3:=Tryz.underlying3
 a3:=Tryz.isAgg3
 z3:=Tryz.sizeOf3
 v3:=Tryz.zeroValue3
 t9:=Tryz.underlying9
 a9:=Tryz.isAgg9
 z9:=Tryz.sizeOf9
 v9:=Tryz.zeroValue9 }
theorem compare_any (a b:Bytes) (w:World):Calls Tryz.prog 103 #[.string (bs a),.string (bs b)] w fun e w'=>e=.returned (.int .i64 (Lib.compareBytes a b))∧w'=w :=
 Any.strings_Compare lays106 (bs a) (bs b) w
theorem find1_any (p:KV) (k:Bytes) (w:World):Calls Tryz.prog 117 #[.agg #[.string (bs p.1),.string (bs p.2)],.string (bs k)] w fun e w'=>e=.returned (.int .i64 (Lib.compareBytes p.1 k))∧Below w.heap.size w w':=by
 have hb:Below w.heap.size w (w.alloc (.cells #[.string (bs p.1),.string (bs p.2)] 121)):=(Below.refl _ _).alloc (Nat.le_refl _) _
 go_enter Tryz.func117,Tryz.ntmps117
 go_wp2_with fail
 refine (compare_any _ _ _).mono ?_
 rintro e w1 ⟨rfl,rfl⟩
 go_wp2_with fail
 go_ret
 exact ⟨rfl,hb⟩
theorem search_any (l:List KV) (hR:Rise l) (hl:l.length≤1000) (k:Bytes) (A:Option Addr) (c:Nat) (w:World) (hv:KVs Any w l A c) :
  Calls Tryz.prog 116 #[.slice A l.length c,.string (bs k),.func (.func 117) #[] #[]] w fun e w'=>∃ i is,e=.returned (.tuple #[.int .i64 (i:Nat),.bool is])∧FoundP l k i is∧Below w.heap.size w w':=by
 go_enter Tryz.func116,Tryz.ntmps116
 go_wp2_with fail
 go_loopw [9,10] (fun x y wr=>∃ i j:Nat,i≤j∧j≤l.length∧x=.int .i64 i∧y=.int .i64 j∧Hid ((∀ m p,m < i→l[m]? = some p→ltB p.1 k)∧(∀ m p,j≤m→l[m]? = some p→¬ ltB p.1 k))∧Below w.heap.size w wr) (fun x y _=>(intOf y).toNat - (intOf x).toNat)
 case atStart=>exact ⟨0,l.length,by omega,by omega,rfl,rfl,Lib.hid ⟨fun m p h=>by omega,fun m p h hm=>by have:=(List.getElem?_eq_some_iff.1 hm).1;omega⟩,Below.refl _ _⟩
 case round =>
  obtain ⟨i,j,hij,hj,rfl,rfl,HI,hb⟩:=hrel
  by_cases hlt:i < j
  ·have hlt':(i:Int) < (j:Int):=by omega
   obtain ⟨h,hh⟩:∃ h,(i+j) / 2=h:=⟨_,rfl⟩
   have hhj:h < l.length:=by omega
   obtain ⟨p,hp⟩:=getElem_ex hhj
   obtain ⟨g,o,rfl,_,c0,c1⟩:=(hv.keep hb).at_ hp
   have s1:IntKind.i64.wrap ((i:Int)+j)=(i:Int)+j:=IntWalk.i64_in _ (by omega)
   have hhI:(h:Int) < l.length:=by omega
   go_wp2_with fail
   refine (find1_any p k _).mono ?_
   rintro e w1 ⟨rfl,hb1⟩
   have hb2:=below_call hb hb.size hb1
   have e2:((i:Int)+j) / 2=(h:Int):=by omega
   have s2:IntKind.i64.wrap ((h:Int)+1)=(h:Int)+1:=IntWalk.i64_in _ (by omega)
   have hle:∀ m q,m≤h→l[m]? = some q→ltB p.1 k→ltB q.1 k:=fun m q hm hq h1=>by
    by_cases e:m=h
    ·subst e;rw [hp] at hq;injection hq with hq;subst hq;exact h1
    ·obtain ⟨a1,a2⟩:=List.getElem?_eq_some_iff.1 hq
     obtain ⟨b1,b2⟩:=List.getElem?_eq_some_iff.1 hp
     have:=List.pairwise_iff_getElem.1 hR m h a1 b1 (by omega)
     rw [a2,b2] at this
     exact ltB_trans this h1
   have hge:∀ m q,h≤m→l[m]? = some q→¬ ltB p.1 k→¬ ltB q.1 k:=fun m q hm hq h1 h2=>by
    by_cases e:m=h
    ·subst e;rw [hp] at hq;injection hq with hq;subst hq;exact h1 h2
    ·obtain ⟨a1,a2⟩:=List.getElem?_eq_some_iff.1 hq
     obtain ⟨b1,b2⟩:=List.getElem?_eq_some_iff.1 hp
     have:=List.pairwise_iff_getElem.1 hR h m b1 a1 (by omega)
     rw [a2,b2] at this
     exact h1 (ltB_trans this h2)
   have HLE:=Lib.hid (And.intro hle hge)
   clear hle hge hp c0 c1 hb1 hb
   rcases cmp_cases p.1 k with ⟨h1,h2⟩ | ⟨h1,h2⟩ | ⟨h1,h2⟩
   ·rw [h1]
    go_wp2_with fail
    go_roundw
    case rel=>exact ⟨h+1,j,by omega,hj,by go_num,rfl,Lib.hid ⟨fun m q hm hq=>HLE.out.1 m q (by omega) hq h2,HI.out.2⟩,hb2⟩
    case measure=>simp [intOf,e2];omega
   all_goals (
    rw [h1]
    have h3:¬ ltB p.1 k:=(by first | (rw [h2];exact ltB_irrefl _) | exact ltB_asymm h2)
    clear h2
    go_wp2_with fail
    go_roundw
    case rel=>exact ⟨i,h,by omega,by omega,rfl,rfl,Lib.hid ⟨HI.out.1,fun m q hm hq=>HLE.out.2 m q hm hq h3⟩,hb2⟩
    case measure=>(simp [intOf,e2];omega))
  ·obtain rfl:i=j:=by omega
   by_cases hin:i < l.length
   ·have hinI:(i:Int) < l.length:=by omega
    obtain ⟨p,hp⟩:=getElem_ex hin
    obtain ⟨g,o,rfl,_,c0,c1⟩:=(hv.keep hb).at_ hp
    have HP:=Lib.hid hp
    clear hp
    go_wp2_with fail
    refine (find1_any p k _).mono ?_
    rintro e w1 ⟨rfl,hb1⟩
    have hb2:=below_call hb hb.size hb1
    clear c0 c1
    go_wp2_with fail
    go_ret2
    refine ⟨i,Lib.compareBytes p.1 k == 0,rfl,⟨by omega,HI.out.1,HI.out.2,?_⟩,hb2⟩
    rw [beq_iff_eq]
    rcases cmp_cases p.1 k with ⟨h1,h2⟩ | ⟨h1,h2⟩ | ⟨h1,h2⟩
    ·rw [h1]
     refine ⟨fun h=>(by cases h),fun ⟨q,hq,hqk⟩=>?_⟩
     rw [HP.out] at hq;injection hq with hq;subst hq;rw [hqk] at h2;exact absurd h2 (ltB_irrefl _)
    ·exact ⟨fun _=>⟨p,HP.out,h2⟩,fun _=>h1⟩
    ·rw [h1]
     refine ⟨fun h=>(by cases h),fun ⟨q,hq,hqk⟩=>?_⟩
     rw [HP.out] at hq;injection hq with hq;subst hq;rw [hqk] at h2;exact absurd h2 (ltB_irrefl _)
   ·obtain rfl:i=l.length:=by omega
    go_wp2_with fail
    go_ret2
    refine ⟨l.length,false,rfl,⟨Nat.le_refl _,HI.out.1,HI.out.2,?_⟩,hb⟩
    refine ⟨fun h=>(by cases h),fun ⟨q,hq,_⟩=>?_⟩
    have:=(List.getElem?_eq_some_iff.1 hq).1;omega
theorem find_any (l:List KV) (hR:Rise l) (hl:l.length≤1000) (k:Bytes) (A:Option Addr) (c:Nat) (w:World) (hv:KVs Any w l A c) :
  Calls Tryz.prog 68 #[.slice A l.length c,.string (bs k)] w fun e w'=>∃ i is,e=.returned (.tuple #[.int .i64 (i:Nat),.bool is])∧FoundP l k i is∧Below w.heap.size w w':=by
 go_enter Tryz.func68,Tryz.ntmps68
 go_wp2_with fail
 refine (search_any l hR hl k A c _ hv).mono ?_
 rintro e w1 ⟨i,is,rfl,hf,hb⟩
 go_wp2_with fail
 go_ret2
 exact ⟨i,is,rfl,hf,hb⟩
end Go.Proofs.YtdfmheademcbkaaGreat
