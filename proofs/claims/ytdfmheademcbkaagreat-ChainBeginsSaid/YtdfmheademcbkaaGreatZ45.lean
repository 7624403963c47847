/- The walk of the reference's trie: the sum of pairs. -/
import Derived.Test.YtdfmheademcbkaaGreatZ43
import Derived.Test.YtdfmheademcbkaaGreatZ44
namespace Go.Proofs.YtdfmheademcbkaaGreat
set_option linter.unusedVariables false
set_option linter.unusedSimpArgs false
open Go.RowKit
set_option maxHeartbeats 4000000
set_option maxRecDepth 100000
theorem item_any (N:Nat):ItemSaid N:=by
 induction N with
 | zero =>
  intro l A c w _ hne hin hv
  cases l with
  | nil=>exact absurd rfl hne
  | cons p l=>exact absurd (hin.short p (by simp)) (by omega)
 | succ N ih =>
  intro l A c w hN hne hin hv
  match l,hne,hin,hv with
  | [p],_,hin,hv=>exact item_leaf N hN p A c w hin hv
  | p :: q :: r,_,hin,hv =>
   by_cases hk:0 < comP (p :: q :: r)
   ·exact item_joint N (refTold_any N ih) hN p q r hk A c w hin hv
   ·exact item_branch N (refTold_any N ih) hN p q r hk A c w hin hv
theorem OkL.itIn {l:List KV} (h:OkL l):ItIn 66 (partsP l):=⟨h.short,rise_parts h.rise,h.half,h.small,by rw [partsP_len];have:=h.le;omega⟩
theorem refRoot_any (l:List KV) (hO:OkL l) (A:Option Addr) (c:Nat) (w:World) (hv:KVs Any w l A c) :
  Calls Tryz.prog 55 #[.slice A l.length c] w fun e w'=>e=.returned (.string (bs (rootP l)))∧Below w.heap.size w w':=by
 by_cases hne:l = []
 ·subst hne
  have hr:rootP []=sumK (writeP (leafIt [])):=rfl
  have hl:(writeP (leafIt [])).length=1:=by decide
  have hW:=Write_any 1 (leafIt []) none 0 w (by decide) (by decide) (by decide) (ItemV.leaf [] false)
  rw [hr]
  obtain ⟨b,hb⟩:∃ b,writeP (leafIt [])=b:=⟨_,rfl⟩
  rw [hb] at hW hl ⊢
  have HW:=Lib.hid hW
  have HL:=Lib.hid hl
  clear hW hb hr hl
  go_enter Tryz.func55,Tryz.ntmps55
  go_wp2_with fail
  refine HW.out.mono ?_
  rintro e w1 ⟨rfl,hb1⟩
  go_wp2_with fail
  refine (refSum_any b (by have:=HL.out;omega) _).mono ?_
  rintro e w2 ⟨rfl,hb2⟩
  go_wp2_with fail
  go_ret
  exact ⟨rfl,below_call hb1 hb1.size hb2⟩
 ·have hr:rootP l=sumK (writeP (itemP 66 (partsP l))):=by unfold rootP;rw [if_neg hne]
  have hpos:0 < l.length:=List.length_pos_iff.2 hne
  have hlen0:((l.length:Int) == 0)=false:=by rw [beq_eq_false_iff_ne];omega
  have hne2:partsP l ≠ []:=by intro e;have:=congrArg List.length e;rw [partsP_len] at this;exact hne (List.eq_nil_of_length_eq_zero this)
  have hin:=hO.itIn
  have hf:=item_fine 66 (Nat.le_refl _) (partsP l) hne2 hin.short hin.rise hin.small
  have hP:=refParts_any l (by have:=hO.le;omega) (fun p hp=>by have:=hO.key p hp;omega) A c w hv
  have HI:=Lib.hid (fun A c w hv=>item_any 66 (partsP l) A c w (Nat.le_refl _) hne2 hin hv)
  obtain ⟨x,hx⟩:∃ x,itemP 66 (partsP l)=x:=⟨_,rfl⟩
  have hp:=hf.pure
  have hfl:=hf.len
  rw [hx] at hp hfl HI hr
  have hcnt:=pure_count x hp
  rw [hr]
  have HP:=Lib.hid hP
  clear hO hne hne2 hin hf hP hx hp hr hv
  go_enter Tryz.func55,Tryz.ntmps55
  go_wp2_with fail
  refine HP.out.mono ?_
  rintro e w1 ⟨A1,c1,rfl,hv1,hb1⟩
  go_wp2_with fail
  refine (HI.out A1 c1 w1 hv1).mono ?_
  rintro e w2 ⟨A2,c2,rfl,hx2,hb2⟩
  go_wp2_with fail
  refine (Write_any (countP x) x A2 c2 _ (Nat.le_refl _) (by omega) (by omega) hx2.any).mono ?_
  rintro e w3 ⟨rfl,hb3⟩
  go_wp2_with fail
  refine (refSum_any _ (by omega) _).mono ?_
  rintro e w4 ⟨rfl,hb4⟩
  go_wp2_with fail
  go_ret
  exact ⟨rfl,below_call (below_call (below_call hb1 hb1.size hb2) (by have:=hb1.size;have:=hb2.size;omega) hb3) (by have:=hb1.size;have:=hb2.size;have:=hb3.size;omega) hb4⟩
end Go.Proofs.YtdfmheademcbkaaGreat
