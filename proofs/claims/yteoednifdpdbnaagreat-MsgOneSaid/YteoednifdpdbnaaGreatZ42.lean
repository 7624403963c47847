/- The walk of point.sum. -/
import Derived.Test.YteoednifdpdbnaaGreatZ41
import Derived.Test.YteoednifdpdbnaaGreatZ27
namespace Go.Proofs.YteoednifdpdbnaaGreat
set_option linter.unusedVariables false
set_option linter.unusedSimpArgs false
open Go.RowKit
set_option maxHeartbeats 4000000
set_option maxRecDepth 100000
open Go.RowKit Go.Shelf
theorem sum_eq (x y z x2 y2 z2:Nat):sumP ⟨x,y,false,z⟩ ⟨x2,y2,false,z2⟩=if sP (mP x2 (mP z z)) (mP x (mP z2 z2))=0 then (if sP (mP y2 (mP (mP z z) z)) (mP y (mP (mP z2 z2) z2))=0 then twiceP ⟨x,y,false,z⟩ else zeroW) else sumV (mP x (mP z2 z2)) (mP y (mP (mP z2 z2) z2)) (mP x2 (mP z z)) (mP y2 (mP (mP z z) z)) (mP z z2) (sP (mP x2 (mP z z)) (mP x (mP z2 z2))) (sP (mP y2 (mP (mP z z) z)) (mP y (mP (mP z2 z2) z2))):=by
 unfold sumP
 simp only [Bool.false_eq_true,if_false]
theorem psum (x y:Nat) (o:Bool) (z x2 y2:Nat) (o2:Bool) (z2:Nat) (l_x:x < two256) (l_y:y < two256) (l_z:z < two256) (l_x2:x2 < two256) (l_y2:y2 < two256) (l_z2:z2 < two256) (w:World):Calls Tryz.prog 232 #[.agg (wdC x y o z),.agg (wdC x2 y2 o2 z2)] w fun e w'=>e=.returned (.agg (wdA (sumP ⟨x,y,o,z⟩ ⟨x2,y2,o2,z2⟩)))∧Below w.heap.size w w':=by
 cases o with
 | true =>
  show Calls _ _ _ _ fun e w'=>e=.returned (.agg (wdC x2 y2 o2 z2))∧_
  have hM:=Mem.nil w
  go_enter Tryz.func232,Tryz.ntmps232
  go_wp2_with (first
   | (refine qay hM rfl rfl rfl (boxW _ _ _ _ _) ?_;clear hM;intro w' ga hM)
   | (refine qas hM rfl (runW rfl) ?_;clear hM;intro w' ga hM)
   | (refine qaf hM rfl rfl Tryz.isAgg4 rfl (by exact hat) (by first | exact cb_w | exact cb_p) ?_)
   | (refine qai hM rfl rfl tyW rfl (by exact hat) rfl ?_)
   | (refine qae hM rfl rfl tyW rfl rfl (by exact hau) rfl rfl (oneW _ _ _ _) ?_;clear hM;intro w' hM))
  refine res_c hM rfl tyW rfl (by exact hat) rfl rfl ?_
  exact ⟨rfl,hM.below⟩
 | false =>
 cases o2 with
 | true =>
  show Calls _ _ _ _ fun e w'=>e=.returned (.agg (wdC x y false z))∧_
  have hM:=Mem.nil w
  go_enter Tryz.func232,Tryz.ntmps232
  go_wp2_with (first
   | (refine qay hM rfl rfl rfl (boxW _ _ _ _ _) ?_;clear hM;intro w' ga hM)
   | (refine qas hM rfl (runW rfl) ?_;clear hM;intro w' ga hM)
   | (refine qaf hM rfl rfl Tryz.isAgg4 rfl (by exact hat) (by first | exact cb_w | exact cb_p) ?_)
   | (refine qai hM rfl rfl tyW rfl (by exact hat) rfl ?_)
   | (refine qae hM rfl rfl tyW rfl rfl (by exact hau) rfl rfl (oneW _ _ _ _) ?_;clear hM;intro w' hM))
  refine res_c hM rfl tyW rfl (by exact hat) rfl rfl ?_
  exact ⟨rfl,hM.below⟩
 | false =>
  have c_pz:=pmul z z l_z l_z
  obtain ⟨pz,e_pz⟩:∃ n,mP z z=n:=⟨_,rfl⟩
  have l_pz:pz < two256:=by rw [← e_pz];exact mP_lt _ _
  simp only [e_pz] at c_pz
  have E_pz:=qh e_pz
  clear e_pz
  have c_qz:=pmul z2 z2 l_z2 l_z2
  obtain ⟨qz,e_qz⟩:∃ n,mP z2 z2=n:=⟨_,rfl⟩
  have l_qz:qz < two256:=by rw [← e_qz];exact mP_lt _ _
  simp only [e_qz] at c_qz
  have E_qz:=qh e_qz
  clear e_qz
  have c_px:=pmul x qz l_x l_qz
  obtain ⟨px,e_px⟩:∃ n,mP x qz=n:=⟨_,rfl⟩
  have l_px:px < two256:=by rw [← e_px];exact mP_lt _ _
  simp only [e_px] at c_px
  have E_px:=qh e_px
  clear e_px
  have c_qx:=pmul x2 pz l_x2 l_pz
  obtain ⟨qx,e_qx⟩:∃ n,mP x2 pz=n:=⟨_,rfl⟩
  have l_qx:qx < two256:=by rw [← e_qx];exact mP_lt _ _
  simp only [e_qx] at c_qx
  have E_qx:=qh e_qx
  clear e_qx
  have c_t1:=pmul qz z2 l_qz l_z2
  obtain ⟨t1,e_t1⟩:∃ n,mP qz z2=n:=⟨_,rfl⟩
  have l_t1:t1 < two256:=by rw [← e_t1];exact mP_lt _ _
  simp only [e_t1] at c_t1
  have E_t1:=qh e_t1
  clear e_t1
  have c_py:=pmul y t1 l_y l_t1
  obtain ⟨py,e_py⟩:∃ n,mP y t1=n:=⟨_,rfl⟩
  have l_py:py < two256:=by rw [← e_py];exact mP_lt _ _
  simp only [e_py] at c_py
  have E_py:=qh e_py
  clear e_py
  have c_t2:=pmul pz z l_pz l_z
  obtain ⟨t2,e_t2⟩:∃ n,mP pz z=n:=⟨_,rfl⟩
  have l_t2:t2 < two256:=by rw [← e_t2];exact mP_lt _ _
  simp only [e_t2] at c_t2
  have E_t2:=qh e_t2
  clear e_t2
  have c_qy:=pmul y2 t2 l_y2 l_t2
  obtain ⟨qy,e_qy⟩:∃ n,mP y2 t2=n:=⟨_,rfl⟩
  have l_qy:qy < two256:=by rw [← e_qy];exact mP_lt _ _
  simp only [e_qy] at c_qy
  have E_qy:=qh e_qy
  clear e_qy
  have c_h:=psub qx px l_qx l_px
  obtain ⟨h,e_h⟩:∃ n,sP qx px=n:=⟨_,rfl⟩
  have l_h:h < two256:=by rw [← e_h];exact sP_lt _ _
  simp only [e_h] at c_h
  have E_h:=qh e_h
  clear e_h
  have c_r:=psub qy py l_qy l_py
  obtain ⟨r,e_r⟩:∃ n,sP qy py=n:=⟨_,rfl⟩
  have l_r:r < two256:=by rw [← e_r];exact sP_lt _ _
  simp only [e_r] at c_r
  have E_r:=qh e_r
  clear e_r
  have HS:Hid (sumP ⟨x,y,false,z⟩ ⟨x2,y2,false,z2⟩=if h=0 then (if r=0 then twiceP ⟨x,y,false,z⟩ else zeroW) else sumV px py qx qy (mP z z2) h r):=qh (by
   have e_pz:=E_pz.out
   have e_qz:=E_qz.out
   have e_px:=E_px.out
   have e_qx:=E_qx.out
   have e_t1:=E_t1.out
   have e_py:=E_py.out
   have e_t2:=E_t2.out
   have e_qy:=E_qy.out
   have e_h:=E_h.out
   have e_r:=E_r.out
   subst e_r e_h e_qy e_t2 e_py e_t1 e_qx e_px e_qz e_pz
   exact sum_eq x y z x2 y2 z2)
  rw [HS.out]
  clear HS
  obtain ⟨R,hR⟩:∃ R,(if h=0 then (if r=0 then twiceP ⟨x,y,false,z⟩ else zeroW) else sumV px py qx qy (mP z z2) h r)=R:=⟨_,rfl⟩
  rw [hR]
  have HR:=qh hR
  clear hR
  have hM:=Mem.nil w
  go_enter Tryz.func232,Tryz.ntmps232
  go_wp2_with (first
   | (refine qam 2 rfl hM rfl rfl rfl (boxW _ _ _ _ _) ?_;clear hM;intro w' g2 hM)
   | (refine qam 3 rfl hM rfl rfl rfl (boxW _ _ _ _ _) ?_;clear hM;intro w' g3 hM)
   | (refine qaj 4 rfl hM rfl (runW rfl) ?_;clear hM;intro w' g4 hM)
   | (refine qaf hM rfl rfl Tryz.isAgg4 rfl (by exact hat) (by first | exact cb_w | exact cb_p) ?_)
   | (refine qav hM rfl rfl tyU rfl (by exact hat) (by first | exact pa_wx | exact pa_wy | exact pa_wz | exact pa_px | exact pa_py) ?_)
   | (refine qai hM rfl rfl tyU rfl (by exact hat) rfl ?_)
   | (refine qai hM rfl rfl tyW rfl (by exact hat) rfl ?_)
   | (refine qae hM rfl rfl tyU rfl rfl (by exact hau) rfl rfl (oneN _) ?_;clear hM;intro w' hM)
   | (refine qae hM rfl rfl tyW rfl rfl (by exact hau) rfl rfl (oneW _ _ _ _) ?_;clear hM;intro w' hM)
   | (refine qar rfl rfl (qbr _ _) rfl rfl ?_)
   | (refine qar rfl rfl (qcg _ _ _ _) rfl rfl ?_))
  refine qau 12 hM qbc [.pointer (some ⟨g2,9,none⟩),.agg (uC z),.pointer (some ⟨g2,9,none⟩),.agg (uC z),.agg (uC pz),.pointer (some ⟨g3,9,none⟩),.agg (uC z2),.pointer (some ⟨g3,9,none⟩),.agg (uC z2),.agg (uC qz),undef,undef] [⟨10,5,uC 0,24⟩,⟨11,6,uC 0,24⟩] (b:=?b1) ?hb rfl (by kernel_rfl) ?hgo ?hfin
  case hb=>simp only [putAll,Act.put,List.setIfInBounds_toArray,List.set_cons_zero,List.set_cons_succ];rfl
  case hgo =>
   refine GoAll.v (.pointer (some ⟨g2,9,none⟩)) (qaq fun w=>by go_simp) ?_
   refine GoAll.v (.agg (uC z)) (qba tyU at2 pa_wz) ?_
   refine GoAll.v (.pointer (some ⟨g2,9,none⟩)) (qaq fun w=>by go_simp) ?_
   refine GoAll.v (.agg (uC z)) (qba tyU at2 pa_wz) ?_
   refine GoAll.v (.agg (uC pz)) (qao (al:=[.agg (uC z),.agg (uC z)]) c_pz qaw) ?_
   refine GoAll.v (.pointer (some ⟨g3,9,none⟩)) (qaq fun w=>by go_simp) ?_
   refine GoAll.v (.agg (uC z2)) (qba tyU at1 pa_wz) ?_
   refine GoAll.v (.pointer (some ⟨g3,9,none⟩)) (qaq fun w=>by go_simp) ?_
   refine GoAll.v (.agg (uC z2)) (qba tyU at1 pa_wz) ?_
   refine GoAll.v (.agg (uC qz)) (qao (al:=[.agg (uC z2),.agg (uC z2)]) c_qz qaw) ?_
   refine GoAll.l (k:=0) rfl ⟨rfl,fun ρ w=>runN rfl ρ w⟩ ?_
   refine GoAll.l (k:=1) rfl ⟨rfl,fun ρ w=>runN rfl ρ w⟩ ?_
   exact GoAll.nil
  case hfin =>
   clear hM;intro w' G hM
   simp only [putLays,List.drop_succ_cons,List.drop_zero,List.map_nil,List.map_cons,List.nil_append,List.cons_append,Act.put,List.setIfInBounds_toArray,List.set_cons_zero,List.set_cons_succ] at hM ⊢
   generalize G 10=g5 at hM ⊢
   generalize G 11=g6 at hM ⊢
   go_wp2_with (first
    | (refine qaf hM rfl rfl Tryz.isAgg4 rfl (by exact hat) (by first | exact cb_w | exact cb_p) ?_)
    | (refine qav hM rfl rfl tyU rfl (by exact hat) (by first | exact pa_wx | exact pa_wy | exact pa_wz | exact pa_px | exact pa_py) ?_)
    | (refine qai hM rfl rfl tyU rfl (by exact hat) rfl ?_)
    | (refine qai hM rfl rfl tyW rfl (by exact hat) rfl ?_)
    | (refine qae hM rfl rfl tyU rfl rfl (by exact hau) rfl rfl (oneN _) ?_;clear hM;intro w' hM)
    | (refine qae hM rfl rfl tyW rfl rfl (by exact hau) rfl rfl (oneW _ _ _ _) ?_;clear hM;intro w' hM)
    | (refine qar rfl rfl (qbr _ _) rfl rfl ?_)
    | (refine qar rfl rfl (qcg _ _ _ _) rfl rfl ?_))
   refine qau 12 hM qbc [.pointer (some ⟨g2,0,none⟩),.pointer (some ⟨g2,0,none⟩),.agg (uC x),.agg (uC qz),.agg (uC px),.pointer (some ⟨g3,0,none⟩),.pointer (some ⟨g3,0,none⟩),.agg (uC x2),.agg (uC pz),.agg (uC qx),undef,undef] [⟨10,7,uC 0,24⟩,⟨11,8,uC 0,24⟩] (b:=?b2) ?hb rfl (by kernel_rfl) ?hgo ?hfin
   case hb=>simp only [putAll,Act.put,List.setIfInBounds_toArray,List.set_cons_zero,List.set_cons_succ];rfl
   case hgo =>
    refine GoAll.v (.pointer (some ⟨g2,0,none⟩)) (qaq fun w=>by go_simp) ?_
    refine GoAll.v (.pointer (some ⟨g2,0,none⟩)) (qaq fun w=>by go_simp) ?_
    refine GoAll.v (.agg (uC x)) (qba tyU at4 pa_wx) ?_
    refine GoAll.v (.agg (uC qz)) (qap tyU at1) ?_
    refine GoAll.v (.agg (uC px)) (qao (al:=[.agg (uC x),.agg (uC qz)]) c_px qaw) ?_
    refine GoAll.v (.pointer (some ⟨g3,0,none⟩)) (qaq fun w=>by go_simp) ?_
    refine GoAll.v (.pointer (some ⟨g3,0,none⟩)) (qaq fun w=>by go_simp) ?_
    refine GoAll.v (.agg (uC x2)) (qba tyU at3 pa_wx) ?_
    refine GoAll.v (.agg (uC pz)) (qap tyU at0) ?_
    refine GoAll.v (.agg (uC qx)) (qao (al:=[.agg (uC x2),.agg (uC pz)]) c_qx qaw) ?_
    refine GoAll.l (k:=0) rfl ⟨rfl,fun ρ w=>runN rfl ρ w⟩ ?_
    refine GoAll.l (k:=1) rfl ⟨rfl,fun ρ w=>runN rfl ρ w⟩ ?_
    exact GoAll.nil
   case hfin =>
    clear hM;intro w' G hM
    simp only [putLays,List.drop_succ_cons,List.drop_zero,List.map_nil,List.map_cons,List.nil_append,List.cons_append,Act.put,List.setIfInBounds_toArray,List.set_cons_zero,List.set_cons_succ] at hM ⊢
    generalize G 10=g7 at hM ⊢
    generalize G 11=g8 at hM ⊢
    go_wp2_with (first
     | (refine qaf hM rfl rfl Tryz.isAgg4 rfl (by exact hat) (by first | exact cb_w | exact cb_p) ?_)
     | (refine qav hM rfl rfl tyU rfl (by exact hat) (by first | exact pa_wx | exact pa_wy | exact pa_wz | exact pa_px | exact pa_py) ?_)
     | (refine qai hM rfl rfl tyU rfl (by exact hat) rfl ?_)
     | (refine qai hM rfl rfl tyW rfl (by exact hat) rfl ?_)
     | (refine qae hM rfl rfl tyU rfl rfl (by exact hau) rfl rfl (oneN _) ?_;clear hM;intro w' hM)
     | (refine qae hM rfl rfl tyW rfl rfl (by exact hau) rfl rfl (oneW _ _ _ _) ?_;clear hM;intro w' hM)
     | (refine qar rfl rfl (qbr _ _) rfl rfl ?_)
     | (refine qar rfl rfl (qcg _ _ _ _) rfl rfl ?_))
    refine qau 18 hM qbc [.pointer (some ⟨g2,0,none⟩),.pointer (some ⟨g2,4,none⟩),.agg (uC y),.agg (uC qz),.pointer (some ⟨g3,9,none⟩),.agg (uC z2),.agg (uC t1),.agg (uC py),.pointer (some ⟨g3,0,none⟩),.pointer (some ⟨g3,4,none⟩),.agg (uC y2),.agg (uC pz),.pointer (some ⟨g2,9,none⟩),.agg (uC z),.agg (uC t2),.agg (uC qy),undef,undef] [⟨16,9,uC 0,24⟩,⟨17,10,uC 0,24⟩] (b:=?b3) ?hb rfl (by kernel_rfl) ?hgo ?hfin
    case hb=>simp only [putAll,Act.put,List.setIfInBounds_toArray,List.set_cons_zero,List.set_cons_succ];rfl
    case hgo =>
     refine GoAll.v (.pointer (some ⟨g2,0,none⟩)) (qaq fun w=>by go_simp) ?_
     refine GoAll.v (.pointer (some ⟨g2,4,none⟩)) (qaq fun w=>by go_simp) ?_
     refine GoAll.v (.agg (uC y)) (qba tyU at6 pa_wy) ?_
     refine GoAll.v (.agg (uC qz)) (qap tyU at3) ?_
     refine GoAll.v (.pointer (some ⟨g3,9,none⟩)) (qaq fun w=>by go_simp) ?_
     refine GoAll.v (.agg (uC z2)) (qba tyU at5 pa_wz) ?_
     refine GoAll.v (.agg (uC t1)) (qao (al:=[.agg (uC qz),.agg (uC z2)]) c_t1 qaw) ?_
     refine GoAll.v (.agg (uC py)) (qao (al:=[.agg (uC y),.agg (uC t1)]) c_py qaw) ?_
     refine GoAll.v (.pointer (some ⟨g3,0,none⟩)) (qaq fun w=>by go_simp) ?_
     refine GoAll.v (.pointer (some ⟨g3,4,none⟩)) (qaq fun w=>by go_simp) ?_
     refine GoAll.v (.agg (uC y2)) (qba tyU at5 pa_wy) ?_
     refine GoAll.v (.agg (uC pz)) (qap tyU at2) ?_
     refine GoAll.v (.pointer (some ⟨g2,9,none⟩)) (qaq fun w=>by go_simp) ?_
     refine GoAll.v (.agg (uC z)) (qba tyU at6 pa_wz) ?_
     refine GoAll.v (.agg (uC t2)) (qao (al:=[.agg (uC pz),.agg (uC z)]) c_t2 qaw) ?_
     refine GoAll.v (.agg (uC qy)) (qao (al:=[.agg (uC y2),.agg (uC t2)]) c_qy qaw) ?_
     refine GoAll.l (k:=0) rfl ⟨rfl,fun ρ w=>runN rfl ρ w⟩ ?_
     refine GoAll.l (k:=1) rfl ⟨rfl,fun ρ w=>runN rfl ρ w⟩ ?_
     exact GoAll.nil
    case hfin =>
     clear hM;intro w' G hM
     simp only [putLays,List.drop_succ_cons,List.drop_zero,List.map_nil,List.map_cons,List.nil_append,List.cons_append,Act.put,List.setIfInBounds_toArray,List.set_cons_zero,List.set_cons_succ] at hM ⊢
     generalize G 16=g9 at hM ⊢
     generalize G 17=g10 at hM ⊢
     go_wp2_with (first
      | (refine qaf hM rfl rfl Tryz.isAgg4 rfl (by exact hat) (by first | exact cb_w | exact cb_p) ?_)
      | (refine qav hM rfl rfl tyU rfl (by exact hat) (by first | exact pa_wx | exact pa_wy | exact pa_wz | exact pa_px | exact pa_py) ?_)
      | (refine qai hM rfl rfl tyU rfl (by exact hat) rfl ?_)
      | (refine qai hM rfl rfl tyW rfl (by exact hat) rfl ?_)
      | (refine qae hM rfl rfl tyU rfl rfl (by exact hau) rfl rfl (oneN _) ?_;clear hM;intro w' hM)
      | (refine qae hM rfl rfl tyW rfl rfl (by exact hau) rfl rfl (oneW _ _ _ _) ?_;clear hM;intro w' hM)
      | (refine qar rfl rfl (qbr _ _) rfl rfl ?_)
      | (refine qar rfl rfl (qcg _ _ _ _) rfl rfl ?_))
     refine qau 8 hM qbc [.agg (uC qx),.agg (uC px),.agg (uC h),.agg (uC qy),.agg (uC py),.agg (uC r),undef,undef] [⟨6,11,uC 0,24⟩,⟨7,12,uC 0,24⟩] (b:=?b4) ?hb rfl (by kernel_rfl) ?hgo ?hfin
     case hb=>simp only [putAll,Act.put,List.setIfInBounds_toArray,List.set_cons_zero,List.set_cons_succ];rfl
     case hgo =>
      refine GoAll.v (.agg (uC qx)) (qap tyU at3) ?_
      refine GoAll.v (.agg (uC px)) (qap tyU at2) ?_
      refine GoAll.v (.agg (uC h)) (qao (al:=[.agg (uC qx),.agg (uC px)]) c_h qbu) ?_
      refine GoAll.v (.agg (uC qy)) (qap tyU at1) ?_
      refine GoAll.v (.agg (uC py)) (qap tyU at0) ?_
      refine GoAll.v (.agg (uC r)) (qao (al:=[.agg (uC qy),.agg (uC py)]) c_r qbu) ?_
      refine GoAll.l (k:=0) rfl ⟨rfl,fun ρ w=>runN rfl ρ w⟩ ?_
      refine GoAll.l (k:=1) rfl ⟨rfl,fun ρ w=>runN rfl ρ w⟩ ?_
      exact GoAll.nil
     case hfin =>
      clear hM;intro w' G hM
      simp only [putLays,List.drop_succ_cons,List.drop_zero,List.map_nil,List.map_cons,List.nil_append,List.cons_append,Act.put,List.setIfInBounds_toArray,List.set_cons_zero,List.set_cons_succ] at hM ⊢
      generalize G 6=g11 at hM ⊢
      generalize G 7=g12 at hM ⊢
      by_cases h0:h=0
      ·have hq1:∀ W:World,(Op.equalIn 10000 24 (.agg (uC h)) (.agg #[.int .u64 0,.int .u64 0,.int .u64 0,.int .u64 0])).run Tryz.prog W=.ok true W:=fun W=>by
        rw [eqNZ h l_h W,decide_eq_true h0]
       have H0:=qh h0
       clear h0
       by_cases r0:r=0
       ·have hq2:∀ W:World,(Op.equalIn 10000 24 (.agg (uC r)) (.agg #[.int .u64 0,.int .u64 0,.int .u64 0,.int .u64 0])).run Tryz.prog W=.ok true W:=fun W=>by
         rw [eqNZ r l_r W,decide_eq_true r0]
        have hR:twiceP ⟨x,y,false,z⟩=R:=by have:=HR.out;rw [if_pos H0.out,if_pos r0] at this;exact this
        clear r0
        subst hR
        go_wp2_with (first
         | (refine qaf hM rfl rfl Tryz.isAgg4 rfl (by exact hat) (by first | exact cb_w | exact cb_p) ?_)
         | (refine qav hM rfl rfl tyU rfl (by exact hat) (by first | exact pa_wx | exact pa_wy | exact pa_wz | exact pa_px | exact pa_py) ?_)
         | (refine qai hM rfl rfl tyU rfl (by exact hat) rfl ?_)
         | (refine qai hM rfl rfl tyW rfl (by exact hat) rfl ?_)
         | (refine qae hM rfl rfl tyU rfl rfl (by exact hau) rfl rfl (oneN _) ?_;clear hM;intro w' hM)
         | (refine qae hM rfl rfl tyW rfl rfl (by exact hau) rfl rfl (oneW _ _ _ _) ?_;clear hM;intro w' hM)
         | (refine qar rfl rfl (qbr _ _) rfl rfl ?_)
         | (refine qar rfl rfl (qcg _ _ _ _) rfl rfl ?_)
         | (refine qad hM rfl rfl qqq (al:=[.agg (wdC x y false z)]) (ptwice x y false z l_x l_y l_z _) rfl ?_;clear hM;intro w' hM))
        refine res_c hM rfl tyW rfl (by exact hat) rfl rfl ?_
        exact ⟨rfl,hM.below⟩
       ·have hq2:∀ W:World,(Op.equalIn 10000 24 (.agg (uC r)) (.agg #[.int .u64 0,.int .u64 0,.int .u64 0,.int .u64 0])).run Tryz.prog W=.ok false W:=fun W=>by
         rw [eqNZ r l_r W,decide_eq_false r0]
        have hR:zeroW=R:=by have:=HR.out;rw [if_pos H0.out,if_neg r0] at this;exact this
        subst hR
        go_wp2_with (first
         | (refine qaf hM rfl rfl Tryz.isAgg4 rfl (by exact hat) (by first | exact cb_w | exact cb_p) ?_)
         | (refine qav hM rfl rfl tyU rfl (by exact hat) (by first | exact pa_wx | exact pa_wy | exact pa_wz | exact pa_px | exact pa_py) ?_)
         | (refine qai hM rfl rfl tyU rfl (by exact hat) rfl ?_)
         | (refine qai hM rfl rfl tyW rfl (by exact hat) rfl ?_)
         | (refine qae hM rfl rfl tyU rfl rfl (by exact hau) rfl rfl (oneN _) ?_;clear hM;intro w' hM)
         | (refine qae hM rfl rfl tyW rfl rfl (by exact hau) rfl rfl (oneW _ _ _ _) ?_;clear hM;intro w' hM)
         | (refine qar rfl rfl (qbr _ _) rfl rfl ?_)
         | (refine qar rfl rfl (qcg _ _ _ _) rfl rfl ?_)
         | (refine qad hM rfl rfl qh0 (al:=[]) (pzero _) rfl ?_;clear hM;intro w' hM)
         | (refine qad hM rfl rfl qgj (al:=[.agg (ptC 0 0 true)]) (qi9 0 0 true _) rfl ?_;clear hM;intro w' hM))
        refine res_c hM rfl tyW rfl (by exact hat) rfl rfl ?_
        exact ⟨rfl,hM.below⟩
      ·have hq1:∀ W:World,(Op.equalIn 10000 24 (.agg (uC h)) (.agg #[.int .u64 0,.int .u64 0,.int .u64 0,.int .u64 0])).run Tryz.prog W=.ok false W:=fun W=>by
        rw [eqNZ h l_h W,decide_eq_false h0]
       have hR:=HR.out
       rw [if_neg h0] at hR
       have c_hh:=pmul h h l_h l_h
       obtain ⟨hh,e_hh⟩:∃ n,mP h h=n:=⟨_,rfl⟩
       have l_hh:hh < two256:=by rw [← e_hh];exact mP_lt _ _
       simp only [e_hh] at c_hh
       have E_hh:=qh e_hh
       clear e_hh
       have c_hhh:=pmul hh h l_hh l_h
       obtain ⟨hhh,e_hhh⟩:∃ n,mP hh h=n:=⟨_,rfl⟩
       have l_hhh:hhh < two256:=by rw [← e_hhh];exact mP_lt _ _
       simp only [e_hhh] at c_hhh
       have E_hhh:=qh e_hhh
       clear e_hhh
       have c_v:=pmul px hh l_px l_hh
       obtain ⟨v,e_v⟩:∃ n,mP px hh=n:=⟨_,rfl⟩
       have l_v:v < two256:=by rw [← e_v];exact mP_lt _ _
       simp only [e_v] at c_v
       have E_v:=qh e_v
       clear e_v
       have c_rr:=pmul r r l_r l_r
       obtain ⟨rr,e_rr⟩:∃ n,mP r r=n:=⟨_,rfl⟩
       have l_rr:rr < two256:=by rw [← e_rr];exact mP_lt _ _
       simp only [e_rr] at c_rr
       have E_rr:=qh e_rr
       clear e_rr
       have c_b1:=psub rr hhh l_rr l_hhh
       obtain ⟨b1,e_b1⟩:∃ n,sP rr hhh=n:=⟨_,rfl⟩
       have l_b1:b1 < two256:=by rw [← e_b1];exact sP_lt _ _
       simp only [e_b1] at c_b1
       have E_b1:=qh e_b1
       clear e_b1
       have c_vv:=padd v v l_v l_v
       obtain ⟨vv,e_vv⟩:∃ n,aP v v=n:=⟨_,rfl⟩
       have l_vv:vv < two256:=by rw [← e_vv];exact aP_lt _ _
       simp only [e_vv] at c_vv
       have E_vv:=qh e_vv
       clear e_vv
       have c_x3:=psub b1 vv l_b1 l_vv
       obtain ⟨x3,e_x3⟩:∃ n,sP b1 vv=n:=⟨_,rfl⟩
       have l_x3:x3 < two256:=by rw [← e_x3];exact sP_lt _ _
       simp only [e_x3] at c_x3
       have E_x3:=qh e_x3
       clear e_x3
       have c_d:=psub v x3 l_v l_x3
       obtain ⟨d,e_d⟩:∃ n,sP v x3=n:=⟨_,rfl⟩
       have l_d:d < two256:=by rw [← e_d];exact sP_lt _ _
       simp only [e_d] at c_d
       have E_d:=qh e_d
       clear e_d
       have c_f1:=pmul r d l_r l_d
       obtain ⟨f1,e_f1⟩:∃ n,mP r d=n:=⟨_,rfl⟩
       have l_f1:f1 < two256:=by rw [← e_f1];exact mP_lt _ _
       simp only [e_f1] at c_f1
       have E_f1:=qh e_f1
       clear e_f1
       have c_g1:=pmul py hhh l_py l_hhh
       obtain ⟨g1,e_g1⟩:∃ n,mP py hhh=n:=⟨_,rfl⟩
       have l_g1:g1 < two256:=by rw [← e_g1];exact mP_lt _ _
       simp only [e_g1] at c_g1
       have E_g1:=qh e_g1
       clear e_g1
       have c_y3:=psub f1 g1 l_f1 l_g1
       obtain ⟨y3,e_y3⟩:∃ n,sP f1 g1=n:=⟨_,rfl⟩
       have l_y3:y3 < two256:=by rw [← e_y3];exact sP_lt _ _
       simp only [e_y3] at c_y3
       have E_y3:=qh e_y3
       clear e_y3
       have c_zz:=pmul z z2 l_z l_z2
       obtain ⟨zz,e_zz⟩:∃ n,mP z z2=n:=⟨_,rfl⟩
       have l_zz:zz < two256:=by rw [← e_zz];exact mP_lt _ _
       simp only [e_zz] at c_zz
       have E_zz:=qh e_zz
       clear e_zz
       have c_z3:=pmul h zz l_h l_zz
       obtain ⟨z3,e_z3⟩:∃ n,mP h zz=n:=⟨_,rfl⟩
       have l_z3:z3 < two256:=by rw [← e_z3];exact mP_lt _ _
       simp only [e_z3] at c_z3
       have E_z3:=qh e_z3
       clear e_z3
       have HF:Hid (wdA (sumV px py qx qy (mP z z2) h r)=wdC x3 y3 false z3):=qh (by
        have e_hh:=E_hh.out
        have e_hhh:=E_hhh.out
        have e_v:=E_v.out
        have e_rr:=E_rr.out
        have e_b1:=E_b1.out
        have e_vv:=E_vv.out
        have e_x3:=E_x3.out
        have e_d:=E_d.out
        have e_f1:=E_f1.out
        have e_g1:=E_g1.out
        have e_y3:=E_y3.out
        have e_zz:=E_zz.out
        have e_z3:=E_z3.out
        subst e_z3 e_zz e_y3 e_g1 e_f1 e_d e_x3 e_vv e_b1 e_rr e_v e_hhh e_hh
        rfl)
       rw [hR] at HF
       clear hR HR
       go_wp2_with (first
        | (refine qaj 13 rfl hM rfl (runN rfl) ?_;clear hM;intro w' g13 hM)
        | (refine qak 81 rfl hM rfl rfl qaw (al:=[.agg (uC h),.agg (uC h)]) (c_hh _) rfl ?_;clear hM;intro w' hM)
        | (refine qaf hM rfl rfl Tryz.isAgg4 rfl (by exact hat) (by first | exact cb_w | exact cb_p) ?_)
        | (refine qav hM rfl rfl tyU rfl (by exact hat) (by first | exact pa_wx | exact pa_wy | exact pa_wz | exact pa_px | exact pa_py) ?_)
        | (refine qai hM rfl rfl tyU rfl (by exact hat) rfl ?_)
        | (refine qai hM rfl rfl tyW rfl (by exact hat) rfl ?_)
        | (refine qae hM rfl rfl tyU rfl rfl (by exact hau) rfl rfl (oneN _) ?_;clear hM;intro w' hM)
        | (refine qae hM rfl rfl tyW rfl rfl (by exact hau) rfl rfl (oneW _ _ _ _) ?_;clear hM;intro w' hM)
        | (refine qar rfl rfl (qbr _ _) rfl rfl ?_)
        | (refine qar rfl rfl (qcg _ _ _ _) rfl rfl ?_))
       refine qau 8 hM qbc [.agg (uC hh),.agg (uC h),.agg (uC hhh),.agg (uC px),.agg (uC hh),.agg (uC v),undef,undef] [⟨6,14,uC 0,24⟩,⟨7,15,uC 0,24⟩] (b:=?b5) ?hb rfl (by kernel_rfl) ?hgo ?hfin
       case hb=>simp only [putAll,Act.put,List.setIfInBounds_toArray,List.set_cons_zero,List.set_cons_succ];rfl
       case hgo =>
        refine GoAll.v (.agg (uC hh)) (qap tyU at0) ?_
        refine GoAll.v (.agg (uC h)) (qap tyU at1) ?_
        refine GoAll.v (.agg (uC hhh)) (qao (al:=[.agg (uC hh),.agg (uC h)]) c_hhh qaw) ?_
        refine GoAll.v (.agg (uC px)) (qap tyU at5) ?_
        refine GoAll.v (.agg (uC hh)) (qap tyU at0) ?_
        refine GoAll.v (.agg (uC v)) (qao (al:=[.agg (uC px),.agg (uC hh)]) c_v qaw) ?_
        refine GoAll.l (k:=0) rfl ⟨rfl,fun ρ w=>runN rfl ρ w⟩ ?_
        refine GoAll.l (k:=1) rfl ⟨rfl,fun ρ w=>runN rfl ρ w⟩ ?_
        exact GoAll.nil
       case hfin =>
        clear hM;intro w' G hM
        simp only [putLays,List.drop_succ_cons,List.drop_zero,List.map_nil,List.map_cons,List.nil_append,List.cons_append,Act.put,List.setIfInBounds_toArray,List.set_cons_zero,List.set_cons_succ] at hM ⊢
        generalize G 6=g14 at hM ⊢
        generalize G 7=g15 at hM ⊢
        go_wp2_with (first
         | (refine qaf hM rfl rfl Tryz.isAgg4 rfl (by exact hat) (by first | exact cb_w | exact cb_p) ?_)
         | (refine qav hM rfl rfl tyU rfl (by exact hat) (by first | exact pa_wx | exact pa_wy | exact pa_wz | exact pa_px | exact pa_py) ?_)
         | (refine qai hM rfl rfl tyU rfl (by exact hat) rfl ?_)
         | (refine qai hM rfl rfl tyW rfl (by exact hat) rfl ?_)
         | (refine qae hM rfl rfl tyU rfl rfl (by exact hau) rfl rfl (oneN _) ?_;clear hM;intro w' hM)
         | (refine qae hM rfl rfl tyW rfl rfl (by exact hau) rfl rfl (oneW _ _ _ _) ?_;clear hM;intro w' hM)
         | (refine qar rfl rfl (qbr _ _) rfl rfl ?_)
         | (refine qar rfl rfl (qcg _ _ _ _) rfl rfl ?_))
        refine qau 10 hM qbc [.agg (uC r),.agg (uC r),.agg (uC rr),.agg (uC hhh),.agg (uC b1),.agg (uC v),.agg (uC v),.agg (uC vv),.agg (uC x3),undef] [⟨9,16,uC 0,24⟩] (b:=?b6) ?hb rfl (by kernel_rfl) ?hgo ?hfin
        case hb=>simp only [putAll,Act.put,List.setIfInBounds_toArray,List.set_cons_zero,List.set_cons_succ];rfl
        case hgo =>
         refine GoAll.v (.agg (uC r)) (qap tyU at4) ?_
         refine GoAll.v (.agg (uC r)) (qap tyU at4) ?_
         refine GoAll.v (.agg (uC rr)) (qao (al:=[.agg (uC r),.agg (uC r)]) c_rr qaw) ?_
         refine GoAll.v (.agg (uC hhh)) (qap tyU at0) ?_
         refine GoAll.v (.agg (uC b1)) (qao (al:=[.agg (uC rr),.agg (uC hhh)]) c_b1 qbu) ?_
         refine GoAll.v (.agg (uC v)) (qap tyU at1) ?_
         refine GoAll.v (.agg (uC v)) (qap tyU at1) ?_
         refine GoAll.v (.agg (uC vv)) (qao (al:=[.agg (uC v),.agg (uC v)]) c_vv qa1) ?_
         refine GoAll.v (.agg (uC x3)) (qao (al:=[.agg (uC b1),.agg (uC vv)]) c_x3 qbu) ?_
         refine GoAll.l (k:=0) rfl ⟨rfl,fun ρ w=>runN rfl ρ w⟩ ?_
         exact GoAll.nil
        case hfin =>
         clear hM;intro w' G hM
         simp only [putLays,List.drop_succ_cons,List.drop_zero,List.map_nil,List.map_cons,List.nil_append,List.cons_append,Act.put,List.setIfInBounds_toArray,List.set_cons_zero,List.set_cons_succ] at hM ⊢
         generalize G 9=g16 at hM ⊢
         go_wp2_with (first
          | (refine qaf hM rfl rfl Tryz.isAgg4 rfl (by exact hat) (by first | exact cb_w | exact cb_p) ?_)
          | (refine qav hM rfl rfl tyU rfl (by exact hat) (by first | exact pa_wx | exact pa_wy | exact pa_wz | exact pa_px | exact pa_py) ?_)
          | (refine qai hM rfl rfl tyU rfl (by exact hat) rfl ?_)
          | (refine qai hM rfl rfl tyW rfl (by exact hat) rfl ?_)
          | (refine qae hM rfl rfl tyU rfl rfl (by exact hau) rfl rfl (oneN _) ?_;clear hM;intro w' hM)
          | (refine qae hM rfl rfl tyW rfl rfl (by exact hau) rfl rfl (oneW _ _ _ _) ?_;clear hM;intro w' hM)
          | (refine qar rfl rfl (qbr _ _) rfl rfl ?_)
          | (refine qar rfl rfl (qcg _ _ _ _) rfl rfl ?_))
         refine qau 19 hM qbc [.agg (uC x3),.agg (uC r),.agg (uC v),.agg (uC x3),.agg (uC d),.agg (uC f1),.agg (uC py),.agg (uC hhh),.agg (uC g1),.agg (uC y3),.agg (ptC x3 y3 false),.agg (uC h),.pointer (some ⟨g2,9,none⟩),.agg (uC z),.pointer (some ⟨g3,9,none⟩),.agg (uC z2),.agg (uC zz),.agg (uC z3),.agg (wdC x3 y3 false z3)] [] (b:=?b7) ?hb rfl (by kernel_rfl) ?hgo ?hfin
         case hb=>simp only [putAll,Act.put,List.setIfInBounds_toArray,List.set_cons_zero,List.set_cons_succ];rfl
         case hgo =>
          refine GoAll.v (.agg (uC x3)) (qap tyU at0) ?_
          refine GoAll.v (.agg (uC r)) (qap tyU at5) ?_
          refine GoAll.v (.agg (uC v)) (qap tyU at2) ?_
          refine GoAll.v (.agg (uC x3)) (qap tyU at0) ?_
          refine GoAll.v (.agg (uC d)) (qao (al:=[.agg (uC v),.agg (uC x3)]) c_d qbu) ?_
          refine GoAll.v (.agg (uC f1)) (qao (al:=[.agg (uC r),.agg (uC d)]) c_f1 qaw) ?_
          refine GoAll.v (.agg (uC py)) (qap tyU at6) ?_
          refine GoAll.v (.agg (uC hhh)) (qap tyU at1) ?_
          refine GoAll.v (.agg (uC g1)) (qao (al:=[.agg (uC py),.agg (uC hhh)]) c_g1 qaw) ?_
          refine GoAll.v (.agg (uC y3)) (qao (al:=[.agg (uC f1),.agg (uC g1)]) c_y3 qbu) ?_
          refine GoAll.v (.agg (ptC x3 y3 false)) (qee (qbr x3 y3)) ?_
          refine GoAll.v (.agg (uC h)) (qap tyU at4) ?_
          refine GoAll.v (.pointer (some ⟨g2,9,none⟩)) (qaq fun w=>by go_simp) ?_
          refine GoAll.v (.agg (uC z)) (qba tyU at14 pa_wz) ?_
          refine GoAll.v (.pointer (some ⟨g3,9,none⟩)) (qaq fun w=>by go_simp) ?_
          refine GoAll.v (.agg (uC z2)) (qba tyU at13 pa_wz) ?_
          refine GoAll.v (.agg (uC zz)) (qao (al:=[.agg (uC z),.agg (uC z2)]) c_zz qaw) ?_
          refine GoAll.v (.agg (uC z3)) (qao (al:=[.agg (uC h),.agg (uC zz)]) c_z3 qaw) ?_
          refine GoAll.v (.agg (wdC x3 y3 false z3)) (qee (qcg x3 y3 false z3)) ?_
          exact GoAll.nil
         case hfin =>
          clear hM;intro w' G hM
          simp only [putLays,List.drop_succ_cons,List.drop_zero,List.map_nil,List.map_cons,List.nil_append,List.cons_append] at hM ⊢
          go_wp2_with (first
           | (refine qaf hM rfl rfl Tryz.isAgg4 rfl (by exact hat) (by first | exact cb_w | exact cb_p) ?_)
           | (refine qav hM rfl rfl tyU rfl (by exact hat) (by first | exact pa_wx | exact pa_wy | exact pa_wz | exact pa_px | exact pa_py) ?_)
           | (refine qai hM rfl rfl tyU rfl (by exact hat) rfl ?_)
           | (refine qai hM rfl rfl tyW rfl (by exact hat) rfl ?_)
           | (refine qae hM rfl rfl tyU rfl rfl (by exact hau) rfl rfl (oneN _) ?_;clear hM;intro w' hM)
           | (refine qae hM rfl rfl tyW rfl rfl (by exact hau) rfl rfl (oneW _ _ _ _) ?_;clear hM;intro w' hM)
           | (refine qar rfl rfl (qbr _ _) rfl rfl ?_)
           | (refine qar rfl rfl (qcg _ _ _ _) rfl rfl ?_))
          refine res_c hM rfl tyW rfl (by exact hat) rfl rfl ?_
          exact ⟨by rw [HF.out],hM.below⟩
/- The walk of point.narrow. -/
theorem pnarrow (x y:Nat) (o:Bool) (z:Nat) (l_x:x < two256) (l_y:y < two256) (l_z:z < two256) (w:World):Calls Tryz.prog 237 #[.agg (wdC x y o z)] w fun e w'=>e=.returned (.agg (ptA (narrowP ⟨x,y,o,z⟩)))∧Below w.heap.size w w':=by
 cases o with
 | true =>
  show Calls _ _ _ _ fun e w'=>e=.returned (.agg (ptC 0 0 true))∧_
  have hM:=Mem.nil w
  go_enter Tryz.func237,Tryz.ntmps237
  go_wp2_with (first
   | (refine qay hM rfl rfl rfl (boxW _ _ _ _ _) ?_;clear hM;intro w' ga hM)
   | (refine qas hM rfl (runP rfl) ?_;clear hM;intro w' ga hM)
   | (refine qaf hM rfl rfl Tryz.isAgg4 rfl (by exact hat) (by first | exact cb_w | exact cb_p) ?_)
   | (refine qae hM rfl rfl tyP rfl rfl (by exact hau) rfl rfl (oneP _ _ _) ?_;clear hM;intro w' hM)
   | (refine qad hM rfl rfl qh0 (al:=[]) (pzero _) rfl ?_;clear hM;intro w' hM))
  refine res_c hM rfl tyP rfl (by exact hat) rfl rfl ?_
  exact ⟨rfl,hM.below⟩
 | false =>
  have e0:narrowP ⟨x,y,false,z⟩=⟨mP x (mP (invM 0 z) (invM 0 z)),mP y (mP (mP (invM 0 z) (invM 0 z)) (invM 0 z)),false⟩:=by
   unfold narrowP
   simp only [Bool.false_eq_true,if_false]
  rw [e0]
  clear e0
  have c_iv:=invK 0 (by decide) z l_z
  have l_iv:invM 0 z < two256:=qtl 0 z
  obtain ⟨iv,e_iv⟩:∃ n,invM 0 z=n:=⟨_,rfl⟩
  rw [e_iv] at l_iv ⊢
  obtain ⟨er,e_er⟩:∃ n:Int,(if z % modN 0=0 then (6:Int) else 0)=n:=⟨_,rfl⟩
  simp only [e_iv,e_er] at c_iv
  clear e_iv e_er
  have c_sq:=pmul iv iv l_iv l_iv
  obtain ⟨sq,e_sq⟩:∃ n,mP iv iv=n:=⟨_,rfl⟩
  have l_sq:sq < two256:=by rw [← e_sq];exact mP_lt _ _
  simp only [e_sq] at c_sq
  have E_sq:=qh e_sq
  clear e_sq
  have c_nx:=pmul x sq l_x l_sq
  obtain ⟨nx,e_nx⟩:∃ n,mP x sq=n:=⟨_,rfl⟩
  have l_nx:nx < two256:=by rw [← e_nx];exact mP_lt _ _
  simp only [e_nx] at c_nx
  have E_nx:=qh e_nx
  clear e_nx
  have c_si:=pmul sq iv l_sq l_iv
  obtain ⟨si,e_si⟩:∃ n,mP sq iv=n:=⟨_,rfl⟩
  have l_si:si < two256:=by rw [← e_si];exact mP_lt _ _
  simp only [e_si] at c_si
  have E_si:=qh e_si
  clear e_si
  have c_ny:=pmul y si l_y l_si
  obtain ⟨ny,e_ny⟩:∃ n,mP y si=n:=⟨_,rfl⟩
  have l_ny:ny < two256:=by rw [← e_ny];exact mP_lt _ _
  simp only [e_ny] at c_ny
  have E_ny:=qh e_ny
  clear e_ny
  have HF:Hid (ptA ⟨mP x (mP iv iv),mP y (mP (mP iv iv) iv),false⟩=ptC nx ny false):=qh (by
   have e_sq:=E_sq.out
   have e_nx:=E_nx.out
   have e_si:=E_si.out
   have e_ny:=E_ny.out
   subst e_ny e_si e_nx e_sq
   rfl)
  rw [HF.out]
  have hM:=Mem.nil w
  go_enter Tryz.func237,Tryz.ntmps237
  go_wp2_with (first
   | (refine qam 1 rfl hM rfl rfl rfl (boxW _ _ _ _ _) ?_;clear hM;intro w' g1 hM)
   | (refine qaj 2 rfl hM rfl (runP rfl) ?_;clear hM;intro w' g2 hM)
   | (refine qaj 3 rfl hM rfl (runN rfl) ?_;clear hM;intro w' g3 hM)
   | (refine qaj 5 rfl hM rfl (runN rfl) ?_;clear hM;intro w' g5 hM)
   | (refine qak 13 rfl hM rfl rfl enInv (al:=[.agg (uC z),.int .i64 0]) (c_iv _) rfl ?_;clear hM;intro w' hM)
   | (refine qak 18 rfl hM rfl rfl qaw (al:=[.agg (uC iv),.agg (uC iv)]) (c_sq _) rfl ?_;clear hM;intro w' hM)
   | (refine qaf hM rfl rfl Tryz.isAgg4 rfl (by exact hat) (by first | exact cb_w | exact cb_p) ?_)
   | (refine qav hM rfl rfl tyU rfl (by exact hat) (by first | exact pa_wx | exact pa_wy | exact pa_wz | exact pa_px | exact pa_py) ?_)
   | (refine qai hM rfl rfl tyU rfl (by exact hat) rfl ?_)
   | (refine qai hM rfl rfl tyW rfl (by exact hat) rfl ?_)
   | (refine qae hM rfl rfl tyU rfl rfl (by exact hau) rfl rfl (oneN _) ?_;clear hM;intro w' hM)
   | (refine qae hM rfl rfl tyP rfl rfl (by exact hau) rfl rfl (oneP _ _ _) ?_;clear hM;intro w' hM)
   | (refine qar rfl rfl (qbr _ _) rfl rfl ?_))
  refine qau 13 hM qbc [.pointer (some ⟨g1,0,none⟩),.pointer (some ⟨g1,0,none⟩),.agg (uC x),.agg (uC sq),.agg (uC nx),.pointer (some ⟨g1,0,none⟩),.pointer (some ⟨g1,4,none⟩),.agg (uC y),.agg (uC sq),.agg (uC iv),.agg (uC si),.agg (uC ny),.agg (ptC nx ny false)] [] (b:=?b1) ?hb rfl (by kernel_rfl) ?hgo ?hfin
  case hb=>simp only [putAll,Act.put,List.setIfInBounds_toArray,List.set_cons_zero,List.set_cons_succ];rfl
  case hgo =>
   refine GoAll.v (.pointer (some ⟨g1,0,none⟩)) (qaq fun w=>by go_simp) ?_
   refine GoAll.v (.pointer (some ⟨g1,0,none⟩)) (qaq fun w=>by go_simp) ?_
   refine GoAll.v (.agg (uC x)) (qba tyU at3 pa_wx) ?_
   refine GoAll.v (.agg (uC sq)) (qap tyU at0) ?_
   refine GoAll.v (.agg (uC nx)) (qao (al:=[.agg (uC x),.agg (uC sq)]) c_nx qaw) ?_
   refine GoAll.v (.pointer (some ⟨g1,0,none⟩)) (qaq fun w=>by go_simp) ?_
   refine GoAll.v (.pointer (some ⟨g1,4,none⟩)) (qaq fun w=>by go_simp) ?_
   refine GoAll.v (.agg (uC y)) (qba tyU at3 pa_wy) ?_
   refine GoAll.v (.agg (uC sq)) (qap tyU at0) ?_
   refine GoAll.v (.agg (uC iv)) (qap tyU at1) ?_
   refine GoAll.v (.agg (uC si)) (qao (al:=[.agg (uC sq),.agg (uC iv)]) c_si qaw) ?_
   refine GoAll.v (.agg (uC ny)) (qao (al:=[.agg (uC y),.agg (uC si)]) c_ny qaw) ?_
   refine GoAll.v (.agg (ptC nx ny false)) (qee (qbr nx ny)) ?_
   exact GoAll.nil
  case hfin =>
   clear hM;intro w' G hM
   simp only [putLays,List.drop_succ_cons,List.drop_zero,List.map_nil,List.map_cons,List.nil_append,List.cons_append] at hM ⊢
   go_wp2_with (first
    | (refine qaf hM rfl rfl Tryz.isAgg4 rfl (by exact hat) (by first | exact cb_w | exact cb_p) ?_)
    | (refine qav hM rfl rfl tyU rfl (by exact hat) (by first | exact pa_wx | exact pa_wy | exact pa_wz | exact pa_px | exact pa_py) ?_)
    | (refine qai hM rfl rfl tyU rfl (by exact hat) rfl ?_)
    | (refine qai hM rfl rfl tyW rfl (by exact hat) rfl ?_)
    | (refine qae hM rfl rfl tyU rfl rfl (by exact hau) rfl rfl (oneN _) ?_;clear hM;intro w' hM)
    | (refine qae hM rfl rfl tyP rfl rfl (by exact hau) rfl rfl (oneP _ _ _) ?_;clear hM;intro w' hM)
    | (refine qar rfl rfl (qbr _ _) rfl rfl ?_))
   refine res_c hM rfl tyP rfl (by exact hat) rfl rfl ?_
   exact ⟨rfl,hM.below⟩
/- Points are equal or not; the walk of point.On. -/
theorem qd7 {P:Program} {t:TypeId} {d:TypeDesc} {n o:Nat} {xs ys:Array Value} (hu:P.underlying t=some d) (hd:(match d with | .struct _ | .array _ _=>true | _=>false)=true) (hs:P.cellsOf t=n) (hx:xs.extract o (o+n)=ys) (w:World):(part t xs o).run P w=.ok (.agg ys) w:=by
 have hz:(sizeOf t).run P w=.ok n w:=by
  obtain ⟨i,hi⟩:=info_of_underlying hu
  rw [run_sizeOf w hi,hs]
 have ha:(isAgg t).run P w=.ok true w:=by
  unfold isAgg
  rw [Sem.run_bind,run_underlying hu w]
  cases d <;> simp_all
 simp only [part,Sem.run_bind,ha,Result.andThen_ok,Sem.run_pure,if_true,hz,hx]
theorem qbd {P:Program} {w:World} {d:Nat} {xs ys:Array Value} {f:Field} {fs:List Field} (hne:f.name ≠ "_") {a b:Value} {r R:Bool} (ha:(part f.type xs f.offset).run P w=.ok a w) (hb:(part f.type ys f.offset).run P w=.ok b w)
  (hr:(Op.equalIn d f.type a b).run P w=.ok r w) (h:(Op.eqFields d xs ys fs).run P w=.ok R w):(Op.eqFields d xs ys (f :: fs)).run P w=.ok (r && R) w:=by
 rw [Op.eqFields,if_pos hne]
 cases r <;> simp [Sem.run_bind,ha,hb,hr,h]
theorem fieldsPt:Tryz.prog.underlying 255 = some (.struct (Tryz.prog.fieldsOf 255)):=by kernel_rfl
theorem stoodPt:Tryz.prog.stoodInHeld 255 = false:=by kernel_rfl
theorem guardPt:Tryz.prog.eqGuardType Tryz.prog.depth 255 = false:=by kernel_rfl
theorem eqU_at (d a b:Nat) (ha:a < two256) (hb:b < two256) (w:World):(Op.equalIn (d+2) 24 (.agg (uC a)) (.agg (uC b))).run Tryz.prog w=.ok (decide (a=b)) w:=by
 have h:=qe6 d (U4.of a) (U4.of b) w
 have e:eqU (U4.of a) (U4.of b)=decide (a=b):=by
  unfold eqU
  rw [Bool.eq_iff_iff,decide_eq_true_iff,decide_eq_true_iff,U4.of_eq ha hb]
 rw [e] at h
 exact h
theorem eqPt (p q:Pt) (hp:p.Wf) (hq:q.Wf) (w:World):(binOp .eql 255 (.agg (ptA p)) (.agg (ptA q))).run Tryz.prog w=.ok (.bool (decide (p=q))) w:=by
 have p0:∀ p:Pt,(part 24 (ptA p) 0).run Tryz.prog w=.ok (.agg (uC p.x)) w:=fun p=>qd7 (n:=4) (o:=0) (xs:=ptA p) Tryz.underlying24 rfl (by kernel_rfl) rfl w
 have p1:∀ p:Pt,(part 24 (ptA p) 4).run Tryz.prog w=.ok (.agg (uC p.y)) w:=fun p=>qd7 (n:=4) (o:=4) (xs:=ptA p) Tryz.underlying24 rfl (by kernel_rfl) rfl w
 have p2:∀ p:Pt,(part 4 (ptA p) 8).run Tryz.prog w=.ok (.bool p.o) w:=fun p=>by simp [part,isAgg,run_underlying Tryz.underlying4,ptA,ptC,Sem.run_bind]
 have hm:(Op.eqFields 9999 (ptA p) (ptA q) (Tryz.prog.fieldsOf 255).toList).run Tryz.prog w=.ok (decide (p.x=q.x) && (decide (p.y=q.y) && ((p.o == q.o) && true))) w:=by
  simp only [Program.fieldsOf,Tryz.underlying255]
  refine qbd (by decide) (p0 p) (p0 q) (eqU_at 9997 _ _ hp.x hq.x w) ?_
  refine qbd (by decide) (p1 p) (p1 q) (eqU_at 9997 _ _ hp.y hq.y w) ?_
  refine qbd (by decide) (p2 p) (p2 q) (run_equalIn_bool w 9998 _ _ _ Tryz.underlying4) ?_
  rfl
 have e:(decide (p.x=q.x) && (decide (p.y=q.y) && ((p.o == q.o) && true)))=decide (p=q):=by
  obtain ⟨a1,a2,a3⟩:=p
  obtain ⟨b1,b2,b3⟩:=q
  rw [Bool.eq_iff_iff]
  simp
 rw [run_eql_struct,show (10000:Nat)=9999+1 from rfl,run_equalIn_agg w 9999 _ _ _ fieldsPt stoodPt,hm,e]
 rfl
theorem go_eq {P:Program} {ops:Array Oper} {S:World→Prop} {b:Act} {op:Oper} {k:BinOp} {ty ty2:TypeId} {x y:Operand} {v0 v1 v:Value} (hb:∀ w,(binOp k ty v0 v1).run P w=.ok v w) (hg:∀ x y w,(eqGuard k ty x y v0 v1).run P w=.ok () w)
  (ho:op.op=.binOp k ty x y ty2:=by rfl) (h0:b.eval x=v0:=by rfl) (h1:b.eval y=v1:=by rfl) (hw:Region.wanted op (yielded ops b.tmps)=true:=by rfl):Goes P ops S b op v :=
 qaq (fun w=>by
  unfold execOp
  simp only [ho,h0,h1,Sem.run_bind,hg,hb,Result.andThen_ok,Sem.run_pure]) hw
theorem pon (x y:Nat) (o:Bool) (l_x:x < two256) (l_y:y < two256) (w:World):Calls Tryz.prog 230 #[.agg (ptC x y o)] w fun e w'=>e=.returned (.bool (onP ⟨x,y,o⟩))∧Below w.heap.size w w':=by
 cases o with
 | true =>
  have heq:=eqPt ⟨x,y,true⟩ zeroP ⟨l_x,l_y⟩ ⟨qbt,qbt⟩
  have e0:onP ⟨x,y,true⟩=decide ((⟨x,y,true⟩:Pt)=zeroP):=rfl
  rw [e0]
  obtain ⟨b,hb⟩:∃ b,decide ((⟨x,y,true⟩:Pt)=zeroP)=b:=⟨_,rfl⟩
  simp only [hb] at heq ⊢
  clear hb e0
  have hM:=Mem.nil w
  go_enter Tryz.func230,Tryz.ntmps230
  go_wp2_with (first
   | (refine qay hM rfl rfl rfl (boxP _ _ _ _) ?_;clear hM;intro w' g1 hM)
   | (refine qaf hM rfl rfl Tryz.isAgg4 rfl (by exact hat) (by first | exact cb_w | exact cb_p) ?_))
  refine qau 3 hM qbc [.agg (ptC x y true),.agg (ptC 0 0 true),.bool b] [] (b:=?b1) ?hb rfl (by kernel_rfl) ?hgo ?hfin
  case hb=>simp only [putAll,Act.put,List.setIfInBounds_toArray,List.set_cons_zero,List.set_cons_succ];rfl
  case hgo =>
   refine GoAll.v (.agg (ptC x y true)) (qap tyP at0) ?_
   refine GoAll.v (.agg (ptC 0 0 true)) (qao (al:=[]) pzero qh0) ?_
   refine GoAll.v (.bool b) (go_eq (v0:=.agg (ptC x y true)) (v1:=.agg (ptC 0 0 true)) heq (fun _ _ w=>run_eqGuard_agg w .eql 255 _ _ (ptC x y true) (ptC 0 0 true) guardPt)) ?_
   exact GoAll.nil
  case hfin =>
   clear hM;intro w' G hM
   simp only [putLays,List.drop_succ_cons,List.drop_zero,List.map_nil,List.map_cons,List.nil_append,List.cons_append] at hM ⊢
   go_wp2_with fail
   go_ret
   exact ⟨rfl,hM.below⟩
 | false =>
  have c_x:=qnc x l_x
  have c_y:=qnc y l_y
  have c_yy:=pmul y y l_y l_y
  have c_cx:=pcurve x l_x
  have hq:∀ W:World,(Op.equalIn 10000 24 (.agg (uC (mP y y))) (.agg (uC (curveP x)))).run Tryz.prog W=.ok (decide (mP y y=curveP x)) W:=fun W=>eqNN _ _ (mP_lt _ _) (aP_lt _ _) W
  have e0:onP ⟨x,y,false⟩=(decide (x < priN) && (decide (y < priN) && decide (mP y y=curveP x))):=rfl
  rw [e0]
  obtain ⟨b1,h1⟩:∃ b,decide (x < priN)=b:=⟨_,rfl⟩
  obtain ⟨b2,h2⟩:∃ b,decide (y < priN)=b:=⟨_,rfl⟩
  obtain ⟨q,h3⟩:∃ b,decide (mP y y=curveP x)=b:=⟨_,rfl⟩
  obtain ⟨yy,h4⟩:∃ n,mP y y=n:=⟨_,rfl⟩
  obtain ⟨cx,h5⟩:∃ n,curveP x=n:=⟨_,rfl⟩
  simp only [h3] at hq ⊢
  simp only [h4,h5] at hq c_yy c_cx
  simp only [h1,h2] at c_x c_y ⊢
  clear h1 h2 h3 h4 h5 e0
  have hM:=Mem.nil w
  match b1,b2 with
  | false,b2 =>
   go_enter Tryz.func230,Tryz.ntmps230
   go_wp2_with (first
    | (refine qay hM rfl rfl rfl (boxP _ _ _ _) ?_;clear hM;intro w' g1 hM)
    | (refine qaf hM rfl rfl Tryz.isAgg4 rfl (by exact hat) (by first | exact cb_w | exact cb_p) ?_))
   refine qau 19 hM qbc [.pointer (some ⟨g1,0,none⟩),.agg (uC x),.bool false,.bool false,undef,undef,undef,.bool false,.bool false,undef,undef,undef,undef,undef,undef,undef,undef,undef,.bool false] [] (b:=?b2) ?hb rfl (by kernel_rfl) ?hgo ?hfin
   case hb=>simp only [putAll,Act.put,List.setIfInBounds_toArray,List.set_cons_zero,List.set_cons_succ];rfl
   case hgo =>
    refine GoAll.v (.pointer (some ⟨g1,0,none⟩)) (qaq fun w=>by go_simp) ?_
    refine GoAll.v (.agg (uC x)) (qba tyU at0 pa_px) ?_
    refine GoAll.v (.bool false) (qao (al:=[.agg (uC x)]) c_x qed) ?_
    refine GoAll.v (.bool false) (qaq fun w=>by go_simp) ?_
    refine GoAll.v (undef) (qbo) ?_
    refine GoAll.v (undef) (qbo) ?_
    refine GoAll.v (undef) (qbo) ?_
    refine GoAll.v (.bool false) (qaq fun w=>by go_simp) ?_
    refine GoAll.v (.bool false) (qaq fun w=>by go_simp) ?_
    refine GoAll.v (undef) (qbo) ?_
    refine GoAll.v (undef) (qbo) ?_
    refine GoAll.v (undef) (qbo) ?_
    refine GoAll.v (undef) (qbo) ?_
    refine GoAll.v (undef) (qbo) ?_
    refine GoAll.v (undef) (qbo) ?_
    refine GoAll.v (undef) (qbo) ?_
    refine GoAll.v (undef) (qbo) ?_
    refine GoAll.v (undef) (qbo) ?_
    refine GoAll.v (.bool false) (qaq fun w=>by go_simp) ?_
    exact GoAll.nil
   case hfin =>
    clear hM;intro w' G hM
    simp only [putLays,List.drop_succ_cons,List.drop_zero,List.map_nil,List.map_cons,List.nil_append,List.cons_append] at hM ⊢
    go_wp2_with fail
    go_ret
    exact ⟨rfl,hM.below⟩
  | true,false =>
   go_enter Tryz.func230,Tryz.ntmps230
   go_wp2_with (first
    | (refine qay hM rfl rfl rfl (boxP _ _ _ _) ?_;clear hM;intro w' g1 hM)
    | (refine qaf hM rfl rfl Tryz.isAgg4 rfl (by exact hat) (by first | exact cb_w | exact cb_p) ?_))
   refine qau 19 hM qbc [.pointer (some ⟨g1,0,none⟩),.agg (uC x),.bool true,.bool true,.pointer (some ⟨g1,4,none⟩),.agg (uC y),.bool false,.bool false,.bool false,undef,undef,undef,undef,undef,undef,undef,undef,undef,.bool false] [] (b:=?b3) ?hb rfl (by kernel_rfl) ?hgo ?hfin
   case hb=>simp only [putAll,Act.put,List.setIfInBounds_toArray,List.set_cons_zero,List.set_cons_succ];rfl
   case hgo =>
    refine GoAll.v (.pointer (some ⟨g1,0,none⟩)) (qaq fun w=>by go_simp) ?_
    refine GoAll.v (.agg (uC x)) (qba tyU at0 pa_px) ?_
    refine GoAll.v (.bool true) (qao (al:=[.agg (uC x)]) c_x qed) ?_
    refine GoAll.v (.bool true) (qaq fun w=>by go_simp) ?_
    refine GoAll.v (.pointer (some ⟨g1,4,none⟩)) (qaq fun w=>by go_simp) ?_
    refine GoAll.v (.agg (uC y)) (qba tyU at0 pa_py) ?_
    refine GoAll.v (.bool false) (qao (al:=[.agg (uC y)]) c_y qed) ?_
    refine GoAll.v (.bool false) (qaq fun w=>by go_simp) ?_
    refine GoAll.v (.bool false) (qaq fun w=>by go_simp) ?_
    refine GoAll.v (undef) (qbo) ?_
    refine GoAll.v (undef) (qbo) ?_
    refine GoAll.v (undef) (qbo) ?_
    refine GoAll.v (undef) (qbo) ?_
    refine GoAll.v (undef) (qbo) ?_
    refine GoAll.v (undef) (qbo) ?_
    refine GoAll.v (undef) (qbo) ?_
    refine GoAll.v (undef) (qbo) ?_
    refine GoAll.v (undef) (qbo) ?_
    refine GoAll.v (.bool false) (qaq fun w=>by go_simp) ?_
    exact GoAll.nil
   case hfin =>
    clear hM;intro w' G hM
    simp only [putLays,List.drop_succ_cons,List.drop_zero,List.map_nil,List.map_cons,List.nil_append,List.cons_append] at hM ⊢
    go_wp2_with fail
    go_ret
    exact ⟨rfl,hM.below⟩
  | true,true =>
   go_enter Tryz.func230,Tryz.ntmps230
   go_wp2_with (first
    | (refine qay hM rfl rfl rfl (boxP _ _ _ _) ?_;clear hM;intro w' g1 hM)
    | (refine qaf hM rfl rfl Tryz.isAgg4 rfl (by exact hat) (by first | exact cb_w | exact cb_p) ?_))
   refine qau 19 hM qbc [.pointer (some ⟨g1,0,none⟩),.agg (uC x),.bool true,.bool true,.pointer (some ⟨g1,4,none⟩),.agg (uC y),.bool true,.bool true,.bool true,.pointer (some ⟨g1,4,none⟩),.agg (uC y),.pointer (some ⟨g1,4,none⟩),.agg (uC y),.agg (uC yy),.pointer (some ⟨g1,0,none⟩),.agg (uC x),.agg (uC cx),.bool q,.bool q] [] (b:=?b4) ?hb rfl (by kernel_rfl) ?hgo ?hfin
   case hb=>simp only [putAll,Act.put,List.setIfInBounds_toArray,List.set_cons_zero,List.set_cons_succ];rfl
   case hgo =>
    refine GoAll.v (.pointer (some ⟨g1,0,none⟩)) (qaq fun w=>by go_simp) ?_
    refine GoAll.v (.agg (uC x)) (qba tyU at0 pa_px) ?_
    refine GoAll.v (.bool true) (qao (al:=[.agg (uC x)]) c_x qed) ?_
    refine GoAll.v (.bool true) (qaq fun w=>by go_simp) ?_
    refine GoAll.v (.pointer (some ⟨g1,4,none⟩)) (qaq fun w=>by go_simp) ?_
    refine GoAll.v (.agg (uC y)) (qba tyU at0 pa_py) ?_
    refine GoAll.v (.bool true) (qao (al:=[.agg (uC y)]) c_y qed) ?_
    refine GoAll.v (.bool true) (qaq fun w=>by go_simp) ?_
    refine GoAll.v (.bool true) (qaq fun w=>by go_simp) ?_
    refine GoAll.v (.pointer (some ⟨g1,4,none⟩)) (qaq fun w=>by go_simp) ?_
    refine GoAll.v (.agg (uC y)) (qba tyU at0 pa_py) ?_
    refine GoAll.v (.pointer (some ⟨g1,4,none⟩)) (qaq fun w=>by go_simp) ?_
    refine GoAll.v (.agg (uC y)) (qba tyU at0 pa_py) ?_
    refine GoAll.v (.agg (uC yy)) (qao (al:=[.agg (uC y),.agg (uC y)]) c_yy qaw) ?_
    refine GoAll.v (.pointer (some ⟨g1,0,none⟩)) (qaq fun w=>by go_simp) ?_
    refine GoAll.v (.agg (uC x)) (qba tyU at0 pa_px) ?_
    refine GoAll.v (.agg (uC cx)) (qao (al:=[.agg (uC x)]) c_cx enCurve) ?_
    refine GoAll.v (.bool q) (qaq fun w=>by have h1:=hq w;go_simp) ?_
    refine GoAll.v (.bool q) (qaq fun w=>by go_simp) ?_
    exact GoAll.nil
   case hfin =>
    clear hM;intro w' G hM
    simp only [putLays,List.drop_succ_cons,List.drop_zero,List.map_nil,List.map_cons,List.nil_append,List.cons_append] at hM ⊢
    go_wp2_with fail
    go_ret
    exact ⟨rfl,hM.below⟩
/- The walks of point.Both, Times. -/
theorem onP_zero:onP zeroP=true:=by decide
theorem pboth (p q:Pt) (n m:Nat) (hp:p.Wf) (hq:q.Wf) (l_n:n < two256) (l_m:m < two256) (w:World):Calls Tryz.prog 183 #[.agg (ptC p.x p.y p.o),.agg (uC n),.agg (ptC q.x q.y q.o),.agg (uC m)] w fun e w'=>e=.returned (.tuple #[.agg (ptA (if onP p && onP q then bothP p n q m else ⟨0,0,false⟩)),.int .i64 (if onP p && onP q then 0 else 1)])∧Below w.heap.size w w':=by
 have c_p:=pon p.x p.y p.o hp.x hp.y
 have c_q:=pon q.x q.y q.o hq.x hq.y
 obtain ⟨b1,h1⟩:∃ b,onP p=b:=⟨_,rfl⟩
 obtain ⟨b2,h2⟩:∃ b,onP q=b:=⟨_,rfl⟩
 have c_p:∀ w,Calls Tryz.prog 230 #[.agg (ptC p.x p.y p.o)] w fun e w'=>e=.returned (.bool b1)∧Below w.heap.size w w':=h1 ▸ c_p
 have c_q:∀ w,Calls Tryz.prog 230 #[.agg (ptC q.x q.y q.o)] w fun e w'=>e=.returned (.bool b2)∧Below w.heap.size w w':=h2 ▸ c_q
 rw [h1,h2]
 clear h1 h2
 have hM:=Mem.nil w
 match b1,b2 with
 | false,b2 =>
  show Calls _ _ _ _ fun e w'=>e=.returned (.tuple #[.agg (ptC 0 0 false),.int .i64 1])∧_
  go_enter Tryz.func183,Tryz.ntmps183
  go_wp2_with (first
   | (refine qam 4 rfl hM rfl rfl rfl (boxP _ _ _ _) ?_;clear hM;intro w' g4 hM)
   | (refine qam 5 rfl hM rfl rfl rfl (boxN _ _) ?_;clear hM;intro w' g5 hM)
   | (refine qam 6 rfl hM rfl rfl rfl (boxP _ _ _ _) ?_;clear hM;intro w' g6 hM)
   | (refine qam 7 rfl hM rfl rfl rfl (boxN _ _) ?_;clear hM;intro w' g7 hM)
   | (refine qaj 8 rfl hM rfl (runP rfl) ?_;clear hM;intro w' g8 hM)
   | (refine qai hM rfl rfl tyP rfl (by exact hat) rfl ?_)
   | (refine qak 18 rfl hM rfl rfl enOn (al:=[.agg (ptC p.x p.y p.o)]) (c_p _) rfl ?_;clear hM;intro w' hM)
   | (refine qak 22 rfl hM rfl rfl enOn (al:=[.agg (ptC q.x q.y q.o)]) (c_q _) rfl ?_;clear hM;intro w' hM)
   | (refine qae hM rfl rfl tyP rfl rfl (by exact hau) rfl rfl (oneP 0 0 false) ?_;clear hM;intro w' hM))
  refine qb9 hM rfl tyP rfl rfl (by exact hat) rfl rfl ?_
  exact ⟨rfl,hM.below⟩
 | true,false =>
  show Calls _ _ _ _ fun e w'=>e=.returned (.tuple #[.agg (ptC 0 0 false),.int .i64 1])∧_
  go_enter Tryz.func183,Tryz.ntmps183
  go_wp2_with (first
   | (refine qam 4 rfl hM rfl rfl rfl (boxP _ _ _ _) ?_;clear hM;intro w' g4 hM)
   | (refine qam 5 rfl hM rfl rfl rfl (boxN _ _) ?_;clear hM;intro w' g5 hM)
   | (refine qam 6 rfl hM rfl rfl rfl (boxP _ _ _ _) ?_;clear hM;intro w' g6 hM)
   | (refine qam 7 rfl hM rfl rfl rfl (boxN _ _) ?_;clear hM;intro w' g7 hM)
   | (refine qaj 8 rfl hM rfl (runP rfl) ?_;clear hM;intro w' g8 hM)
   | (refine qai hM rfl rfl tyP rfl (by exact hat) rfl ?_)
   | (refine qak 18 rfl hM rfl rfl enOn (al:=[.agg (ptC p.x p.y p.o)]) (c_p _) rfl ?_;clear hM;intro w' hM)
   | (refine qak 22 rfl hM rfl rfl enOn (al:=[.agg (ptC q.x q.y q.o)]) (c_q _) rfl ?_;clear hM;intro w' hM)
   | (refine qae hM rfl rfl tyP rfl rfl (by exact hau) rfl rfl (oneP 0 0 false) ?_;clear hM;intro w' hM))
  refine qb9 hM rfl tyP rfl rfl (by exact hat) rfl rfl ?_
  exact ⟨rfl,hM.below⟩
 | true,true =>
  show Calls _ _ _ _ fun e w'=>e=.returned (.tuple #[.agg (ptA (bothP p n q m)),.int .i64 0])∧_
  have HPW:=qh (qlf hp)
  have HQW:=qh (qlf hq)
  have c_wp:=qi9 p.x p.y p.o
  have c_wq:=qi9 q.x q.y q.o
  have c_c:=psum p.x p.y p.o 1 q.x q.y q.o 1 hp.x hp.y (by decide) hq.x hq.y (by decide)
  have hcw:=qjq HPW.out HQW.out
  unfold bothP
  obtain ⟨c,e_c⟩:∃ c,sumP (widenP p) (widenP q)=c:=⟨_,rfl⟩
  rw [e_c] at hcw ⊢
  have c_c:∀ w,Calls Tryz.prog 232 #[.agg (wdC p.x p.y p.o 1),.agg (wdC q.x q.y q.o 1)] w fun e w'=>e=.returned (.agg (wdC c.x c.y c.o c.z))∧Below w.heap.size w w':=fun w=>by
   have h:=c_c w
   rw [show (⟨p.x,p.y,p.o,1⟩:Wp)=widenP p from rfl,show (⟨q.x,q.y,q.o,1⟩:Wp)=widenP q from rfl,e_c] at h
   exact h
  have HCW:=qh hcw
  clear e_c hcw
  have c_ln:=lenN n l_n
  have c_lm:=lenN m l_m
  have hln:=qji l_n
  have hlm:=qji l_m
  obtain ⟨bn,e_bn⟩:∃ k,bitsN n=k:=⟨_,rfl⟩
  obtain ⟨bm,e_bm⟩:∃ k,bitsN m=k:=⟨_,rfl⟩
  rw [e_bn] at hln ⊢
  rw [e_bm] at hlm ⊢
  simp only [e_bn] at c_ln
  simp only [e_bm] at c_lm
  obtain ⟨L,e_L⟩:∃ k,max bn bm=k:=⟨_,rfl⟩
  rw [e_L]
  have hmax:max (bn:Int) (bm:Int)=(L:Int):=by omega
  have hL:L≤256:=by omega
  have hwL:IntKind.i64.wrap ((L:Int) - 1)=(L:Int) - 1:=IntWalk.i64_in _ (by omega)
  obtain ⟨R,hR⟩:∃ R,bothS n m (widenP p) (widenP q) c L zeroW=R:=⟨_,rfl⟩
  rw [hR]
  have HR:=qh hR
  have HL:=qh hL
  clear e_bn e_bm e_L hR hL hln hlm
  go_enter Tryz.func183,Tryz.ntmps183
  go_wp2_with (first
   | (refine qam 4 rfl hM rfl rfl rfl (boxP _ _ _ _) ?_;clear hM;intro w' g4 hM)
   | (refine qam 5 rfl hM rfl rfl rfl (boxN _ _) ?_;clear hM;intro w' g5 hM)
   | (refine qam 6 rfl hM rfl rfl rfl (boxP _ _ _ _) ?_;clear hM;intro w' g6 hM)
   | (refine qam 7 rfl hM rfl rfl rfl (boxN _ _) ?_;clear hM;intro w' g7 hM)
   | (refine qaj 8 rfl hM rfl (runP rfl) ?_;clear hM;intro w' g8 hM)
   | (refine qai hM rfl rfl tyP rfl (by exact hat) rfl ?_)
   | (refine qak 18 rfl hM rfl rfl enOn (al:=[.agg (ptC p.x p.y p.o)]) (c_p _) rfl ?_;clear hM;intro w' hM)
   | (refine qak 22 rfl hM rfl rfl enOn (al:=[.agg (ptC q.x q.y q.o)]) (c_q _) rfl ?_;clear hM;intro w' hM)
   | (refine qai hM rfl rfl tyP rfl (by exact hat) rfl ?_)
   | (refine qai hM rfl rfl tyW rfl (by exact hat) rfl ?_)
   | (refine qai hM rfl rfl tyU rfl (by exact hat) rfl ?_)
   | (refine qae hM rfl rfl tyW rfl rfl (by exact hau) rfl rfl (oneW _ _ _ _) ?_;clear hM;intro w' hM)
   | (refine qae hM rfl rfl tyP rfl rfl (by exact hau) rfl rfl (oneP _ _ _) ?_;clear hM;intro w' hM))
  refine qau 6 hM qbc [.agg (ptC p.x p.y p.o),.agg (wdC p.x p.y p.o 1),.agg (ptC q.x q.y q.o),.agg (wdC q.x q.y q.o 1),undef,undef] [⟨4,10,wdC 0 0 false 0,295⟩,⟨5,11,wdC 0 0 false 0,295⟩] (b:=?b1) ?hb rfl (by kernel_rfl) ?hgo ?hfin
  case hb=>simp only [putAll,Act.put,List.setIfInBounds_toArray,List.set_cons_zero,List.set_cons_succ];rfl
  case hgo =>
   refine GoAll.v (.agg (ptC p.x p.y p.o)) (qap tyP at4) ?_
   refine GoAll.v (.agg (wdC p.x p.y p.o 1)) (qao (al:=[.agg (ptC p.x p.y p.o)]) c_wp qgj) ?_
   refine GoAll.v (.agg (ptC q.x q.y q.o)) (qap tyP at2) ?_
   refine GoAll.v (.agg (wdC q.x q.y q.o 1)) (qao (al:=[.agg (ptC q.x q.y q.o)]) c_wq qgj) ?_
   refine GoAll.l (k:=0) rfl ⟨rfl,fun ρ w=>runW rfl ρ w⟩ ?_
   refine GoAll.l (k:=1) rfl ⟨rfl,fun ρ w=>runW rfl ρ w⟩ ?_
   exact GoAll.nil
  case hfin =>
   clear hM;intro w' G hM
   simp only [putLays,List.drop_succ_cons,List.drop_zero,List.map_nil,List.map_cons,List.nil_append,List.cons_append,Act.put,List.setIfInBounds_toArray,List.set_cons_zero,List.set_cons_succ] at hM ⊢
   generalize G 4=g10 at hM ⊢
   generalize G 5=g11 at hM ⊢
   go_wp2_with (first
    | (refine qaj 12 rfl hM rfl (runW rfl) ?_;clear hM;intro w' g12 hM)
    | (refine qaj 13 rfl hM rfl (runW rfl) ?_;clear hM;intro w' g13 hM)
    | (refine qak 32 rfl hM rfl rfl enSum (al:=[.agg (wdC p.x p.y p.o 1),.agg (wdC q.x q.y q.o 1)]) (c_c _) rfl ?_;clear hM;intro w' hM)
    | (refine qak 33 rfl hM rfl rfl qh0 (al:=[]) (pzero _) rfl ?_;clear hM;intro w' hM)
    | (refine qak 34 rfl hM rfl rfl qgj (al:=[.agg (ptC 0 0 true)]) (qi9 0 0 true _) rfl ?_;clear hM;intro w' hM)
    | (refine qai hM rfl rfl tyP rfl (by exact hat) rfl ?_)
    | (refine qai hM rfl rfl tyW rfl (by exact hat) rfl ?_)
    | (refine qai hM rfl rfl tyU rfl (by exact hat) rfl ?_)
    | (refine qae hM rfl rfl tyW rfl rfl (by exact hau) rfl rfl (oneW _ _ _ _) ?_;clear hM;intro w' hM)
    | (refine qae hM rfl rfl tyP rfl rfl (by exact hau) rfl rfl (oneP _ _ _) ?_;clear hM;intro w' hM))
   refine qau 6 hM qbc [.agg (uC n),.int .i64 (bn:Int),.agg (uC m),.int .i64 (bm:Int),.int .i64 (L:Int),.int .i64 ((L:Int) - 1)] [] (b:=?b2) ?hb rfl (by kernel_rfl) ?hgo ?hfin
   case hb=>simp only [putAll,Act.put,List.setIfInBounds_toArray,List.set_cons_zero,List.set_cons_succ];rfl
   case hgo =>
    refine GoAll.v (.agg (uC n)) (qap tyU at7) ?_
    refine GoAll.v (.int .i64 (bn:Int)) (qao (al:=[.agg (uC n)]) c_ln enLen) ?_
    refine GoAll.v (.agg (uC m)) (qap tyU at5) ?_
    refine GoAll.v (.int .i64 (bm:Int)) (qao (al:=[.agg (uC m)]) c_lm enLen) ?_
    refine GoAll.v (.int .i64 (L:Int)) (qaq fun w=>by go_simp) ?_
    refine GoAll.v (.int .i64 ((L:Int) - 1)) (qaq fun w=>by go_simp) ?_
    exact GoAll.nil
   case hfin =>
    clear hM;intro w' G hM
    simp only [putLays,List.drop_succ_cons,List.drop_zero,List.map_nil,List.map_cons,List.nil_append,List.cons_append] at hM ⊢
    go_wp2_with fail
    have HM:=qh hM
    clear hM
    go_loopw [14] (fun i wr=>∃ (j:Nat) (v:Wp),j≤256∧i=.int .i64 ((j:Int) - 1)∧Hid v.Wf∧Hid (bothS n m (widenP p) (widenP q) c j v=R)∧Mem w wr [(g13,wdC v.x v.y v.o v.z,295),(g12,wdC c.x c.y c.o c.z,295),(g10,wdC p.x p.y p.o 1,295),(g11,wdC q.x q.y q.o 1,295),(g8,ptC 0 0 false,255),(g7,uC m,24),(g6,ptC q.x q.y q.o,255),(g5,uC n,24),(g4,ptC p.x p.y p.o,255)]) (fun i _=>(intOf i+1).toNat)
    case atStart=>exact ⟨L,zeroW,HL.out,rfl,qh qjp,HR,HM.out⟩
    case round =>
     obtain ⟨j,v,hj,rfl,HV,HS,hM⟩:=hrel
     clear HM HR
     match j,hj,HS with
     | 0,_,HS =>
      have c_n:=pnarrow v.x v.y v.o v.z HV.out.x HV.out.y HV.out.z
      go_wp2_with (first
       | (refine qai hM rfl rfl tyW rfl (by exact hat) rfl ?_)
       | (refine qak 72 rfl hM rfl rfl enNarrow (al:=[.agg (wdC v.x v.y v.o v.z)]) (c_n _) rfl ?_;clear hM;intro w' hM)
       | (refine qae hM rfl rfl tyP rfl rfl (by exact hau) rfl rfl (oneP _ _ _) ?_;clear hM;intro w' hM))
      refine qb9 hM rfl tyP rfl rfl (by exact hat) rfl rfl ?_
      exact ⟨by rw [← HS.out];rfl,hM.below⟩
     | j+1,hj,HS =>
      have hi:((j+1:Nat):Int) - 1=(j:Int):=by omega
      rw [hi]
      have hjI:(j:Int) < 256:=by omega
      have hw2:IntKind.i64.wrap ((j:Int) - 1)=(j:Int) - 1:=IntWalk.i64_in _ (by omega)
      have c_bn:=bitN n j l_n (by omega)
      have c_bm:=bitN m j l_m (by omega)
      have c_t:=ptwice v.x v.y v.o v.z HV.out.x HV.out.y HV.out.z
      have hv2:=qkp v
      have hs:=HS.out
      rw [bothS] at hs
      obtain ⟨v2,e_v2⟩:∃ v2,twiceP v=v2:=⟨_,rfl⟩
      have c_t:∀ w,Calls Tryz.prog 235 #[.agg (wdC v.x v.y v.o v.z)] w fun e w'=>e=.returned (.agg (wdC v2.x v2.y v2.o v2.z))∧Below w.heap.size w w':=fun w=>by
       have h:=c_t w
       rw [show (⟨v.x,v.y,v.o,v.z⟩:Wp)=v from rfl,e_v2] at h
       exact h
      simp only [e_v2] at hs hv2
      obtain ⟨b1,e_1⟩:∃ b,n.testBit j=b:=⟨_,rfl⟩
      obtain ⟨b2,e_2⟩:∃ b,m.testBit j=b:=⟨_,rfl⟩
      simp only [e_1] at c_bn hs
      simp only [e_2] at c_bm hs
      have HV2:=qh hv2
      have HS2:=qh hs
      clear e_v2 e_1 e_2 hi hs hv2
      go_wp2_with (first
       | (refine qak 46 rfl hM rfl rfl qqq (al:=[.agg (wdC v.x v.y v.o v.z)]) (c_t _) rfl ?_;clear hM;intro w' hM)
       | (refine qai hM rfl rfl tyP rfl (by exact hat) rfl ?_)
       | (refine qai hM rfl rfl tyW rfl (by exact hat) rfl ?_)
       | (refine qai hM rfl rfl tyU rfl (by exact hat) rfl ?_)
       | (refine qae hM rfl rfl tyW rfl rfl (by exact hau) rfl rfl (oneW _ _ _ _) ?_;clear hM;intro w' hM)
       | (refine qae hM rfl rfl tyP rfl rfl (by exact hau) rfl rfl (oneP _ _ _) ?_;clear hM;intro w' hM))
      refine qau 6 hM qbc [.agg (uC n),.int .i64 (j:Int),.bool b1,.agg (uC m),.int .i64 (j:Int),.bool b2] [] (b:=?b3) ?hb rfl (by kernel_rfl) ?hgo ?hfin
      case hb=>simp only [putAll,Act.put,List.setIfInBounds_toArray,List.set_cons_zero,List.set_cons_succ];rfl
      case hgo =>
       refine GoAll.v (.agg (uC n)) (qap tyU at7) ?_
       refine GoAll.v (.int .i64 (j:Int)) (qaq fun w=>by go_simp) ?_
       refine GoAll.v (.bool b1) (qao (al:=[.agg (uC n),.int .i64 (j:Int)]) c_bn enBit) ?_
       refine GoAll.v (.agg (uC m)) (qap tyU at5) ?_
       refine GoAll.v (.int .i64 (j:Int)) (qaq fun w=>by go_simp) ?_
       refine GoAll.v (.bool b2) (qao (al:=[.agg (uC m),.int .i64 (j:Int)]) c_bm enBit) ?_
       exact GoAll.nil
      case hfin =>
       clear hM;intro w' G hM
       simp only [putLays,List.drop_succ_cons,List.drop_zero,List.map_nil,List.map_cons,List.nil_append,List.cons_append] at hM ⊢
       cases b1 <;> cases b2
       ·simp only [Bool.false_and,Bool.false_eq_true,if_false] at HS2
        go_wp2_with (first
         | (refine qai hM rfl rfl tyW rfl (by exact hat) rfl ?_))
        go_roundw
        case rel=>exact ⟨j,v2,by omega,rfl,HV2,HS2,hM⟩
        case measure=>simp [intOf]
       ·simp only [Bool.true_and,Bool.false_and,Bool.and_self,Bool.and_false,Bool.and_true,Bool.false_eq_true,if_false,if_true] at HS2
        have c_s:=psum v2.x v2.y v2.o v2.z q.x q.y q.o 1 HV2.out.x HV2.out.y HV2.out.z HQW.out.x HQW.out.y HQW.out.z
        have hv3:=qjq HV2.out HQW.out
        obtain ⟨v3,e_v3⟩:∃ v3,sumP v2 (widenP q)=v3:=⟨_,rfl⟩
        have c_s:∀ w,Calls Tryz.prog 232 #[.agg (wdC v2.x v2.y v2.o v2.z),.agg (wdC q.x q.y q.o 1)] w fun e w'=>e=.returned (.agg (wdC v3.x v3.y v3.o v3.z))∧Below w.heap.size w w':=fun w=>by
         have h:=c_s w
         rw [show (⟨v2.x,v2.y,v2.o,v2.z⟩:Wp)=v2 from rfl,show (⟨q.x,q.y,q.o,1⟩:Wp)=(widenP q) from rfl,e_v3] at h
         exact h
        rw [e_v3] at HS2 hv3
        have HV3:=qh hv3
        clear e_v3 hv3
        go_wp2_with (first
         | (refine qai hM rfl rfl tyW rfl (by exact hat) rfl ?_)
         | (refine qak 70 rfl hM rfl rfl enSum (al:=[.agg (wdC v2.x v2.y v2.o v2.z),.agg (wdC q.x q.y q.o 1)]) (c_s _) rfl ?_;clear hM;intro w' hM)
         | (refine qae hM rfl rfl tyW rfl rfl (by exact hau) rfl rfl (oneW _ _ _ _) ?_;clear hM;intro w' hM))
        go_roundw
        case rel=>exact ⟨j,v3,by omega,rfl,HV3,HS2,hM⟩
        case measure=>simp [intOf]
       ·simp only [Bool.true_and,Bool.false_and,Bool.and_self,Bool.and_false,Bool.and_true,Bool.false_eq_true,if_false,if_true] at HS2
        have c_s:=psum v2.x v2.y v2.o v2.z p.x p.y p.o 1 HV2.out.x HV2.out.y HV2.out.z HPW.out.x HPW.out.y HPW.out.z
        have hv3:=qjq HV2.out HPW.out
        obtain ⟨v3,e_v3⟩:∃ v3,sumP v2 (widenP p)=v3:=⟨_,rfl⟩
        have c_s:∀ w,Calls Tryz.prog 232 #[.agg (wdC v2.x v2.y v2.o v2.z),.agg (wdC p.x p.y p.o 1)] w fun e w'=>e=.returned (.agg (wdC v3.x v3.y v3.o v3.z))∧Below w.heap.size w w':=fun w=>by
         have h:=c_s w
         rw [show (⟨v2.x,v2.y,v2.o,v2.z⟩:Wp)=v2 from rfl,show (⟨p.x,p.y,p.o,1⟩:Wp)=(widenP p) from rfl,e_v3] at h
         exact h
        rw [e_v3] at HS2 hv3
        have HV3:=qh hv3
        clear e_v3 hv3
        go_wp2_with (first
         | (refine qai hM rfl rfl tyW rfl (by exact hat) rfl ?_)
         | (refine qak 65 rfl hM rfl rfl enSum (al:=[.agg (wdC v2.x v2.y v2.o v2.z),.agg (wdC p.x p.y p.o 1)]) (c_s _) rfl ?_;clear hM;intro w' hM)
         | (refine qae hM rfl rfl tyW rfl rfl (by exact hau) rfl rfl (oneW _ _ _ _) ?_;clear hM;intro w' hM))
        go_roundw
        case rel=>exact ⟨j,v3,by omega,rfl,HV3,HS2,hM⟩
        case measure=>simp [intOf]
       ·simp only [Bool.true_and,Bool.false_and,Bool.and_self,Bool.and_false,Bool.and_true,Bool.false_eq_true,if_false,if_true] at HS2
        have c_s:=psum v2.x v2.y v2.o v2.z c.x c.y c.o c.z HV2.out.x HV2.out.y HV2.out.z HCW.out.x HCW.out.y HCW.out.z
        have hv3:=qjq HV2.out HCW.out
        obtain ⟨v3,e_v3⟩:∃ v3,sumP v2 c=v3:=⟨_,rfl⟩
        have c_s:∀ w,Calls Tryz.prog 232 #[.agg (wdC v2.x v2.y v2.o v2.z),.agg (wdC c.x c.y c.o c.z)] w fun e w'=>e=.returned (.agg (wdC v3.x v3.y v3.o v3.z))∧Below w.heap.size w w':=fun w=>by
         have h:=c_s w
         rw [show (⟨v2.x,v2.y,v2.o,v2.z⟩:Wp)=v2 from rfl,show (⟨c.x,c.y,c.o,c.z⟩:Wp)=c from rfl,e_v3] at h
         exact h
        rw [e_v3] at HS2 hv3
        have HV3:=qh hv3
        clear e_v3 hv3
        go_wp2_with (first
         | (refine qai hM rfl rfl tyW rfl (by exact hat) rfl ?_)
         | (refine qak 60 rfl hM rfl rfl enSum (al:=[.agg (wdC v2.x v2.y v2.o v2.z),.agg (wdC c.x c.y c.o c.z)]) (c_s _) rfl ?_;clear hM;intro w' hM)
         | (refine qae hM rfl rfl tyW rfl rfl (by exact hau) rfl rfl (oneW _ _ _ _) ?_;clear hM;intro w' hM))
        go_roundw
        case rel=>exact ⟨j,v3,by omega,rfl,HV3,HS2,hM⟩
        case measure=>simp [intOf]
/- The walk of point.Times. -/
theorem ptimes (p:Pt) (n:Nat) (hp:p.Wf) (l_n:n < two256) (w:World):Calls Tryz.prog 209 #[.agg (ptC p.x p.y p.o),.agg (uC n)] w fun e w'=>e=.returned (.tuple #[.agg (ptA (if onP p then bothP p n zeroP 0 else ⟨0,0,false⟩)),.int .i64 (if onP p then 0 else 1)])∧Below w.heap.size w w':=by
 have c_b:=pboth p zeroP n 0 hp ⟨qbt,qbt⟩ l_n qbt
 simp only [onP_zero,Bool.and_true] at c_b
 obtain ⟨r,e_r⟩:∃ r,(if onP p=true then bothP p n zeroP 0 else ⟨0,0,false⟩)=r:=⟨_,rfl⟩
 obtain ⟨er,e_er⟩:∃ k:Int,(if onP p=true then (0:Int) else 1)=k:=⟨_,rfl⟩
 simp only [e_r,e_er] at c_b ⊢
 have c_b:∀ w,Calls Tryz.prog 183 #[.agg (ptC p.x p.y p.o),.agg (uC n),.agg (ptC 0 0 true),.agg (uC 0)] w fun e w'=>e=.returned (.tuple #[.agg (ptC r.x r.y r.o),.int .i64 er])∧Below w.heap.size w w':=c_b
 clear e_r e_er
 have hM:=Mem.nil w
 go_enter Tryz.func209,Tryz.ntmps209
 go_wp2_with (first
  | (refine qam 2 rfl hM rfl rfl rfl (boxP _ _ _ _) ?_;clear hM;intro w' g2 hM)
  | (refine qam 3 rfl hM rfl rfl rfl (boxN _ _) ?_;clear hM;intro w' g3 hM)
  | (refine qaj 4 rfl hM rfl (runP rfl) ?_;clear hM;intro w' g4 hM))
 refine qau 7 hM qbc [.agg (ptC p.x p.y p.o),.agg (uC n),.agg (ptC 0 0 true),.agg #[.int .u64 0,.int .u64 0,.int .u64 0,.int .u64 0],.tuple #[.agg (ptC r.x r.y r.o),.int .i64 er],.agg (ptC r.x r.y r.o),.int .i64 er] [] (b:=?b1) ?hb rfl (by kernel_rfl) ?hgo ?hfin
 case hb=>simp only [putAll,Act.put,List.setIfInBounds_toArray,List.set_cons_zero,List.set_cons_succ];rfl
 case hgo =>
  refine GoAll.v (.agg (ptC p.x p.y p.o)) (qap tyP at2) ?_
  refine GoAll.v (.agg (uC n)) (qap tyU at1) ?_
  refine GoAll.v (.agg (ptC 0 0 true)) (qao (al:=[]) pzero qh0) ?_
  refine GoAll.v (.agg #[.int .u64 0,.int .u64 0,.int .u64 0,.int .u64 0]) (qaq fun w=>by go_simp) ?_
  refine GoAll.v (.tuple #[.agg (ptC r.x r.y r.o),.int .i64 er]) (qao (al:=[.agg (ptC p.x p.y p.o),.agg (uC n),.agg (ptC 0 0 true),.agg (uC 0)]) c_b enBoth) ?_
  refine GoAll.v (.agg (ptC r.x r.y r.o)) (qaq fun w=>by go_simp) ?_
  refine GoAll.v (.int .i64 er) (qaq fun w=>by go_simp) ?_
  exact GoAll.nil
 case hfin =>
  clear hM;intro w' G hM
  simp only [putLays,List.drop_succ_cons,List.drop_zero,List.map_nil,List.map_cons,List.nil_append,List.cons_append] at hM ⊢
  go_wp2_with (first
   | (refine qae hM rfl rfl tyP rfl rfl (by exact hau) rfl rfl (oneP _ _ _) ?_;clear hM;intro w' hM))
  refine qb9 hM rfl tyP rfl rfl (by exact hat) rfl rfl ?_
  exact ⟨rfl,hM.below⟩
/- The walks of sign: mul, turned. -/
theorem qp4:Ent Tryz.prog 184:=⟨enters_of Tryz.func184 (by kernel_rfl) rfl⟩
theorem enTurned:Ent Tryz.prog 186:=⟨enters_of Tryz.func186 (by kernel_rfl) rfl⟩
theorem enTimes:Ent Tryz.prog 209:=⟨enters_of Tryz.func209 (by kernel_rfl) rfl⟩
theorem enNumber:Ent Tryz.prog 161:=⟨enters_of Tryz.func161 (by kernel_rfl) rfl⟩
theorem enWith:Ent Tryz.prog 163:=⟨enters_of Tryz.func163 (by kernel_rfl) rfl⟩
theorem enHigh:Ent Tryz.prog 145:=⟨enters_of Tryz.func145 (by kernel_rfl) rfl⟩
theorem qte:Ent Tryz.prog 91:=⟨enters_of Tryz.func91 (by kernel_rfl) rfl⟩
theorem qlk:Ent Tryz.prog 144:=⟨enters_of Tryz.func144 (by kernel_rfl) rfl⟩
theorem smul (a b:Nat) (ha:a < two256) (hb:b < two256) (w:World):Calls Tryz.prog 184 #[.agg (uC a),.agg (uC b)] w fun e w'=>e=.returned (.agg (uC (mulM (modN 1) a b)))∧Below w.heap.size w w':=by
 have hM:=Mem.nil w
 have hr:=fMulK 1 (by decide) a b ha hb
 obtain ⟨V,hV⟩:∃ V,mulM (modN 1) a b=V:=⟨_,rfl⟩
 rw [hV] at hr ⊢
 clear hV
 go_enter Tryz.func184,Tryz.ntmps184
 go_wp2_with (first
  | (refine qas hM rfl (runN rfl) ?_;clear hM;intro w' ga hM)
  | (refine qay hM rfl rfl rfl (boxN _ _) ?_;clear hM;intro w' ga hM)
  | (refine qai hM rfl rfl tyU rfl (by exact hat) rfl ?_)
  | (refine qae hM rfl rfl tyU rfl rfl (by exact hau) rfl rfl (oneN _) ?_;clear hM;intro w' hM)
  | (refine qad hM rfl rfl enFMul (al:=[.agg (uC a),.agg (uC b),.int .i64 1]) (hr _) rfl ?_;clear hM;intro w' hM))
 refine res_c hM rfl tyU rfl (by exact hat) rfl rfl ?_
 exact ⟨rfl,hM.below⟩
theorem sturned (a:Nat) (ha:a < two256) (w:World):Calls Tryz.prog 186 #[.agg (uC a)] w fun e w'=>e=.returned (.agg (uC (subM (modN 1) 0 a)))∧Below w.heap.size w w':=by
 have hM:=Mem.nil w
 have hr:=fSubK 1 (by decide) 0 a qbt ha
 obtain ⟨V,hV⟩:∃ V,subM (modN 1) 0 a=V:=⟨_,rfl⟩
 rw [hV] at hr ⊢
 clear hV
 go_enter Tryz.func186,Tryz.ntmps186
 go_wp2_with (first
  | (refine qas hM rfl (runN rfl) ?_;clear hM;intro w' ga hM)
  | (refine qay hM rfl rfl rfl (boxN _ _) ?_;clear hM;intro w' ga hM)
  | (refine qai hM rfl rfl tyU rfl (by exact hat) rfl ?_)
  | (refine qae hM rfl rfl tyU rfl rfl (by exact hau) rfl rfl (oneN _) ?_;clear hM;intro w' hM)
  | (refine qad hM rfl rfl enFSub (al:=[.agg (uC 0),.agg (uC a),.int .i64 1]) (hr _) rfl ?_;clear hM;intro w' hM))
 refine res_c hM rfl tyU rfl (by exact hat) rfl rfl ?_
 exact ⟨rfl,hM.below⟩
end Go.Proofs.YteoednifdpdbnaaGreat
