/- Points in memory; the walks of point: add, sub, mul, zero, Base, widen, reduced, curve. -/
import Derived.Test.YteoednifdpdbnaaGreatZ40
import Derived.Test.YteoednifdpdbnaaGreatZ05
namespace Go.Proofs.YteoednifdpdbnaaGreat
set_option linter.unusedVariables false
set_option linter.unusedSimpArgs false
open Go.RowKit
set_option maxHeartbeats 4000000
set_option maxRecDepth 100000
open Go.RowKit Go.Shelf
def ptC (x y:Nat) (o:Bool):Array Value:=#[.int .u64 ((U4.of x).a:Int),.int .u64 ((U4.of x).b:Int),.int .u64 ((U4.of x).c:Int),.int .u64 ((U4.of x).d:Int),.int .u64 ((U4.of y).a:Int),.int .u64 ((U4.of y).b:Int),.int .u64 ((U4.of y).c:Int),.int .u64 ((U4.of y).d:Int),.bool o]
def wdC (x y:Nat) (o:Bool) (z:Nat):Array Value:=#[.int .u64 ((U4.of x).a:Int),.int .u64 ((U4.of x).b:Int),.int .u64 ((U4.of x).c:Int),.int .u64 ((U4.of x).d:Int),.int .u64 ((U4.of y).a:Int),.int .u64 ((U4.of y).b:Int),.int .u64 ((U4.of y).c:Int),.int .u64 ((U4.of y).d:Int),.bool o,.int .u64 ((U4.of z).a:Int),.int .u64 ((U4.of z).b:Int),.int .u64 ((U4.of z).c:Int),.int .u64 ((U4.of z).d:Int)]
def ptA (p:Pt):Array Value:=ptC p.x p.y p.o
def wdA (p:Wp):Array Value:=wdC p.x p.y p.o p.z
theorem tyP:AggT Tryz.prog 255 9:=⟨⟨_,Tryz.underlying255,rfl⟩,by kernel_rfl⟩
theorem tyW:AggT Tryz.prog 295 13:=⟨⟨_,Tryz.underlying295,rfl⟩,by kernel_rfl⟩
theorem boxP (x y:Nat) (o:Bool) (w:World):(Instr.box 255 (.agg (ptC x y o))).run Tryz.prog w=.ok (.pointer (some ⟨w.heap.size,0,none⟩)) (w.alloc (.cells (ptC x y o) 255)):=by
 unfold ptC
 go_simp
theorem boxW (x y:Nat) (o:Bool) (z:Nat) (w:World):(Instr.box 295 (.agg (wdC x y o z))).run Tryz.prog w=.ok (.pointer (some ⟨w.heap.size,0,none⟩)) (w.alloc (.cells (wdC x y o z) 295)):=by
 unfold wdC
 go_simp
theorem runP {o:Oper} (ho:o.op=.alloc 255) (ρ:Operand→Value) (w:World):(execOp ρ o).run Tryz.prog w=.ok (.value (.pointer (some ⟨w.heap.size,0,none⟩))) (w.alloc (.cells (ptC 0 0 false) 255)):=by
 unfold execOp
 simp only [ho]
 rw [show ptC 0 0 false=#[.int .u64 0,.int .u64 0,.int .u64 0,.int .u64 0,.int .u64 0,.int .u64 0,.int .u64 0,.int .u64 0,.bool false] from rfl]
 go_simp
theorem runW {o:Oper} (ho:o.op=.alloc 295) (ρ:Operand→Value) (w:World):(execOp ρ o).run Tryz.prog w=.ok (.value (.pointer (some ⟨w.heap.size,0,none⟩))) (w.alloc (.cells (wdC 0 0 false 0) 295)):=by
 unfold execOp
 simp only [ho]
 rw [show wdC 0 0 false 0=#[.int .u64 0,.int .u64 0,.int .u64 0,.int .u64 0,.int .u64 0,.int .u64 0,.int .u64 0,.int .u64 0,.bool false,.int .u64 0,.int .u64 0,.int .u64 0,.int .u64 0] from rfl]
 go_simp
theorem oneP (x y:Nat) (o:Bool):(ptC x y o).all (·.oneCell')=true:=by simp [ptC,Value.oneCell']
theorem oneW (x y:Nat) (o:Bool) (z:Nat):(wdC x y o z).all (·.oneCell')=true:=by simp [wdC,Value.oneCell']
theorem pa_wx {x y:Nat} {o:Bool} {z:Nat}:PartAt (wdC x y o z) 0 4 (uC x):=⟨rfl,rfl⟩
theorem pa_wy {x y:Nat} {o:Bool} {z:Nat}:PartAt (wdC x y o z) 4 4 (uC y):=⟨rfl,rfl⟩
theorem pa_wz {x y:Nat} {o:Bool} {z:Nat}:PartAt (wdC x y o z) 9 4 (uC z):=⟨rfl,rfl⟩
theorem pa_px {x y:Nat} {o:Bool}:PartAt (ptC x y o) 0 4 (uC x):=⟨rfl,rfl⟩
theorem pa_py {x y:Nat} {o:Bool}:PartAt (ptC x y o) 4 4 (uC y):=⟨rfl,rfl⟩
theorem cb_w {x y:Nat} {o:Bool} {z:Nat}:(wdC x y o z)[8]? = some (.bool o):=rfl
theorem cb_p {x y:Nat} {o:Bool}:(ptC x y o)[8]? = some (.bool o):=rfl
theorem qbr (x y:Nat) (w:World):(Instr.build 255 #[(0,.agg (uC x)),(1,.agg (uC y))]).run Tryz.prog w=.ok (.agg (ptC x y false)) w:=by
 unfold uC u4C ptC
 go_simp
theorem qcg (x y:Nat) (o:Bool) (z:Nat) (w:World):(Instr.build 295 #[(0,.agg (ptC x y o)),(1,.agg (uC z))]).run Tryz.prog w=.ok (.agg (wdC x y o z)) w:=by
 unfold uC u4C ptC wdC
 go_simp
theorem qaw:Ent Tryz.prog 256:=⟨enters_of Tryz.func256 (by kernel_rfl) rfl⟩
theorem qa1:Ent Tryz.prog 255:=⟨enters_of Tryz.func255 (by kernel_rfl) rfl⟩
theorem qbu:Ent Tryz.prog 224:=⟨enters_of Tryz.func224 (by kernel_rfl) rfl⟩
theorem qh0:Ent Tryz.prog 233:=⟨enters_of Tryz.func233 (by kernel_rfl) rfl⟩
theorem qgj:Ent Tryz.prog 231:=⟨enters_of Tryz.func231 (by kernel_rfl) rfl⟩
theorem qqq:Ent Tryz.prog 235:=⟨enters_of Tryz.func235 (by kernel_rfl) rfl⟩
theorem enSum:Ent Tryz.prog 232:=⟨enters_of Tryz.func232 (by kernel_rfl) rfl⟩
theorem enCurve:Ent Tryz.prog 223:=⟨enters_of Tryz.func223 (by kernel_rfl) rfl⟩
theorem qed:Ent Tryz.prog 221:=⟨enters_of Tryz.func221 (by kernel_rfl) rfl⟩
theorem enOn:Ent Tryz.prog 230:=⟨enters_of Tryz.func230 (by kernel_rfl) rfl⟩
theorem enPrime:Ent Tryz.prog 196:=⟨enters_of Tryz.func196 (by kernel_rfl) rfl⟩
theorem enCmp:Ent Tryz.prog 197:=⟨enters_of Tryz.func197 (by kernel_rfl) rfl⟩
theorem enNarrow:Ent Tryz.prog 237:=⟨enters_of Tryz.func237 (by kernel_rfl) rfl⟩
theorem enBoth:Ent Tryz.prog 183:=⟨enters_of Tryz.func183 (by kernel_rfl) rfl⟩
theorem enBase:Ent Tryz.prog 185:=⟨enters_of Tryz.func185 (by kernel_rfl) rfl⟩
theorem pmul (a b:Nat) (ha:a < two256) (hb:b < two256) (w:World):Calls Tryz.prog 256 #[.agg (uC a),.agg (uC b)] w fun e w'=>e=.returned (.agg (uC (mP a b)))∧Below w.heap.size w w':=by
 have hM:=Mem.nil w
 have hr:=fMulK 0 (by decide) a b ha hb
 unfold mP
 obtain ⟨V,hV⟩:∃ V,mulM (modN 0) a b=V:=⟨_,rfl⟩
 rw [hV] at hr ⊢
 clear hV
 go_enter Tryz.func256,Tryz.ntmps256
 go_wp2_with (first
  | (refine qas hM rfl (runN rfl) ?_;clear hM;intro w' ga hM)
  | (refine qay hM rfl rfl rfl (boxN _ _) ?_;clear hM;intro w' ga hM)
  | (refine qai hM rfl rfl tyU rfl (by exact hat) rfl ?_)
  | (refine qae hM rfl rfl tyU rfl rfl (by exact hau) rfl rfl (oneN _) ?_;clear hM;intro w' hM)
  | (refine qad hM rfl rfl enFMul (al:=[.agg (uC a),.agg (uC b),.int .i64 0]) (hr _) rfl ?_;clear hM;intro w' hM))
 refine res_c hM rfl tyU rfl (by exact hat) rfl rfl ?_
 exact ⟨rfl,hM.below⟩
theorem padd (a b:Nat) (ha:a < two256) (hb:b < two256) (w:World):Calls Tryz.prog 255 #[.agg (uC a),.agg (uC b)] w fun e w'=>e=.returned (.agg (uC (aP a b)))∧Below w.heap.size w w':=by
 have hM:=Mem.nil w
 have hr:=fAddK 0 (by decide) a b ha hb
 unfold aP
 obtain ⟨V,hV⟩:∃ V,addM (modN 0) a b=V:=⟨_,rfl⟩
 rw [hV] at hr ⊢
 clear hV
 go_enter Tryz.func255,Tryz.ntmps255
 go_wp2_with (first
  | (refine qas hM rfl (runN rfl) ?_;clear hM;intro w' ga hM)
  | (refine qay hM rfl rfl rfl (boxN _ _) ?_;clear hM;intro w' ga hM)
  | (refine qai hM rfl rfl tyU rfl (by exact hat) rfl ?_)
  | (refine qae hM rfl rfl tyU rfl rfl (by exact hau) rfl rfl (oneN _) ?_;clear hM;intro w' hM)
  | (refine qad hM rfl rfl enFAdd (al:=[.agg (uC a),.agg (uC b),.int .i64 0]) (hr _) rfl ?_;clear hM;intro w' hM))
 refine res_c hM rfl tyU rfl (by exact hat) rfl rfl ?_
 exact ⟨rfl,hM.below⟩
theorem psub (a b:Nat) (ha:a < two256) (hb:b < two256) (w:World):Calls Tryz.prog 224 #[.agg (uC a),.agg (uC b)] w fun e w'=>e=.returned (.agg (uC (sP a b)))∧Below w.heap.size w w':=by
 have hM:=Mem.nil w
 have hr:=fSubK 0 (by decide) a b ha hb
 unfold sP
 obtain ⟨V,hV⟩:∃ V,subM (modN 0) a b=V:=⟨_,rfl⟩
 rw [hV] at hr ⊢
 clear hV
 go_enter Tryz.func224,Tryz.ntmps224
 go_wp2_with (first
  | (refine qas hM rfl (runN rfl) ?_;clear hM;intro w' ga hM)
  | (refine qay hM rfl rfl rfl (boxN _ _) ?_;clear hM;intro w' ga hM)
  | (refine qai hM rfl rfl tyU rfl (by exact hat) rfl ?_)
  | (refine qae hM rfl rfl tyU rfl rfl (by exact hau) rfl rfl (oneN _) ?_;clear hM;intro w' hM)
  | (refine qad hM rfl rfl enFSub (al:=[.agg (uC a),.agg (uC b),.int .i64 0]) (hr _) rfl ?_;clear hM;intro w' hM))
 refine res_c hM rfl tyU rfl (by exact hat) rfl rfl ?_
 exact ⟨rfl,hM.below⟩
theorem pzero  (w:World):Calls Tryz.prog 233 #[] w fun e w'=>e=.returned (.agg (ptC 0 0 true))∧Below w.heap.size w w':=by
 have hM:=Mem.nil w
 go_enter Tryz.func233,Tryz.ntmps233
 go_wp2_with (first
  | (refine qas hM rfl (runP rfl) ?_;clear hM;intro w' ga hM)
  | (refine qae hM rfl rfl tyP rfl rfl (by exact hau) rfl rfl (oneP 0 0 true) ?_;clear hM;intro w' hM))
 refine res_c hM rfl tyP rfl (by exact hat) rfl rfl ?_
 exact ⟨rfl,hM.below⟩
theorem pbase  (w:World):Calls Tryz.prog 185 #[] w fun e w'=>e=.returned (.agg (ptA baseP))∧Below w.heap.size w w':=by
 have hM:=Mem.nil w
 go_enter Tryz.func185,Tryz.ntmps185
 go_wp2_with (first
  | (refine qas hM rfl (runP rfl) ?_;clear hM;intro w' ga hM)
  | (refine qae hM rfl rfl tyP rfl rfl (by exact hau) rfl rfl (oneP baseP.x baseP.y false) ?_;clear hM;intro w' hM))
 refine res_c hM rfl tyP rfl (by exact hat) rfl rfl ?_
 exact ⟨rfl,hM.below⟩
theorem qi9 (x y:Nat) (o:Bool) (w:World):Calls Tryz.prog 231 #[.agg (ptC x y o)] w fun e w'=>e=.returned (.agg (wdC x y o 1))∧Below w.heap.size w w':=by
 have hM:=Mem.nil w
 have hbd:∀ w,(Instr.build 295 #[(0,.agg (ptC x y o)),(1,.agg #[.int .u64 1,.int .u64 0,.int .u64 0,.int .u64 0])]).run Tryz.prog w=.ok (.agg (wdC x y o 1)) w:=fun w=>by
  have h:=qcg x y o 1 w
  rw [show uC 1=#[.int .u64 1,.int .u64 0,.int .u64 0,.int .u64 0] from rfl] at h
  exact h
 go_enter Tryz.func231,Tryz.ntmps231
 go_wp2_with (first
  | (refine qay hM rfl rfl rfl (boxP _ _ _ _) ?_;clear hM;intro w' ga hM)
  | (refine qas hM rfl (runW rfl) ?_;clear hM;intro w' ga hM)
  | (refine qai hM rfl rfl tyP rfl (by exact hat) rfl ?_)
  | (refine qar rfl rfl hbd rfl rfl ?_)
  | (refine qae hM rfl rfl tyW rfl rfl (by exact hau) rfl rfl (oneW _ _ _ _) ?_;clear hM;intro w' hM))
 refine res_c hM rfl tyW rfl (by exact hat) rfl rfl ?_
 exact ⟨rfl,hM.below⟩
theorem primeK (k:Nat) (hk:k≤1) (w:World):Calls Tryz.prog 196 #[.int .i64 (k:Int)] w fun e w'=>e=.returned (.tuple #[.agg (uC (modN k)),.int .i64 0])∧Below w.heap.size w w':=by
 have hM:=Mem.nil w
 go_enter Tryz.func196,Tryz.ntmps196
 go_wp2_with (first
  | (refine qas hM rfl (runN rfl) ?_;clear hM;intro w' ga hM)
  | (refine qay hM rfl rfl rfl (boxN _ _) ?_;clear hM;intro w' ga hM)
  | (refine qai hM rfl rfl tyU rfl (by exact hat) rfl ?_)
  | (refine qae hM rfl rfl tyU rfl rfl (by exact hau) rfl rfl (oneN _) ?_;clear hM;intro w' hM)
  | (refine qad hM rfl rfl qc9 (al:=[.int .i64 (k:Int)]) (qe2 k hk _) rfl ?_;clear hM;intro w' hM)
  | (refine qad hM rfl rfl qkv (al:=[.int .i64 (k:Int)]) (qne k hk _) rfl ?_;clear hM;intro w' hM))
 refine qb9 hM rfl tyU rfl rfl (by exact hat) rfl rfl ?_
 exact ⟨rfl,hM.below⟩
theorem qnc (a:Nat) (ha:a < two256) (w:World):Calls Tryz.prog 221 #[.agg (uC a)] w fun e w'=>e=.returned (.bool (decide (a < priN)))∧Below w.heap.size w w':=by
 have hM:=Mem.nil w
 have hcmp:=cmpNN a priN ha (qm0 0)
 have hpr:=primeK 0 (by decide)
 obtain ⟨c,hc⟩:∃ c,(if a < priN then (-1:Int) else if priN < a then 1 else 0)=c:=⟨_,rfl⟩
 have hd:decide (a < priN)=decide (c < 0):=by
  rw [← hc]
  by_cases h1:a < priN
  ·simp [h1]
  ·by_cases h2:priN < a <;> simp [h1,h2]
 simp only [hc] at hcmp
 rw [hd]
 clear hc hd
 go_enter Tryz.func221,Tryz.ntmps221
 go_wp2_with (first
  | (refine qas hM rfl (runN rfl) ?_;clear hM;intro w' ga hM)
  | (refine qay hM rfl rfl rfl (boxN _ _) ?_;clear hM;intro w' ga hM)
  | (refine qai hM rfl rfl tyU rfl (by exact hat) rfl ?_)
  | (refine qae hM rfl rfl tyU rfl rfl (by exact hau) rfl rfl (oneN _) ?_;clear hM;intro w' hM)
  | (refine qad hM rfl rfl enPrime (al:=[.int .i64 0]) (hpr _) rfl ?_;clear hM;intro w' hM)
  | (refine qad hM rfl rfl enCmp (al:=[.agg (uC a),.agg (uC priN)]) (hcmp _) rfl ?_;clear hM;intro w' hM))
 go_ret
 exact ⟨rfl,hM.below⟩
theorem pcurve (x:Nat) (hx:x < two256) (w:World):Calls Tryz.prog 223 #[.agg (uC x)] w fun e w'=>e=.returned (.agg (uC (curveP x)))∧Below w.heap.size w w':=by
 have hM:=Mem.nil w
 have c1:=pmul x x hx hx
 have c2:=pmul (mP x x) x (mP_lt _ _) hx
 have c3:=padd (mP (mP x x) x) 7 (mP_lt _ _) (by decide)
 unfold curveP
 obtain ⟨n1,h1⟩:∃ n,mP x x=n:=⟨_,rfl⟩
 simp only [h1] at c1 c2 c3 ⊢
 obtain ⟨n2,h2⟩:∃ n,mP n1 x=n:=⟨_,rfl⟩
 simp only [h2] at c2 c3 ⊢
 obtain ⟨n3,h3⟩:∃ n,aP n2 7=n:=⟨_,rfl⟩
 simp only [h3] at c3 ⊢
 clear h1 h2 h3
 go_enter Tryz.func223,Tryz.ntmps223
 go_wp2_with (first
  | (refine qam 1 rfl hM rfl rfl rfl (boxN _ _) ?_;clear hM;intro w' g1 hM)
  | (refine qaj 2 rfl hM rfl (runN rfl) ?_;clear hM;intro w' g2 hM))
 refine qau 7 hM qbc [.agg (uC x),.agg (uC x),.agg (uC n1),.agg (uC x),.agg (uC n2),.agg #[.int .u64 7,.int .u64 0,.int .u64 0,.int .u64 0],.agg (uC n3)] [] (b:=?b1) ?hb rfl (by kernel_rfl) ?hgo ?hfin
 case hb=>simp only [putAll,Act.put,List.setIfInBounds_toArray,List.set_cons_zero,List.set_cons_succ];rfl
 case hgo =>
  refine GoAll.v (.agg (uC x)) (qap tyU at1) ?_
  refine GoAll.v (.agg (uC x)) (qap tyU at1) ?_
  refine GoAll.v (.agg (uC n1)) (qao (al:=[.agg (uC x),.agg (uC x)]) c1 qaw) ?_
  refine GoAll.v (.agg (uC x)) (qap tyU at1) ?_
  refine GoAll.v (.agg (uC n2)) (qao (al:=[.agg (uC n1),.agg (uC x)]) c2 qaw) ?_
  refine GoAll.v (.agg #[.int .u64 7,.int .u64 0,.int .u64 0,.int .u64 0]) (qaq fun w=>by go_simp) ?_
  refine GoAll.v (.agg (uC n3)) (qao (al:=[.agg (uC n2),.agg (uC 7)]) c3 qa1) ?_
  exact GoAll.nil
 case hfin =>
  clear hM;intro w' G hM
  simp only [putLays,List.drop_succ_cons,List.drop_zero,List.map_nil,List.map_cons,List.nil_append,List.cons_append] at hM ⊢
  go_wp2_with (first
   | (refine qae hM rfl rfl tyU rfl rfl (by exact hau) rfl rfl (oneN _) ?_;clear hM;intro w' hM))
  refine res_c hM rfl tyU rfl (by exact hat) rfl rfl ?_
  exact ⟨rfl,hM.below⟩
/- The walk of point.twice. -/
theorem ptwice (x y:Nat) (o:Bool) (z:Nat) (l_x:x < two256) (l_y:y < two256) (l_z:z < two256) (w:World):Calls Tryz.prog 235 #[.agg (wdC x y o z)] w fun e w'=>e=.returned (.agg (wdA (twiceP ⟨x,y,o,z⟩)))∧Below w.heap.size w w':=by
 cases o with
 | true =>
  show Calls _ _ _ _ fun e w'=>e=.returned (.agg (wdC 0 0 true 1))∧_
  have hM:=Mem.nil w
  go_enter Tryz.func235,Tryz.ntmps235
  go_wp2_with (first
   | (refine qay hM rfl rfl rfl (boxW _ _ _ _ _) ?_;clear hM;intro w' ga hM)
   | (refine qas hM rfl (runW rfl) ?_;clear hM;intro w' ga hM)
   | (refine qaf hM rfl rfl Tryz.isAgg4 rfl (by exact hat) (by first | exact cb_w | exact cb_p) ?_)
   | (refine qav hM rfl rfl tyU rfl (by exact hat) (by first | exact pa_wx | exact pa_wy | exact pa_wz | exact pa_px | exact pa_py) ?_)
   | (refine qae hM rfl rfl tyW rfl rfl (by exact hau) rfl rfl (oneW _ _ _ _) ?_;clear hM;intro w' hM)
   | (refine qad hM rfl rfl qh0 (al:=[]) (pzero _) rfl ?_;clear hM;intro w' hM)
   | (refine qad hM rfl rfl qgj (al:=[.agg (ptC 0 0 true)]) (qi9 0 0 true _) rfl ?_;clear hM;intro w' hM))
  refine res_c hM rfl tyW rfl (by exact hat) rfl rfl ?_
  exact ⟨rfl,hM.below⟩
 | false =>
  by_cases h0:y=0
  ·have e:twiceP ⟨x,y,false,z⟩=zeroW:=by unfold twiceP;simp [h0]
   rw [e]
   show Calls _ _ _ _ fun e w'=>e=.returned (.agg (wdC 0 0 true 1))∧_
   clear e
   subst h0
   have heq:∀ W:World,(Op.equalIn 10000 24 (.agg (uC 0)) (.agg #[.int .u64 0,.int .u64 0,.int .u64 0,.int .u64 0])).run Tryz.prog W=.ok true W:=fun W=>eqNZ 0 qbt W
   have hM:=Mem.nil w
   go_enter Tryz.func235,Tryz.ntmps235
   go_wp2_with (first
    | (refine qay hM rfl rfl rfl (boxW _ _ _ _ _) ?_;clear hM;intro w' ga hM)
    | (refine qas hM rfl (runW rfl) ?_;clear hM;intro w' ga hM)
    | (refine qaf hM rfl rfl Tryz.isAgg4 rfl (by exact hat) (by first | exact cb_w | exact cb_p) ?_)
    | (refine qav hM rfl rfl tyU rfl (by exact hat) (by first | exact pa_wx | exact pa_wy | exact pa_wz | exact pa_px | exact pa_py) ?_)
    | (refine qae hM rfl rfl tyW rfl rfl (by exact hau) rfl rfl (oneW _ _ _ _) ?_;clear hM;intro w' hM)
    | (refine qad hM rfl rfl qh0 (al:=[]) (pzero _) rfl ?_;clear hM;intro w' hM)
    | (refine qad hM rfl rfl qgj (al:=[.agg (ptC 0 0 true)]) (qi9 0 0 true _) rfl ?_;clear hM;intro w' hM))
   refine res_c hM rfl tyW rfl (by exact hat) rfl rfl ?_
   exact ⟨rfl,hM.below⟩
  ·have e0:twiceP ⟨x,y,false,z⟩=twiceV x y z:=by unfold twiceP;simp [h0]
   rw [e0]
   clear e0
   have heq:∀ W:World,(Op.equalIn 10000 24 (.agg (uC y)) (.agg #[.int .u64 0,.int .u64 0,.int .u64 0,.int .u64 0])).run Tryz.prog W=.ok false W:=fun W=>by
    rw [eqNZ y l_y W,decide_eq_false h0]
   have c_yy:=pmul y y l_y l_y
   obtain ⟨yy,e_yy⟩:∃ n,mP y y=n:=⟨_,rfl⟩
   have l_yy:yy < two256:=by rw [← e_yy];exact mP_lt _ _
   simp only [e_yy] at c_yy
   have E_yy:=qh e_yy
   clear e_yy
   have c_s0:=pmul x yy l_x l_yy
   obtain ⟨s0,e_s0⟩:∃ n,mP x yy=n:=⟨_,rfl⟩
   have l_s0:s0 < two256:=by rw [← e_s0];exact mP_lt _ _
   simp only [e_s0] at c_s0
   have E_s0:=qh e_s0
   clear e_s0
   have c_s1:=padd s0 s0 l_s0 l_s0
   obtain ⟨s1,e_s1⟩:∃ n,aP s0 s0=n:=⟨_,rfl⟩
   have l_s1:s1 < two256:=by rw [← e_s1];exact aP_lt _ _
   simp only [e_s1] at c_s1
   have E_s1:=qh e_s1
   clear e_s1
   have c_s:=padd s1 s1 l_s1 l_s1
   obtain ⟨s,e_s⟩:∃ n,aP s1 s1=n:=⟨_,rfl⟩
   have l_s:s < two256:=by rw [← e_s];exact aP_lt _ _
   simp only [e_s] at c_s
   have E_s:=qh e_s
   clear e_s
   have c_xx:=pmul x x l_x l_x
   obtain ⟨xx,e_xx⟩:∃ n,mP x x=n:=⟨_,rfl⟩
   have l_xx:xx < two256:=by rw [← e_xx];exact mP_lt _ _
   simp only [e_xx] at c_xx
   have E_xx:=qh e_xx
   clear e_xx
   have c_m1:=padd xx xx l_xx l_xx
   obtain ⟨m1,e_m1⟩:∃ n,aP xx xx=n:=⟨_,rfl⟩
   have l_m1:m1 < two256:=by rw [← e_m1];exact aP_lt _ _
   simp only [e_m1] at c_m1
   have E_m1:=qh e_m1
   clear e_m1
   have c_m:=padd m1 xx l_m1 l_xx
   obtain ⟨m,e_m⟩:∃ n,aP m1 xx=n:=⟨_,rfl⟩
   have l_m:m < two256:=by rw [← e_m];exact aP_lt _ _
   simp only [e_m] at c_m
   have E_m:=qh e_m
   clear e_m
   have c_mm:=pmul m m l_m l_m
   obtain ⟨mm,e_mm⟩:∃ n,mP m m=n:=⟨_,rfl⟩
   have l_mm:mm < two256:=by rw [← e_mm];exact mP_lt _ _
   simp only [e_mm] at c_mm
   have E_mm:=qh e_mm
   clear e_mm
   have c_ss:=padd s s l_s l_s
   obtain ⟨ss,e_ss⟩:∃ n,aP s s=n:=⟨_,rfl⟩
   have l_ss:ss < two256:=by rw [← e_ss];exact aP_lt _ _
   simp only [e_ss] at c_ss
   have E_ss:=qh e_ss
   clear e_ss
   have c_x3:=psub mm ss l_mm l_ss
   obtain ⟨x3,e_x3⟩:∃ n,sP mm ss=n:=⟨_,rfl⟩
   have l_x3:x3 < two256:=by rw [← e_x3];exact sP_lt _ _
   simp only [e_x3] at c_x3
   have E_x3:=qh e_x3
   clear e_x3
   have c_q0:=pmul yy yy l_yy l_yy
   obtain ⟨q0,e_q0⟩:∃ n,mP yy yy=n:=⟨_,rfl⟩
   have l_q0:q0 < two256:=by rw [← e_q0];exact mP_lt _ _
   simp only [e_q0] at c_q0
   have E_q0:=qh e_q0
   clear e_q0
   have c_q1:=padd q0 q0 l_q0 l_q0
   obtain ⟨q1,e_q1⟩:∃ n,aP q0 q0=n:=⟨_,rfl⟩
   have l_q1:q1 < two256:=by rw [← e_q1];exact aP_lt _ _
   simp only [e_q1] at c_q1
   have E_q1:=qh e_q1
   clear e_q1
   have c_q2:=padd q1 q1 l_q1 l_q1
   obtain ⟨q2,e_q2⟩:∃ n,aP q1 q1=n:=⟨_,rfl⟩
   have l_q2:q2 < two256:=by rw [← e_q2];exact aP_lt _ _
   simp only [e_q2] at c_q2
   have E_q2:=qh e_q2
   clear e_q2
   have c_q3:=padd q2 q2 l_q2 l_q2
   obtain ⟨q3,e_q3⟩:∃ n,aP q2 q2=n:=⟨_,rfl⟩
   have l_q3:q3 < two256:=by rw [← e_q3];exact aP_lt _ _
   simp only [e_q3] at c_q3
   have E_q3:=qh e_q3
   clear e_q3
   have c_yz:=pmul y z l_y l_z
   obtain ⟨yz,e_yz⟩:∃ n,mP y z=n:=⟨_,rfl⟩
   have l_yz:yz < two256:=by rw [← e_yz];exact mP_lt _ _
   simp only [e_yz] at c_yz
   have E_yz:=qh e_yz
   clear e_yz
   have c_d:=psub s x3 l_s l_x3
   obtain ⟨d,e_d⟩:∃ n,sP s x3=n:=⟨_,rfl⟩
   have l_d:d < two256:=by rw [← e_d];exact sP_lt _ _
   simp only [e_d] at c_d
   have E_d:=qh e_d
   clear e_d
   have c_e:=pmul m d l_m l_d
   obtain ⟨e,e_e⟩:∃ n,mP m d=n:=⟨_,rfl⟩
   have l_e:e < two256:=by rw [← e_e];exact mP_lt _ _
   simp only [e_e] at c_e
   have E_e:=qh e_e
   clear e_e
   have c_y3:=psub e q3 l_e l_q3
   obtain ⟨y3,e_y3⟩:∃ n,sP e q3=n:=⟨_,rfl⟩
   have l_y3:y3 < two256:=by rw [← e_y3];exact sP_lt _ _
   simp only [e_y3] at c_y3
   have E_y3:=qh e_y3
   clear e_y3
   have c_z3:=padd yz yz l_yz l_yz
   obtain ⟨z3,e_z3⟩:∃ n,aP yz yz=n:=⟨_,rfl⟩
   have l_z3:z3 < two256:=by rw [← e_z3];exact aP_lt _ _
   simp only [e_z3] at c_z3
   have E_z3:=qh e_z3
   clear e_z3
   have HF:Hid (wdA (twiceV x y z)=wdC x3 y3 false z3):=qh (by
    have e_yy:=E_yy.out
    have e_s0:=E_s0.out
    have e_s1:=E_s1.out
    have e_s:=E_s.out
    have e_xx:=E_xx.out
    have e_m1:=E_m1.out
    have e_m:=E_m.out
    have e_mm:=E_mm.out
    have e_ss:=E_ss.out
    have e_x3:=E_x3.out
    have e_q0:=E_q0.out
    have e_q1:=E_q1.out
    have e_q2:=E_q2.out
    have e_q3:=E_q3.out
    have e_yz:=E_yz.out
    have e_d:=E_d.out
    have e_e:=E_e.out
    have e_y3:=E_y3.out
    have e_z3:=E_z3.out
    subst e_z3 e_y3 e_e e_d e_yz e_q3 e_q2 e_q1 e_q0 e_x3 e_ss e_mm e_m e_m1 e_xx e_s e_s1 e_s0 e_yy
    rfl)
   rw [HF.out]
   have hM:=Mem.nil w
   go_enter Tryz.func235,Tryz.ntmps235
   go_wp2_with (first
    | (refine qam 1 rfl hM rfl rfl rfl (boxW _ _ _ _ _) ?_;clear hM;intro w' g1 hM)
    | (refine qaj 2 rfl hM rfl (runW rfl) ?_;clear hM;intro w' g2 hM)
    | (refine qaj 3 rfl hM rfl (runN rfl) ?_;clear hM;intro w' g3 hM)
    | (refine qaj 4 rfl hM rfl (runN rfl) ?_;clear hM;intro w' g4 hM)
    | (refine qaj 5 rfl hM rfl (runN rfl) ?_;clear hM;intro w' g5 hM)
    | (refine qaj 6 rfl hM rfl (runN rfl) ?_;clear hM;intro w' g6 hM)
    | (refine qaj 7 rfl hM rfl (runN rfl) ?_;clear hM;intro w' g7 hM)
    | (refine qaj 8 rfl hM rfl (runN rfl) ?_;clear hM;intro w' g8 hM)
    | (refine qaj 9 rfl hM rfl (runN rfl) ?_;clear hM;intro w' g9 hM)
    | (refine qaf hM rfl rfl Tryz.isAgg4 rfl (by exact hat) (by first | exact cb_w | exact cb_p) ?_)
    | (refine qav hM rfl rfl tyU rfl (by exact hat) (by first | exact pa_wx | exact pa_wy | exact pa_wz | exact pa_px | exact pa_py) ?_)
    | (refine qai hM rfl rfl tyU rfl (by exact hat) rfl ?_)
    | (refine qae hM rfl rfl tyU rfl rfl (by exact hau) rfl rfl (oneN _) ?_;clear hM;intro w' hM)
    | (refine qae hM rfl rfl tyW rfl rfl (by exact hau) rfl rfl (oneW _ _ _ _) ?_;clear hM;intro w' hM)
    | (refine qar rfl rfl (qbr _ _) rfl rfl ?_)
    | (refine qar rfl rfl (qcg _ _ _ _) rfl rfl ?_)
    | (refine qad hM rfl rfl qaw (al:=[.agg (uC y),.agg (uC y)]) (c_yy _) rfl ?_;clear hM;intro w' hM)
    | (refine qad hM rfl rfl qaw (al:=[.agg (uC x),.agg (uC yy)]) (c_s0 _) rfl ?_;clear hM;intro w' hM)
    | (refine qad hM rfl rfl qa1 (al:=[.agg (uC s0),.agg (uC s0)]) (c_s1 _) rfl ?_;clear hM;intro w' hM)
    | (refine qad hM rfl rfl qa1 (al:=[.agg (uC s1),.agg (uC s1)]) (c_s _) rfl ?_;clear hM;intro w' hM)
    | (refine qad hM rfl rfl qaw (al:=[.agg (uC x),.agg (uC x)]) (c_xx _) rfl ?_;clear hM;intro w' hM)
    | (refine qad hM rfl rfl qa1 (al:=[.agg (uC xx),.agg (uC xx)]) (c_m1 _) rfl ?_;clear hM;intro w' hM)
    | (refine qad hM rfl rfl qa1 (al:=[.agg (uC m1),.agg (uC xx)]) (c_m _) rfl ?_;clear hM;intro w' hM)
    | (refine qad hM rfl rfl qaw (al:=[.agg (uC m),.agg (uC m)]) (c_mm _) rfl ?_;clear hM;intro w' hM)
    | (refine qad hM rfl rfl qa1 (al:=[.agg (uC s),.agg (uC s)]) (c_ss _) rfl ?_;clear hM;intro w' hM)
    | (refine qad hM rfl rfl qbu (al:=[.agg (uC mm),.agg (uC ss)]) (c_x3 _) rfl ?_;clear hM;intro w' hM)
    | (refine qad hM rfl rfl qaw (al:=[.agg (uC yy),.agg (uC yy)]) (c_q0 _) rfl ?_;clear hM;intro w' hM)
    | (refine qad hM rfl rfl qa1 (al:=[.agg (uC q0),.agg (uC q0)]) (c_q1 _) rfl ?_;clear hM;intro w' hM)
    | (refine qad hM rfl rfl qa1 (al:=[.agg (uC q1),.agg (uC q1)]) (c_q2 _) rfl ?_;clear hM;intro w' hM)
    | (refine qad hM rfl rfl qa1 (al:=[.agg (uC q2),.agg (uC q2)]) (c_q3 _) rfl ?_;clear hM;intro w' hM)
    | (refine qad hM rfl rfl qaw (al:=[.agg (uC y),.agg (uC z)]) (c_yz _) rfl ?_;clear hM;intro w' hM)
    | (refine qad hM rfl rfl qbu (al:=[.agg (uC s),.agg (uC x3)]) (c_d _) rfl ?_;clear hM;intro w' hM)
    | (refine qad hM rfl rfl qaw (al:=[.agg (uC m),.agg (uC d)]) (c_e _) rfl ?_;clear hM;intro w' hM)
    | (refine qad hM rfl rfl qbu (al:=[.agg (uC e),.agg (uC q3)]) (c_y3 _) rfl ?_;clear hM;intro w' hM)
    | (refine qad hM rfl rfl qa1 (al:=[.agg (uC yz),.agg (uC yz)]) (c_z3 _) rfl ?_;clear hM;intro w' hM))
   refine qau 7 hM qbc [.agg (uC s0),.agg (uC s0),.agg (uC s1),.agg (uC s0),.agg (uC s0),.agg (uC s1),.agg (uC s)] [] (b:=?b1) ?hb rfl (by kernel_rfl) ?hgo ?hfin
   case hb=>simp only [putAll,Act.put,List.setIfInBounds_toArray,List.set_cons_zero,List.set_cons_succ];rfl
   case hgo =>
    refine GoAll.v (.agg (uC s0)) (qap tyU at0) ?_
    refine GoAll.v (.agg (uC s0)) (qap tyU at0) ?_
    refine GoAll.v (.agg (uC s1)) (qao (al:=[.agg (uC s0),.agg (uC s0)]) c_s1 qa1) ?_
    refine GoAll.v (.agg (uC s0)) (qap tyU at0) ?_
    refine GoAll.v (.agg (uC s0)) (qap tyU at0) ?_
    refine GoAll.v (.agg (uC s1)) (qao (al:=[.agg (uC s0),.agg (uC s0)]) c_s1 qa1) ?_
    refine GoAll.v (.agg (uC s)) (qao (al:=[.agg (uC s1),.agg (uC s1)]) c_s qa1) ?_
    exact GoAll.nil
   case hfin =>
    clear hM;intro w' G hM
    simp only [putLays,List.drop_succ_cons,List.drop_zero,List.map_nil,List.map_cons,List.nil_append,List.cons_append] at hM ⊢
    go_wp2_with (first
     | (refine qam 1 rfl hM rfl rfl rfl (boxW _ _ _ _ _) ?_;clear hM;intro w' g1 hM)
     | (refine qaj 2 rfl hM rfl (runW rfl) ?_;clear hM;intro w' g2 hM)
     | (refine qaj 3 rfl hM rfl (runN rfl) ?_;clear hM;intro w' g3 hM)
     | (refine qaj 4 rfl hM rfl (runN rfl) ?_;clear hM;intro w' g4 hM)
     | (refine qaj 5 rfl hM rfl (runN rfl) ?_;clear hM;intro w' g5 hM)
     | (refine qaj 6 rfl hM rfl (runN rfl) ?_;clear hM;intro w' g6 hM)
     | (refine qaj 7 rfl hM rfl (runN rfl) ?_;clear hM;intro w' g7 hM)
     | (refine qaj 8 rfl hM rfl (runN rfl) ?_;clear hM;intro w' g8 hM)
     | (refine qaj 9 rfl hM rfl (runN rfl) ?_;clear hM;intro w' g9 hM)
     | (refine qaf hM rfl rfl Tryz.isAgg4 rfl (by exact hat) (by first | exact cb_w | exact cb_p) ?_)
     | (refine qav hM rfl rfl tyU rfl (by exact hat) (by first | exact pa_wx | exact pa_wy | exact pa_wz | exact pa_px | exact pa_py) ?_)
     | (refine qai hM rfl rfl tyU rfl (by exact hat) rfl ?_)
     | (refine qae hM rfl rfl tyU rfl rfl (by exact hau) rfl rfl (oneN _) ?_;clear hM;intro w' hM)
     | (refine qae hM rfl rfl tyW rfl rfl (by exact hau) rfl rfl (oneW _ _ _ _) ?_;clear hM;intro w' hM)
     | (refine qar rfl rfl (qbr _ _) rfl rfl ?_)
     | (refine qar rfl rfl (qcg _ _ _ _) rfl rfl ?_)
     | (refine qad hM rfl rfl qaw (al:=[.agg (uC y),.agg (uC y)]) (c_yy _) rfl ?_;clear hM;intro w' hM)
     | (refine qad hM rfl rfl qaw (al:=[.agg (uC x),.agg (uC yy)]) (c_s0 _) rfl ?_;clear hM;intro w' hM)
     | (refine qad hM rfl rfl qa1 (al:=[.agg (uC s0),.agg (uC s0)]) (c_s1 _) rfl ?_;clear hM;intro w' hM)
     | (refine qad hM rfl rfl qa1 (al:=[.agg (uC s1),.agg (uC s1)]) (c_s _) rfl ?_;clear hM;intro w' hM)
     | (refine qad hM rfl rfl qaw (al:=[.agg (uC x),.agg (uC x)]) (c_xx _) rfl ?_;clear hM;intro w' hM)
     | (refine qad hM rfl rfl qa1 (al:=[.agg (uC xx),.agg (uC xx)]) (c_m1 _) rfl ?_;clear hM;intro w' hM)
     | (refine qad hM rfl rfl qa1 (al:=[.agg (uC m1),.agg (uC xx)]) (c_m _) rfl ?_;clear hM;intro w' hM)
     | (refine qad hM rfl rfl qaw (al:=[.agg (uC m),.agg (uC m)]) (c_mm _) rfl ?_;clear hM;intro w' hM)
     | (refine qad hM rfl rfl qa1 (al:=[.agg (uC s),.agg (uC s)]) (c_ss _) rfl ?_;clear hM;intro w' hM)
     | (refine qad hM rfl rfl qbu (al:=[.agg (uC mm),.agg (uC ss)]) (c_x3 _) rfl ?_;clear hM;intro w' hM)
     | (refine qad hM rfl rfl qaw (al:=[.agg (uC yy),.agg (uC yy)]) (c_q0 _) rfl ?_;clear hM;intro w' hM)
     | (refine qad hM rfl rfl qa1 (al:=[.agg (uC q0),.agg (uC q0)]) (c_q1 _) rfl ?_;clear hM;intro w' hM)
     | (refine qad hM rfl rfl qa1 (al:=[.agg (uC q1),.agg (uC q1)]) (c_q2 _) rfl ?_;clear hM;intro w' hM)
     | (refine qad hM rfl rfl qa1 (al:=[.agg (uC q2),.agg (uC q2)]) (c_q3 _) rfl ?_;clear hM;intro w' hM)
     | (refine qad hM rfl rfl qaw (al:=[.agg (uC y),.agg (uC z)]) (c_yz _) rfl ?_;clear hM;intro w' hM)
     | (refine qad hM rfl rfl qbu (al:=[.agg (uC s),.agg (uC x3)]) (c_d _) rfl ?_;clear hM;intro w' hM)
     | (refine qad hM rfl rfl qaw (al:=[.agg (uC m),.agg (uC d)]) (c_e _) rfl ?_;clear hM;intro w' hM)
     | (refine qad hM rfl rfl qbu (al:=[.agg (uC e),.agg (uC q3)]) (c_y3 _) rfl ?_;clear hM;intro w' hM)
     | (refine qad hM rfl rfl qa1 (al:=[.agg (uC yz),.agg (uC yz)]) (c_z3 _) rfl ?_;clear hM;intro w' hM))
    refine qau 6 hM qbc [.agg (uC xx),.agg (uC xx),.agg (uC m1),.agg (uC xx),.agg (uC m),undef] [⟨5,6,uC 0,24⟩] (b:=?b2) ?hb rfl (by kernel_rfl) ?hgo ?hfin
    case hb=>simp only [putAll,Act.put,List.setIfInBounds_toArray,List.set_cons_zero,List.set_cons_succ];rfl
    case hgo =>
     refine GoAll.v (.agg (uC xx)) (qap tyU at0) ?_
     refine GoAll.v (.agg (uC xx)) (qap tyU at0) ?_
     refine GoAll.v (.agg (uC m1)) (qao (al:=[.agg (uC xx),.agg (uC xx)]) c_m1 qa1) ?_
     refine GoAll.v (.agg (uC xx)) (qap tyU at0) ?_
     refine GoAll.v (.agg (uC m)) (qao (al:=[.agg (uC m1),.agg (uC xx)]) c_m qa1) ?_
     refine GoAll.l (k:=0) rfl ⟨rfl,fun ρ w=>runN rfl ρ w⟩ ?_
     exact GoAll.nil
    case hfin =>
     clear hM;intro w' G hM
     simp only [putLays,List.drop_succ_cons,List.drop_zero,List.map_nil,List.map_cons,List.nil_append,List.cons_append,Act.put,List.setIfInBounds_toArray,List.set_cons_zero,List.set_cons_succ] at hM ⊢
     generalize G 5=g6 at hM ⊢
     go_wp2_with (first
      | (refine qam 1 rfl hM rfl rfl rfl (boxW _ _ _ _ _) ?_;clear hM;intro w' g1 hM)
      | (refine qaj 2 rfl hM rfl (runW rfl) ?_;clear hM;intro w' g2 hM)
      | (refine qaj 3 rfl hM rfl (runN rfl) ?_;clear hM;intro w' g3 hM)
      | (refine qaj 4 rfl hM rfl (runN rfl) ?_;clear hM;intro w' g4 hM)
      | (refine qaj 5 rfl hM rfl (runN rfl) ?_;clear hM;intro w' g5 hM)
      | (refine qaj 6 rfl hM rfl (runN rfl) ?_;clear hM;intro w' g6 hM)
      | (refine qaj 7 rfl hM rfl (runN rfl) ?_;clear hM;intro w' g7 hM)
      | (refine qaj 8 rfl hM rfl (runN rfl) ?_;clear hM;intro w' g8 hM)
      | (refine qaj 9 rfl hM rfl (runN rfl) ?_;clear hM;intro w' g9 hM)
      | (refine qaf hM rfl rfl Tryz.isAgg4 rfl (by exact hat) (by first | exact cb_w | exact cb_p) ?_)
      | (refine qav hM rfl rfl tyU rfl (by exact hat) (by first | exact pa_wx | exact pa_wy | exact pa_wz | exact pa_px | exact pa_py) ?_)
      | (refine qai hM rfl rfl tyU rfl (by exact hat) rfl ?_)
      | (refine qae hM rfl rfl tyU rfl rfl (by exact hau) rfl rfl (oneN _) ?_;clear hM;intro w' hM)
      | (refine qae hM rfl rfl tyW rfl rfl (by exact hau) rfl rfl (oneW _ _ _ _) ?_;clear hM;intro w' hM)
      | (refine qar rfl rfl (qbr _ _) rfl rfl ?_)
      | (refine qar rfl rfl (qcg _ _ _ _) rfl rfl ?_)
      | (refine qad hM rfl rfl qaw (al:=[.agg (uC y),.agg (uC y)]) (c_yy _) rfl ?_;clear hM;intro w' hM)
      | (refine qad hM rfl rfl qaw (al:=[.agg (uC x),.agg (uC yy)]) (c_s0 _) rfl ?_;clear hM;intro w' hM)
      | (refine qad hM rfl rfl qa1 (al:=[.agg (uC s0),.agg (uC s0)]) (c_s1 _) rfl ?_;clear hM;intro w' hM)
      | (refine qad hM rfl rfl qa1 (al:=[.agg (uC s1),.agg (uC s1)]) (c_s _) rfl ?_;clear hM;intro w' hM)
      | (refine qad hM rfl rfl qaw (al:=[.agg (uC x),.agg (uC x)]) (c_xx _) rfl ?_;clear hM;intro w' hM)
      | (refine qad hM rfl rfl qa1 (al:=[.agg (uC xx),.agg (uC xx)]) (c_m1 _) rfl ?_;clear hM;intro w' hM)
      | (refine qad hM rfl rfl qa1 (al:=[.agg (uC m1),.agg (uC xx)]) (c_m _) rfl ?_;clear hM;intro w' hM)
      | (refine qad hM rfl rfl qaw (al:=[.agg (uC m),.agg (uC m)]) (c_mm _) rfl ?_;clear hM;intro w' hM)
      | (refine qad hM rfl rfl qa1 (al:=[.agg (uC s),.agg (uC s)]) (c_ss _) rfl ?_;clear hM;intro w' hM)
      | (refine qad hM rfl rfl qbu (al:=[.agg (uC mm),.agg (uC ss)]) (c_x3 _) rfl ?_;clear hM;intro w' hM)
      | (refine qad hM rfl rfl qaw (al:=[.agg (uC yy),.agg (uC yy)]) (c_q0 _) rfl ?_;clear hM;intro w' hM)
      | (refine qad hM rfl rfl qa1 (al:=[.agg (uC q0),.agg (uC q0)]) (c_q1 _) rfl ?_;clear hM;intro w' hM)
      | (refine qad hM rfl rfl qa1 (al:=[.agg (uC q1),.agg (uC q1)]) (c_q2 _) rfl ?_;clear hM;intro w' hM)
      | (refine qad hM rfl rfl qa1 (al:=[.agg (uC q2),.agg (uC q2)]) (c_q3 _) rfl ?_;clear hM;intro w' hM)
      | (refine qad hM rfl rfl qaw (al:=[.agg (uC y),.agg (uC z)]) (c_yz _) rfl ?_;clear hM;intro w' hM)
      | (refine qad hM rfl rfl qbu (al:=[.agg (uC s),.agg (uC x3)]) (c_d _) rfl ?_;clear hM;intro w' hM)
      | (refine qad hM rfl rfl qaw (al:=[.agg (uC m),.agg (uC d)]) (c_e _) rfl ?_;clear hM;intro w' hM)
      | (refine qad hM rfl rfl qbu (al:=[.agg (uC e),.agg (uC q3)]) (c_y3 _) rfl ?_;clear hM;intro w' hM)
      | (refine qad hM rfl rfl qa1 (al:=[.agg (uC yz),.agg (uC yz)]) (c_z3 _) rfl ?_;clear hM;intro w' hM))
     refine qau 8 hM qbc [.agg (uC m),.agg (uC m),.agg (uC mm),.agg (uC s),.agg (uC s),.agg (uC ss),.agg (uC x3),undef] [⟨7,7,uC 0,24⟩] (b:=?b3) ?hb rfl (by kernel_rfl) ?hgo ?hfin
     case hb=>simp only [putAll,Act.put,List.setIfInBounds_toArray,List.set_cons_zero,List.set_cons_succ];rfl
     case hgo =>
      refine GoAll.v (.agg (uC m)) (qap tyU at0) ?_
      refine GoAll.v (.agg (uC m)) (qap tyU at0) ?_
      refine GoAll.v (.agg (uC mm)) (qao (al:=[.agg (uC m),.agg (uC m)]) c_mm qaw) ?_
      refine GoAll.v (.agg (uC s)) (qap tyU at2) ?_
      refine GoAll.v (.agg (uC s)) (qap tyU at2) ?_
      refine GoAll.v (.agg (uC ss)) (qao (al:=[.agg (uC s),.agg (uC s)]) c_ss qa1) ?_
      refine GoAll.v (.agg (uC x3)) (qao (al:=[.agg (uC mm),.agg (uC ss)]) c_x3 qbu) ?_
      refine GoAll.l (k:=0) rfl ⟨rfl,fun ρ w=>runN rfl ρ w⟩ ?_
      exact GoAll.nil
     case hfin =>
      clear hM;intro w' G hM
      simp only [putLays,List.drop_succ_cons,List.drop_zero,List.map_nil,List.map_cons,List.nil_append,List.cons_append,Act.put,List.setIfInBounds_toArray,List.set_cons_zero,List.set_cons_succ] at hM ⊢
      generalize G 7=g7 at hM ⊢
      go_wp2_with (first
       | (refine qam 1 rfl hM rfl rfl rfl (boxW _ _ _ _ _) ?_;clear hM;intro w' g1 hM)
       | (refine qaj 2 rfl hM rfl (runW rfl) ?_;clear hM;intro w' g2 hM)
       | (refine qaj 3 rfl hM rfl (runN rfl) ?_;clear hM;intro w' g3 hM)
       | (refine qaj 4 rfl hM rfl (runN rfl) ?_;clear hM;intro w' g4 hM)
       | (refine qaj 5 rfl hM rfl (runN rfl) ?_;clear hM;intro w' g5 hM)
       | (refine qaj 6 rfl hM rfl (runN rfl) ?_;clear hM;intro w' g6 hM)
       | (refine qaj 7 rfl hM rfl (runN rfl) ?_;clear hM;intro w' g7 hM)
       | (refine qaj 8 rfl hM rfl (runN rfl) ?_;clear hM;intro w' g8 hM)
       | (refine qaj 9 rfl hM rfl (runN rfl) ?_;clear hM;intro w' g9 hM)
       | (refine qaf hM rfl rfl Tryz.isAgg4 rfl (by exact hat) (by first | exact cb_w | exact cb_p) ?_)
       | (refine qav hM rfl rfl tyU rfl (by exact hat) (by first | exact pa_wx | exact pa_wy | exact pa_wz | exact pa_px | exact pa_py) ?_)
       | (refine qai hM rfl rfl tyU rfl (by exact hat) rfl ?_)
       | (refine qae hM rfl rfl tyU rfl rfl (by exact hau) rfl rfl (oneN _) ?_;clear hM;intro w' hM)
       | (refine qae hM rfl rfl tyW rfl rfl (by exact hau) rfl rfl (oneW _ _ _ _) ?_;clear hM;intro w' hM)
       | (refine qar rfl rfl (qbr _ _) rfl rfl ?_)
       | (refine qar rfl rfl (qcg _ _ _ _) rfl rfl ?_)
       | (refine qad hM rfl rfl qaw (al:=[.agg (uC y),.agg (uC y)]) (c_yy _) rfl ?_;clear hM;intro w' hM)
       | (refine qad hM rfl rfl qaw (al:=[.agg (uC x),.agg (uC yy)]) (c_s0 _) rfl ?_;clear hM;intro w' hM)
       | (refine qad hM rfl rfl qa1 (al:=[.agg (uC s0),.agg (uC s0)]) (c_s1 _) rfl ?_;clear hM;intro w' hM)
       | (refine qad hM rfl rfl qa1 (al:=[.agg (uC s1),.agg (uC s1)]) (c_s _) rfl ?_;clear hM;intro w' hM)
       | (refine qad hM rfl rfl qaw (al:=[.agg (uC x),.agg (uC x)]) (c_xx _) rfl ?_;clear hM;intro w' hM)
       | (refine qad hM rfl rfl qa1 (al:=[.agg (uC xx),.agg (uC xx)]) (c_m1 _) rfl ?_;clear hM;intro w' hM)
       | (refine qad hM rfl rfl qa1 (al:=[.agg (uC m1),.agg (uC xx)]) (c_m _) rfl ?_;clear hM;intro w' hM)
       | (refine qad hM rfl rfl qaw (al:=[.agg (uC m),.agg (uC m)]) (c_mm _) rfl ?_;clear hM;intro w' hM)
       | (refine qad hM rfl rfl qa1 (al:=[.agg (uC s),.agg (uC s)]) (c_ss _) rfl ?_;clear hM;intro w' hM)
       | (refine qad hM rfl rfl qbu (al:=[.agg (uC mm),.agg (uC ss)]) (c_x3 _) rfl ?_;clear hM;intro w' hM)
       | (refine qad hM rfl rfl qaw (al:=[.agg (uC yy),.agg (uC yy)]) (c_q0 _) rfl ?_;clear hM;intro w' hM)
       | (refine qad hM rfl rfl qa1 (al:=[.agg (uC q0),.agg (uC q0)]) (c_q1 _) rfl ?_;clear hM;intro w' hM)
       | (refine qad hM rfl rfl qa1 (al:=[.agg (uC q1),.agg (uC q1)]) (c_q2 _) rfl ?_;clear hM;intro w' hM)
       | (refine qad hM rfl rfl qa1 (al:=[.agg (uC q2),.agg (uC q2)]) (c_q3 _) rfl ?_;clear hM;intro w' hM)
       | (refine qad hM rfl rfl qaw (al:=[.agg (uC y),.agg (uC z)]) (c_yz _) rfl ?_;clear hM;intro w' hM)
       | (refine qad hM rfl rfl qbu (al:=[.agg (uC s),.agg (uC x3)]) (c_d _) rfl ?_;clear hM;intro w' hM)
       | (refine qad hM rfl rfl qaw (al:=[.agg (uC m),.agg (uC d)]) (c_e _) rfl ?_;clear hM;intro w' hM)
       | (refine qad hM rfl rfl qbu (al:=[.agg (uC e),.agg (uC q3)]) (c_y3 _) rfl ?_;clear hM;intro w' hM)
       | (refine qad hM rfl rfl qa1 (al:=[.agg (uC yz),.agg (uC yz)]) (c_z3 _) rfl ?_;clear hM;intro w' hM))
      refine qau 13 hM qbc [.agg (uC x3),.agg (uC m),.agg (uC s),.agg (uC x3),.agg (uC d),.agg (uC e),.agg (uC q3),.agg (uC y3),.agg (ptC x3 y3 false),.agg (uC yz),.agg (uC yz),.agg (uC z3),.agg (wdC x3 y3 false z3)] [] (b:=?b4) ?hb rfl (by kernel_rfl) ?hgo ?hfin
      case hb=>simp only [putAll,Act.put,List.setIfInBounds_toArray,List.set_cons_zero,List.set_cons_succ];rfl
      case hgo =>
       refine GoAll.v (.agg (uC x3)) (qap tyU at2) ?_
       refine GoAll.v (.agg (uC m)) (qap tyU at3) ?_
       refine GoAll.v (.agg (uC s)) (qap tyU at5) ?_
       refine GoAll.v (.agg (uC x3)) (qap tyU at2) ?_
       refine GoAll.v (.agg (uC d)) (qao (al:=[.agg (uC s),.agg (uC x3)]) c_d qbu) ?_
       refine GoAll.v (.agg (uC e)) (qao (al:=[.agg (uC m),.agg (uC d)]) c_e qaw) ?_
       refine GoAll.v (.agg (uC q3)) (qap tyU at1) ?_
       refine GoAll.v (.agg (uC y3)) (qao (al:=[.agg (uC e),.agg (uC q3)]) c_y3 qbu) ?_
       refine GoAll.v (.agg (ptC x3 y3 false)) (qee (qbr x3 y3)) ?_
       refine GoAll.v (.agg (uC yz)) (qap tyU at0) ?_
       refine GoAll.v (.agg (uC yz)) (qap tyU at0) ?_
       refine GoAll.v (.agg (uC z3)) (qao (al:=[.agg (uC yz),.agg (uC yz)]) c_z3 qa1) ?_
       refine GoAll.v (.agg (wdC x3 y3 false z3)) (qee (qcg x3 y3 false z3)) ?_
       exact GoAll.nil
      case hfin =>
       clear hM;intro w' G hM
       simp only [putLays,List.drop_succ_cons,List.drop_zero,List.map_nil,List.map_cons,List.nil_append,List.cons_append] at hM ⊢
       go_wp2_with (first
        | (refine qam 1 rfl hM rfl rfl rfl (boxW _ _ _ _ _) ?_;clear hM;intro w' g1 hM)
        | (refine qaj 2 rfl hM rfl (runW rfl) ?_;clear hM;intro w' g2 hM)
        | (refine qaj 3 rfl hM rfl (runN rfl) ?_;clear hM;intro w' g3 hM)
        | (refine qaj 4 rfl hM rfl (runN rfl) ?_;clear hM;intro w' g4 hM)
        | (refine qaj 5 rfl hM rfl (runN rfl) ?_;clear hM;intro w' g5 hM)
        | (refine qaj 6 rfl hM rfl (runN rfl) ?_;clear hM;intro w' g6 hM)
        | (refine qaj 7 rfl hM rfl (runN rfl) ?_;clear hM;intro w' g7 hM)
        | (refine qaj 8 rfl hM rfl (runN rfl) ?_;clear hM;intro w' g8 hM)
        | (refine qaj 9 rfl hM rfl (runN rfl) ?_;clear hM;intro w' g9 hM)
        | (refine qaf hM rfl rfl Tryz.isAgg4 rfl (by exact hat) (by first | exact cb_w | exact cb_p) ?_)
        | (refine qav hM rfl rfl tyU rfl (by exact hat) (by first | exact pa_wx | exact pa_wy | exact pa_wz | exact pa_px | exact pa_py) ?_)
        | (refine qai hM rfl rfl tyU rfl (by exact hat) rfl ?_)
        | (refine qae hM rfl rfl tyU rfl rfl (by exact hau) rfl rfl (oneN _) ?_;clear hM;intro w' hM)
        | (refine qae hM rfl rfl tyW rfl rfl (by exact hau) rfl rfl (oneW _ _ _ _) ?_;clear hM;intro w' hM)
        | (refine qar rfl rfl (qbr _ _) rfl rfl ?_)
        | (refine qar rfl rfl (qcg _ _ _ _) rfl rfl ?_)
        | (refine qad hM rfl rfl qaw (al:=[.agg (uC y),.agg (uC y)]) (c_yy _) rfl ?_;clear hM;intro w' hM)
        | (refine qad hM rfl rfl qaw (al:=[.agg (uC x),.agg (uC yy)]) (c_s0 _) rfl ?_;clear hM;intro w' hM)
        | (refine qad hM rfl rfl qa1 (al:=[.agg (uC s0),.agg (uC s0)]) (c_s1 _) rfl ?_;clear hM;intro w' hM)
        | (refine qad hM rfl rfl qa1 (al:=[.agg (uC s1),.agg (uC s1)]) (c_s _) rfl ?_;clear hM;intro w' hM)
        | (refine qad hM rfl rfl qaw (al:=[.agg (uC x),.agg (uC x)]) (c_xx _) rfl ?_;clear hM;intro w' hM)
        | (refine qad hM rfl rfl qa1 (al:=[.agg (uC xx),.agg (uC xx)]) (c_m1 _) rfl ?_;clear hM;intro w' hM)
        | (refine qad hM rfl rfl qa1 (al:=[.agg (uC m1),.agg (uC xx)]) (c_m _) rfl ?_;clear hM;intro w' hM)
        | (refine qad hM rfl rfl qaw (al:=[.agg (uC m),.agg (uC m)]) (c_mm _) rfl ?_;clear hM;intro w' hM)
        | (refine qad hM rfl rfl qa1 (al:=[.agg (uC s),.agg (uC s)]) (c_ss _) rfl ?_;clear hM;intro w' hM)
        | (refine qad hM rfl rfl qbu (al:=[.agg (uC mm),.agg (uC ss)]) (c_x3 _) rfl ?_;clear hM;intro w' hM)
        | (refine qad hM rfl rfl qaw (al:=[.agg (uC yy),.agg (uC yy)]) (c_q0 _) rfl ?_;clear hM;intro w' hM)
        | (refine qad hM rfl rfl qa1 (al:=[.agg (uC q0),.agg (uC q0)]) (c_q1 _) rfl ?_;clear hM;intro w' hM)
        | (refine qad hM rfl rfl qa1 (al:=[.agg (uC q1),.agg (uC q1)]) (c_q2 _) rfl ?_;clear hM;intro w' hM)
        | (refine qad hM rfl rfl qa1 (al:=[.agg (uC q2),.agg (uC q2)]) (c_q3 _) rfl ?_;clear hM;intro w' hM)
        | (refine qad hM rfl rfl qaw (al:=[.agg (uC y),.agg (uC z)]) (c_yz _) rfl ?_;clear hM;intro w' hM)
        | (refine qad hM rfl rfl qbu (al:=[.agg (uC s),.agg (uC x3)]) (c_d _) rfl ?_;clear hM;intro w' hM)
        | (refine qad hM rfl rfl qaw (al:=[.agg (uC m),.agg (uC d)]) (c_e _) rfl ?_;clear hM;intro w' hM)
        | (refine qad hM rfl rfl qbu (al:=[.agg (uC e),.agg (uC q3)]) (c_y3 _) rfl ?_;clear hM;intro w' hM)
        | (refine qad hM rfl rfl qa1 (al:=[.agg (uC yz),.agg (uC yz)]) (c_z3 _) rfl ?_;clear hM;intro w' hM))
       refine res_c hM rfl tyW rfl (by exact hat) rfl rfl ?_
       exact ⟨rfl,hM.below⟩
end Go.Proofs.YteoednifdpdbnaaGreat
