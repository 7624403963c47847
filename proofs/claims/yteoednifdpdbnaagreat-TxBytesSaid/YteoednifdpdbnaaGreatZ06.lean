/- A transfer and a text as a law's arguments, opened. -/
import Derived.Test.YteoednifdpdbnaaGreatZ04
import Derived.Test.YteoednifdpdbnaaGreatZ03
import Derived.Test.YteoednifdpdbnaaGreatZ05
namespace Go.Proofs.YteoednifdpdbnaaGreat
set_option linter.unusedVariables false
set_option linter.unusedSimpArgs false
set_option maxRecDepth 100000
open Go.ChangeShapes Go.WideShapes Go.ChangeAt Go.RowKit
def sgLE (x:Sg):List Value:=[.int .u64 (x.r.a:Int),.int .u64 (x.r.b:Int),.int .u64 (x.r.c:Int),.int .u64 (x.r.d:Int),.int .u64 (x.s.a:Int),.int .u64 (x.s.b:Int),.int .u64 (x.s.c:Int),.int .u64 (x.s.d:Int),.int .i64 x.v]
theorem sgLE_ok (x:Sg):(sgLE x).length=9∧∀ u∈sgLE x,u.oneCell'=true:=⟨rfl,fun u hu=>by
 simp only [sgLE,List.mem_cons,List.not_mem_nil,or_false] at hu
 rcases hu with rfl | rfl | rfl | rfl | rfl | rfl | rfl | rfl | rfl <;> rfl⟩
def trLE (t:Tr):List Value:=[.string (bs t.to),.int .u64 (t.am:Int),.int .u64 (t.no:Int),.int .u64 (t.sg.r.a:Int),.int .u64 (t.sg.r.b:Int),.int .u64 (t.sg.r.c:Int),.int .u64 (t.sg.r.d:Int),.int .u64 (t.sg.s.a:Int),.int .u64 (t.sg.s.b:Int),.int .u64 (t.sg.s.c:Int),.int .u64 (t.sg.s.d:Int),.int .i64 t.sg.v]
theorem trLE_ok (t:Tr):(trLE t).length=12∧∀ u∈trLE t,u.oneCell'=true:=⟨rfl,fun u hu=>by
 simp only [trLE,List.mem_cons,List.not_mem_nil,or_false] at hu
 rcases hu with rfl | rfl | rfl | rfl | rfl | rfl | rfl | rfl | rfl | rfl | rfl | rfl <;> rfl⟩
theorem All3.consE {H:Type} {Q:D→DataW H→Prop} {qs:List (D→DataW H→Prop)} {us:List D} {vs:List (DataW H)} (h:All3 (Q :: qs) us vs):∃ a us1 b vs1,us=a :: us1∧vs=b :: vs1∧Q a b∧All3 qs us1 vs1:=by
 cases h with | cons h1 h2=>exact ⟨_,_,_,_,rfl,rfl,h1,h2⟩
theorem All3.nilE {H:Type} {us:List D} {vs:List (DataW H)} (h:All3 [] us vs):us = []∧vs = []:=by
 cases h;exact ⟨rfl,rfl⟩
theorem qro {n:Int} (h:(Lit.int .i64 n).wf=true):-9223372036854775808≤n∧n≤9223372036854775807:=by
 simpa [Lit.wf,IntKind.min,IntKind.max,IntKind.signed,IntKind.bits] using h
theorem qj5 {n:Int} (h:(Lit.int .u64 n).wf=true):∃ k:Nat,n=(k:Int)∧k < 18446744073709551616:=by
 have:0≤n∧n≤18446744073709551615:=by simpa [Lit.wf,IntKind.min,IntKind.max,IntKind.signed,IntKind.bits] using h
 exact ⟨n.toNat,by omega,by omega⟩
def uLE (x:U4):List Value:=[.int .u64 (x.a:Int),.int .u64 (x.b:Int),.int .u64 (x.c:Int),.int .u64 (x.d:Int)]
section
variable {H:Type} {enc:TypeId×Value→H} {W:World}
def IsUE (d:D) (x:DataW H):Prop:=∃ u:U4,u.Wf∧d=plD (uLE u)
def IsSgE (d:D) (x:DataW H):Prop:=∃ s:Sg,s.Wf∧d=plD (sgLE s)
def IsTrE (d:D) (x:DataW H):Prop:=∃ t:Tr,(t.Wf∧t.to.length≤9223372036854775807)∧d=plD (trLE t)
theorem qn3:Reads enc Tryz.prog W 24 4 IsUE:=fun fuel cs x h=>by
 obtain ⟨xs,m,_,_,hl,hx,hg⟩:=DataW.trod_array Tryz.underlying24 h
 rw [show Tryz.prog.cellsOf 24 = 4 by kernel_rfl] at hl
 rw [show Tryz.prog.cellsOf 22 = 1 by kernel_rfl] at hg
 refine ⟨hl,?_⟩
 match cs,hl with
 | [c0,c1,c2,c3],_ =>
  have g:∀ (i:Nat) (c:Value),i < 4→([c0,c1,c2,c3].drop (i * 1)).take 1 = [c]→∃ k:Nat,c=.int .u64 (k:Int)∧k < 18446744073709551616:=fun i c hi hci=>by
   have h1:=hg i hi
   rw [hci,List.getElem?_eq_getElem (by omega:i < xs.length)] at h1
   obtain ⟨n,e,_,hw⟩:=DataW.trod_int Tryz.underlying22 h1
   obtain ⟨k,rfl,hk⟩:=qj5 hw
   injection e with e _
   exact ⟨k,e,hk⟩
  obtain ⟨a,rfl,ha⟩:=g 0 c0 (by decide) rfl
  obtain ⟨b,rfl,hb⟩:=g 1 c1 (by decide) rfl
  obtain ⟨c,rfl,hc⟩:=g 2 c2 (by decide) rfl
  obtain ⟨d,rfl,hd⟩:=g 3 c3 (by decide) rfl
  refine ⟨plD (uLE ⟨a,b,c,d⟩),qkq (cs:=uLE ⟨a,b,c,d⟩) (fun u hu=>?_),⟨a,b,c,d⟩,⟨ha,hb,hc,hd⟩,rfl⟩
  simp only [uLE,List.mem_cons,List.not_mem_nil,or_false] at hu
  rcases hu with rfl | rfl | rfl | rfl <;> rfl
theorem qrr:Reads enc Tryz.prog W 26 9 IsSgE:=fun fuel cs x h=>by
 obtain ⟨hl,d,hr,ds,xs,rfl,_,h3⟩:=qg0 (qs:=[IsUE,IsUE,IsInt .i64]) (n:=9) Tryz.underlying26 (by kernel_rfl)
  (.cons rfl (by kernel_rfl) qn3 (.cons rfl (by kernel_rfl) qn3 (.cons rfl (by kernel_rfl) (qih Tryz.underlying3) .nil))) fuel cs x h
 obtain ⟨x1,ds1,y1,xs1,rfl,rfl,⟨r,w1,rfl⟩,k1⟩:=h3.consE
 obtain ⟨x2,ds2,y2,xs2,rfl,rfl,⟨s,w2,rfl⟩,k2⟩:=k1.consE
 obtain ⟨x3,ds3,y3,xs3,rfl,rfl,⟨v,rfl,_,w3⟩,k3⟩:=k2.consE
 obtain ⟨rfl,rfl⟩:=k3.nilE
 obtain ⟨c1,r1,e1,q1,hr1⟩:=hr.st_form.cons_form
 obtain ⟨c2,r2,e2,q2,hr2⟩:=hr1.cons_form
 obtain ⟨c3,r3,e3,q3,hr3⟩:=hr2.cons_form
 have e4:=hr3.nil_form
 have f1:=qe0 q1
 have f2:=qe0 q2
 have f3:=q3.v_form
 have hcs:cs=sgLE ⟨r,s,v⟩:=by rw [e1,e2,e3,e4,f1,f2,f3];rfl
 refine ⟨hl,plD (sgLE ⟨r,s,v⟩),?_,⟨r,s,v⟩,⟨w1,w2,(qro w3).1,(qro w3).2⟩,rfl⟩
 rw [hcs]
 exact qkq (sgLE_ok _).2
theorem qu1:Reads enc Tryz.prog W 28 12 IsTrE:=fun fuel cs x h=>by
 obtain ⟨hl,d,hr,ds,xs,rfl,_,h3⟩:=qg0 (qs:=[IsStr,IsInt .u64,IsInt .u64,IsSgE]) (n:=12) Tryz.underlying28 (by kernel_rfl)
  (.cons rfl (by kernel_rfl) (qub Tryz.underlying9) (.cons rfl (by kernel_rfl) (qih Tryz.underlying22) (.cons rfl (by kernel_rfl) (qih Tryz.underlying22) (.cons rfl (by kernel_rfl) qrr .nil)))) fuel cs x h
 obtain ⟨x1,ds1,y1,xs1,rfl,rfl,⟨s,rfl,_,w1⟩,k1⟩:=h3.consE
 obtain ⟨x2,ds2,y2,xs2,rfl,rfl,⟨n2,rfl,_,w2⟩,k2⟩:=k1.consE
 obtain ⟨x3,ds3,y3,xs3,rfl,rfl,⟨n3,rfl,_,w3⟩,k3⟩:=k2.consE
 obtain ⟨x4,ds4,y4,xs4,rfl,rfl,⟨g,w4,rfl⟩,k4⟩:=k3.consE
 obtain ⟨rfl,rfl⟩:=k4.nilE
 obtain ⟨am,rfl,ha⟩:=qj5 w2
 obtain ⟨no,rfl,hn⟩:=qj5 w3
 obtain ⟨c1,r1,e1,q1,hr1⟩:=hr.st_form.cons_form
 obtain ⟨c2,r2,e2,q2,hr2⟩:=hr1.cons_form
 obtain ⟨c3,r3,e3,q3,hr3⟩:=hr2.cons_form
 obtain ⟨c4,r4,e4,q4,hr4⟩:=hr3.cons_form
 have e5:=hr4.nil_form
 have f1:=q1.v_form
 have f2:=q2.v_form
 have f3:=q3.v_form
 have f4:=qe0 q4
 have hcs:cs=trLE ⟨s,am,no,g⟩:=by rw [e1,e2,e3,e4,e5,f1,f2,f3,f4];rfl
 refine ⟨hl,plD (trLE ⟨s,am,no,g⟩),?_,⟨s,am,no,g⟩,⟨⟨ha,hn,w4⟩,by simp only [maxLen] at w1;exact Nat.le_trans w1 (by omega)⟩,rfl⟩
 rw [hcs]
 exact qkq (trLE_ok _).2
theorem le63E {n:Nat} (h:n≤maxLen):n≤9223372036854775807:=by simp only [maxLen] at h;omega
theorem tr_argE {base:Nat} {v:Value} {d:DataW H} {p:List MemPlace} (hval:Value.okWide Tryz.prog W .any base 28 v)
  (h:DataW.Trod enc Tryz.prog W 0 (fun _=>true) true 28 v d p):∃ t:Tr,v=.agg (trLE t).toArray∧t.Wf∧t.to.length≤9223372036854775807:=by
 obtain ⟨vs,rfl,_⟩:=okWide_struct Tryz.underlying28 hval
 obtain ⟨fuel,h⟩:=h
 obtain ⟨_,d,hr,t,⟨hw,hl⟩,rfl⟩:=qu1 _ _ _ h
 refine ⟨t,?_,hw,hl⟩
 congr 1
 apply Array.toList_inj.1
 exact qe0 hr
end
end Go.Proofs.YteoednifdpdbnaaGreat
