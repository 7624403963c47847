/- A transfer and a text as a law's arguments, opened. -/
import Derived.Test.YteoednifdpdbnaaGreatZ05
import Derived.Test.YteoednifdpdbnaaGreatZ04
import Derived.Test.YteoednifdpdbnaaGreatZ06
namespace Go.Proofs.YteoednifdpdbnaaGreat
set_option linter.unusedVariables false
set_option linter.unusedSimpArgs false
set_option maxRecDepth 100000
open Go.ChangeShapes Go.WideShapes Go.ChangeAt Go.RowKit
def sgLE (x:Sg):List Value:=[.int .u64 (x.r.a:Int),.int .u64 (x.r.b:Int),.int .u64 (x.r.c:Int),.int .u64 (x.r.d:Int),.int .u64 (x.s.a:Int),.int .u64 (x.s.b:Int),.int .u64 (x.s.c:Int),.int .u64 (x.s.d:Int),.int .i64 x.v]
theorem sgLE_ok (x:Sg):(sgLE x).length=9∧∀ u∈sgLE x,u.oneCell'=true:=⟨rfl,fun u hu=>by
 simp only [sgLE,List.mem_cons,List.not_mem_nil,or_false] at hu
 rcases hu with rfl | rfl | rfl | rfl | rfl | rfl | rfl | rfl | rfl <;> rfl⟩
theorem All3.consE {H:Type} {Q:D→DataW H→Prop} {qs:List (D→DataW H→Prop)} {us:List D} {vs:List (DataW H)} (h:All3 (Q :: qs) us vs):∃ a us1 b vs1,us=a :: us1∧vs=b :: vs1∧Q a b∧All3 qs us1 vs1:=by
 cases h with | cons h1 h2=>exact ⟨_,_,_,_,rfl,rfl,h1,h2⟩
theorem All3.nilE {H:Type} {us:List D} {vs:List (DataW H)} (h:All3 [] us vs):us = []∧vs = []:=by
 cases h;exact ⟨rfl,rfl⟩
theorem qry {n:Int} (h:(Lit.int .i64 n).wf=true):-9223372036854775808≤n∧n≤9223372036854775807:=by
 simpa [Lit.wf,IntKind.min,IntKind.max,IntKind.signed,IntKind.bits] using h
theorem qfy {n:Int} (h:(Lit.int .u64 n).wf=true):∃ k:Nat,n=(k:Int)∧k < 18446744073709551616:=by
 have:0≤n∧n≤18446744073709551615:=by simpa [Lit.wf,IntKind.min,IntKind.max,IntKind.signed,IntKind.bits] using h
 exact ⟨n.toNat,by omega,by omega⟩
def uLE (x:U4):List Value:=[.int .u64 (x.a:Int),.int .u64 (x.b:Int),.int .u64 (x.c:Int),.int .u64 (x.d:Int)]
section
variable {H:Type} {enc:TypeId×Value→H} {W:World}
def IsUE (d:D) (x:DataW H):Prop:=∃ u:U4,u.Wf∧d=plD (uLE u)
def IsSgE (d:D) (x:DataW H):Prop:=∃ s:Sg,s.Wf∧d=plD (sgLE s)
theorem qno:Reads enc Tryz.prog W 24 4 IsUE:=fun fuel cs x h=>by
 obtain ⟨xs,m,_,_,hl,hx,hg⟩:=DataW.trod_array Tryz.underlying24 h
 rw [show Tryz.prog.cellsOf 24 = 4 by kernel_rfl] at hl
 rw [show Tryz.prog.cellsOf 22 = 1 by kernel_rfl] at hg
 refine ⟨hl,?_⟩
 match cs,hl with
 | [c0,c1,c2,c3],_ =>
  have g:∀ (i:Nat) (c:Value),i < 4→([c0,c1,c2,c3].drop (i * 1)).take 1 = [c]→∃ k:Nat,c=.int .u64 (k:Int)∧k < 18446744073709551616:=fun i c hi hci=>by
   have h1:=hg i hi
   rw [hci,List.getElem?_eq_getElem (by omega:i < xs.length)] at h1
   obtain ⟨n,e,_,hw⟩:=DataW.trod_int Tryz.underlying22 h1
   obtain ⟨k,rfl,hk⟩:=qfy hw
   injection e with e _
   exact ⟨k,e,hk⟩
  obtain ⟨a,rfl,ha⟩:=g 0 c0 (by decide) rfl
  obtain ⟨b,rfl,hb⟩:=g 1 c1 (by decide) rfl
  obtain ⟨c,rfl,hc⟩:=g 2 c2 (by decide) rfl
  obtain ⟨d,rfl,hd⟩:=g 3 c3 (by decide) rfl
  refine ⟨plD (uLE ⟨a,b,c,d⟩),qjz (cs:=uLE ⟨a,b,c,d⟩) (fun u hu=>?_),⟨a,b,c,d⟩,⟨ha,hb,hc,hd⟩,rfl⟩
  simp only [uLE,List.mem_cons,List.not_mem_nil,or_false] at hu
  rcases hu with rfl | rfl | rfl | rfl <;> rfl
theorem ql1:Reads enc Tryz.prog W 26 9 IsSgE:=fun fuel cs x h=>by
 obtain ⟨hl,d,hr,ds,xs,rfl,_,h3⟩:=qd6 (qs:=[IsUE,IsUE,IsInt .i64]) (n:=9) Tryz.underlying26 (by kernel_rfl)
  (.cons rfl (by kernel_rfl) qno (.cons rfl (by kernel_rfl) qno (.cons rfl (by kernel_rfl) (qd8 Tryz.underlying3) .nil))) fuel cs x h
 obtain ⟨x1,ds1,y1,xs1,rfl,rfl,⟨r,w1,rfl⟩,k1⟩:=h3.consE
 obtain ⟨x2,ds2,y2,xs2,rfl,rfl,⟨s,w2,rfl⟩,k2⟩:=k1.consE
 obtain ⟨x3,ds3,y3,xs3,rfl,rfl,⟨v,rfl,_,w3⟩,k3⟩:=k2.consE
 obtain ⟨rfl,rfl⟩:=k3.nilE
 obtain ⟨c1,r1,e1,q1,hr1⟩:=hr.st_form.cons_form
 obtain ⟨c2,r2,e2,q2,hr2⟩:=hr1.cons_form
 obtain ⟨c3,r3,e3,q3,hr3⟩:=hr2.cons_form
 have e4:=hr3.nil_form
 have f1:=qdo q1
 have f2:=qdo q2
 have f3:=q3.v_form
 have hcs:cs=sgLE ⟨r,s,v⟩:=by rw [e1,e2,e3,e4,f1,f2,f3];rfl
 refine ⟨hl,plD (sgLE ⟨r,s,v⟩),?_,⟨r,s,v⟩,⟨w1,w2,(qry w3).1,(qry w3).2⟩,rfl⟩
 rw [hcs]
 exact qjz (sgLE_ok _).2
theorem le63E {n:Nat} (h:n≤maxLen):n≤9223372036854775807:=by simp only [maxLen] at h;omega
end
end Go.Proofs.YteoednifdpdbnaaGreat
