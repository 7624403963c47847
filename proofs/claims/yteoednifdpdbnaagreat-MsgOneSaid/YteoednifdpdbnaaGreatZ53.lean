/- A message as a law's argument, opened. -/
import Derived.Test.YteoednifdpdbnaaGreatZ07
import Derived.Test.YteoednifdpdbnaaGreatZ52
namespace Go.Proofs.YteoednifdpdbnaaGreat
set_option linter.unusedVariables false
set_option linter.unusedSimpArgs false
set_option maxRecDepth 100000
open Go.ChangeShapes Go.WideShapes Go.ChangeAt Go.RowKit
section
variable {H:Type} {enc:TypeId×Value→H} {W:World}
def IsNt (d:D) (x:DataW H):Prop:=∃ n:Nt,(n.Wf∧n.id.length≤9223372036854775807)∧d=plD (ntL n)
theorem qj9:Reads enc Tryz.prog W 40 14 IsNt:=fun fuel cs x h=>by
 obtain ⟨hl,d,hr,ds,xs,rfl,_,h3⟩:=qd6 (qs:=[IsInt .u64,IsInt .u64,IsInt .u64,IsStr,IsInt .u64,IsSgE]) (n:=14) Tryz.underlying40 (by kernel_rfl)
  (.cons rfl (by kernel_rfl) (qd8 Tryz.underlying22) (.cons rfl (by kernel_rfl) (qd8 Tryz.underlying22) (.cons rfl (by kernel_rfl) (qd8 Tryz.underlying22) (.cons rfl (by kernel_rfl) (qlm Tryz.underlying9) (.cons rfl (by kernel_rfl) (qd8 Tryz.underlying22) (.cons rfl (by kernel_rfl) ql1 .nil)))))) fuel cs x h
 obtain ⟨x1,ds1,y1,xs1,rfl,rfl,⟨n1,rfl,_,w1⟩,k1⟩:=h3.consE
 obtain ⟨x2,ds2,y2,xs2,rfl,rfl,⟨n2,rfl,_,w2⟩,k2⟩:=k1.consE
 obtain ⟨x3,ds3,y3,xs3,rfl,rfl,⟨n3,rfl,_,w3⟩,k3⟩:=k2.consE
 obtain ⟨x4,ds4,y4,xs4,rfl,rfl,⟨s4,rfl,_,w4⟩,k4⟩:=k3.consE
 obtain ⟨x5,ds5,y5,xs5,rfl,rfl,⟨n5,rfl,_,w5⟩,k5⟩:=k4.consE
 obtain ⟨x6,ds6,y6,xs6,rfl,rfl,⟨g,w6,rfl⟩,k6⟩:=k5.consE
 obtain ⟨rfl,rfl⟩:=k6.nilE
 obtain ⟨m1,rfl,i1⟩:=qfy w1
 obtain ⟨m2,rfl,i2⟩:=qfy w2
 obtain ⟨m3,rfl,i3⟩:=qfy w3
 obtain ⟨m5,rfl,i5⟩:=qfy w5
 obtain ⟨c1,r1,e1,q1,hr1⟩:=hr.st_form.cons_form
 obtain ⟨c2,r2,e2,q2,hr2⟩:=hr1.cons_form
 obtain ⟨c3,r3,e3,q3,hr3⟩:=hr2.cons_form
 obtain ⟨c4,r4,e4,q4,hr4⟩:=hr3.cons_form
 obtain ⟨c5,r5,e5,q5,hr5⟩:=hr4.cons_form
 obtain ⟨c6,r6,e6,q6,hr6⟩:=hr5.cons_form
 have e7:=hr6.nil_form
 have f1:=q1.v_form
 have f2:=q2.v_form
 have f3:=q3.v_form
 have f4:=q4.v_form
 have f5:=q5.v_form
 have f6:=qdo q6
 have hcs:cs=ntL ⟨m1,m2,m3,s4,m5,g⟩:=by rw [e1,e2,e3,e4,e5,e6,e7,f1,f2,f3,f4,f5,f6];rfl
 refine ⟨hl,plD (ntL ⟨m1,m2,m3,s4,m5,g⟩),?_,⟨m1,m2,m3,s4,m5,g⟩,⟨⟨i1,i2,i3,i5,w6⟩,le63E w4⟩,rfl⟩
 rw [hcs]
 exact qjz (qqr _).2
theorem qrf:∀ (es:List D) (xs:List (DataW H)),All2 IsNt es xs→∃ l:List Nt,es=(l.map ntL).map plD∧∀ s∈l,s.Wf∧s.id.length≤9223372036854775807
 | _,_,.nil=>⟨[],rfl,fun a h=>(by cases h)⟩
 | _,_,.cons ⟨s,h1,h2⟩ h=>by
  obtain ⟨ps,rfl,hp⟩:=qrf _ _ h
  subst h2
  exact ⟨s :: ps,rfl,fun a ha=>by rcases List.mem_cons.1 ha with rfl | ha;exact h1;exact hp a ha⟩
theorem ms_arg {base:Nat} {v:Value} {d:DataW H} {p:List MemPlace} (hval:Value.okWide Tryz.prog W .any base 43 v)
  (h:DataW.Trod enc Tryz.prog W 0 (fun _=>true) true 43 v d p):∃ (m:Ms) (Ac Ap:Option Addr) (cc cp:Nat),v=.agg (msC m Ac cc Ap cp)∧NtsV Any W m.chs Ac cc∧NtsV Any W m.pps Ap cp∧m.Fine:=by
 obtain ⟨vs,rfl,_⟩:=okWide_struct Tryz.underlying43 hval
 obtain ⟨fuel,h⟩:=h
 obtain ⟨_,d,hr,ds,xs,rfl,_,h3⟩:=qd6 (qs:=[IsNt,IsSgE,IsStr,IsSl 14 IsNt,IsSl 14 IsNt]) (n:=26) Tryz.underlying43 (by kernel_rfl)
  (.cons rfl (by kernel_rfl) qj9 (.cons rfl (by kernel_rfl) ql1 (.cons rfl (by kernel_rfl) (qlm Tryz.underlying9) (.cons rfl (by kernel_rfl) (qh5 Tryz.underlying41 (by kernel_rfl) qj9) (.cons rfl (by kernel_rfl) (qh5 Tryz.underlying41 (by kernel_rfl) qj9) .nil))))) _ _ _ h
 obtain ⟨x1,ds1,y1,xs1,rfl,rfl,⟨n,⟨hn1,hn2⟩,rfl⟩,k1⟩:=h3.consE
 obtain ⟨x2,ds2,y2,xs2,rfl,rfl,⟨g,hg,rfl⟩,k2⟩:=k1.consE
 obtain ⟨x3,ds3,y3,xs3,rfl,rfl,⟨s,rfl,_,w3⟩,k3⟩:=k2.consE
 obtain ⟨x4,ds4,y4,xs4,rfl,rfl,⟨es4,rfl,z4⟩,k4⟩:=k3.consE
 obtain ⟨x5,ds5,y5,xs5,rfl,rfl,⟨es5,rfl,z5⟩,k5⟩:=k4.consE
 obtain ⟨rfl,rfl⟩:=k5.nilE
 obtain ⟨l4,rfl,h4⟩:∃ l:List Nt,es4=(l.map ntL).map plD∧∀ s∈l,s.Wf∧s.id.length≤9223372036854775807:=by
  rcases z4 with ⟨rfl,_⟩ | ⟨xs,sp,_,h⟩
  ·exact ⟨[],rfl,fun a h=>(by cases h)⟩
  ·exact qrf _ _ h
 obtain ⟨l5,rfl,h5⟩:∃ l:List Nt,es5=(l.map ntL).map plD∧∀ s∈l,s.Wf∧s.id.length≤9223372036854775807:=by
  rcases z5 with ⟨rfl,_⟩ | ⟨xs,sp,_,h⟩
  ·exact ⟨[],rfl,fun a h=>(by cases h)⟩
  ·exact qrf _ _ h
 obtain ⟨c1,r1,e1,q1,hr1⟩:=hr.st_form.cons_form
 obtain ⟨c2,r2,e2,q2,hr2⟩:=hr1.cons_form
 obtain ⟨c3,r3,e3,q3,hr3⟩:=hr2.cons_form
 obtain ⟨c4,r4,e4,q4,hr4⟩:=hr3.cons_form
 obtain ⟨c5,r5,e5,q5,hr5⟩:=hr4.cons_form
 have e6:=hr5.nil_form
 have f1:=qdo q1
 have f2:=qdo q2
 have f3:=q3.v_form
 obtain ⟨A4,n4,t4,f4⟩:=q4.slice_form
 obtain ⟨A5,n5,t5,f5⟩:=q5.slice_form
 subst f4
 subst f5
 have hn4:=(Rep.slice_len q4).1
 have hn5:=(Rep.slice_len q5).1
 simp only [List.length_map] at hn4 hn5
 subst hn4
 subst hn5
 refine ⟨⟨n,g,s,l4,l5⟩,A4,A5,t4,t5,?_,?_,?_,⟨⟨hn1,hg,fun n hn=>(h4 n hn).1,fun n hn=>(h5 n hn).1⟩,hn2,le63E w3,h4,h5⟩⟩
 ·congr 1
  apply Array.toList_inj.1
  show vs.toList=_
  have hcs:(Value.agg vs).cells.toList=vs.toList:=rfl
  rw [← hcs,e1,e2,e3,e4,e5,e6,f1,f2,f3]
  rfl
 ·show Rep Any W (.sl 14 ((l4.map ntL).map plD)) [.slice A4 (l4.map ntL).length t4]
  rw [List.length_map]
  exact q4
 ·show Rep Any W (.sl 14 ((l5.map ntL).map plD)) [.slice A5 (l5.map ntL).length t5]
  rw [List.length_map]
  exact q5
end
end Go.Proofs.YteoednifdpdbnaaGreat
