/- The arguments of the laws of layer 18 (a block, a text), opened. -/
import Derived.Test.YtjanaholcjkceaaGreatZ41
import Derived.Test.YtjanaholcjkceaaGreatZ43
namespace Go.Proofs.YtjanaholcjkceaaGreat
set_option linter.unusedVariables false
set_option linter.unusedSimpArgs false
set_option maxRecDepth 100000
open Go.ChangeShapes Go.WideShapes Go.ChangeAt Go.RowKit
theorem All3.cons_inv {H:Type} {Q:D→DataW H→Prop} {qs:List (D→DataW H→Prop)} {us:List D} {vs:List (DataW H)} (h:All3 (Q :: qs) us vs):∃ a us1 b vs1,us=a :: us1∧vs=b :: vs1∧Q a b∧All3 qs us1 vs1:=by
 cases h with | cons h1 h2=>exact ⟨_,_,_,_,rfl,rfl,h1,h2⟩
theorem All3.nil_inv {H:Type} {us:List D} {vs:List (DataW H)} (h:All3 [] us vs):us = []∧vs = []:=by
 cases h;exact ⟨rfl,rfl⟩
theorem i64_of {n:Int} (h:(Lit.int .i64 n).wf=true):-9223372036854775808≤n∧n≤9223372036854775807:=by
 simpa [Lit.wf,IntKind.min,IntKind.max,IntKind.signed,IntKind.bits] using h
theorem u64_nat {n:Int} (h:(Lit.int .u64 n).wf=true):∃ k:Nat,n=(k:Int)∧k < 18446744073709551616:=by
 have:0≤n∧n≤18446744073709551615:=by simpa [Lit.wf,IntKind.min,IntKind.max,IntKind.signed,IntKind.bits] using h
 exact ⟨n.toNat,by omega,by omega⟩
def uL (x:U4):List Value:=[.int .u64 (x.a:Int),.int .u64 (x.b:Int),.int .u64 (x.c:Int),.int .u64 (x.d:Int)]
section
variable {H:Type} {enc:TypeId×Value→H} {W:World}
def IsU (d:D) (x:DataW H):Prop:=∃ u:U4,u.Wf∧d=plD (uL u)
def IsSg (d:D) (x:DataW H):Prop:=∃ s:Sg,s.Wf∧d=plD (sgL s)
def IsTr (d:D) (x:DataW H):Prop:=∃ t:Tr,t.Fine∧d=plD (trL t)
theorem reads_u:Reads enc Tryz.prog W 51 4 IsU:=fun fuel cs x h=>by
 obtain ⟨xs,m,_,_,hl,hx,hg⟩:=DataW.trod_array Tryz.underlying51 h
 rw [show Tryz.prog.cellsOf 51 = 4 by kernel_rfl] at hl
 rw [show Tryz.prog.cellsOf 22 = 1 by kernel_rfl] at hg
 refine ⟨hl,?_⟩
 match cs,hl with
 | [c0,c1,c2,c3],_ =>
  have g:∀ (i:Nat) (c:Value),i < 4→([c0,c1,c2,c3].drop (i * 1)).take 1 = [c]→∃ k:Nat,c=.int .u64 (k:Int)∧k < 18446744073709551616:=fun i c hi hci=>by
   have h1:=hg i hi
   rw [hci,List.getElem?_eq_getElem (by omega:i < xs.length)] at h1
   obtain ⟨n,e,_,hw⟩:=DataW.trod_int Tryz.underlying22 h1
   obtain ⟨k,rfl,hk⟩:=u64_nat hw
   injection e with e _
   exact ⟨k,e,hk⟩
  obtain ⟨a,rfl,ha⟩:=g 0 c0 (by decide) rfl
  obtain ⟨b,rfl,hb⟩:=g 1 c1 (by decide) rfl
  obtain ⟨c,rfl,hc⟩:=g 2 c2 (by decide) rfl
  obtain ⟨d,rfl,hd⟩:=g 3 c3 (by decide) rfl
  refine ⟨plD (uL ⟨a,b,c,d⟩),plD_rep (cs:=uL ⟨a,b,c,d⟩) (fun u hu=>?_),⟨a,b,c,d⟩,⟨ha,hb,hc,hd⟩,rfl⟩
  simp only [uL,List.mem_cons,List.not_mem_nil,or_false] at hu
  rcases hu with rfl | rfl | rfl | rfl <;> rfl
theorem reads_sg:Reads enc Tryz.prog W 53 9 IsSg:=fun fuel cs x h=>by
 obtain ⟨hl,d,hr,ds,xs,rfl,_,h3⟩:=reads_struct (qs:=[IsU,IsU,IsInt .i64]) (n:=9) Tryz.underlying53 (by kernel_rfl)
  (.cons rfl (by kernel_rfl) reads_u (.cons rfl (by kernel_rfl) reads_u (.cons rfl (by kernel_rfl) (reads_int Tryz.underlying3) .nil))) fuel cs x h
 obtain ⟨x1,ds1,y1,xs1,rfl,rfl,⟨r,w1,rfl⟩,k1⟩:=h3.cons_inv
 obtain ⟨x2,ds2,y2,xs2,rfl,rfl,⟨s,w2,rfl⟩,k2⟩:=k1.cons_inv
 obtain ⟨x3,ds3,y3,xs3,rfl,rfl,⟨v,rfl,_,w3⟩,k3⟩:=k2.cons_inv
 obtain ⟨rfl,rfl⟩:=k3.nil_inv
 obtain ⟨c1,r1,e1,q1,hr1⟩:=hr.st_form.cons_form
 obtain ⟨c2,r2,e2,q2,hr2⟩:=hr1.cons_form
 obtain ⟨c3,r3,e3,q3,hr3⟩:=hr2.cons_form
 have e4:=hr3.nil_form
 have f1:=plD_form q1
 have f2:=plD_form q2
 have f3:=q3.v_form
 have hcs:cs=sgL ⟨r,s,v⟩:=by rw [e1,e2,e3,e4,f1,f2,f3];rfl
 refine ⟨hl,plD (sgL ⟨r,s,v⟩),?_,⟨r,s,v⟩,⟨w1,w2,(i64_of w3).1,(i64_of w3).2⟩,rfl⟩
 rw [hcs]
 exact plD_rep (sgL_ok _).2
theorem reads_tr:Reads enc Tryz.prog W 55 12 IsTr:=fun fuel cs x h=>by
 obtain ⟨hl,d,hr,ds,xs,rfl,_,h3⟩:=reads_struct (qs:=[IsStr,IsInt .u64,IsInt .u64,IsSg]) (n:=12) Tryz.underlying55 (by kernel_rfl)
  (.cons rfl (by kernel_rfl) (reads_str Tryz.underlying9) (.cons rfl (by kernel_rfl) (reads_int Tryz.underlying22) (.cons rfl (by kernel_rfl) (reads_int Tryz.underlying22) (.cons rfl (by kernel_rfl) reads_sg .nil)))) fuel cs x h
 obtain ⟨x1,ds1,y1,xs1,rfl,rfl,⟨s,rfl,_,w1⟩,k1⟩:=h3.cons_inv
 obtain ⟨x2,ds2,y2,xs2,rfl,rfl,⟨n2,rfl,_,w2⟩,k2⟩:=k1.cons_inv
 obtain ⟨x3,ds3,y3,xs3,rfl,rfl,⟨n3,rfl,_,w3⟩,k3⟩:=k2.cons_inv
 obtain ⟨x4,ds4,y4,xs4,rfl,rfl,⟨g,w4,rfl⟩,k4⟩:=k3.cons_inv
 obtain ⟨rfl,rfl⟩:=k4.nil_inv
 obtain ⟨am,rfl,ha⟩:=u64_nat w2
 obtain ⟨no,rfl,hn⟩:=u64_nat w3
 obtain ⟨c1,r1,e1,q1,hr1⟩:=hr.st_form.cons_form
 obtain ⟨c2,r2,e2,q2,hr2⟩:=hr1.cons_form
 obtain ⟨c3,r3,e3,q3,hr3⟩:=hr2.cons_form
 obtain ⟨c4,r4,e4,q4,hr4⟩:=hr3.cons_form
 have e5:=hr4.nil_form
 have f1:=q1.v_form
 have f2:=q2.v_form
 have f3:=q3.v_form
 have f4:=plD_form q4
 have hcs:cs=trL ⟨s,am,no,g⟩:=by rw [e1,e2,e3,e4,e5,f1,f2,f3,f4];rfl
 refine ⟨hl,plD (trL ⟨s,am,no,g⟩),?_,⟨s,am,no,g⟩,⟨⟨ha,hn,w4⟩,by simp only [maxLen] at w1;exact Nat.le_trans w1 (by omega)⟩,rfl⟩
 rw [hcs]
 exact plD_rep (trL_ok _).2
theorem strs_of:∀ (es:List D) (xs:List (DataW H)),All2 IsStr es xs→∃ ps:List Bytes,es=strsD ps∧(∀ p∈ps,p.length≤maxLen)
 | _,_,.nil=>⟨[],rfl,by simp⟩
 | _,_,.cons ⟨s,h1,h2,h3⟩ h=>by
  obtain ⟨ps,rfl,hp⟩:=strs_of _ _ h
  subst h1
  exact ⟨s :: ps,rfl,by simpa using ⟨h3,hp⟩⟩
theorem sgs_of:∀ (es:List D) (xs:List (DataW H)),All2 IsSg es xs→∃ l:List Sg,es=(l.map sgL).map plD∧∀ s∈l,s.Wf
 | _,_,.nil=>⟨[],rfl,fun a h=>(by cases h)⟩
 | _,_,.cons ⟨s,h1,h2⟩ h=>by
  obtain ⟨ps,rfl,hp⟩:=sgs_of _ _ h
  subst h2
  exact ⟨s :: ps,rfl,fun a ha=>by rcases List.mem_cons.1 ha with rfl | ha;exact h1;exact hp a ha⟩
theorem trs_of:∀ (es:List D) (xs:List (DataW H)),All2 IsTr es xs→∃ l:List Tr,es=(l.map trL).map plD∧∀ s∈l,s.Fine
 | _,_,.nil=>⟨[],rfl,fun a h=>(by cases h)⟩
 | _,_,.cons ⟨s,h1,h2⟩ h=>by
  obtain ⟨ps,rfl,hp⟩:=trs_of _ _ h
  subst h2
  exact ⟨s :: ps,rfl,fun a ha=>by rcases List.mem_cons.1 ha with rfl | ha;exact h1;exact hp a ha⟩
/-- a header's cells -/
def hdL (h:Hd) (Av:Option Addr) (cv:Nat) (As:Option Addr) (cs:Nat):List Value:=[.string (bs h.parent),.int .u64 (h.height:Int),.string (bs h.root),.string (bs h.txs),.string (bs h.prop),.string (bs h.van),.slice Av h.vals.length cv,.string (bs h.vote),.bool h.add,.int .u64 (h.round:Int),.slice As h.seals.length cs]
def bkC (b:Bk) (Av:Option Addr) (cv:Nat) (As:Option Addr) (cs:Nat) (At:Option Addr) (ct:Nat):List Value:=hdL b.hd Av cv As cs ++ [.slice At b.txs.length ct]
abbrev hdQs (H:Type):List (D→DataW H→Prop):=[IsStr,IsInt .u64,IsStr,IsStr,IsStr,IsStr,IsSl 1 IsStr,IsStr,IsBool,IsInt .u64,IsSl 9 IsSg]
theorem reads_hd:Reads enc Tryz.prog W 26 11 (IsSt (hdQs H)) :=
 reads_struct Tryz.underlying26 (by kernel_rfl)
  (.cons rfl (by kernel_rfl) (reads_str Tryz.underlying9) (.cons rfl (by kernel_rfl) (reads_int Tryz.underlying22) (.cons rfl (by kernel_rfl) (reads_str Tryz.underlying9) (.cons rfl (by kernel_rfl) (reads_str Tryz.underlying9)
   (.cons rfl (by kernel_rfl) (reads_str Tryz.underlying9) (.cons rfl (by kernel_rfl) (reads_str Tryz.underlying9) (.cons rfl (by kernel_rfl) (reads_slice Tryz.underlying23 (by kernel_rfl) (reads_str Tryz.underlying9))
    (.cons rfl (by kernel_rfl) (reads_str Tryz.underlying9) (.cons rfl (by kernel_rfl) (reads_bool Tryz.underlying4) (.cons rfl (by kernel_rfl) (reads_int Tryz.underlying22)
     (.cons rfl (by kernel_rfl) (reads_slice Tryz.underlying24 (by kernel_rfl) reads_sg) .nil)))))))))))
theorem le63 {n:Nat} (h:n≤maxLen):n≤9223372036854775807:=by simp only [maxLen] at h;omega
theorem hd_of {d:D} {x:DataW H} {cs:List Value} (hr:Rep Any W d cs) (h:IsSt (hdQs H) d x):∃ (z:Hd) (Av:Option Addr) (cv:Nat) (As:Option Addr) (c:Nat),cs=hdL z Av cv As c∧HdV Any W z Av cv As c∧z.Fine:=by
 obtain ⟨ds,xs,rfl,_,h3⟩:=h
 obtain ⟨x1,ds1,y1,xs1,rfl,rfl,⟨s1,rfl,_,w1⟩,k1⟩:=h3.cons_inv
 obtain ⟨x2,ds2,y2,xs2,rfl,rfl,⟨n2,rfl,_,w2⟩,k2⟩:=k1.cons_inv
 obtain ⟨x3,ds3,y3,xs3,rfl,rfl,⟨s3,rfl,_,w3⟩,k3⟩:=k2.cons_inv
 obtain ⟨x4,ds4,y4,xs4,rfl,rfl,⟨s4,rfl,_,w4⟩,k4⟩:=k3.cons_inv
 obtain ⟨x5,ds5,y5,xs5,rfl,rfl,⟨s5,rfl,_,w5⟩,k5⟩:=k4.cons_inv
 obtain ⟨x6,ds6,y6,xs6,rfl,rfl,⟨s6,rfl,_,w6⟩,k6⟩:=k5.cons_inv
 obtain ⟨x7,ds7,y7,xs7,rfl,rfl,⟨es7,rfl,z7⟩,k7⟩:=k6.cons_inv
 obtain ⟨x8,ds8,y8,xs8,rfl,rfl,⟨s8,rfl,_,w8⟩,k8⟩:=k7.cons_inv
 obtain ⟨x9,ds9,y9,xs9,rfl,rfl,⟨b9,rfl,_⟩,k9⟩:=k8.cons_inv
 obtain ⟨x10,ds10,y10,xs10,rfl,rfl,⟨n10,rfl,_,w10⟩,k10⟩:=k9.cons_inv
 obtain ⟨x11,ds11,y11,xs11,rfl,rfl,⟨es11,rfl,z11⟩,k11⟩:=k10.cons_inv
 obtain ⟨rfl,rfl⟩:=k11.nil_inv
 obtain ⟨m2,rfl,hm2⟩:=u64_nat w2
 obtain ⟨m10,rfl,hm10⟩:=u64_nat w10
 obtain ⟨ps,rfl,hps⟩:∃ ps:List Bytes,es7=strsD ps∧(∀ p∈ps,p.length≤maxLen):=by
  rcases z7 with ⟨rfl,_⟩ | ⟨xs,sp,_,h⟩
  ·exact ⟨[],rfl,by simp⟩
  ·exact strs_of _ _ h
 obtain ⟨gs,rfl,hgs⟩:∃ l:List Sg,es11=(l.map sgL).map plD∧∀ s∈l,s.Wf:=by
  rcases z11 with ⟨rfl,_⟩ | ⟨xs,sp,_,h⟩
  ·exact ⟨[],rfl,fun a h=>(by cases h)⟩
  ·exact sgs_of _ _ h
 obtain ⟨c1,r1,e1,q1,hr1⟩:=hr.st_form.cons_form
 obtain ⟨c2,r2,e2,q2,hr2⟩:=hr1.cons_form
 obtain ⟨c3,r3,e3,q3,hr3⟩:=hr2.cons_form
 obtain ⟨c4,r4,e4,q4,hr4⟩:=hr3.cons_form
 obtain ⟨c5,r5,e5,q5,hr5⟩:=hr4.cons_form
 obtain ⟨c6,r6,e6,q6,hr6⟩:=hr5.cons_form
 obtain ⟨c7,r7,e7,q7,hr7⟩:=hr6.cons_form
 obtain ⟨c8,r8,e8,q8,hr8⟩:=hr7.cons_form
 obtain ⟨c9,r9,e9,q9,hr9⟩:=hr8.cons_form
 obtain ⟨c10,r10,e10,q10,hr10⟩:=hr9.cons_form
 obtain ⟨c11,r11,e11,q11,hr11⟩:=hr10.cons_form
 have e12:=hr11.nil_form
 have f1:=q1.v_form
 have f2:=q2.v_form
 have f3:=q3.v_form
 have f4:=q4.v_form
 have f5:=q5.v_form
 have f6:=q6.v_form
 have f8:=q8.v_form
 have f9:=q9.v_form
 have f10:=q10.v_form
 obtain ⟨Av,n,cv,f7⟩:=q7.slice_form
 obtain ⟨As,n',c,f11⟩:=q11.slice_form
 subst f7
 subst f11
 have hn:=(Rep.slice_len q7).1
 have hn':=(Rep.slice_len q11).1
 simp only [strsD,List.length_map] at hn hn'
 subst hn
 subst hn'
 refine ⟨⟨s1,m2,s3,s4,s5,s6,ps,s8,b9,m10,gs⟩,Av,cv,As,c,?_,⟨q7,?_⟩,⟨⟨hm2,hm10,hgs⟩,le63 w1,le63 w3,le63 w4,le63 w5,le63 w6,le63 w8,fun p hp=>le63 (hps p hp)⟩⟩
 ·rw [e1,e2,e3,e4,e5,e6,e7,e8,e9,e10,e11,e12,f1,f2,f3,f4,f5,f6,f8,f9,f10]
  rfl
 ·show Rep Any W (.sl 9 ((gs.map sgL).map plD)) [.slice As (gs.map sgL).length c]
  rw [List.length_map]
  exact q11
theorem bk_arg {base:Nat} {v:Value} {d:DataW H} {p:List MemPlace} (hval:Value.okWide Tryz.prog W .any base 29 v)
  (h:DataW.Trod enc Tryz.prog W 0 (fun _=>true) true 29 v d p):∃ (b:Bk) (Av As At:Option Addr) (cv cs ct:Nat),v=.agg (bkC b Av cv As cs At ct).toArray∧BkV Any W b Av cv As cs At ct∧b.hd.Fine∧∀ t∈b.txs,t.Fine:=by
 obtain ⟨vs,rfl,_⟩:=okWide_struct Tryz.underlying29 hval
 obtain ⟨fuel,h⟩:=h
 obtain ⟨_,d,hr,ds,xs,rfl,_,h3⟩:=reads_struct (qs:=[IsSt (hdQs H),IsSl 12 IsTr]) (n:=12) Tryz.underlying29 (by kernel_rfl)
  (.cons rfl (by kernel_rfl) reads_hd (.cons rfl (by kernel_rfl) (reads_slice Tryz.underlying27 (by kernel_rfl) reads_tr) .nil)) _ _ _ h
 obtain ⟨x1,ds1,y1,xs1,rfl,rfl,z1,k1⟩:=h3.cons_inv
 obtain ⟨x2,ds2,y2,xs2,rfl,rfl,⟨es,rfl,z2⟩,k2⟩:=k1.cons_inv
 obtain ⟨rfl,rfl⟩:=k2.nil_inv
 obtain ⟨ts,rfl,hts⟩:∃ l:List Tr,es=(l.map trL).map plD∧∀ s∈l,s.Fine:=by
  rcases z2 with ⟨rfl,_⟩ | ⟨xs,sp,_,h⟩
  ·exact ⟨[],rfl,fun a h=>(by cases h)⟩
  ·exact trs_of _ _ h
 obtain ⟨c1,r1,e1,q1,hr1⟩:=hr.st_form.cons_form
 obtain ⟨c2,r2,e2,q2,hr2⟩:=hr1.cons_form
 have e3:=hr2.nil_form
 obtain ⟨z,Av,cv,As,cs,hz,hzv,hzf⟩:=hd_of q1 z1
 obtain ⟨At,n,ct,f2⟩:=q2.slice_form
 subst f2
 have hn:=(Rep.slice_len q2).1
 simp only [List.length_map] at hn
 subst hn
 refine ⟨⟨z,ts⟩,Av,As,At,cv,cs,ct,?_,⟨hzv,?_⟩,hzf,hts⟩
 ·congr 1
  apply Array.toList_inj.1
  show vs.toList=_
  have hcs:(Value.agg vs).cells.toList=vs.toList:=rfl
  rw [← hcs,e1,e2,e3,hz]
  rfl
 ·show Rep Any W (.sl 12 ((ts.map trL).map plD)) [.slice At (ts.map trL).length ct]
  rw [List.length_map]
  exact q2
end
end Go.Proofs.YtjanaholcjkceaaGreat
