/- ecclesialaw22.ChainBegins: for every number, every row of accounts and every row of texts the law returns true, and its arguments read behind the call as they read before. No condition. -/
import Derived.Test.YtdfmheademcbkaaGreatZ49
import Derived.Test.YtdfmheademcbkaaGreatZ51
import Derived.Test.YtdfmheademcbkaaGreatRows
namespace Go.Proofs.YtdfmheademcbkaaGreat
set_option linter.unusedVariables false
set_option linter.unusedSimpArgs false
set_option maxRecDepth 100000
open Go.ChangeShapes Go.WideShapes Go.ChangeAt Go.RowKit
open Go.ChangeMaps (open_string shut_string)
theorem All3.cons_inv {H:Type} {Q:D→DataW H→Prop} {qs:List (D→DataW H→Prop)} {us:List D} {vs:List (DataW H)} (h:All3 (Q :: qs) us vs):∃ a us1 b vs1,us=a :: us1∧vs=b :: vs1∧Q a b∧All3 qs us1 vs1:=by
 cases h with | cons h1 h2=>exact ⟨_,_,_,_,rfl,rfl,h1,h2⟩
theorem All3.nil_inv {H:Type} {us:List D} {vs:List (DataW H)} (h:All3 [] us vs):us = []∧vs = []:=by
 cases h;exact ⟨rfl,rfl⟩
theorem accs_of {H:Type}:∀ (es:List D) (xs:List (DataW H)),All2 (IsSt [IsStr,IsInt .u64,IsInt .u64]) es xs→∃ l:List Ac,es=l.map acD∧smallA l∧∀ a∈l,a.addr.length≤maxLen
 | _,_,.nil=>⟨[],rfl,fun a h=>(by cases h),fun a h=>(by cases h)⟩
 | _,_,.cons ⟨ds,xs,h1,h2,h3⟩ h=>by
  obtain ⟨l,rfl,hl,hl2⟩:=accs_of _ _ h
  subst h1
  obtain ⟨x1,ds1,y1,xs1,rfl,rfl,⟨s,rfl,_,hs⟩,k1⟩:=h3.cons_inv
  obtain ⟨x2,ds2,y2,xs2,rfl,rfl,⟨b,rfl,_,hb⟩,k2⟩:=k1.cons_inv
  obtain ⟨x3,ds3,y3,xs3,rfl,rfl,⟨n,rfl,_,hn⟩,k3⟩:=k2.cons_inv
  obtain ⟨rfl,rfl⟩:=k3.nil_inv
  have hb0:0≤b∧b≤18446744073709551615:=by simpa [Lit.wf,IntKind.min,IntKind.max,IntKind.signed,IntKind.bits] using hb
  have hn0:0≤n∧n≤18446744073709551615:=by simpa [Lit.wf,IntKind.min,IntKind.max,IntKind.signed,IntKind.bits] using hn
  have hbb:((b.toNat:Nat):Int)=b:=by omega
  have hnn:((n.toNat:Nat):Int)=n:=by omega
  refine ⟨⟨s,b.toNat,n.toNat⟩ :: l,?_,?_,?_⟩
  ·simp only [List.map_cons,acD,hbb,hnn]
  ·intro a ha
   rcases List.mem_cons.1 ha with rfl | ha
   ·exact ⟨by simp only [];omega,by simp only [];omega⟩
   ·exact hl a ha
  ·intro a ha
   rcases List.mem_cons.1 ha with rfl | ha
   ·exact hs
   ·exact hl2 a ha
theorem reads_acs {H:Type} {enc:TypeId×Value→H} {W:World}:Reads enc Tryz.prog W 23 1 (IsSl 3 (IsSt [IsStr,IsInt .u64,IsInt .u64])) :=
 reads_slice Tryz.underlying23 (by kernel_rfl) (reads_struct Tryz.underlying44 (by kernel_rfl)
  (.cons rfl (by kernel_rfl) (reads_str Tryz.underlying9) (.cons rfl (by kernel_rfl) (reads_int Tryz.underlying22) (.cons rfl (by kernel_rfl) (reads_int Tryz.underlying22) .nil))))
theorem strs_of {H:Type}:∀ (es:List D) (xs:List (DataW H)),All2 IsStr es xs→∃ ps:List Bytes,es=strsD ps∧(∀ p∈ps,p.length≤maxLen)
 | _,_,.nil=>⟨[],rfl,by simp⟩
 | _,_,.cons ⟨s,h1,h2,h3⟩ h=>by
  obtain ⟨ps,rfl,hp⟩:=strs_of _ _ h
  subst h1
  exact ⟨s :: ps,rfl,by simpa using ⟨h3,hp⟩⟩
theorem chainBegins_walk {H:Type} {enc:TypeId×Value→H} {W:World} {base:Nat} {args:Array Value} {ds:List (DataW H)} {p:List MemPlace}
  (hval:∀ (j:Nat) t v,#[22,23,24][j]? = some t→args[j]? = some v→Value.okWide Tryz.prog W .any base t v)
  (hA:DataW.TrodAll enc Tryz.prog W 0 (fun _=>true) true [22,23,24] args.toList ds p) :
  Calls Tryz.prog 3 args W fun e W'=>e=.returned (.bool true)∧Below W.heap.size W W':=by
 obtain ⟨v0,v1,v2,d0,d1,d2,p0,p1,p2,rfl,rfl,rfl,h0,h1,h2⟩:=trodAll_three hA
 obtain ⟨n,rfl,_,_,hw⟩:=open_int Tryz.underlying22 (hval 0 22 v0 rfl rfl) h0
 obtain ⟨A,m,c,rfl⟩:=okWide_slice Tryz.underlying23 (hval 1 23 v1 rfl rfl)
 obtain ⟨A',m',c',rfl⟩:=okWide_slice Tryz.underlying24 (hval 2 24 v2 rfl rfl)
 obtain ⟨_,h1⟩:=h1
 obtain ⟨_,h2⟩:=h2
 obtain ⟨_,d,hr,es,rfl,hq⟩:=reads_acs _ _ _ h1
 obtain ⟨l,rfl,hsm,hal⟩:∃ l:List Ac,es=l.map acD∧smallA l∧∀ a∈l,a.addr.length≤maxLen:=by
  rcases hq with ⟨rfl,_⟩ | ⟨xs,sp,_,h⟩
  ·exact ⟨[],rfl,fun a h=>(by cases h),fun a h=>(by cases h)⟩
  ·exact accs_of _ _ h
 have hm:=(Rep.slice_len hr).1
 rw [List.length_map] at hm
 subst hm
 obtain ⟨_,d',hr2,es2,rfl,hq2⟩:=reads_slice Tryz.underlying24 (by kernel_rfl) (reads_str Tryz.underlying9) _ _ _ h2
 obtain ⟨ps,rfl,hp⟩:∃ ps:List Bytes,es2=strsD ps∧(∀ p∈ps,p.length≤maxLen):=by
  rcases hq2 with ⟨rfl,h⟩ | ⟨xs,sp,h0,h⟩
  ·exact ⟨[],rfl,by simp⟩
  ·exact strs_of _ _ h
 have hm:=(Rep.slice_len hr2).1
 simp only [strsD,List.length_map] at hm
 subst hm
 have hn0:0≤n∧n≤18446744073709551615:=by simpa [Lit.wf,IntKind.min,IntKind.max,IntKind.signed,IntKind.bits] using hw
 have hnn:n=(n.toNat:Int):=by omega
 rw [hnn]
 exact chainBegins_any n.toNat (by omega) l hsm (fun a h=>by have:=hal a h;simp only [maxLen] at this;omega) A c ps (fun p h=>by have:=hp p h;simp only [maxLen] at this;omega) A' c' W hr hr2
theorem chainBegins_lifted (os:Os) (started:os.Started) (H:Type) (enc:TypeId×Value→H) :
  ReturnsInHanded {} Tryz.checked os 3 .any (Rows.chainBeginsSpec.pre6 enc Tryz.prog Tryz.f3 Rows.chainBeginsRow.domain false) (Rows.chainBeginsSpec.post enc Tryz.prog Tryz.f3 false true false false):=by
 refine returnsInHanded_of_change (C:=Tryz.checked) lawOwn started (by kernel_rfl) Tryz.func3
  (ChangeSpec.witness6 (enc:=enc) (C:=Tryz.checked) false ⟨#[],#[.int .u64 0,.slice none 0 0,.slice none 0 0],[]⟩ 8 (by kernel_rfl) (by kernel_rfl) (by kernel_rfl) (by kernel_rfl)) ?_
 intro W base args ds gs before hval hW _ _
 refine law_contract (tb:=4) lawLaid (by kernel_rfl) (by kernel_rfl) Tryz.underlying4 rfl ?_ hW ?_
 ·intro ds h
  match ds,h with
  | [d1,d2,d3],_=>rfl
 ·intro p hA
  exact chainBegins_walk hval hA
theorem chainBegins_holds:Rows.ChainBeginsSaid :=
 OpenClaim.holds_of_wide 3 Tryz.f3 rfl rfl rfl rfl rfl rfl rfl ⟨rfl,rfl,rfl,rfl,rfl⟩ rfl rfl rfl rfl rfl (by kernel_rfl) Tryz.func3 (by kernel_rfl)
  (of_decide_eq_true (by kernel_rfl)) (by unfold Func.isWrapper;rw [if_neg (of_decide_eq_false (by kernel_rfl))];exact ⟨rfl,rfl⟩)
  (fun os started H enc _=>chainBegins_lifted os started H enc)
#print axioms chainBegins_holds
end Go.Proofs.YtdfmheademcbkaaGreat
