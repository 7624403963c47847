/- The walk of tx.Read. -/
import Derived.Test.YteoednifdpdbnaaGreatZ45
import Derived.Test.YteoednifdpdbnaaGreatZ22
import Derived.RegionTactic
import Derived.BigRegion
namespace Go.Proofs.YteoednifdpdbnaaGreat
set_option linter.unusedVariables false
set_option linter.unusedSimpArgs false
open Go.RowKit
set_option maxHeartbeats 4000000
set_option maxRecDepth 100000
theorem qd4:(Tryz.prog.info? 28).map (·.size)=some 12:=by kernel_rfl
theorem one12 (b:Bytes) (x y a b' c d a' b'' c' d' v:Int):(#[.string (bs b),.int .u64 x,.int .u64 y,.int .u64 a,.int .u64 b',.int .u64 c,.int .u64 d,.int .u64 a',.int .u64 b'',.int .u64 c',.int .u64 d',.int .i64 v]:Array Value).all (·.oneCell')=true:=by simp [Value.oneCell']
theorem one12Z:(zqT:Array Value).all (·.oneCell')=true:=one12 [] _ _ _ _ _ _ _ _ _ _ _
theorem fread_tx (s:Bytes) (w:World):Calls Tryz.prog 45 #[.string ⟨#[97,110,110,115]⟩,.string (bs s)] w (FrPost trK s w):=qlz trK trK_ok (by decide) (by decide) s w
/-- what Read of a transfer says, in memory -/
def TrPost (s:Bytes) (w:World) (e:Ending) (w':World):Prop:=∃ (t:Tr) (no:Nat),e=.returned (.tuple #[.agg (trR t),.int .i64 no])∧TrSaid s t no∧Below w.heap.size w w'
theorem qii {s:Bytes} {w w':World} (h:TrSaid s zeroTr 4) (hb:Below w.heap.size w w'):TrPost s w (.returned (.tuple #[.agg zqT,.int .i64 4])) w':=⟨zeroTr,4,rfl,h,hb⟩
theorem qs2 (s:Bytes) (w:World):Calls Tryz.prog 11 #[.string (bs s)] w (TrPost s w):=by
 have h0:=heap_alloc_new w (.cells zqT 28)
 have HR:=qh h0
 have HB:=qh ((Below.refl w.heap.size w).alloc qn (.cells zqT 28))
 clear h0
 go_enter Tryz.func11,Tryz.ntmps11
 go_wp2_with fail
 refine (fread_tx s _).mono ?_
 rintro e w1 ⟨l,A,c,no,rfl,hlv,hsaid,hb1⟩
 have HR1:=qh ((hb1.block _ (qg HR.out)).trans HR.out)
 have HB1:=qh (qac HB.out HB.out.size hb1)
 have HS:=qh hsaid
 have HL:=qh (Rep.any hlv)
 clear hb1 hlv hsaid HR HB
 by_cases hno:no=0
 case neg =>
  have h0I:((no:Int) == 0)=false:=by rw [beq_eq_false_iff_ne];omega
  have h0I2:((no:Int) != 0)=true:=by rw [bne,h0I];rfl
  have HT:=qh (qmj HS.out (by omega))
  clear HS hno
  go_wp2_with (refine wpList_store_row rfl _ _ _ rfl w.heap.size zqT rfl rfl _ _ HR1.out qd4 rfl one12Z ?_)
  exact bodyPost_ret (v:=.tuple #[.agg zqT,.int .i64 4]) (qah rfl _ _ w.heap.size _ _ _ _ rfl (setRow_heap _ _ _ _ _ _ HR1.out) _ rfl Tryz.underlying28 rfl qd4) rfl (qii HT.out (qal HB1.out qn _))
 subst hno
 obtain ⟨hl4,hg65,hyes,hnot⟩:=qmz HS.out
 obtain ⟨f0,e0⟩:=qan (show 0 < l.length by omega)
 obtain ⟨f1,e1⟩:=qan (show 1 < l.length by omega)
 obtain ⟨f2,e2⟩:=qan (show 2 < l.length by omega)
 obtain ⟨f3,e3⟩:=qan (show 3 < l.length by omega)
 obtain ⟨g,o,A0,c0,rfl,_,_,k0⟩:=qcq HL.out e0
 obtain ⟨g',o',A1,c1,hA1,_,_,k1⟩:=qcq HL.out e1
 injection hA1 with hA1
 injection hA1 with hg1 ho1
 subst hg1;subst ho1
 obtain ⟨g',o',A2,c2,hA2,_,_,k2⟩:=qcq HL.out e2
 injection hA2 with hA2
 injection hA2 with hg2 ho2
 subst hg2;subst ho2
 obtain ⟨g',o',A3,c3,hA3,_,_,k3⟩:=qcq HL.out e3
 injection hA3 with hA3
 injection hA3 with hg3 ho3
 subst hg3;subst ho3
 have m0:=k0 1 (.string (bs f0.b)) rfl
 have m1:=k1 0 (.int .u64 (f1.n:Int)) rfl
 have m2:=k2 0 (.int .u64 (f2.n:Int)) rfl
 have m3:=k3 1 (.string (bs f3.b)) rfl
 simp only [Nat.zero_mul,Nat.add_zero,Nat.one_mul,Nat.reduceMul] at m0 m1 m2 m3
 have hd0:l.getD 0 ⟨0,[],[]⟩=f0:=qa9 e0
 have hd1:l.getD 1 ⟨0,[],[]⟩=f1:=qa9 e1
 have hd2:l.getD 2 ⟨0,[],[]⟩=f2:=qa9 e2
 have hd3:l.getD 3 ⟨0,[],[]⟩=f3:=qa9 e3
 have hof:trOf l=⟨f0.b,f1.n,f2.n,sgOf f3.b⟩:=by unfold trOf;rw [hd0,hd1,hd2,hd3]
 rw [hof,hd3] at hyes
 rw [hd3] at hnot hg65
 have HY:=qh hyes
 have HN:=qh hnot
 have HG:=qh hg65
 rw [hl4]
 clear hyes hnot hg65 e0 e1 e2 e3 k0 k1 k2 k3 hd0 hd1 hd2 hd3 hof HS HL hl4
 have m3':w1.cell? ⟨g,o+10,none⟩=some (.string (bs f3.b)):=m3
 have m1':w1.cell? ⟨g,o+3+0,none⟩=some (.int .u64 (f1.n:Int)):=m1
 have n0:=ca m0 (.cells zqT 28)
 have n1:=ca m1 (.cells zqT 28)
 have n2:=ca m2 (.cells zqT 28)
 have n3:=ca m3 (.cells zqT 28)
 have n3':=ca m3' (.cells zqT 28)
 go_wp2_with fail
 go_region
 have hY2:(w1.alloc (.cells #[.string (bs f0.b),.int .u64 (f1.n:Int),.int .u64 (f2.n:Int),.int .u64 0,.int .u64 0,.int .u64 0,.int .u64 0,.int .u64 0,.int .u64 0,.int .u64 0,.int .u64 0,.int .i64 0] 28)).drew.heap[w1.heap.size]? = some (.cells #[.string (bs f0.b),.int .u64 (f1.n:Int),.int .u64 (f2.n:Int),.int .u64 0,.int .u64 0,.int .u64 0,.int .u64 0,.int .u64 0,.int .u64 0,.int .u64 0,.int .u64 0,.int .i64 0] 28 (0,0)):=heap_alloc_new w1 _
 have hR2:(w1.alloc (.cells #[.string (bs f0.b),.int .u64 (f1.n:Int),.int .u64 (f2.n:Int),.int .u64 0,.int .u64 0,.int .u64 0,.int .u64 0,.int .u64 0,.int .u64 0,.int .u64 0,.int .u64 0,.int .i64 0] 28)).drew.heap[w.heap.size]? = some (.cells zqT 28 (0,0)):=(heap_alloc_old w1 (.cells #[.string (bs f0.b),.int .u64 (f1.n:Int),.int .u64 (f2.n:Int),.int .u64 0,.int .u64 0,.int .u64 0,.int .u64 0,.int .u64 0,.int .u64 0,.int .u64 0,.int .u64 0,.int .i64 0] 28) (qg HR1.out)).trans HR1.out
 have hB2:Below w.heap.size w (w1.alloc (.cells #[.string (bs f0.b),.int .u64 (f1.n:Int),.int .u64 (f2.n:Int),.int .u64 0,.int .u64 0,.int .u64 0,.int .u64 0,.int .u64 0,.int .u64 0,.int .u64 0,.int .u64 0,.int .i64 0] 28)).drew:=(HB1.out.alloc HB1.out.size _).drew
 have hm3:(w1.alloc (.cells #[.string (bs f0.b),.int .u64 (f1.n:Int),.int .u64 (f2.n:Int),.int .u64 0,.int .u64 0,.int .u64 0,.int .u64 0,.int .u64 0,.int .u64 0,.int .u64 0,.int .u64 0,.int .i64 0] 28)).drew.cell? ⟨g,o+9+1,none⟩=some (.string (bs f3.b)):=ca m3 _
 have hm3':(w1.alloc (.cells #[.string (bs f0.b),.int .u64 (f1.n:Int),.int .u64 (f2.n:Int),.int .u64 0,.int .u64 0,.int .u64 0,.int .u64 0,.int .u64 0,.int .u64 0,.int .u64 0,.int .u64 0,.int .i64 0] 28)).drew.cell? ⟨g,o+10,none⟩=some (.string (bs f3.b)):=ca m3 _
 have hlt1:w.heap.size < w1.heap.size:=(qg HR1.out)
 obtain ⟨Y,hYe⟩:∃ Y,w1.heap.size=Y:=⟨_,rfl⟩
 rw [hYe] at hY2 hlt1 ⊢
 clear n0 n1 n2 n3 n3' m0 m1 m2 m3 m3' m1' HR1 HB1
 generalize (w1.alloc (.cells #[.string (bs f0.b),.int .u64 (f1.n:Int),.int .u64 (f2.n:Int),.int .u64 0,.int .u64 0,.int .u64 0,.int .u64 0,.int .u64 0,.int .u64 0,.int .u64 0,.int .u64 0,.int .i64 0] 28)).drew=W2 at hY2 hR2 hB2 hm3 hm3' ⊢
 clear hYe
 have HY2:=qh hY2
 have HR2:=qh hR2
 have HB2:=qh hB2
 clear hY2 hR2 hB2
 have HF:=qh (fun W:World=>ql4 f3.b W)
 have hpp:sfromP f3.b=if okSg (sgOf f3.b)=true then (sgOf f3.b,0) else (zeroSg,4):=by
  unfold sfromP
  cases hk:okSg (sgOf f3.b) with
  | true=>rw [if_pos ⟨HG.out,rfl⟩,if_pos rfl]
  | false=>rw [if_neg (fun h=>by cases h.2),if_neg (by decide)]
 obtain ⟨z,nz,hz⟩:∃ z nz,sfromP f3.b=(z,nz):=⟨_,_,rfl⟩
 rw [hz] at hpp
 have hF:=HF.out
 rw [hz] at hF
 simp only [] at hF
 have HF:=qh hF
 have HPP:=qh hpp
 clear hpp hF hz
 go_wp2_with fail
 refine (HF.out _).mono ?_
 rintro e w3 ⟨rfl,hb3⟩
 have hY3:=(hb3.block _ (qg HY2.out)).trans HY2.out
 have HR3:=qh ((hb3.block _ (qg HR2.out)).trans HR2.out)
 have HB3:=qh (qac HB2.out HB2.out.size hb3)
 have HY3:=qh hY3
 clear hb3 hY3 HR2 HB2 HY2 hm3 hm3'
 have hn9:=one9 z.r.a z.r.b z.r.c z.r.d z.s.a z.s.b z.s.c z.s.d z.v
 have HSE:Hid ((#[.string (bs f0.b),.int .u64 (f1.n:Int),.int .u64 (f2.n:Int),.int .u64 0,.int .u64 0,.int .u64 0,.int .u64 0,.int .u64 0,.int .u64 0,.int .u64 0,.int .u64 0,.int .i64 0]:Array Value).toList.take 3 ++ ((sgR z):Array Value).toList ++ (#[.string (bs f0.b),.int .u64 (f1.n:Int),.int .u64 (f2.n:Int),.int .u64 0,.int .u64 0,.int .u64 0,.int .u64 0,.int .u64 0,.int .u64 0,.int .u64 0,.int .u64 0,.int .i64 0]:Array Value).toList.drop (3+((sgR z):Array Value).size)=(#[.string (bs f0.b),.int .u64 (f1.n:Int),.int .u64 (f2.n:Int),.int .u64 (z.r.a:Int),.int .u64 (z.r.b:Int),.int .u64 (z.r.c:Int),.int .u64 (z.r.d:Int),.int .u64 (z.s.a:Int),.int .u64 (z.s.b:Int),.int .u64 (z.s.c:Int),.int .u64 (z.s.d:Int),.int .i64 z.v]:Array Value).toList):=qh rfl
 have HSZ:Hid (3+((sgR z):Array Value).size≤(#[.string (bs f0.b),.int .u64 (f1.n:Int),.int .u64 (f2.n:Int),.int .u64 0,.int .u64 0,.int .u64 0,.int .u64 0,.int .u64 0,.int .u64 0,.int .u64 0,.int .u64 0,.int .i64 0]:Array Value).size):=qh (Nat.le_refl 12)
 have HY4:=qh (setRow_heap w3 Y #[.string (bs f0.b),.int .u64 (f1.n:Int),.int .u64 (f2.n:Int),.int .u64 0,.int .u64 0,.int .u64 0,.int .u64 0,.int .u64 0,.int .u64 0,.int .u64 0,.int .u64 0,.int .i64 0] #[.string (bs f0.b),.int .u64 (f1.n:Int),.int .u64 (f2.n:Int),.int .u64 (z.r.a:Int),.int .u64 (z.r.b:Int),.int .u64 (z.r.c:Int),.int .u64 (z.r.d:Int),.int .u64 (z.s.a:Int),.int .u64 (z.s.b:Int),.int .u64 (z.s.c:Int),.int .u64 (z.s.d:Int),.int .i64 z.v] 28 (0,0) HY3.out)
 have HR4:=qh ((qa6 w3 (show w.heap.size≠Y by omega) #[.string (bs f0.b),.int .u64 (f1.n:Int),.int .u64 (f2.n:Int),.int .u64 (z.r.a:Int),.int .u64 (z.r.b:Int),.int .u64 (z.r.c:Int),.int .u64 (z.r.d:Int),.int .u64 (z.s.a:Int),.int .u64 (z.s.b:Int),.int .u64 (z.s.c:Int),.int .u64 (z.s.d:Int),.int .i64 z.v]).trans HR3.out)
 have HB4:=qh (qal HB3.out (show w.heap.size≤Y by omega) #[.string (bs f0.b),.int .u64 (f1.n:Int),.int .u64 (f2.n:Int),.int .u64 (z.r.a:Int),.int .u64 (z.r.b:Int),.int .u64 (z.r.c:Int),.int .u64 (z.r.d:Int),.int .u64 (z.s.a:Int),.int .u64 (z.s.b:Int),.int .u64 (z.s.c:Int),.int .u64 (z.s.d:Int),.int .i64 z.v])
 clear HR3 HB3
 cases hk:okSg (sgOf f3.b) with
 | false =>
  have hp:=HPP.out
  rw [hk,if_neg (by decide)] at hp
  injection hp with hp1 hp2
  subst hp2
  have HT:=qh (HN.out hk)
  have HP1:=qh hp1
  clear hk hp1
  go_wp2_with (first | (refine qb7 rfl _ _ _ rfl Y 3 (sgR z) #[.string (bs f0.b),.int .u64 (f1.n:Int),.int .u64 (f2.n:Int),.int .u64 (z.r.a:Int),.int .u64 (z.r.b:Int),.int .u64 (z.r.c:Int),.int .u64 (z.r.d:Int),.int .u64 (z.s.a:Int),.int .u64 (z.s.b:Int),.int .u64 (z.s.c:Int),.int .u64 (z.s.d:Int),.int .i64 z.v] rfl rfl 28 #[.string (bs f0.b),.int .u64 (f1.n:Int),.int .u64 (f2.n:Int),.int .u64 0,.int .u64 0,.int .u64 0,.int .u64 0,.int .u64 0,.int .u64 0,.int .u64 0,.int .u64 0,.int .i64 0] HY3.out qfj HSZ.out hn9 HSE.out ?_) | (refine wpList_store_row rfl _ _ _ rfl w.heap.size zqT rfl rfl _ _ HR4.out qd4 rfl one12Z ?_))
  exact bodyPost_ret (v:=.tuple #[.agg zqT,.int .i64 4]) (qah rfl _ _ w.heap.size _ _ _ _ rfl (setRow_heap _ _ _ _ _ _ HR4.out) _ rfl Tryz.underlying28 rfl qd4) rfl (qii HT.out (qal HB4.out qn _))
 | true =>
  have hp:=HPP.out
  rw [hk,if_pos rfl] at hp
  injection hp with hp1 hp2
  subst hp2
  have HT:=qh (HY.out hk)
  have HP1:=qh hp1
  clear hk hp1
  go_wp2_with (first | (refine qb7 rfl _ _ _ rfl Y 3 (sgR z) #[.string (bs f0.b),.int .u64 (f1.n:Int),.int .u64 (f2.n:Int),.int .u64 (z.r.a:Int),.int .u64 (z.r.b:Int),.int .u64 (z.r.c:Int),.int .u64 (z.r.d:Int),.int .u64 (z.s.a:Int),.int .u64 (z.s.b:Int),.int .u64 (z.s.c:Int),.int .u64 (z.s.d:Int),.int .i64 z.v] rfl rfl 28 #[.string (bs f0.b),.int .u64 (f1.n:Int),.int .u64 (f2.n:Int),.int .u64 0,.int .u64 0,.int .u64 0,.int .u64 0,.int .u64 0,.int .u64 0,.int .u64 0,.int .u64 0,.int .i64 0] HY3.out qfj HSZ.out hn9 HSE.out ?_) | (refine wpList_load_row rfl _ _ rfl Y rfl _ _ _ _ HY4.out Tryz.underlying28 rfl qd4 ?_) | (refine wpList_store_row rfl _ _ _ rfl w.heap.size #[.string (bs f0.b),.int .u64 (f1.n:Int),.int .u64 (f2.n:Int),.int .u64 (z.r.a:Int),.int .u64 (z.r.b:Int),.int .u64 (z.r.c:Int),.int .u64 (z.r.d:Int),.int .u64 (z.s.a:Int),.int .u64 (z.s.b:Int),.int .u64 (z.s.c:Int),.int .u64 (z.s.d:Int),.int .i64 z.v] rfl rfl _ _ HR4.out qd4 rfl (one12 _ _ _ _ _ _ _ _ _ _ _ _) ?_))
  refine bodyPost_ret (v:=.tuple #[.agg #[.string (bs f0.b),.int .u64 (f1.n:Int),.int .u64 (f2.n:Int),.int .u64 (z.r.a:Int),.int .u64 (z.r.b:Int),.int .u64 (z.r.c:Int),.int .u64 (z.r.d:Int),.int .u64 (z.s.a:Int),.int .u64 (z.s.b:Int),.int .u64 (z.s.c:Int),.int .u64 (z.s.d:Int),.int .i64 z.v],.int .i64 0]) (qah rfl _ _ w.heap.size _ _ _ _ rfl (setRow_heap _ _ _ _ _ _ HR4.out) _ rfl Tryz.underlying28 rfl qd4) rfl ?_
  exact ⟨⟨f0.b,f1.n,f2.n,z⟩,0,rfl,by rw [HP1.out];exact HT.out,qal HB4.out qn _⟩
end Go.Proofs.YteoednifdpdbnaaGreat
