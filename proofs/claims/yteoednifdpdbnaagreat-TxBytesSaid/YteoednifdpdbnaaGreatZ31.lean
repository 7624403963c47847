/- The walk of tx.Read. -/
import Derived.Test.YteoednifdpdbnaaGreatZ30
import Derived.Test.YteoednifdpdbnaaGreatZ20
import Derived.RegionTactic
import Derived.BigRegion
import Derived.Test.YteoednifdpdbnaaGreatZ13
import Derived.Test.YteoednifdpdbnaaGreatZ17
import Derived.ChangeKeysEq
import Derived.BigQuiet
import Derived.Test.YteoednifdpdbnaaGreatZ04
namespace Go.Proofs.YteoednifdpdbnaaGreat
set_option linter.unusedVariables false
set_option linter.unusedSimpArgs false
open Go.RowKit
set_option maxHeartbeats 4000000
set_option maxRecDepth 100000
theorem qdc:(Tryz.prog.info? 28).map (·.size)=some 12:=by kernel_rfl
theorem one12 (b:Bytes) (x y a b' c d a' b'' c' d' v:Int):(#[.string (bs b),.int .u64 x,.int .u64 y,.int .u64 a,.int .u64 b',.int .u64 c,.int .u64 d,.int .u64 a',.int .u64 b'',.int .u64 c',.int .u64 d',.int .i64 v]:Array Value).all (·.oneCell')=true:=by simp [Value.oneCell']
theorem qoi:(zqT:Array Value).all (·.oneCell')=true:=one12 [] _ _ _ _ _ _ _ _ _ _ _
theorem fread_tx (s:Bytes) (w:World):Calls Tryz.prog 45 #[.string ⟨#[97,110,110,115]⟩,.string (bs s)] w (FrPost trK s w):=qsl trK qn9 (by decide) (by decide) s w
/-- what Read of a transfer says, in memory -/
def TrPost (s:Bytes) (w:World) (e:Ending) (w':World):Prop:=∃ (t:Tr) (no:Nat),e=.returned (.tuple #[.agg (trR t),.int .i64 no])∧TrSaid s t no∧Below w.heap.size w w'
theorem qdx {s:Bytes} {w w':World} (h:TrSaid s zeroTr 4) (hb:Below w.heap.size w w'):TrPost s w (.returned (.tuple #[.agg zqT,.int .i64 4])) w':=⟨zeroTr,4,rfl,h,hb⟩
theorem qsm (s:Bytes) (w:World):Calls Tryz.prog 11 #[.string (bs s)] w (TrPost s w):=by
 have h0:=heap_alloc_new w (.cells zqT 28)
 have HR:=qh h0
 have HB:=qh ((Below.refl w.heap.size w).alloc qn (.cells zqT 28))
 clear h0
 go_enter Tryz.func11,Tryz.ntmps11
 go_wp2_with fail
 refine (fread_tx s _).mono ?_
 rintro e w1 ⟨l,A,c,no,rfl,hlv,hsaid,hb1⟩
 have HR1:=qh ((hb1.block _ (qg HR.out)).trans HR.out)
 have HB1:=qh (qab HB.out HB.out.size hb1)
 have HS:=qh hsaid
 have HL:=qh (Rep.any hlv)
 clear hb1 hlv hsaid HR HB
 by_cases hno:no=0
 case neg =>
  have h0I:((no:Int) == 0)=false:=by rw [beq_eq_false_iff_ne];omega
  have h0I2:((no:Int) != 0)=true:=by rw [bne,h0I];rfl
  have HT:=qh (qi1 HS.out (by omega))
  clear HS hno
  go_wp2_with (refine wpList_store_row rfl _ _ _ rfl w.heap.size zqT rfl rfl _ _ HR1.out qdc rfl qoi ?_)
  exact bodyPost_ret (v:=.tuple #[.agg zqT,.int .i64 4]) (qah rfl _ _ w.heap.size _ _ _ _ rfl (setRow_heap _ _ _ _ _ _ HR1.out) _ rfl Tryz.underlying28 rfl qdc) rfl (qdx HT.out (qak HB1.out qn _))
 subst hno
 obtain ⟨hl4,hg65,hyes,hnot⟩:=qh2 HS.out
 obtain ⟨f0,e0⟩:=qal (show 0 < l.length by omega)
 obtain ⟨f1,e1⟩:=qal (show 1 < l.length by omega)
 obtain ⟨f2,e2⟩:=qal (show 2 < l.length by omega)
 obtain ⟨f3,e3⟩:=qal (show 3 < l.length by omega)
 obtain ⟨g,o,A0,c0,rfl,_,_,k0⟩:=qdd HL.out e0
 obtain ⟨g',o',A1,c1,hA1,_,_,k1⟩:=qdd HL.out e1
 injection hA1 with hA1
 injection hA1 with hg1 ho1
 subst hg1;subst ho1
 obtain ⟨g',o',A2,c2,hA2,_,_,k2⟩:=qdd HL.out e2
 injection hA2 with hA2
 injection hA2 with hg2 ho2
 subst hg2;subst ho2
 obtain ⟨g',o',A3,c3,hA3,_,_,k3⟩:=qdd HL.out e3
 injection hA3 with hA3
 injection hA3 with hg3 ho3
 subst hg3;subst ho3
 have m0:=k0 1 (.string (bs f0.b)) rfl
 have m1:=k1 0 (.int .u64 (f1.n:Int)) rfl
 have m2:=k2 0 (.int .u64 (f2.n:Int)) rfl
 have m3:=k3 1 (.string (bs f3.b)) rfl
 simp only [Nat.zero_mul,Nat.add_zero,Nat.one_mul,Nat.reduceMul] at m0 m1 m2 m3
 have hd0:l.getD 0 ⟨0,[],[]⟩=f0:=qbc e0
 have hd1:l.getD 1 ⟨0,[],[]⟩=f1:=qbc e1
 have hd2:l.getD 2 ⟨0,[],[]⟩=f2:=qbc e2
 have hd3:l.getD 3 ⟨0,[],[]⟩=f3:=qbc e3
 have hof:trOf l=⟨f0.b,f1.n,f2.n,sgOf f3.b⟩:=by unfold trOf;rw [hd0,hd1,hd2,hd3]
 rw [hof,hd3] at hyes
 rw [hd3] at hnot hg65
 have HY:=qh hyes
 have HN:=qh hnot
 have HG:=qh hg65
 rw [hl4]
 clear hyes hnot hg65 e0 e1 e2 e3 k0 k1 k2 k3 hd0 hd1 hd2 hd3 hof HS HL hl4
 have m3':w1.cell? ⟨g,o+10,none⟩=some (.string (bs f3.b)):=m3
 have m1':w1.cell? ⟨g,o+3+0,none⟩=some (.int .u64 (f1.n:Int)):=m1
 have n0:=ca m0 (.cells zqT 28)
 have n1:=ca m1 (.cells zqT 28)
 have n2:=ca m2 (.cells zqT 28)
 have n3:=ca m3 (.cells zqT 28)
 have n3':=ca m3' (.cells zqT 28)
 go_wp2_with fail
 go_region
 have hY2:(w1.alloc (.cells #[.string (bs f0.b),.int .u64 (f1.n:Int),.int .u64 (f2.n:Int),.int .u64 0,.int .u64 0,.int .u64 0,.int .u64 0,.int .u64 0,.int .u64 0,.int .u64 0,.int .u64 0,.int .i64 0] 28)).drew.heap[w1.heap.size]? = some (.cells #[.string (bs f0.b),.int .u64 (f1.n:Int),.int .u64 (f2.n:Int),.int .u64 0,.int .u64 0,.int .u64 0,.int .u64 0,.int .u64 0,.int .u64 0,.int .u64 0,.int .u64 0,.int .i64 0] 28 (0,0)):=heap_alloc_new w1 _
 have hR2:(w1.alloc (.cells #[.string (bs f0.b),.int .u64 (f1.n:Int),.int .u64 (f2.n:Int),.int .u64 0,.int .u64 0,.int .u64 0,.int .u64 0,.int .u64 0,.int .u64 0,.int .u64 0,.int .u64 0,.int .i64 0] 28)).drew.heap[w.heap.size]? = some (.cells zqT 28 (0,0)):=(heap_alloc_old w1 (.cells #[.string (bs f0.b),.int .u64 (f1.n:Int),.int .u64 (f2.n:Int),.int .u64 0,.int .u64 0,.int .u64 0,.int .u64 0,.int .u64 0,.int .u64 0,.int .u64 0,.int .u64 0,.int .i64 0] 28) (qg HR1.out)).trans HR1.out
 have hB2:Below w.heap.size w (w1.alloc (.cells #[.string (bs f0.b),.int .u64 (f1.n:Int),.int .u64 (f2.n:Int),.int .u64 0,.int .u64 0,.int .u64 0,.int .u64 0,.int .u64 0,.int .u64 0,.int .u64 0,.int .u64 0,.int .i64 0] 28)).drew:=(HB1.out.alloc HB1.out.size _).drew
 have hm3:(w1.alloc (.cells #[.string (bs f0.b),.int .u64 (f1.n:Int),.int .u64 (f2.n:Int),.int .u64 0,.int .u64 0,.int .u64 0,.int .u64 0,.int .u64 0,.int .u64 0,.int .u64 0,.int .u64 0,.int .i64 0] 28)).drew.cell? ⟨g,o+9+1,none⟩=some (.string (bs f3.b)):=ca m3 _
 have hm3':(w1.alloc (.cells #[.string (bs f0.b),.int .u64 (f1.n:Int),.int .u64 (f2.n:Int),.int .u64 0,.int .u64 0,.int .u64 0,.int .u64 0,.int .u64 0,.int .u64 0,.int .u64 0,.int .u64 0,.int .i64 0] 28)).drew.cell? ⟨g,o+10,none⟩=some (.string (bs f3.b)):=ca m3 _
 have hlt1:w.heap.size < w1.heap.size:=(qg HR1.out)
 obtain ⟨Y,hYe⟩:∃ Y,w1.heap.size=Y:=⟨_,rfl⟩
 rw [hYe] at hY2 hlt1 ⊢
 clear n0 n1 n2 n3 n3' m0 m1 m2 m3 m3' m1' HR1 HB1
 generalize (w1.alloc (.cells #[.string (bs f0.b),.int .u64 (f1.n:Int),.int .u64 (f2.n:Int),.int .u64 0,.int .u64 0,.int .u64 0,.int .u64 0,.int .u64 0,.int .u64 0,.int .u64 0,.int .u64 0,.int .i64 0] 28)).drew=W2 at hY2 hR2 hB2 hm3 hm3' ⊢
 clear hYe
 have HY2:=qh hY2
 have HR2:=qh hR2
 have HB2:=qh hB2
 clear hY2 hR2 hB2
 have HF:=qh (fun W:World=>qru f3.b W)
 have hpp:sfromP f3.b=if okSg (sgOf f3.b)=true then (sgOf f3.b,0) else (zeroSg,4):=by
  unfold sfromP
  cases hk:okSg (sgOf f3.b) with
  | true=>rw [if_pos ⟨HG.out,rfl⟩,if_pos rfl]
  | false=>rw [if_neg (fun h=>by cases h.2),if_neg (by decide)]
 obtain ⟨z,nz,hz⟩:∃ z nz,sfromP f3.b=(z,nz):=⟨_,_,rfl⟩
 rw [hz] at hpp
 have hF:=HF.out
 rw [hz] at hF
 simp only [] at hF
 have HF:=qh hF
 have HPP:=qh hpp
 clear hpp hF hz
 go_wp2_with fail
 refine (HF.out _).mono ?_
 rintro e w3 ⟨rfl,hb3⟩
 have hY3:=(hb3.block _ (qg HY2.out)).trans HY2.out
 have HR3:=qh ((hb3.block _ (qg HR2.out)).trans HR2.out)
 have HB3:=qh (qab HB2.out HB2.out.size hb3)
 have HY3:=qh hY3
 clear hb3 hY3 HR2 HB2 HY2 hm3 hm3'
 have hn9:=one9 z.r.a z.r.b z.r.c z.r.d z.s.a z.s.b z.s.c z.s.d z.v
 have HSE:Hid ((#[.string (bs f0.b),.int .u64 (f1.n:Int),.int .u64 (f2.n:Int),.int .u64 0,.int .u64 0,.int .u64 0,.int .u64 0,.int .u64 0,.int .u64 0,.int .u64 0,.int .u64 0,.int .i64 0]:Array Value).toList.take 3 ++ ((sgR z):Array Value).toList ++ (#[.string (bs f0.b),.int .u64 (f1.n:Int),.int .u64 (f2.n:Int),.int .u64 0,.int .u64 0,.int .u64 0,.int .u64 0,.int .u64 0,.int .u64 0,.int .u64 0,.int .u64 0,.int .i64 0]:Array Value).toList.drop (3+((sgR z):Array Value).size)=(#[.string (bs f0.b),.int .u64 (f1.n:Int),.int .u64 (f2.n:Int),.int .u64 (z.r.a:Int),.int .u64 (z.r.b:Int),.int .u64 (z.r.c:Int),.int .u64 (z.r.d:Int),.int .u64 (z.s.a:Int),.int .u64 (z.s.b:Int),.int .u64 (z.s.c:Int),.int .u64 (z.s.d:Int),.int .i64 z.v]:Array Value).toList):=qh rfl
 have HSZ:Hid (3+((sgR z):Array Value).size≤(#[.string (bs f0.b),.int .u64 (f1.n:Int),.int .u64 (f2.n:Int),.int .u64 0,.int .u64 0,.int .u64 0,.int .u64 0,.int .u64 0,.int .u64 0,.int .u64 0,.int .u64 0,.int .i64 0]:Array Value).size):=qh (Nat.le_refl 12)
 have HY4:=qh (setRow_heap w3 Y #[.string (bs f0.b),.int .u64 (f1.n:Int),.int .u64 (f2.n:Int),.int .u64 0,.int .u64 0,.int .u64 0,.int .u64 0,.int .u64 0,.int .u64 0,.int .u64 0,.int .u64 0,.int .i64 0] #[.string (bs f0.b),.int .u64 (f1.n:Int),.int .u64 (f2.n:Int),.int .u64 (z.r.a:Int),.int .u64 (z.r.b:Int),.int .u64 (z.r.c:Int),.int .u64 (z.r.d:Int),.int .u64 (z.s.a:Int),.int .u64 (z.s.b:Int),.int .u64 (z.s.c:Int),.int .u64 (z.s.d:Int),.int .i64 z.v] 28 (0,0) HY3.out)
 have HR4:=qh ((qbk w3 (show w.heap.size≠Y by omega) #[.string (bs f0.b),.int .u64 (f1.n:Int),.int .u64 (f2.n:Int),.int .u64 (z.r.a:Int),.int .u64 (z.r.b:Int),.int .u64 (z.r.c:Int),.int .u64 (z.r.d:Int),.int .u64 (z.s.a:Int),.int .u64 (z.s.b:Int),.int .u64 (z.s.c:Int),.int .u64 (z.s.d:Int),.int .i64 z.v]).trans HR3.out)
 have HB4:=qh (qak HB3.out (show w.heap.size≤Y by omega) #[.string (bs f0.b),.int .u64 (f1.n:Int),.int .u64 (f2.n:Int),.int .u64 (z.r.a:Int),.int .u64 (z.r.b:Int),.int .u64 (z.r.c:Int),.int .u64 (z.r.d:Int),.int .u64 (z.s.a:Int),.int .u64 (z.s.b:Int),.int .u64 (z.s.c:Int),.int .u64 (z.s.d:Int),.int .i64 z.v])
 clear HR3 HB3
 cases hk:okSg (sgOf f3.b) with
 | false =>
  have hp:=HPP.out
  rw [hk,if_neg (by decide)] at hp
  injection hp with hp1 hp2
  subst hp2
  have HT:=qh (HN.out hk)
  have HP1:=qh hp1
  clear hk hp1
  go_wp2_with (first | (refine qej rfl _ _ _ rfl Y 3 (sgR z) #[.string (bs f0.b),.int .u64 (f1.n:Int),.int .u64 (f2.n:Int),.int .u64 (z.r.a:Int),.int .u64 (z.r.b:Int),.int .u64 (z.r.c:Int),.int .u64 (z.r.d:Int),.int .u64 (z.s.a:Int),.int .u64 (z.s.b:Int),.int .u64 (z.s.c:Int),.int .u64 (z.s.d:Int),.int .i64 z.v] rfl rfl 28 #[.string (bs f0.b),.int .u64 (f1.n:Int),.int .u64 (f2.n:Int),.int .u64 0,.int .u64 0,.int .u64 0,.int .u64 0,.int .u64 0,.int .u64 0,.int .u64 0,.int .u64 0,.int .i64 0] HY3.out qbv HSZ.out hn9 HSE.out ?_) | (refine wpList_store_row rfl _ _ _ rfl w.heap.size zqT rfl rfl _ _ HR4.out qdc rfl qoi ?_))
  exact bodyPost_ret (v:=.tuple #[.agg zqT,.int .i64 4]) (qah rfl _ _ w.heap.size _ _ _ _ rfl (setRow_heap _ _ _ _ _ _ HR4.out) _ rfl Tryz.underlying28 rfl qdc) rfl (qdx HT.out (qak HB4.out qn _))
 | true =>
  have hp:=HPP.out
  rw [hk,if_pos rfl] at hp
  injection hp with hp1 hp2
  subst hp2
  have HT:=qh (HY.out hk)
  have HP1:=qh hp1
  clear hk hp1
  go_wp2_with (first | (refine qej rfl _ _ _ rfl Y 3 (sgR z) #[.string (bs f0.b),.int .u64 (f1.n:Int),.int .u64 (f2.n:Int),.int .u64 (z.r.a:Int),.int .u64 (z.r.b:Int),.int .u64 (z.r.c:Int),.int .u64 (z.r.d:Int),.int .u64 (z.s.a:Int),.int .u64 (z.s.b:Int),.int .u64 (z.s.c:Int),.int .u64 (z.s.d:Int),.int .i64 z.v] rfl rfl 28 #[.string (bs f0.b),.int .u64 (f1.n:Int),.int .u64 (f2.n:Int),.int .u64 0,.int .u64 0,.int .u64 0,.int .u64 0,.int .u64 0,.int .u64 0,.int .u64 0,.int .u64 0,.int .i64 0] HY3.out qbv HSZ.out hn9 HSE.out ?_) | (refine wpList_load_row rfl _ _ rfl Y rfl _ _ _ _ HY4.out Tryz.underlying28 rfl qdc ?_) | (refine wpList_store_row rfl _ _ _ rfl w.heap.size #[.string (bs f0.b),.int .u64 (f1.n:Int),.int .u64 (f2.n:Int),.int .u64 (z.r.a:Int),.int .u64 (z.r.b:Int),.int .u64 (z.r.c:Int),.int .u64 (z.r.d:Int),.int .u64 (z.s.a:Int),.int .u64 (z.s.b:Int),.int .u64 (z.s.c:Int),.int .u64 (z.s.d:Int),.int .i64 z.v] rfl rfl _ _ HR4.out qdc rfl (one12 _ _ _ _ _ _ _ _ _ _ _ _) ?_))
  refine bodyPost_ret (v:=.tuple #[.agg #[.string (bs f0.b),.int .u64 (f1.n:Int),.int .u64 (f2.n:Int),.int .u64 (z.r.a:Int),.int .u64 (z.r.b:Int),.int .u64 (z.r.c:Int),.int .u64 (z.r.d:Int),.int .u64 (z.s.a:Int),.int .u64 (z.s.b:Int),.int .u64 (z.s.c:Int),.int .u64 (z.s.d:Int),.int .i64 z.v],.int .i64 0]) (qah rfl _ _ w.heap.size _ _ _ _ rfl (setRow_heap _ _ _ _ _ _ HR4.out) _ rfl Tryz.underlying28 rfl qdc) rfl ?_
  exact ⟨⟨f0.b,f1.n,f2.n,z⟩,0,rfl,by rw [HP1.out];exact HT.out,qak HB4.out qn _⟩
/- The walks of keccak.Of, block.Sum. -/
def trL (t:Tr):List Value:=[.string (bs t.to),.int .u64 (t.am:Int),.int .u64 (t.no:Int),.int .u64 (t.sg.r.a:Int),.int .u64 (t.sg.r.b:Int),.int .u64 (t.sg.r.c:Int),.int .u64 (t.sg.r.d:Int),.int .u64 (t.sg.s.a:Int),.int .u64 (t.sg.s.b:Int),.int .u64 (t.sg.s.c:Int),.int .u64 (t.sg.s.d:Int),.int .i64 t.sg.v]
def TrsV (S:Nat→Prop) (w:World) (l:List Tr) (A:Option Addr) (c:Nat):Prop:=PlV S w 12 (l.map trL) A c
/- The walks of block.Right, Bytes. -/
structure BkV (S:Nat→Prop) (w:World) (b:Bk) (Av:Option Addr) (cv:Nat) (As:Option Addr) (cs:Nat) (At:Option Addr) (ct:Nat):Prop where
 hd:HdV S w b.hd Av cv As cs
 txs:TrsV S w b.txs At ct
theorem BkV.keep {S:Nat→Prop} {w w':World} {b:Bk} {Av As At:Option Addr} {cv cs ct:Nat} (x:BkV S w b Av cv As cs At ct) (hb:Below w.heap.size w w'):BkV S w' b Av cv As cs At ct:=⟨x.hd.keep hb,PlV.keep x.txs hb⟩
/- The walks of few$1, txs and few. -/
theorem qta {S:Nat→Prop} {w:World}:∀ (ps:List Bytes) (cs:List Value),RepN S w 1 (strsD ps) cs→cs=strL ps
 | [],_,h=>by cases h;rfl
 | p :: ps,_,h=>by
  cases h with
  | cons h0 _ h1 =>
   have h0:Rep S w (.v (.string (bs p))) _:=h0
   rw [h0.v_form,qta ps _ h1];rfl
theorem StrV.lies {S:Nat→Prop} {w:World} {ps:List Bytes} {A:Option Addr} {c:Nat} (h:StrV S w ps A c):Lies S w A (strL ps):=by
 obtain ⟨css,h1,h2,_,_⟩:=Rep.slice_open h
 rwa [qta _ _ h1] at h2
theorem Lies.take {S:Nat→Prop} {w:World} {A:Option Addr} {cs:List Value} (h:Lies S w A cs) (n:Nat):Lies S w A (cs.take n):=by
 rw [← List.take_append_drop n cs] at h
 exact Lies.take' h
def cutTr (t:Tr):Tr:=⟨t.to.take 40,t.am,t.no,t.sg⟩
theorem PlV.take {S:Nat→Prop} {w:World} {sz:Nat} {ls:List (List Value)} {A:Option Addr} {c:Nat} (h:PlV S w sz ls A c) (hl:∀ l∈ls,l.length=sz∧∀ u∈l,u.oneCell'=true) (n:Nat):PlV S w sz (ls.take n) A c:=by
 have h1:=h.lies
 rw [← List.take_append_drop n ls,List.flatten_append] at h1
 have h2:=h.len
 exact .sl (qnv fun l hx=>hl l (List.mem_of_mem_take hx)) (by simp) (Lies.take' h1) (by rw [List.length_take];omega) h2.2
/- The walks of the reference's numbers: Of, digit, Sum, Less. -/
/-- a row of digits in memory -/
def dgC (l:List Nat):List Value:=l.map fun d:Nat=>Value.int .i64 (d:Int)
def dgD (l:List Nat):List D:=l.map fun d:Nat=>D.v (Value.int .i64 (d:Int))
def DgV (S:Nat→Prop) (w:World) (l:List Nat) (A:Option Addr) (c:Nat):Prop:=Rep S w (.sl 1 (dgD l)) [.slice A l.length c]
theorem qha (l:List Nat) (d:Nat):dgC (l ++ [d])=dgC l ++ [.int .i64 (d:Int)]:=by simp [dgC]
theorem qhi {S:Nat→Prop} {w:World}:∀ l:List Nat,RepN S w 1 (dgD l) (dgC l)
 | []=>.nil
 | d :: l=>.cons (cs:=[.int .i64 (d:Int)]) (.v _ rfl) rfl (qhi l)
theorem DgV.keep {S:Nat→Prop} {w w':World} {l:List Nat} {A:Option Addr} {c:Nat} (h:DgV S w l A c) (hb:Below w.heap.size w w'):DgV S w' l A c:=Rep.keep h hb
theorem DgV.any {S:Nat→Prop} {w:World} {l:List Nat} {A:Option Addr} {c:Nat} (h:DgV S w l A c):DgV Any w l A c:=Rep.any h
theorem DgV.len {S:Nat→Prop} {w:World} {l:List Nat} {A:Option Addr} {c:Nat} (h:DgV S w l A c):l.length≤c∧c≤9223372036854775807:=by
 have:=(Rep.slice_len h).2
 simp only [maxLen] at this
 omega
theorem DgV.at_ {S:Nat→Prop} {w:World} {l:List Nat} {A:Option Addr} {c i d:Nat} (h:DgV S w l A c) (hi:l[i]? = some d):∃ g o,A=some ⟨g,o,none⟩∧w.cell? ⟨g,o+i,none⟩=some (.int .i64 (d:Int)):=by
 obtain ⟨g,o,ci,hA,hs,hr,_,hc⟩:=Rep.slice_at h (by omega) (i:=i) (d:=.v (.int .i64 (d:Int))) (by simp [dgD,hi])
 have:=hr.v_form
 subst this
 exact ⟨g,o,hA,by simpa using hc 0 _ rfl⟩
theorem dg_own {w:World} {base:Nat} {e:TypeId} {A:Option Addr} {n c:Nat} {l:List Nat} {S:Nat→Prop} (h:w.ownsRow base e 1 (.slice A n c) n (dgC l)) (hn:n=l.length) (hS:∀ g,base≤g→g < w.heap.size→S g):DgV S w l A c:=by
 subst hn
 exact qb2 h (qhi l) (by simp [dgD]) hS
theorem elDg:ElemOk Tryz.prog 220 3 (.int .i64 0) 1 8:=⟨Tryz.underlying220,by kernel_rfl,rfl,by omega⟩
theorem ofD_take (x:U4) {i:Nat} (h:i < 16):(ofD x).take (i+1)=(ofD x).take i ++ [dgW (x.word (i / 4)) (i % 4)]:=qbe (by simp [ofD,h])
theorem Of_any (x:U4) (hx:x.Wf) (w:World):Calls Tryz.prog 158 #[.agg #[.int .u64 (x.a:Int),.int .u64 (x.b:Int),.int .u64 (x.c:Int),.int .u64 (x.d:Int)]] w fun e w'=>∃ A c,e=.returned (.slice A (ofD x).length c)∧DgV (From w.heap.size) w' (ofD x) A c∧Below w.heap.size w w':=by
 have hX:=heap_alloc_new w (.cells #[.int .u64 (x.a:Int),.int .u64 (x.b:Int),.int .u64 (x.c:Int),.int .u64 (x.d:Int)] 24)
 have hB:=(Below.refl w.heap.size w).alloc qn (.cells #[.int .u64 (x.a:Int),.int .u64 (x.b:Int),.int .u64 (x.c:Int),.int .u64 (x.d:Int)] 24)
 have hO:=World.ownsRow_lit (base:=w.heap.size+1) (e:=3) (size:=1) (w.alloc (.cells #[.int .u64 (x.a:Int),.int .u64 (x.b:Int),.int .u64 (x.c:Int),.int .u64 (x.d:Int)] 24)) #[] 0 (by simp) (by simp [maxLen]) rfl
 rw [show (w.alloc (.cells #[.int .u64 (x.a:Int),.int .u64 (x.b:Int),.int .u64 (x.c:Int),.int .u64 (x.d:Int)] 24)).heap.size=w.heap.size+1 by simp] at hO
 have HX:=qh ((heap_alloc_old _ (.cells #[] 3) (qg hX)).trans hX)
 have HB:=qh (hB.alloc hB.size (.cells #[] 3))
 have HO:=qh hO
 have HW:=qh hx
 clear hX hB hO hx
 go_enter Tryz.func158,Tryz.ntmps158
 go_wp2_with fail
 generalize (w.alloc (.cells #[.int .u64 (x.a:Int),.int .u64 (x.b:Int),.int .u64 (x.c:Int),.int .u64 (x.d:Int)] 24)).alloc (.cells #[] 3)=W0 at HX HO HB ⊢
 have hal:Tryz.prog.arrayLen 24 = 4:=by kernel_rfl
 have hcl:Tryz.prog.cellsOf 22 = 1:=by kernel_rfl
 go_loopw [3,4] (fun u a wr=>∃ i:Nat,a=.int .i64 (i:Int)∧i≤16∧wr.ownsRow (w.heap.size+1) 3 1 u i (dgC ((ofD x).take i))∧wr.heap[w.heap.size]? = some (.cells #[.int .u64 (x.a:Int),.int .u64 (x.b:Int),.int .u64 (x.c:Int),.int .u64 (x.d:Int)] 24 (0,0))∧Below w.heap.size w wr) (fun _ a _=>16 - (intOf a).toNat)
 case atStart=>exact ⟨0,rfl,Nat.zero_le _,HO.out,HX.out,HB.out⟩
 case round =>
  obtain ⟨i,rfl,hi,hown,hX,hB⟩:=hrel
  obtain ⟨A',c',rfl⟩:=qau hown
  clear HX HO HB
  by_cases hlt:i < 16
  ·have hltI:(i:Int) < 16:=by omega
   have cx:wr.cell? ⟨w.heap.size,i / 4,none⟩=some (.int .u64 (x.word (i / 4):Int)):=rc hX _ (qb7 x _ (by omega))
   obtain ⟨p,hp⟩:∃ p,x.word (i / 4)=p:=⟨_,rfl⟩
   have HT:=qh (ofD_take x hlt)
   rw [hp] at cx HT
   have HX:=qh hX
   have HB:=qh hB
   have HO:=qh hown
   clear hX hB hown hp
   obtain ⟨q,hq⟩:∃ q,p / 2 ^ (16 * (i % 4))=q:=⟨_,rfl⟩
   have hqI:(p:Int) / 2 ^ (16 * (i % 4))=(q:Int):=by rw [← hq];simp
   obtain ⟨d,hd⟩:∃ d,q % 65536=d:=⟨_,rfl⟩
   have hdI:(q:Int).tmod 65536=(d:Int):=by rw [← hd];simp [Int.tmod]
   have hd3:(d:Int) < 65536:=by omega
   have HD:Hid (dgW p (i % 4)=d):=qh (by unfold dgW;rw [hq,hd])
   clear hq hd
   go_wp2_with (at_builtin;refine qaw elDg rfl rfl (w.heap.size+1) (HO.out.alloc _) rfl (m:=1) [.int .i64 (d:Int)] rfl rfl (qbi _ _ _) ?_ ?_ ?_ ?_ ?_;(intro u hu;simp at hu;rcases hu with rfl;rfl);(simp only [maxLen];omega);omega;(have:=(qg HX.out);simp;omega);intro v1 w8 hown1 hg1 hat1;obtain ⟨A3,c3,rfl⟩:=qau hown1)
   have hxl:=(qg HX.out)
   have hba:Below wr.heap.size wr (wr.alloc (.cells #[.int .i64 (d:Int)] 3)):=(Below.refl _ _).alloc qn _
   have hB8:=qay (qab HB.out HB.out.size hba) (qax HO.out hba) hg1 (by simp;omega) (by omega)
   have hX8:=(hg1.block w.heap.size (by simp;omega) (fun e=>by have:=(HO.out.lt _ e.symm).1;omega)).trans ((heap_alloc_old _ _ hxl).trans HX.out)
   rw [show dgC ((ofD x).take i) ++ [.int .i64 (d:Int)]=dgC ((ofD x).take (i+1)) by rw [HT.out,qha,HD.out]] at hown1
   go_roundw
   case rel=>exact ⟨i+1,by go_num,hlt,hown1,hX8,hB8⟩
   case measure=>simp [intOf];omega
  ·obtain rfl:i=16:=by omega
   rw [List.take_of_length_le (by rw [qcb];omega)] at hown
   have hv:DgV (From w.heap.size) wr (ofD x) A' c':=dg_own hown (qcb x).symm (fun g h1 _=>by show w.heap.size≤g;omega)
   have HV:=qh hv
   have HB:=qh hB
   clear hX hB hown hv
   go_wp2_with fail
   go_ret
   exact ⟨A',c',by rw [qcb];rfl,HV.out,HB.out⟩
theorem qb3 (l:List Nat) (i:Nat) (A:Option Addr) (c:Nat) (w:World) (hv:DgV Any w l A c):Calls Tryz.prog 204 #[.slice A l.length c,.int .i64 (i:Int)] w fun e w'=>e=.returned (.int .i64 (l.getD i 0:Int))∧Below w.heap.size w w':=by
 have hl:=(DgV.len hv).1
 have hl2:=(DgV.len hv).2
 by_cases h:i < l.length
 ·obtain ⟨d,hd⟩:=qal h
  obtain ⟨g,o,rfl,k0⟩:=hv.at_ hd
  have hlt:(i:Int) < l.length:=by omega
  rw [List.getD_eq_getElem?_getD,hd]
  simp only [Option.getD_some]
  clear hd hv
  go_enter Tryz.func204,Tryz.ntmps204
  go_wp2_with fail
  go_ret
  exact ⟨rfl,Below.refl _ _⟩
 ·have hlt:¬ (i:Int) < l.length:=by omega
  rw [List.getD_eq_getElem?_getD,List.getElem?_eq_none (by omega)]
  simp only [Option.getD_none]
  clear hv
  go_enter Tryz.func204,Tryz.ntmps204
  go_wp2_with fail
  go_ret
  exact ⟨rfl,Below.refl _ _⟩
/- The walks of the reference's numbers: Sum, Less, To. -/
theorem qt8 (a b:List Nat) (ha:okDg a) (hb:okDg b) (hla:a.length≤10000) (hlb:b.length≤10000) (A1 A2:Option Addr) (c1 c2:Nat) (w:World) (hv1:DgV Any w a A1 c1) (hv2:DgV Any w b A2 c2) :
  Calls Tryz.prog 155 #[.slice A1 a.length c1,.slice A2 b.length c2] w fun e w'=>∃ L A c,e=.returned (.slice A L.length c)∧DgV (From w.heap.size) w' L A c∧okDg L∧valD L=valD a+valD b∧L.length≤max a.length b.length+1∧Below w.heap.size w w':=by
 obtain ⟨n,hn⟩:∃ n,max a.length b.length=n:=⟨_,rfl⟩
 have hna:a.length≤n:=by omega
 have hnb:b.length≤n:=by omega
 have hn4:n≤10000:=by omega
 rw [hn]
 have HA:=qh ha
 have HB2:=qh hb
 have HV1:=qh hv1
 have HV2:=qh hv2
 have hO:=World.ownsRow_lit (base:=w.heap.size) (e:=3) (size:=1) w #[] 0 qn (by simp [maxLen]) rfl
 have HO:=qh hO
 have HBa:=qh ((Below.refl w.heap.size w).alloc qn (.cells #[] 3))
 clear hn ha hb hv1 hv2 hO
 go_enter Tryz.func155,Tryz.ntmps155
 go_wp2_with fail
 go_loopw [5,6,7] (fun u cr v wr=>∃ i:Nat,v=.int .i64 (i:Int)∧cr=.int .i64 (cyD a b i:Int)∧i≤n+1∧wr.ownsRow w.heap.size 3 1 u i (dgC (smD a b i))∧Below w.heap.size w wr) (fun _ _ v _=>n+1 - (intOf v).toNat)
 case atStart=>exact ⟨0,rfl,rfl,Nat.zero_le _,HO.out,HBa.out⟩
 case round =>
  clear HO HBa
  obtain ⟨i,rfl,rfl,hi,hown,hB⟩:=hrel
  obtain ⟨A',c',rfl⟩:=qau hown
  by_cases h1:(i:Int) < a.length
  ·have hin:i≤n:=by omega
   obtain ⟨x,hx⟩:∃ x,a.getD i 0=x:=⟨_,rfl⟩
   obtain ⟨y,hy⟩:∃ y,b.getD i 0=y:=⟨_,rfl⟩
   obtain ⟨k,hk⟩:∃ k,cyD a b i=k:=⟨_,rfl⟩
   have hx6:x < 65536:=by rw [← hx];exact qaz HA.out i
   have hy6:y < 65536:=by rw [← hy];exact qaz HB2.out i
   have hk6:k≤1:=by rw [← hk];exact ql9 HA.out HB2.out i
   have hxI:(x:Int) < 65536:=by omega
   have hyI:(y:Int) < 65536:=by omega
   have hkI:(k:Int)≤1:=by omega
   have HDA:=qh (qb3 a i A1 c1 wr (HV1.out.keep hB))
   have hda:=HDA.out
   rw [hx] at hda
   have HDA:=qh hda
   have hdb:=fun (W:World) (hb:Below wr.heap.size wr W)=>qb3 b i A2 c2 W ((HV2.out.keep hB).keep hb)
   rw [hy] at hdb
   have HDB:=qh hdb
   obtain ⟨s1,hs1⟩:∃ s1:Nat,x+y=s1:=⟨_,rfl⟩
   obtain ⟨s2,hs2⟩:∃ s2:Nat,s1+k=s2:=⟨_,rfl⟩
   have hs1I:(x:Int)+y=(s1:Int):=by omega
   have hs2I:(s1:Int)+k=(s2:Int):=by omega
   have hs1b:(s1:Int)≤131070:=by omega
   have hs2b:(s2:Int)≤131071:=by omega
   have HN:Hid (a.getD i 0+b.getD i 0+cyD a b i=s2):=qh (by rw [hx,hy,hk];omega)
   rw [hk]
   have HO:=qh hown
   have HB:=qh hB
   clear hx hy hk hda hdb hown hB hs1 hs2 hx6 hy6 hk6
   go_wp2_with fail
   refine HDA.out.mono ?_
   rintro e w1 ⟨rfl,hb1⟩
   have HB1:=qh hb1
   clear hb1
   go_wp2_with fail
   refine (HDB.out _ HB1.out).mono ?_
   rintro e w2 ⟨rfl,hb2⟩
   have hba:Below wr.heap.size wr w2:=qab HB1.out HB1.out.size hb2
   have HB2':=qh (qab HB.out HB.out.size hba)
   have HO2:=qh (qax HO.out hba)
   have hs2s:w.heap.size≤w2.heap.size:=Nat.le_trans HB.out.size hba.size
   obtain ⟨r,hr⟩:∃ r,s2 % 65536=r:=⟨_,rfl⟩
   obtain ⟨qu,hqu⟩:∃ qu,s2 / 65536=qu:=⟨_,rfl⟩
   have hrI:(s2:Int) % 65536=(r:Int):=by omega
   have hquI:(s2:Int) / 65536=(qu:Int):=by omega
   have HR:Hid ((a.getD i 0+b.getD i 0+cyD a b i) % 65536=r):=qh (by rw [HN.out];exact hr)
   have HQU:Hid (cyD a b (i+1)=qu):=qh (by rw [cyD,HN.out];exact hqu)
   clear hb2 hba HB HO hr hqu
   go_wp2_with (at_builtin;refine qaw elDg rfl rfl w.heap.size (HO2.out.alloc _) rfl (m:=1) [.int .i64 (r:Int)] rfl rfl (qbi _ _ _) ?_ ?_ ?_ ?_ ?_;(intro u hu;simp at hu;rcases hu with rfl;rfl);(simp only [maxLen];omega);omega;(simp;omega);intro v1 w8 hown1 hg1 hat1;obtain ⟨A3,c3,rfl⟩:=qau hown1)
   have hba:Below w2.heap.size w2 (w2.alloc (.cells #[.int .i64 (r:Int)] 3)):=(Below.refl _ _).alloc qn _
   have hB8:=qay (qab HB2'.out HB2'.out.size hba) (qax HO2.out hba) hg1 (by simp;omega) qn
   rw [show dgC (smD a b i) ++ [.int .i64 (r:Int)]=dgC (smD a b (i+1)) by rw [qhb,qha,HR.out]] at hown1
   go_roundw
   case rel=>exact ⟨i+1,by go_num,by rw [HQU.out],by omega,hown1,hB8⟩
   case measure=>simp [intOf];omega
  ·by_cases h2:(i:Int) < b.length
   ·have hin:i≤n:=by omega
    obtain ⟨x,hx⟩:∃ x,a.getD i 0=x:=⟨_,rfl⟩
    obtain ⟨y,hy⟩:∃ y,b.getD i 0=y:=⟨_,rfl⟩
    obtain ⟨k,hk⟩:∃ k,cyD a b i=k:=⟨_,rfl⟩
    have hx6:x < 65536:=by rw [← hx];exact qaz HA.out i
    have hy6:y < 65536:=by rw [← hy];exact qaz HB2.out i
    have hk6:k≤1:=by rw [← hk];exact ql9 HA.out HB2.out i
    have hxI:(x:Int) < 65536:=by omega
    have hyI:(y:Int) < 65536:=by omega
    have hkI:(k:Int)≤1:=by omega
    have HDA:=qh (qb3 a i A1 c1 wr (HV1.out.keep hB))
    have hda:=HDA.out
    rw [hx] at hda
    have HDA:=qh hda
    have hdb:=fun (W:World) (hb:Below wr.heap.size wr W)=>qb3 b i A2 c2 W ((HV2.out.keep hB).keep hb)
    rw [hy] at hdb
    have HDB:=qh hdb
    obtain ⟨s1,hs1⟩:∃ s1:Nat,x+y=s1:=⟨_,rfl⟩
    obtain ⟨s2,hs2⟩:∃ s2:Nat,s1+k=s2:=⟨_,rfl⟩
    have hs1I:(x:Int)+y=(s1:Int):=by omega
    have hs2I:(s1:Int)+k=(s2:Int):=by omega
    have hs1b:(s1:Int)≤131070:=by omega
    have hs2b:(s2:Int)≤131071:=by omega
    have HN:Hid (a.getD i 0+b.getD i 0+cyD a b i=s2):=qh (by rw [hx,hy,hk];omega)
    rw [hk]
    have HO:=qh hown
    have HB:=qh hB
    clear hx hy hk hda hdb hown hB hs1 hs2 hx6 hy6 hk6
    go_wp2_with fail
    refine HDA.out.mono ?_
    rintro e w1 ⟨rfl,hb1⟩
    have HB1:=qh hb1
    clear hb1
    go_wp2_with fail
    refine (HDB.out _ HB1.out).mono ?_
    rintro e w2 ⟨rfl,hb2⟩
    have hba:Below wr.heap.size wr w2:=qab HB1.out HB1.out.size hb2
    have HB2':=qh (qab HB.out HB.out.size hba)
    have HO2:=qh (qax HO.out hba)
    have hs2s:w.heap.size≤w2.heap.size:=Nat.le_trans HB.out.size hba.size
    obtain ⟨r,hr⟩:∃ r,s2 % 65536=r:=⟨_,rfl⟩
    obtain ⟨qu,hqu⟩:∃ qu,s2 / 65536=qu:=⟨_,rfl⟩
    have hrI:(s2:Int) % 65536=(r:Int):=by omega
    have hquI:(s2:Int) / 65536=(qu:Int):=by omega
    have HR:Hid ((a.getD i 0+b.getD i 0+cyD a b i) % 65536=r):=qh (by rw [HN.out];exact hr)
    have HQU:Hid (cyD a b (i+1)=qu):=qh (by rw [cyD,HN.out];exact hqu)
    clear hb2 hba HB HO hr hqu
    go_wp2_with (at_builtin;refine qaw elDg rfl rfl w.heap.size (HO2.out.alloc _) rfl (m:=1) [.int .i64 (r:Int)] rfl rfl (qbi _ _ _) ?_ ?_ ?_ ?_ ?_;(intro u hu;simp at hu;rcases hu with rfl;rfl);(simp only [maxLen];omega);omega;(simp;omega);intro v1 w8 hown1 hg1 hat1;obtain ⟨A3,c3,rfl⟩:=qau hown1)
    have hba:Below w2.heap.size w2 (w2.alloc (.cells #[.int .i64 (r:Int)] 3)):=(Below.refl _ _).alloc qn _
    have hB8:=qay (qab HB2'.out HB2'.out.size hba) (qax HO2.out hba) hg1 (by simp;omega) qn
    rw [show dgC (smD a b i) ++ [.int .i64 (r:Int)]=dgC (smD a b (i+1)) by rw [qhb,qha,HR.out]] at hown1
    go_roundw
    case rel=>exact ⟨i+1,by go_num,by rw [HQU.out],by omega,hown1,hB8⟩
    case measure=>simp [intOf];omega
   ·by_cases h3:0 < cyD a b i
    ·have hin:i≤n:=by
      rcases Nat.lt_or_ge n i with h | h
      ·obtain rfl:i=n+1:=by omega
       rw [cyD_end HA.out HB2.out hna hnb] at h3
       omega
      ·exact h
     obtain ⟨x,hx⟩:∃ x,a.getD i 0=x:=⟨_,rfl⟩
     obtain ⟨y,hy⟩:∃ y,b.getD i 0=y:=⟨_,rfl⟩
     obtain ⟨k,hk⟩:∃ k,cyD a b i=k:=⟨_,rfl⟩
     rw [hk] at h3
     have h3I:(0:Int) < (k:Int):=by omega
     have hx6:x < 65536:=by rw [← hx];exact qaz HA.out i
     have hy6:y < 65536:=by rw [← hy];exact qaz HB2.out i
     have hk6:k≤1:=by rw [← hk];exact ql9 HA.out HB2.out i
     have hxI:(x:Int) < 65536:=by omega
     have hyI:(y:Int) < 65536:=by omega
     have hkI:(k:Int)≤1:=by omega
     have HDA:=qh (qb3 a i A1 c1 wr (HV1.out.keep hB))
     have hda:=HDA.out
     rw [hx] at hda
     have HDA:=qh hda
     have hdb:=fun (W:World) (hb:Below wr.heap.size wr W)=>qb3 b i A2 c2 W ((HV2.out.keep hB).keep hb)
     rw [hy] at hdb
     have HDB:=qh hdb
     obtain ⟨s1,hs1⟩:∃ s1:Nat,x+y=s1:=⟨_,rfl⟩
     obtain ⟨s2,hs2⟩:∃ s2:Nat,s1+k=s2:=⟨_,rfl⟩
     have hs1I:(x:Int)+y=(s1:Int):=by omega
     have hs2I:(s1:Int)+k=(s2:Int):=by omega
     have hs1b:(s1:Int)≤131070:=by omega
     have hs2b:(s2:Int)≤131071:=by omega
     have HN:Hid (a.getD i 0+b.getD i 0+cyD a b i=s2):=qh (by rw [hx,hy,hk];omega)
     rw [hk]
     have HO:=qh hown
     have HB:=qh hB
     clear hx hy hk hda hdb hown hB hs1 hs2 hx6 hy6 hk6
     go_wp2_with fail
     refine HDA.out.mono ?_
     rintro e w1 ⟨rfl,hb1⟩
     have HB1:=qh hb1
     clear hb1
     go_wp2_with fail
     refine (HDB.out _ HB1.out).mono ?_
     rintro e w2 ⟨rfl,hb2⟩
     have hba:Below wr.heap.size wr w2:=qab HB1.out HB1.out.size hb2
     have HB2':=qh (qab HB.out HB.out.size hba)
     have HO2:=qh (qax HO.out hba)
     have hs2s:w.heap.size≤w2.heap.size:=Nat.le_trans HB.out.size hba.size
     obtain ⟨r,hr⟩:∃ r,s2 % 65536=r:=⟨_,rfl⟩
     obtain ⟨qu,hqu⟩:∃ qu,s2 / 65536=qu:=⟨_,rfl⟩
     have hrI:(s2:Int) % 65536=(r:Int):=by omega
     have hquI:(s2:Int) / 65536=(qu:Int):=by omega
     have HR:Hid ((a.getD i 0+b.getD i 0+cyD a b i) % 65536=r):=qh (by rw [HN.out];exact hr)
     have HQU:Hid (cyD a b (i+1)=qu):=qh (by rw [cyD,HN.out];exact hqu)
     clear hb2 hba HB HO hr hqu
     go_wp2_with (at_builtin;refine qaw elDg rfl rfl w.heap.size (HO2.out.alloc _) rfl (m:=1) [.int .i64 (r:Int)] rfl rfl (qbi _ _ _) ?_ ?_ ?_ ?_ ?_;(intro u hu;simp at hu;rcases hu with rfl;rfl);(simp only [maxLen];omega);omega;(simp;omega);intro v1 w8 hown1 hg1 hat1;obtain ⟨A3,c3,rfl⟩:=qau hown1)
     have hba:Below w2.heap.size w2 (w2.alloc (.cells #[.int .i64 (r:Int)] 3)):=(Below.refl _ _).alloc qn _
     have hB8:=qay (qab HB2'.out HB2'.out.size hba) (qax HO2.out hba) hg1 (by simp;omega) qn
     rw [show dgC (smD a b i) ++ [.int .i64 (r:Int)]=dgC (smD a b (i+1)) by rw [qhb,qha,HR.out]] at hown1
     go_roundw
     case rel=>exact ⟨i+1,by go_num,by rw [HQU.out],by omega,hown1,hB8⟩
     case measure=>simp [intOf];omega
    ·have h0:cyD a b i=0:=by omega
     rw [h0]
     have hlen:i=(smD a b i).length:=(qnd _ _ _).symm
     have hv:DgV (From w.heap.size) wr (smD a b i) A' c':=dg_own hown hlen (fun g h1 _=>h1)
     have hval:=smD_all (a:=a) (b:=b) (n:=i) (by omega) (by omega) h0
     have HV:=qh hv
     have HB:=qh hB
     have HVAL:=qh hval
     have HLEN:=qh hlen
     clear hown hB hv hval h3 h0 hlen
     go_wp2_with fail
     go_ret
     exact ⟨smD a b i,A',c',by rw [← HLEN.out];rfl,HV.out,smD_ok _ _ _,HVAL.out,by rw [qnd];omega,HB.out⟩
theorem qnz (a b:List Nat) (ha:okDg a) (hb:okDg b) (hla:a.length≤10000) (hlb:b.length≤10000) (A1 A2:Option Addr) (c1 c2:Nat) (w:World) (hv1:DgV Any w a A1 c1) (hv2:DgV Any w b A2 c2) :
  Calls Tryz.prog 160 #[.slice A1 a.length c1,.slice A2 b.length c2] w fun e w'=>e=.returned (.bool (decide (valD a < valD b)))∧Below w.heap.size w w':=by
 obtain ⟨R,hR⟩:∃ R,decide (valD a < valD b)=R:=⟨_,rfl⟩
 rw [hR]
 have HRR:=qh hR
 have HA:=qh ha
 have HB2:=qh hb
 have HV1:=qh hv1
 have HV2:=qh hv2
 obtain ⟨n,hn⟩:∃ n,max a.length b.length=n:=⟨_,rfl⟩
 have hna:a.length≤n:=by omega
 have hnb:b.length≤n:=by omega
 have hn4:n≤10000:=by omega
 have hor:(n:Int)=a.length∧¬ (a.length:Int) < b.length∨(n:Int)=b.length∧(a.length:Int) < b.length:=by omega
 have hlaI:(a.length:Int)≤10000:=by omega
 have hlbI:(b.length:Int)≤10000:=by omega
 clear hR ha hb hv1 hv2 hn
 go_enter Tryz.func160,Tryz.ntmps160
 rcases hor with ⟨hn,hlt⟩ | ⟨hn,hlt⟩
 ·go_wp2_with fail
  go_loopw [6] (fun v wr=>∃ i:Nat,v=.int .i64 ((i:Int) - 1)∧i≤n∧Hid (∀ j,i≤j→a.getD j 0=b.getD j 0)∧Below w.heap.size w wr) (fun v _=>(intOf v+1).toNat)
  case atStart=>exact ⟨n,by rw [hn],Nat.le_refl _,qh (fun j hj=>by rw [List.getD_eq_getElem?_getD,List.getElem?_eq_none (by omega),List.getD_eq_getElem?_getD,List.getElem?_eq_none (by omega)]),Below.refl _ _⟩
  case round =>
   clear hn
   obtain ⟨i1,rfl,hi,hsame,hB⟩:=hrel
   by_cases h0:i1=0
   ·subst h0
    have hF:R=false:=by rw [← HRR.out,sameD (fun j=>hsame.out j (Nat.zero_le _))];simp
    have HF:=qh hF
    have HB:=qh hB
    clear hF hB
    go_wp2_with fail
    go_ret
    exact ⟨by rw [HF.out];rfl,HB.out⟩
   ·obtain ⟨i,rfl⟩:∃ i,i1=i+1:=⟨i1 - 1,by omega⟩
    have hvi:((i+1:Nat):Int) - 1=(i:Int):=by omega
    rw [hvi]
    have hi10:(i:Int)≤10000:=by omega
    obtain ⟨x,hx⟩:∃ x,a.getD i 0=x:=⟨_,rfl⟩
    obtain ⟨y,hy⟩:∃ y,b.getD i 0=y:=⟨_,rfl⟩
    have hda:=fun (W:World) (hb:Below wr.heap.size wr W)=>qb3 a i A1 c1 W ((HV1.out.keep hB).keep hb)
    rw [hx] at hda
    have HDA:=qh hda
    have hdb:=fun (W:World) (hb:Below wr.heap.size wr W)=>qb3 b i A2 c2 W ((HV2.out.keep hB).keep hb)
    rw [hy] at hdb
    have HDB:=qh hdb
    have HB:=qh hB
    have HX:=qh hx
    have HY:=qh hy
    clear hx hy hda hdb hB
    by_cases hxy:x=y
    ·subst hxy
     go_wp2_with fail
     refine (HDA.out _ (Below.refl _ _)).mono ?_
     rintro e w1 ⟨rfl,hb1⟩
     have HB1:=qh hb1
     clear hb1
     go_wp2_with fail
     refine (HDB.out _ HB1.out).mono ?_
     rintro e w2 ⟨rfl,hb2⟩
     have HB2':=qh (qab HB.out HB.out.size (qab HB1.out HB1.out.size hb2))
     clear hb2
     go_wp2_with fail
     go_roundw
     case rel=>exact ⟨i,rfl,by omega,qh (fun j hj=>by
      rcases Nat.lt_or_ge i j with h | h
      ·exact hsame.out j h
      ·obtain rfl:j=i:=by omega
       rw [HX.out,HY.out]),HB2'.out⟩
     case measure=>simp [intOf]
    ·have hne:((x:Int) == y)=false:=by rw [beq_eq_false_iff_ne];omega
     have hL:=lessD HA.out HB2.out (i:=i) (fun j hj=>hsame.out j hj) (by rw [HX.out,HY.out];exact hxy)
     rw [HX.out,HY.out] at hL
     have hR:R=decide (x < y):=by
      rw [← HRR.out,Bool.eq_iff_iff,decide_eq_true_iff,decide_eq_true_iff,← hL]
     have HR:=qh hR
     clear hL hR
     go_wp2_with fail
     refine (HDA.out _ (Below.refl _ _)).mono ?_
     rintro e w1 ⟨rfl,hb1⟩
     have HB1:=qh hb1
     clear hb1
     go_wp2_with fail
     refine (HDB.out _ HB1.out).mono ?_
     rintro e w2 ⟨rfl,hb2⟩
     have HB2':=qh (qab HB1.out HB1.out.size hb2)
     clear hb2 HB1
     go_wp2_with fail
     refine (HDA.out _ HB2'.out).mono ?_
     rintro e w3 ⟨rfl,hb3⟩
     have HB3:=qh (qab HB2'.out HB2'.out.size hb3)
     clear hb3 HB2'
     go_wp2_with fail
     refine (HDB.out _ HB3.out).mono ?_
     rintro e w4 ⟨rfl,hb4⟩
     have HB4:=qh (qab HB.out HB.out.size (qab HB3.out HB3.out.size hb4))
     clear hb4 HB3
     go_wp2_with fail
     go_ret
     exact ⟨by rw [HR.out];rfl,HB4.out⟩
 ·go_wp2_with fail
  go_loopw [6] (fun v wr=>∃ i:Nat,v=.int .i64 ((i:Int) - 1)∧i≤n∧Hid (∀ j,i≤j→a.getD j 0=b.getD j 0)∧Below w.heap.size w wr) (fun v _=>(intOf v+1).toNat)
  case atStart=>exact ⟨n,by rw [hn],Nat.le_refl _,qh (fun j hj=>by rw [List.getD_eq_getElem?_getD,List.getElem?_eq_none (by omega),List.getD_eq_getElem?_getD,List.getElem?_eq_none (by omega)]),Below.refl _ _⟩
  case round =>
   clear hn
   obtain ⟨i1,rfl,hi,hsame,hB⟩:=hrel
   by_cases h0:i1=0
   ·subst h0
    have hF:R=false:=by rw [← HRR.out,sameD (fun j=>hsame.out j (Nat.zero_le _))];simp
    have HF:=qh hF
    have HB:=qh hB
    clear hF hB
    go_wp2_with fail
    go_ret
    exact ⟨by rw [HF.out];rfl,HB.out⟩
   ·obtain ⟨i,rfl⟩:∃ i,i1=i+1:=⟨i1 - 1,by omega⟩
    have hvi:((i+1:Nat):Int) - 1=(i:Int):=by omega
    rw [hvi]
    have hi10:(i:Int)≤10000:=by omega
    obtain ⟨x,hx⟩:∃ x,a.getD i 0=x:=⟨_,rfl⟩
    obtain ⟨y,hy⟩:∃ y,b.getD i 0=y:=⟨_,rfl⟩
    have hda:=fun (W:World) (hb:Below wr.heap.size wr W)=>qb3 a i A1 c1 W ((HV1.out.keep hB).keep hb)
    rw [hx] at hda
    have HDA:=qh hda
    have hdb:=fun (W:World) (hb:Below wr.heap.size wr W)=>qb3 b i A2 c2 W ((HV2.out.keep hB).keep hb)
    rw [hy] at hdb
    have HDB:=qh hdb
    have HB:=qh hB
    have HX:=qh hx
    have HY:=qh hy
    clear hx hy hda hdb hB
    by_cases hxy:x=y
    ·subst hxy
     go_wp2_with fail
     refine (HDA.out _ (Below.refl _ _)).mono ?_
     rintro e w1 ⟨rfl,hb1⟩
     have HB1:=qh hb1
     clear hb1
     go_wp2_with fail
     refine (HDB.out _ HB1.out).mono ?_
     rintro e w2 ⟨rfl,hb2⟩
     have HB2':=qh (qab HB.out HB.out.size (qab HB1.out HB1.out.size hb2))
     clear hb2
     go_wp2_with fail
     go_roundw
     case rel=>exact ⟨i,rfl,by omega,qh (fun j hj=>by
      rcases Nat.lt_or_ge i j with h | h
      ·exact hsame.out j h
      ·obtain rfl:j=i:=by omega
       rw [HX.out,HY.out]),HB2'.out⟩
     case measure=>simp [intOf]
    ·have hne:((x:Int) == y)=false:=by rw [beq_eq_false_iff_ne];omega
     have hL:=lessD HA.out HB2.out (i:=i) (fun j hj=>hsame.out j hj) (by rw [HX.out,HY.out];exact hxy)
     rw [HX.out,HY.out] at hL
     have hR:R=decide (x < y):=by
      rw [← HRR.out,Bool.eq_iff_iff,decide_eq_true_iff,decide_eq_true_iff,← hL]
     have HR:=qh hR
     clear hL hR
     go_wp2_with fail
     refine (HDA.out _ (Below.refl _ _)).mono ?_
     rintro e w1 ⟨rfl,hb1⟩
     have HB1:=qh hb1
     clear hb1
     go_wp2_with fail
     refine (HDB.out _ HB1.out).mono ?_
     rintro e w2 ⟨rfl,hb2⟩
     have HB2':=qh (qab HB1.out HB1.out.size hb2)
     clear hb2 HB1
     go_wp2_with fail
     refine (HDA.out _ HB2'.out).mono ?_
     rintro e w3 ⟨rfl,hb3⟩
     have HB3:=qh (qab HB2'.out HB2'.out.size hb3)
     clear hb3 HB2'
     go_wp2_with fail
     refine (HDB.out _ HB3.out).mono ?_
     rintro e w4 ⟨rfl,hb4⟩
     have HB4:=qh (qab HB.out HB.out.size (qab HB3.out HB3.out.size hb4))
     clear hb4 HB3
     go_wp2_with fail
     go_ret
     exact ⟨by rw [HR.out];rfl,HB4.out⟩
/- The walks of the reference's numbers: To, Times, From, Bytes. -/
def u4r (l:List Nat):Array Value:=(l.map fun d:Nat=>Value.int .u64 (d:Int)).toArray
theorem qs0 {l:List Nat} {i d:Nat} (h:l[i]? = some d):(u4r l)[i]? = some (.int .u64 (d:Int)):=by simp [u4r,h]
theorem u4r_set (l:List Nat) (i v:Nat):(u4r l).setIfInBounds i (.int .u64 (v:Int))=u4r (l.set i v):=by unfold u4r;simp [List.map_set]
theorem one4 (a b c d:Int):(#[.int .u64 a,.int .u64 b,.int .u64 c,.int .u64 d]:Array Value).all (·.oneCell')=true:=by simp [Value.oneCell']
theorem To_any (l:List Nat) (h:okDg l) (A:Option Addr) (c:Nat) (w:World) (hv:DgV Any w l A c):Calls Tryz.prog 157 #[.slice A l.length c] w fun e w'=>e=.returned (.agg #[.int .u64 ((U4.of (valD l)).a:Int),.int .u64 ((U4.of (valD l)).b:Int),.int .u64 ((U4.of (valD l)).c:Int),.int .u64 ((U4.of (valD l)).d:Int)])∧Below w.heap.size w w':=by
 rw [← toD_of h]
 have hX:=(heap_alloc_old (w.alloc (.cells #[.int .u64 0,.int .u64 0,.int .u64 0,.int .u64 0] 24)) (.cells #[.int .u64 0,.int .u64 0,.int .u64 0,.int .u64 0] 24) (by simp)).trans (heap_alloc_new w (.cells #[.int .u64 0,.int .u64 0,.int .u64 0,.int .u64 0] 24))
 have hY:=heap_alloc_new (w.alloc (.cells #[.int .u64 0,.int .u64 0,.int .u64 0,.int .u64 0] 24)) (.cells #[.int .u64 0,.int .u64 0,.int .u64 0,.int .u64 0] 24)
 rw [show (w.alloc (.cells #[.int .u64 0,.int .u64 0,.int .u64 0,.int .u64 0] 24)).heap.size=w.heap.size+1 by simp] at hY
 have hB:Below w.heap.size w ((w.alloc (.cells #[.int .u64 0,.int .u64 0,.int .u64 0,.int .u64 0] 24)).alloc (.cells #[.int .u64 0,.int .u64 0,.int .u64 0,.int .u64 0] 24)):=((Below.refl _ _).alloc qn _).alloc (by simp) _
 have HX:=qh hX
 have HY:=qh hY
 have HB:=qh hB
 have HOK:=qh h
 have HV:=qh hv
 clear hX hY hB h hv
 go_enter Tryz.func157,Tryz.ntmps157
 go_wp2_with fail
 generalize (w.alloc (.cells #[.int .u64 0,.int .u64 0,.int .u64 0,.int .u64 0] 24)).alloc (.cells #[.int .u64 0,.int .u64 0,.int .u64 0,.int .u64 0] 24)=W0 at HX HY HB ⊢
 have hal:Tryz.prog.arrayLen 24 = 4:=by kernel_rfl
 have hcl:Tryz.prog.cellsOf 22 = 1:=by kernel_rfl
 go_loopw [4] (fun v wr=>∃ k:Nat,v=.int .i64 (15 - (k:Int))∧k≤16∧wr.heap[w.heap.size]? = some (.cells #[.int .u64 0,.int .u64 0,.int .u64 0,.int .u64 0] 24 (0,0))∧wr.heap[w.heap.size+1]? = some (.cells (u4r (stD l k)) 24 (0,0))∧Below w.heap.size w wr) (fun v _=>(intOf v+1).toNat)
 case atStart=>exact ⟨0,rfl,Nat.zero_le _,HX.out,HY.out,HB.out⟩
 case round =>
  obtain ⟨k,rfl,hk,hX,hY,hB⟩:=hrel
  clear HX HY HB
  by_cases hlt:k < 16
  ·obtain ⟨j,hj⟩:∃ j,k+j=15:=⟨15 - k,by omega⟩
   have hv15:(15:Int) - k=(j:Int):=by omega
   rw [hv15]
   have hj15:(j:Int)≤15:=by omega
   obtain ⟨jq,hjq⟩:∃ jq,j / 4=jq:=⟨_,rfl⟩
   have hjq4:jq < 4:=by omega
   have hqI:(j:Int) / 4=(jq:Int):=by omega
   have hjqI:(jq:Int) < 4:=by omega
   have e15:(15 - k) / 4=jq:=by omega
   have hsm:=qtq HOK.out k hlt
   rw [e15] at hsm
   obtain ⟨st,hst⟩:∃ st,(stD l k).getD jq 0=st:=⟨_,rfl⟩
   have HG:Hid ((stD l k)[jq]? = some st):=qh (by rw [← hst,List.getD_eq_getElem?_getD,List.getElem?_eq_getElem (by rw [qs3];exact hjq4)];rfl)
   obtain ⟨d,hd⟩:∃ d,l.getD j 0=d:=⟨_,rfl⟩
   have hd6:d < 65536:=by rw [← hd];exact qaz HOK.out j
   rw [hst] at hsm
   obtain ⟨m1,hm1⟩:∃ m1,st * 65536=m1:=⟨_,rfl⟩
   obtain ⟨t,ht⟩:∃ t,m1+d=t:=⟨_,rfl⟩
   have hm1I:(st:Int) * 65536=(m1:Int):=by omega
   have htI:(m1:Int)+(d:Int)=(t:Int):=by omega
   have hm1b:(m1:Int)≤18446744073709486080:=by omega
   have hdb:(d:Int)≤65535:=by omega
   have htb:(t:Int)≤18446744073709551615:=by omega
   have HSN:Hid ((stD l k).set jq t=stD l (k+1)):=qh (by rw [stD,e15,hst,show 15 - k=j by omega,hd,hm1,ht])
   have HD:=qh hd
   have hj0:(0:Int)≤(j:Int):=by omega
   have hwq:IntKind.i64.wrap (jq:Int)=(jq:Int):=IntWalk.i64_in _ (by omega)
   have hwm:IntKind.u64.wrap (m1:Int)=(m1:Int):=IntWalk.u64_in _ (by omega)
   have hwd:IntKind.u64.wrap (d:Int)=(d:Int):=IntWalk.u64_in _ (by omega)
   have hwt:IntKind.u64.wrap (t:Int)=(t:Int):=IntWalk.u64_in _ (by omega)
   clear hst hd hm1 ht e15 hjq hv15 hsm hd6
   go_wp2_with fail
   replace hX:=(show wr.drew.heap[w.heap.size]? = wr.heap[w.heap.size]? from rfl).trans hX
   replace hY:=(show wr.drew.heap[w.heap.size+1]? = wr.heap[w.heap.size+1]? from rfl).trans hY
   replace hB:=hB.drew
   refine qao [(13,fun w'=>w'.heap[w.heap.size+1]? = some (.cells (u4r (stD l k)) 24 (0,0)))] (by kernel_rfl) ?_
   refine R_p (i:=0) (v:=.int .i64 (j:Int)) (Mh hY Mn) ?_
   refine R_p (i:=2) (v:=.int .i64 (j:Int)) (Mh hY Mn) ?_
   refine R_p (i:=7) (v:=.slice A l.length c) (Mh hY Mn) ?_
   refine R_p (i:=8) (v:=.int .i64 (j:Int)) (Mh hY Mn) ?_
   refine R_p (i:=1) (v:=.int .i64 (jq:Int)) (Mh hY Mn) ?_
   refine R_p (i:=3) (v:=.int .i64 (jq:Int)) (Mh hY Mn) ?_
   refine R_p (i:=4) (v:=.pointer (some ⟨w.heap.size+1,jq,none⟩)) (Mh hY Mn) ?_
   refine R_l (i:=5) (v:=.int .u64 (st:Int)) 13 _ List.mem_cons_self rfl (qae rfl rfl rfl (fun w' hS=>rc hS jq (qs0 HG.out)) Tryz.underlying22 rfl) (Mh hY Mn) ?_
   refine R_p (i:=6) (v:=.int .u64 (m1:Int)) (Mh hY Mn) ?_
   refine R_now 9 fun K hK=>?_
   go_simp
   refine (qb3 l j A c _ ((HV.out.keep hB))).mono ?_
   rintro e w9 ⟨rfl,hb9⟩
   replace hX:=(hb9.block _ (qg hX)).trans hX
   replace hY:=(hb9.block _ (qg hY)).trans hY
   replace hB:=qab hB hB.size hb9
   rw [HD.out]
   clear hb9
   refine hK.out _ _ (Mh hY Mn) (fun hMeets=>?_)
   clear hK K hMeets
   refine lay_R ?_
   refine R_p (i:=10) (v:=.int .u64 (d:Int)) (Mh hY Mn) ?_
   refine R_p (i:=11) (v:=.int .u64 (t:Int)) (Mh hY Mn) ?_
   refine R_p (i:=12) (v:=.pointer (some ⟨w.heap.size+1,jq,none⟩)) (Mh hY Mn) ?_
   refine R_now 13 fun K hK=>?_
   have d0:=rc (u:=.int .u64 (st:Int)) hY jq (qs0 HG.out)
   have df:=rf hY jq
   have hlY:=(qg hY)
   go_simp
   have hYn:(w9.setCell ⟨w.heap.size+1,jq,none⟩ (.int .u64 (t:Int))).heap[w.heap.size+1]? = some (.cells (u4r (stD l (k+1))) 24 (0,0)):=by rw [← HSN.out,← u4r_set];exact qaa hY (i:=jq) _
   replace hX:=(qac (w:=w9) (b:=w.heap.size+1) (i:=jq) (show w.heap.size≠w.heap.size+1 by omega) (.int .u64 (t:Int))).trans hX
   replace hB:=hB.setCell (p:=⟨w.heap.size+1,jq,none⟩) (Nat.le_succ _) (.int .u64 (t:Int))
   generalize w9.setCell ⟨w.heap.size+1,jq,none⟩ (.int .u64 (t:Int))=w13 at hYn hX hB ⊢
   clear hY d0 df hlY
   have hY:=hYn
   clear hYn
   refine hK.out _ _ (Meets.past (by kernel_rfl) Mn) (fun hMeets=>?_)
   clear hK K hMeets
   refine lay_R ?_
   refine qa7 (by kernel_rfl) ?_ _
   go_wp2_with fail
   go_roundw
   case rel=>exact ⟨k+1,by go_num,by omega,hX,hY,hB⟩
   case measure=>simp [intOf] <;> omega
  ·obtain rfl:k=16:=by omega
   rw [stD_all] at hY
   have HX:=qh hX
   have HY:=qh hY
   have HB:=qh hB
   clear hX hY hB
   go_wp2_with (first | (refine wpList_load_row rfl _ _ rfl (w.heap.size+1) rfl _ _ _ _ HY.out Tryz.underlying24 rfl infoU ?_) | (refine wpList_store_row rfl _ _ _ rfl w.heap.size (u4r [wdD l 0,wdD l 1,wdD l 2,wdD l 3]) rfl rfl _ _ HX.out infoU rfl (one4 _ _ _ _) ?_))
   exact bodyPost_ret (v:=.agg (u4r [wdD l 0,wdD l 1,wdD l 2,wdD l 3])) (results_cell_row rfl _ _ w.heap.size _ _ _ _ rfl (setRow_heap _ _ _ _ _ _ HX.out) Tryz.underlying24 rfl infoU) rfl ⟨rfl,qak HB.out qn _⟩
end Go.Proofs.YteoednifdpdbnaaGreat
