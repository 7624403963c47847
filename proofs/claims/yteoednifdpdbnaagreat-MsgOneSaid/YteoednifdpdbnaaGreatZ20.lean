/- The walk of trie.Put. -/
import Derived.Test.YteoednifdpdbnaaGreatZ19
import Derived.Test.YteoednifdpdbnaaGreatZ02
import Derived.Lib.Bytealg
import Derived.Shelf.Small.Strs
import Derived.Lib.AppendZerosOnto
import Derived.Lib.Overlaps
import Derived.Laws.CopyRow
import Derived.Laws.NewBlocks
import Derived.Laws.ResultCell
import Derived.Test.YteoednifdpdbnaaGreatZ09
import Derived.Test.YteoednifdpdbnaaGreatZ10
import Derived.Laws.Externs
import Derived.StillTailTactics
import Derived.RegionTactic
import Derived.Test.YteoednifdpdbnaaGreatZ05
import Derived.ChangeKeysEq
namespace Go.Proofs.YteoednifdpdbnaaGreat
set_option linter.unusedVariables false
set_option linter.unusedSimpArgs false
open Go.RowKit
set_option maxHeartbeats 4000000
set_option maxRecDepth 100000
theorem qah {P:Program} {fn:Func} {p u:Tmp} {ty:TypeId} (h:fn.results=#[.cell p ty,.tmp u]) (tmps:Array Value) (w:World) (g:Nat) (t:TypeId) (cs:Array Value) (fr:Nat×Nat) (d:TypeDesc)
  (hp:tmps.getD p undef=.pointer (some ⟨g,0,none⟩)) (hg:w.heap[g]? = some (.cells cs t fr)) (v:Value) (hv:tmps.getD u undef=v)
  (hu:P.underlying ty=some d) (hd:(match d with | .struct _ | .array _ _=>true | _=>false)=true) (hi:(P.info? ty).map (·.size)=some cs.size) :
  (results fn tmps).run P w=.ok (.tuple #[.agg cs,v]) w:=by
 rw [results_cell_tmp h,hp,hv]
 simp [asAddr,Sem.run_pure,run_loadVar_row w g t ty cs fr d hg hu hd hi]
/- Sums in memory; the walk of sums.told. -/
theorem infoI:(Tryz.prog.info? 53).map (·.size)=some 3:=by kernel_rfl
/- The walks of u256: Add, Sub. -/
def carW (x y:U4):Nat→Nat
 | 0=>0
 | j+1=>(addW (x.word j) (y.word j) (carW x y j)).2
def borW (x y:U4):Nat→Nat
 | 0=>0
 | j+1=>(subW (x.word j) (y.word j) (borW x y j)).2
/-- the first words of a number -/
def partW (z:U4) (j:Nat):U4:=⟨if 0 < j then z.a else 0,if 1 < j then z.b else 0,if 2 < j then z.c else 0,if 3 < j then z.d else 0⟩
theorem qll (z:U4) (j:Nat) (hj:j < 4):(u4C (partW z j)).setIfInBounds j (.int .u64 (z.word j:Int))=u4C (partW z (j+1)):=by
 match j,hj with
 | 0,_=>rfl
 | 1,_=>rfl
 | 2,_=>rfl
 | 3,_=>rfl
theorem qst (x y:U4) (j:Nat) (hj:j < 4):(sumW x y).1.word j=(addW (x.word j) (y.word j) (carW x y j)).1:=by
 match j,hj with
 | 0,_=>rfl
 | 1,_=>rfl
 | 2,_=>rfl
 | 3,_=>rfl
section
variable (f:Nat→Nat→Nat→Nat×Nat)
def genW (x y:U4):U4×Nat :=
 let e0:=f x.a y.a 0
 let e1:=f x.b y.b e0.2
 let e2:=f x.c y.c e1.2
 let e3:=f x.d y.d e2.2
 (⟨e0.1,e1.1,e2.1,e3.1⟩,e3.2)
def genC (x y:U4):Nat→Nat
 | 0=>0
 | j+1=>(f (x.word j) (y.word j) (genC x y j)).2
theorem qt5 (x y:U4) (j:Nat) (hj:j < 4):(genW f x y).1.word j=(f (x.word j) (y.word j) (genC f x y j)).1:=by
 match j,hj with
 | 0,_=>rfl
 | 1,_=>rfl
 | 2,_=>rfl
 | 3,_=>rfl
theorem qt0 (x y:U4):genC f x y 4=(genW f x y).2:=rfl
end
theorem qlt:diffW=genW subW:=by unfold diffW genW;rfl
theorem qj6 (x y:U4):∀ j,borW x y j=genC subW x y j
 | 0=>by rw [borW,genC]
 | j+1=>by rw [borW,genC,qj6 x y j]
theorem qox (x y:U4) (j:Nat) (hj:j < 4):(diffW x y).1.word j=(subW (x.word j) (y.word j) (borW x y j)).1:=by
 rw [qlt,qj6];exact qt5 subW x y j hj
theorem qtc (x y:U4):borW x y 4=(diffW x y).2:=by rw [qlt,qj6];exact qt0 subW x y
theorem qs0 (x y:U4):carW x y 4=(sumW x y).2:=rfl
theorem qcv {x:U4} (h:x.Wf) (j:Nat):x.word j < 18446744073709551616:=by
 obtain ⟨h1,h2,h3,h4⟩:=h
 unfold U4.word
 split <;> omega
theorem qsi {x y:U4} (hx:x.Wf) (hy:y.Wf):∀ j,carW x y j≤1
 | 0=>Nat.zero_le _
 | j+1=>by
  have h1:=qcv hx j
  have h2:=qcv hy j
  have h3:=qsi hx hy j
  show (x.word j+y.word j+carW x y j) / 18446744073709551616≤1
  omega
theorem borW_le {x y:U4}:∀ j,borW x y j≤1
 | 0=>Nat.zero_le _
 | j+1=>by
  show (if x.word j < y.word j+borW x y j then 1 else 0)≤1
  split <;> omega
theorem qm1 (p q r:Nat) (hr:r≤1) (w:World):(callFunc 244 #[.int .u64 (p:Int),.int .u64 (q:Int),.int .u64 (r:Int)]).run Tryz.prog w=.ok (.value (.tuple #[.int .u64 ((addW p q r).1:Int),.int .u64 ((addW p q r).2:Int)])) w:=by
 refine (run_callFunc_extern (fn:=Tryz.f244) (e:=add64Entry) (by kernel_rfl) (by kernel_rfl) (by kernel_rfl) (by kernel_rfl) (by rfl) _ w).trans ?_
 rw [run_add64 _ _ _ (by omega) (by omega) (by omega) (by omega)]
 rfl
def sub64Entry:Array Value→Sem Value:=fun args=>do
 let (x,y,b) ← Extern.MathBitsCarry.three "Sub64" args
 pure (Extern.MathBitsCarry.pair ((x+Extern.MathBitsCarry.m64 - y - b) % Extern.MathBitsCarry.m64) (if x < y+b then 1 else 0))
theorem run_sub (p q r:Nat) (hr:r≤1) (w:World):(callFunc 258 #[.int .u64 (p:Int),.int .u64 (q:Int),.int .u64 (r:Int)]).run Tryz.prog w=.ok (.value (.tuple #[.int .u64 ((subW p q r).1:Int),.int .u64 ((subW p q r).2:Int)])) w:=by
 refine (run_callFunc_extern (fn:=Tryz.f258) (e:=sub64Entry) (by kernel_rfl) (by kernel_rfl) (by kernel_rfl) (by kernel_rfl) (by rfl) _ w).trans ?_
 have:r=0∨r=1:=by omega
 rcases this with rfl | rfl <;> rfl
theorem infoU:(Tryz.prog.info? 24).map (·.size)=some 4:=by kernel_rfl
theorem qm8 (w:World) (o0 o1 o2 o3:Obj):((((w.alloc o0).alloc o1).alloc o2).alloc o3).heap[w.heap.size]? = some o0∧((((w.alloc o0).alloc o1).alloc o2).alloc o3).heap[w.heap.size+1]? = some o1∧((((w.alloc o0).alloc o1).alloc o2).alloc o3).heap[w.heap.size+1+1]? = some o2∧((((w.alloc o0).alloc o1).alloc o2).alloc o3).heap[w.heap.size+1+1+1]? = some o3∧Below w.heap.size w ((((w.alloc o0).alloc o1).alloc o2).alloc o3)∧((((w.alloc o0).alloc o1).alloc o2).alloc o3).heap.size=w.heap.size+4:=by
 have z1:(w.alloc o0).heap.size=w.heap.size+1:=by simp
 have z2:((w.alloc o0).alloc o1).heap.size=w.heap.size+1+1:=by simp
 have z3:(((w.alloc o0).alloc o1).alloc o2).heap.size=w.heap.size+1+1+1:=by simp
 have h0:=heap_alloc_new w o0
 have h1:=heap_alloc_new (w.alloc o0) o1
 have h2:=heap_alloc_new ((w.alloc o0).alloc o1) o2
 have h3:=heap_alloc_new (((w.alloc o0).alloc o1).alloc o2) o3
 rw [z1] at h1
 rw [z2] at h2
 rw [z3] at h3
 refine ⟨?_,?_,?_,h3,?_,by simp⟩
 ·rw [heap_alloc_old _ _ (by omega),heap_alloc_old _ _ (by omega),heap_alloc_old _ _ (by omega)];exact h0
 ·rw [heap_alloc_old _ _ (by omega),heap_alloc_old _ _ (by omega)];exact h1
 ·rw [heap_alloc_old _ _ (by omega)];exact h2
 ·exact ((((Below.refl _ _).alloc qn _).alloc (by omega) _).alloc (by omega) _).alloc (by omega) _
theorem qqy (x y:U4) (hx:x.Wf) (hy:y.Wf) (w:World):Calls Tryz.prog 198 #[.agg (u4C x),.agg (u4C y)] w fun e w'=>e=.returned (.tuple #[.agg (u4C (sumW x y).1),.bool (((sumW x y).2:Int) == 1)])∧Below w.heap.size w w':=by
 have HWW:=qst x y
 have HFF:=qs0 x y
 obtain ⟨z,hzz⟩:∃ z,sumW x y=z:=⟨_,rfl⟩
 rw [hzz] at HWW HFF ⊢
 obtain ⟨hX,hY,hR,hO,hB,hz⟩:=qm8 w (.cells (u4C x) 24) (.cells (u4C y) 24) (.cells #[.int .u64 0,.int .u64 0,.int .u64 0,.int .u64 0] 24) (.cells #[.int .u64 0,.int .u64 0,.int .u64 0,.int .u64 0] 24)
 have HX:=qh hX
 have HY:=qh hY
 have HR:=qh hR
 have HO:=qh hO
 have HB:=qh hB
 have HC:=qh (fun j=>qsi hx hy j)
 have HW:=qh HWW
 have HF:=qh HFF
 clear hX hY hR hO hB hz HWW HFF hzz
 go_enter Tryz.func198,Tryz.ntmps198
 go_wp2_with fail
 generalize ((((w.alloc (.cells (u4C x) 24)).alloc (.cells (u4C y) 24)).alloc (.cells #[.int .u64 0,.int .u64 0,.int .u64 0,.int .u64 0] 24)).alloc (.cells #[.int .u64 0,.int .u64 0,.int .u64 0,.int .u64 0] 24))=W0 at HX HY HR HO HB ⊢
 have hal:Tryz.prog.arrayLen 24 = 4:=by kernel_rfl
 have hcl:Tryz.prog.cellsOf 22 = 1:=by kernel_rfl
 go_loopw [7,9] (fun c i wr=>∃ j:Nat,j≤4∧i=.int .i64 (j:Int)∧c=.int .u64 (carW x y j:Int)∧wr.heap[w.heap.size]? = some (.cells (u4C x) 24 (0,0))∧wr.heap[w.heap.size+1]? = some (.cells (u4C y) 24 (0,0))∧wr.heap[w.heap.size+1+1]? = some (.cells #[.int .u64 0,.int .u64 0,.int .u64 0,.int .u64 0] 24 (0,0))∧wr.heap[w.heap.size+1+1+1]? = some (.cells (u4C (partW z.1 j)) 24 (0,0))∧Below w.heap.size w wr) (fun _ i _=>4 - (intOf i).toNat)
 case atStart=>exact ⟨0,by omega,rfl,rfl,HX.out,HY.out,HR.out,HO.out,HB.out⟩
 case round =>
  obtain ⟨j,hj,rfl,rfl,hX,hY,hR,hO,hb⟩:=hrel
  clear HX HY HR HO HB
  by_cases hlt:j < 4
  ·have hltI:(j:Int) < 4:=by omega
   have cx:wr.cell? ⟨w.heap.size,j,none⟩=some (.int .u64 (x.word j:Int)):=rc hX j (qb3 x j hlt)
   have cy:wr.cell? ⟨w.heap.size+1,j,none⟩=some (.int .u64 (y.word j:Int)):=rc hY j (qb3 y j hlt)
   have co:wr.cell? ⟨w.heap.size+1+1+1,j,none⟩=some (.int .u64 ((partW z.1 j).word j:Int)):=rc hO j (qb3 _ j hlt)
   have fo:=rf hO j
   have hadd:=qm1 (x.word j) (y.word j) (carW x y j) (HC.out j)
   have hst:=qaa hO (i:=j) (.int .u64 (z.1.word j:Int))
   rw [qll _ _ hlt,HW.out j hlt] at hst
   obtain ⟨p,hp⟩:∃ p,x.word j=p:=⟨_,rfl⟩
   obtain ⟨q,hq⟩:∃ q,y.word j=q:=⟨_,rfl⟩
   obtain ⟨r,hr⟩:∃ r,carW x y j=r:=⟨_,rfl⟩
   obtain ⟨s,hs⟩:∃ s,(addW p q r).1=s:=⟨_,rfl⟩
   obtain ⟨t,ht⟩:∃ t,(addW p q r).2=t:=⟨_,rfl⟩
   have hnx:Hid (carW x y (j+1)=t):=qh (by rw [carW,hp,hq,hr,ht])
   rw [hp] at cx hadd hst
   rw [hq] at cy hadd hst
   rw [hr] at hadd hst ⊢
   rw [hs] at hadd hst
   rw [ht] at hadd
   have HST:=qh hst
   have HX:=qh hX
   have HY:=qh hY
   have HR:=qh hR
   have HB:=qh hb
   clear hst hX hY hR hO hb hp hq hr hs ht
   go_wp2_with fail
   go_region
   go_wp2_with fail
   go_roundw
   case rel=>exact ⟨j+1,by omega,by go_num,by rw [hnx.out],(qab (by omega) _).trans HX.out,(qab (by omega) _).trans HY.out,(qab (by omega) _).trans HR.out,HST.out,(HB.out.setCell (p:=⟨w.heap.size+1+1+1,j,none⟩) (by simp;omega) _).drew⟩
   case measure=>simp [intOf];omega
  ·obtain rfl:j=4:=by omega
   have o0:wr.cell? ⟨w.heap.size+1+1+1,0,none⟩=some (.int .u64 (z.1.a:Int)):=rc hO 0 rfl
   have o1:wr.cell? ⟨w.heap.size+1+1+1,1,none⟩=some (.int .u64 (z.1.b:Int)):=rc hO 1 rfl
   have o2:wr.cell? ⟨w.heap.size+1+1+1,2,none⟩=some (.int .u64 (z.1.c:Int)):=rc hO 2 rfl
   have o3:wr.cell? ⟨w.heap.size+1+1+1,3,none⟩=some (.int .u64 (z.1.d:Int)):=rc hO 3 rfl
   have r0:wr.cell? ⟨w.heap.size+1+1,0,none⟩=some (.int .u64 0):=rc hR 0 rfl
   have r1:wr.cell? ⟨w.heap.size+1+1,1,none⟩=some (.int .u64 0):=rc hR 1 rfl
   have r2:wr.cell? ⟨w.heap.size+1+1,2,none⟩=some (.int .u64 0):=rc hR 2 rfl
   have r3:wr.cell? ⟨w.heap.size+1+1,3,none⟩=some (.int .u64 0):=rc hR 3 rfl
   have f0:=rf hR 0
   have f1:=rf hR 1
   have f2:=rf hR 2
   have f3:=rf hR 3
   have HB:=qh hb
   have HR:=qh hR
   have hF:=HF.out
   rw [hF]
   obtain ⟨k,hk⟩:∃ k,z.2=k:=⟨_,rfl⟩
   rw [hk]
   have HKK:=qh hk
   clear hX hY hO hR hb hF hk
   go_wp2_with fail
   have hfin:=qaa (qaa (qaa (qaa HR.out (i:=0) (.int .u64 (z.1.a:Int))) (i:=1) (.int .u64 (z.1.b:Int))) (i:=2) (.int .u64 (z.1.c:Int))) (i:=3) (.int .u64 (z.1.d:Int))
   refine bodyPost_ret (v:=.tuple #[.agg (u4C z.1),.bool ((k:Int) == 1)]) (qah rfl _ _ (w.heap.size+1+1) _ _ _ _ rfl hfin _ rfl Tryz.underlying24 rfl infoU) rfl ?_
   rw [HKK.out]
   exact ⟨rfl,(((HB.out.setCell (p:=⟨w.heap.size+1+1,0,none⟩) (by simp;omega) _).setCell (p:=⟨w.heap.size+1+1,1,none⟩) (by simp;omega) _).setCell (p:=⟨w.heap.size+1+1,2,none⟩) (by simp;omega) _).setCell (p:=⟨w.heap.size+1+1,3,none⟩) (by simp;omega) _⟩
theorem qsy (x y:U4) (hx:x.Wf) (hy:y.Wf) (w:World):Calls Tryz.prog 227 #[.agg (u4C x),.agg (u4C y)] w fun e w'=>e=.returned (.tuple #[.agg (u4C (diffW x y).1),.bool (((diffW x y).2:Int) == 1)])∧Below w.heap.size w w':=by
 have HWW:=qox x y
 have HFF:=qtc x y
 obtain ⟨z,hzz⟩:∃ z,diffW x y=z:=⟨_,rfl⟩
 rw [hzz] at HWW HFF ⊢
 obtain ⟨hX,hY,hR,hO,hB,hz⟩:=qm8 w (.cells (u4C x) 24) (.cells (u4C y) 24) (.cells #[.int .u64 0,.int .u64 0,.int .u64 0,.int .u64 0] 24) (.cells #[.int .u64 0,.int .u64 0,.int .u64 0,.int .u64 0] 24)
 have HX:=qh hX
 have HY:=qh hY
 have HR:=qh hR
 have HO:=qh hO
 have HB:=qh hB
 have HC:=qh (fun j=>borW_le (x:=x) (y:=y) j)
 have HW:=qh HWW
 have HF:=qh HFF
 clear hX hY hR hO hB hz HWW HFF hzz
 go_enter Tryz.func227,Tryz.ntmps227
 go_wp2_with fail
 generalize ((((w.alloc (.cells (u4C x) 24)).alloc (.cells (u4C y) 24)).alloc (.cells #[.int .u64 0,.int .u64 0,.int .u64 0,.int .u64 0] 24)).alloc (.cells #[.int .u64 0,.int .u64 0,.int .u64 0,.int .u64 0] 24))=W0 at HX HY HR HO HB ⊢
 have hal:Tryz.prog.arrayLen 24 = 4:=by kernel_rfl
 have hcl:Tryz.prog.cellsOf 22 = 1:=by kernel_rfl
 go_loopw [7,9] (fun c i wr=>∃ j:Nat,j≤4∧i=.int .i64 (j:Int)∧c=.int .u64 (borW x y j:Int)∧wr.heap[w.heap.size]? = some (.cells (u4C x) 24 (0,0))∧wr.heap[w.heap.size+1]? = some (.cells (u4C y) 24 (0,0))∧wr.heap[w.heap.size+1+1]? = some (.cells #[.int .u64 0,.int .u64 0,.int .u64 0,.int .u64 0] 24 (0,0))∧wr.heap[w.heap.size+1+1+1]? = some (.cells (u4C (partW z.1 j)) 24 (0,0))∧Below w.heap.size w wr) (fun _ i _=>4 - (intOf i).toNat)
 case atStart=>exact ⟨0,by omega,rfl,rfl,HX.out,HY.out,HR.out,HO.out,HB.out⟩
 case round =>
  obtain ⟨j,hj,rfl,rfl,hX,hY,hR,hO,hb⟩:=hrel
  clear HX HY HR HO HB
  by_cases hlt:j < 4
  ·have hltI:(j:Int) < 4:=by omega
   have cx:wr.cell? ⟨w.heap.size,j,none⟩=some (.int .u64 (x.word j:Int)):=rc hX j (qb3 x j hlt)
   have cy:wr.cell? ⟨w.heap.size+1,j,none⟩=some (.int .u64 (y.word j:Int)):=rc hY j (qb3 y j hlt)
   have co:wr.cell? ⟨w.heap.size+1+1+1,j,none⟩=some (.int .u64 ((partW z.1 j).word j:Int)):=rc hO j (qb3 _ j hlt)
   have fo:=rf hO j
   have hadd:=run_sub (x.word j) (y.word j) (borW x y j) (HC.out j)
   have hst:=qaa hO (i:=j) (.int .u64 (z.1.word j:Int))
   rw [qll _ _ hlt,HW.out j hlt] at hst
   obtain ⟨p,hp⟩:∃ p,x.word j=p:=⟨_,rfl⟩
   obtain ⟨q,hq⟩:∃ q,y.word j=q:=⟨_,rfl⟩
   obtain ⟨r,hr⟩:∃ r,borW x y j=r:=⟨_,rfl⟩
   obtain ⟨s,hs⟩:∃ s,(subW p q r).1=s:=⟨_,rfl⟩
   obtain ⟨t,ht⟩:∃ t,(subW p q r).2=t:=⟨_,rfl⟩
   have hnx:Hid (borW x y (j+1)=t):=qh (by rw [borW,hp,hq,hr,ht])
   rw [hp] at cx hadd hst
   rw [hq] at cy hadd hst
   rw [hr] at hadd hst ⊢
   rw [hs] at hadd hst
   rw [ht] at hadd
   have HST:=qh hst
   have HX:=qh hX
   have HY:=qh hY
   have HR:=qh hR
   have HB:=qh hb
   clear hst hX hY hR hO hb hp hq hr hs ht
   go_wp2_with fail
   go_region
   go_wp2_with fail
   go_roundw
   case rel=>exact ⟨j+1,by omega,by go_num,by rw [hnx.out],(qab (by omega) _).trans HX.out,(qab (by omega) _).trans HY.out,(qab (by omega) _).trans HR.out,HST.out,(HB.out.setCell (p:=⟨w.heap.size+1+1+1,j,none⟩) (by simp;omega) _).drew⟩
   case measure=>simp [intOf];omega
  ·obtain rfl:j=4:=by omega
   have o0:wr.cell? ⟨w.heap.size+1+1+1,0,none⟩=some (.int .u64 (z.1.a:Int)):=rc hO 0 rfl
   have o1:wr.cell? ⟨w.heap.size+1+1+1,1,none⟩=some (.int .u64 (z.1.b:Int)):=rc hO 1 rfl
   have o2:wr.cell? ⟨w.heap.size+1+1+1,2,none⟩=some (.int .u64 (z.1.c:Int)):=rc hO 2 rfl
   have o3:wr.cell? ⟨w.heap.size+1+1+1,3,none⟩=some (.int .u64 (z.1.d:Int)):=rc hO 3 rfl
   have r0:wr.cell? ⟨w.heap.size+1+1,0,none⟩=some (.int .u64 0):=rc hR 0 rfl
   have r1:wr.cell? ⟨w.heap.size+1+1,1,none⟩=some (.int .u64 0):=rc hR 1 rfl
   have r2:wr.cell? ⟨w.heap.size+1+1,2,none⟩=some (.int .u64 0):=rc hR 2 rfl
   have r3:wr.cell? ⟨w.heap.size+1+1,3,none⟩=some (.int .u64 0):=rc hR 3 rfl
   have f0:=rf hR 0
   have f1:=rf hR 1
   have f2:=rf hR 2
   have f3:=rf hR 3
   have HB:=qh hb
   have HR:=qh hR
   have hF:=HF.out
   rw [hF]
   obtain ⟨k,hk⟩:∃ k,z.2=k:=⟨_,rfl⟩
   rw [hk]
   have HKK:=qh hk
   clear hX hY hO hR hb hF hk
   go_wp2_with fail
   have hfin:=qaa (qaa (qaa (qaa HR.out (i:=0) (.int .u64 (z.1.a:Int))) (i:=1) (.int .u64 (z.1.b:Int))) (i:=2) (.int .u64 (z.1.c:Int))) (i:=3) (.int .u64 (z.1.d:Int))
   refine bodyPost_ret (v:=.tuple #[.agg (u4C z.1),.bool ((k:Int) == 1)]) (qah rfl _ _ (w.heap.size+1+1) _ _ _ _ rfl hfin _ rfl Tryz.underlying24 rfl infoU) rfl ?_
   rw [HKK.out]
   exact ⟨rfl,(((HB.out.setCell (p:=⟨w.heap.size+1+1,0,none⟩) (by simp;omega) _).setCell (p:=⟨w.heap.size+1+1,1,none⟩) (by simp;omega) _).setCell (p:=⟨w.heap.size+1+1,2,none⟩) (by simp;omega) _).setCell (p:=⟨w.heap.size+1+1,3,none⟩) (by simp;omega) _⟩
/- The walks of u256: Bytes, From. -/
/-- byte i of 32 -/
def byteU (v i:Nat):UInt8:=UInt8.ofNat (v / 256 ^ (31 - i) % 256)
theorem qf4 (v:Nat):∀ n,bytesOf n v=(List.range n).map fun i=>UInt8.ofNat (v / 256 ^ (n - 1 - i) % 256)
 | 0=>rfl
 | n+1=>by
  rw [bytesOf,qf4 v n,List.range_succ_eq_map,List.map_cons,List.map_map]
  congr 1
  refine List.map_congr_left fun i hi=>?_
  have:=List.mem_range.1 hi
  show UInt8.ofNat (v / 256 ^ (n - 1 - i) % 256)=UInt8.ofNat (v / 256 ^ (n+1 - 1 - (i+1)) % 256)
  rw [show n+1 - 1 - (i+1)=n - 1 - i by omega]
theorem uB_tab (x:U4):tab 32 (byteU x.val) (fun _=>0) 32=uB x:=by
 unfold uB
 rw [qf4,tab]
 refine List.map_congr_left fun i hi=>?_
 rw [if_pos (List.mem_range.1 hi)];rfl
def rowB (l:List UInt8):Array Value:=(l.map cellB).toArray
theorem rowB_set (l:List UInt8) (i:Nat) (c:UInt8):(rowB l).setIfInBounds i (cellB c)=rowB (l.set i c):=by
 unfold rowB;simp [List.map_set]
theorem qth {x:U4} (h:x.Wf) (i k:Nat) (hk:k+i=31):Value.int .u8 (((x.word (k / 8):Nat):Int) / 2 ^ (8 * (k % 8)) % 256)=cellB (byteU x.val i):=by
 have h1:=U4.byte h k (by omega)
 have e:((x.word (k / 8):Nat):Int) / 2 ^ (8 * (k % 8)) % 256=((x.word (k / 8) / 256 ^ (k % 8) % 256:Nat):Int):=by
  rw [show (256:Nat) ^ (k % 8)=2 ^ (8 * (k % 8)) by rw [Nat.pow_mul]]
  simp
 rw [e,h1,cellB_lt (Nat.mod_lt _ (by decide))]
 unfold byteU
 rw [show 31 - i=k by omega]
theorem qgi (x:U4) (hx:x.Wf) (w:World):Calls Tryz.prog 92 #[.agg (u4C x)] w fun e w'=>e=.returned (.string (bs (uB x)))∧Below w.heap.size w w':=by
 have e32:(#[.int .u8 0,.int .u8 0,.int .u8 0,.int .u8 0,.int .u8 0,.int .u8 0,.int .u8 0,.int .u8 0,.int .u8 0,.int .u8 0,.int .u8 0,.int .u8 0,.int .u8 0,.int .u8 0,.int .u8 0,.int .u8 0,.int .u8 0,.int .u8 0,.int .u8 0,.int .u8 0,.int .u8 0,.int .u8 0,.int .u8 0,.int .u8 0,.int .u8 0,.int .u8 0,.int .u8 0,.int .u8 0,.int .u8 0,.int .u8 0,.int .u8 0,.int .u8 0]:Array Value)=rowB (tab 32 (byteU x.val) (fun _=>0) 0):=rfl
 have hX:=heap_alloc_new w (.cells (u4C x) 24)
 have hz:(w.alloc (.cells (u4C x) 24)).heap.size=w.heap.size+1:=by simp
 have hY:=heap_alloc_new (w.alloc (.cells (u4C x) 24)) (.cells (rowB (tab 32 (byteU x.val) (fun _=>0) 0)) 203)
 have hX:=(heap_alloc_old _ (.cells (rowB (tab 32 (byteU x.val) (fun _=>0) 0)) 203) (qg hX)).trans hX
 rw [hz] at hY
 have hB:=((Below.refl w.heap.size w).alloc qn (.cells (u4C x) 24)).alloc (by simp) (.cells (rowB (tab 32 (byteU x.val) (fun _=>0) 0)) 203)
 have HX:=qh hX
 have HY:=qh hY
 have HB:=qh hB
 have HW:=qh hx
 have HE:=qh e32
 clear hX hY hB hz hx e32
 go_enter Tryz.func92,Tryz.ntmps92
 go_wp2_with fail
 rw [HE.out]
 clear HE
 generalize (w.alloc (.cells (u4C x) 24)).alloc (.cells (rowB (tab 32 (byteU x.val) (fun _=>0) 0)) 203)=W0 at HX HY HB ⊢
 have hal:Tryz.prog.arrayLen 24 = 4:=by kernel_rfl
 have hal2:Tryz.prog.arrayLen 203 = 32:=by kernel_rfl
 have hcl:Tryz.prog.cellsOf 22 = 1:=by kernel_rfl
 have hcl2:Tryz.prog.cellsOf 5 = 1:=by kernel_rfl
 go_loopw [6] (fun i wr=>∃ j:Nat,j≤32∧i=.int .i64 (j:Int)∧wr.heap[w.heap.size]? = some (.cells (u4C x) 24 (0,0))∧wr.heap[w.heap.size+1]? = some (.cells (rowB (tab 32 (byteU x.val) (fun _=>0) j)) 203 (0,0))∧Below w.heap.size w wr) (fun i _=>32 - (intOf i).toNat)
 case atStart=>exact ⟨0,by omega,rfl,HX.out,HY.out,HB.out⟩
 case round =>
  obtain ⟨j,hj,rfl,hX,hO,hb⟩:=hrel
  clear HX HY HB
  by_cases hlt:j < 32
  ·have hltI:(j:Int) < 32:=by omega
   obtain ⟨k,hk⟩:∃ k,k+j=31:=⟨31 - j,by omega⟩
   have hkI:(31:Int) - j=k:=by omega
   have cx:wr.cell? ⟨w.heap.size,k / 8,none⟩=some (.int .u64 (x.word (k / 8):Int)):=rc hX _ (qb3 x _ (by omega))
   have fo:=rf hO j
   have hst:=qaa hO (i:=j) (cellB (byteU x.val j))
   rw [rowB_set,qdz,← qth HW.out j k hk] at hst
   obtain ⟨p,hp⟩:∃ p,x.word (k / 8)=p:=⟨_,rfl⟩
   rw [hp] at cx hst
   have co:wr.cell? ⟨w.heap.size+1,j,none⟩=some (cellB ((tab 32 (byteU x.val) (fun _=>0) j).getD j 0)):=rc hO j (by simp [rowB,tab,hlt])
   have HST:=qh hst
   have HX:=qh hX
   have HB:=qh hb
   clear hst hX hO hb hp
   go_wp2_with fail
   go_roundw
   case rel=>exact ⟨j+1,by omega,by go_num,(qab (by omega) _).trans HX.out,HST.out,HB.out.setCell (p:=⟨w.heap.size+1,j,none⟩) (by simp) _⟩
   case measure=>simp [intOf];omega
  ·obtain rfl:j=32:=by omega
   rw [uB_tab] at hO
   have hl:(uB x).length=32:=qgo x
   have hcv:(convert 97 9 (.slice (some ⟨w.heap.size+1,0,none⟩) 32 32)).run Tryz.prog wr=.ok (.string (bs (uB x))) wr:=by
    have:=qa3 (P:=Tryz.prog) (w:=wr) (src:=97) (dst:=9) (e:=5) (A:=some ⟨w.heap.size+1,0,none⟩) (c:=32) (l:=uB x) Tryz.underlying97 Tryz.underlying5 Tryz.underlying9 (qcn hO (fun j u hj=>by simpa [rowB] using hj))
    rwa [hl] at this
   have HB:=qh hb
   clear hX hO hb hl
   go_wp2_with fail
   go_ret
   exact ⟨rfl,HB.out⟩
/-- bytes that are read so far, the last one first -/
theorem qlg (a b:List UInt8):natOf (a ++ b)=natOf a * 256 ^ b.length+natOf b:=by
 induction a with
 | nil=>simp [natOf]
 | cons c a ih=>rw [List.cons_append,natOf,natOf,ih,List.length_append,Nat.pow_add,Nat.add_mul,Nat.mul_assoc,Nat.add_assoc]
theorem p64:(18446744073709551616:Nat)=256 ^ 8:=by decide
theorem qj1 (v:Nat) (hv:v < two256) (m:Nat) (hm:m < 4):(U4.of v).word m=v / 256 ^ (8 * m) % 256 ^ 8:=by
 rw [U4.word_val (U4.of_wf v) m hm,U4.val_of hv,p64,← Nat.pow_mul]
/-- a byte more -/
theorem qoo {q c k:Nat} (hc:c < 256) (hk:k < 32) (h1:256 ^ (k+1) * q+c * 256 ^ k < two256) :
  (U4.of (256 ^ (k+1) * q)).word (k / 8) ||| c * 256 ^ (k % 8)=(U4.of (256 ^ (k+1) * q+c * 256 ^ k)).word (k / 8)∧c * 256 ^ (k % 8) < 18446744073709551616 ∧
  ∀ m,m < 4→m≠k / 8→(U4.of (256 ^ (k+1) * q)).word m=(U4.of (256 ^ (k+1) * q+c * 256 ^ k)).word m:=by
 have h0:256 ^ (k+1) * q < two256:=by omega
 obtain ⟨m,i,hm,hi,e⟩:∃ m i,k / 8=m∧k % 8=i∧k=8 * m+i:=⟨_,_,rfl,rfl,by omega⟩
 have hi8:i < 8:=by omega
 have hm4:m < 4:=by omega
 rw [hm,hi,qj1 _ h0 m hm4,qj1 _ h1 m hm4]
 have hp:∀ n,0 < (256:Nat) ^ n:=fun n=>Nat.pow_pos (by decide)
 have e1:256 ^ (k+1) * q=256 ^ (8 * m) * (256 ^ (i+1) * q):=by rw [e,Nat.add_assoc,Nat.pow_add,Nat.mul_assoc]
 have e2:c * 256 ^ k=256 ^ (8 * m) * (c * 256 ^ i):=by rw [e,Nat.pow_add,Nat.mul_left_comm]
 obtain ⟨d,hd⟩:∃ d,8=(i+1)+d:=⟨8 - (i+1),by omega⟩
 have hcI:c * 256 ^ i < 256 ^ (i+1):=by rw [Nat.pow_succ,Nat.mul_comm (256 ^ i)];exact Nat.mul_lt_mul_of_pos_right hc (hp i)
 have hle:(256:Nat) ^ (i+1)≤256 ^ 8:=Nat.pow_le_pow_right (by decide) (by omega)
 refine ⟨?_,by rw [p64];omega,fun m' hm' hne=>?_⟩
 ·rw [e1,e2,← Nat.mul_add,Nat.mul_div_cancel_left _ (hp _),Nat.mul_div_cancel_left _ (hp _)]
  have hmod:∀ r,r < 256 ^ (i+1)→(256 ^ (i+1) * q+r) % 256 ^ 8=256 ^ (i+1) * (q % 256 ^ d)+r:=fun r hr=>by
   rw [show (256:Nat) ^ 8=256 ^ (i+1) * 256 ^ d by rw [← Nat.pow_add,← hd],Nat.mod_mul,Nat.mul_add_mod,Nat.mod_eq_of_lt hr,Nat.mul_add_div (hp _),Nat.div_eq_of_lt hr,Nat.add_comm,Nat.add_zero q]
  rw [hmod _ hcI]
  have:=hmod 0 (hp _)
  rw [Nat.add_zero,Nat.add_zero] at this
  rw [this]
  have h2:=Nat.two_pow_add_eq_or_of_lt (i:=8 * (i+1)) (show c * 256 ^ i < 2 ^ (8 * (i+1)) by rw [Nat.pow_mul];exact hcI) (q % 256 ^ d)
  rw [Nat.pow_mul] at h2
  exact h2.symm
 ·rw [qj1 _ h0 m' hm',qj1 _ h1 m' hm']
  rcases Nat.lt_or_ge m' m with hl | hl
  ·obtain ⟨g,rfl⟩:∃ g,m=m'+(g+1):=⟨m - m' - 1,by omega⟩
   have e3:∀ z,256 ^ (8 * (m'+(g+1))) * z=256 ^ (8 * m') * (256 ^ 8 * (256 ^ (8 * g) * z)):=fun z=>by
    rw [show 8 * (m'+(g+1))=8 * m'+(8+8 * g) by omega,Nat.pow_add,Nat.pow_add,Nat.mul_assoc,Nat.mul_assoc]
   rw [e1,e2,← Nat.mul_add,e3,e3,Nat.mul_div_cancel_left _ (hp _),Nat.mul_div_cancel_left _ (hp _),Nat.mul_mod_right,Nat.mul_mod_right]
  ·have hl:m < m':=by omega
   obtain ⟨g,hg⟩:∃ g,8 * m'=(k+1)+g:=⟨8 * m' - (k+1),by omega⟩
   have hck:c * 256 ^ k < 256 ^ (k+1):=by rw [Nat.pow_succ,Nat.mul_comm (256 ^ k)];exact Nat.mul_lt_mul_of_pos_right hc (hp k)
   rw [hg,Nat.pow_add _ (k+1) g,← Nat.div_div_eq_div_mul,← Nat.div_div_eq_div_mul,Nat.mul_add_div (hp _),Nat.div_eq_of_lt hck,Nat.add_zero q,Nat.mul_div_cancel_left _ (hp _)]
theorem u4C_set {x y:U4} {j:Nat} (hj:j < 4) (h:∀ m,m < 4→m≠j→x.word m=y.word m):(u4C x).setIfInBounds j (.int .u64 (y.word j:Int))=u4C y:=by
 obtain ⟨a,b,c,d⟩:=x
 obtain ⟨a',b',c',d'⟩:=y
 have h0:=h 0 (by omega)
 have h1:=h 1 (by omega)
 have h2:=h 2 (by omega)
 have h3:=h 3 (by omega)
 simp only [U4.word] at h0 h1 h2 h3
 match j,hj with
 | 0,_=>rw [h1 (by omega),h2 (by omega),h3 (by omega)];rfl
 | 1,_=>rw [h0 (by omega),h2 (by omega),h3 (by omega)];rfl
 | 2,_=>rw [h0 (by omega),h1 (by omega),h3 (by omega)];rfl
 | 3,_=>rw [h0 (by omega),h1 (by omega),h2 (by omega)];rfl
/-- what is read behind j bytes -/
def fromV (s:Bytes) (j:Nat):Nat:=natOf (s.take j) * 256 ^ (s.length - j)
theorem fromV_lt (s:Bytes) (hs:s.length≤32) (j:Nat) (hj:j≤s.length):fromV s j < two256:=by
 unfold fromV
 have h1:=qf7 (s.take j)
 rw [List.length_take,Nat.min_eq_left hj] at h1
 have h2:natOf (s.take j) * 256 ^ (s.length - j) < 256 ^ j * 256 ^ (s.length - j):=Nat.mul_lt_mul_of_pos_right h1 (Nat.pow_pos (by decide))
 rw [← Nat.pow_add,Nat.add_sub_cancel' hj] at h2
 have h3:(256:Nat) ^ s.length≤256 ^ 32:=Nat.pow_le_pow_right (by decide) hs
 have h4:=p256
 omega
theorem qo1 {s:Bytes} {j k:Nat} {c:UInt8} (hc:s[j]? = some c) (hk:k+j+1=s.length):fromV s (j+1)=256 ^ (k+1) * natOf (s.take j)+c.toNat * 256 ^ k∧fromV s j=256 ^ (k+1) * natOf (s.take j):=by
 unfold fromV
 have h1:s.take (j+1)=s.take j ++ [c]:=by
  obtain ⟨hl,he⟩:=List.getElem?_eq_some_iff.1 hc
  rw [List.take_succ_eq_append_getElem hl,he]
 rw [h1,qlg]
 simp only [natOf,List.length_singleton,List.length_nil,Nat.pow_zero,Nat.mul_one,Nat.add_zero,Nat.pow_one]
 rw [show s.length - (j+1)=k by omega,show s.length - j=k+1 by omega,Nat.add_mul,Nat.pow_succ,Nat.mul_comm (256 ^ k * 256),Nat.mul_assoc,Nat.mul_comm 256]
 exact ⟨rfl,rfl⟩
theorem or_here {p q c k:Nat} (h:p ||| c * 256 ^ (k % 8)=q) (hp:p < 18446744073709551616) (hc:c * 256 ^ (k % 8) < 18446744073709551616):bits .or .u64 (p:Int) (IntKind.u64.wrap ((c:Int) * 2 ^ (8 * (k % 8))))=(q:Int):=by
 have e:(c:Int) * 2 ^ (8 * (k % 8))=((c * 256 ^ (k % 8):Nat):Int):=by
  rw [show (256:Nat) ^ (k % 8)=2 ^ (8 * (k % 8)) by rw [Nat.pow_mul]]
  simp
 rw [e,IntWalk.u64_in _ (by omega),bits_or_u64_nat _ _ hp hc,h]
theorem qrh (s:Bytes) (hs:s.length≤32) (w:World):Calls Tryz.prog 98 #[.string (bs s)] w fun e w'=>e=.returned (.tuple #[.agg (u4C (uOf s)),.int .i64 0])∧Below w.heap.size w w':=by
 have hlI:(s.length:Int)≤32:=by omega
 have hZ:(#[.int .u64 0,.int .u64 0,.int .u64 0,.int .u64 0]:Array Value)=u4C (U4.of (fromV s 0)):=by
  unfold fromV;rw [List.take_zero,natOf,Nat.zero_mul];rfl
 have hX:=heap_alloc_new w (.cells #[.int .u64 0,.int .u64 0,.int .u64 0,.int .u64 0] 24)
 have hz:(w.alloc (.cells #[.int .u64 0,.int .u64 0,.int .u64 0,.int .u64 0] 24)).heap.size=w.heap.size+1:=by simp
 have hY:=heap_alloc_new (w.alloc (.cells #[.int .u64 0,.int .u64 0,.int .u64 0,.int .u64 0] 24)) (.cells #[.int .u64 0,.int .u64 0,.int .u64 0,.int .u64 0] 24)
 have hX:=(heap_alloc_old _ (.cells #[.int .u64 0,.int .u64 0,.int .u64 0,.int .u64 0] 24) (qg hX)).trans hX
 rw [hz] at hY
 have hB:=((Below.refl w.heap.size w).alloc qn (.cells #[.int .u64 0,.int .u64 0,.int .u64 0,.int .u64 0] 24)).alloc (by simp) (.cells #[.int .u64 0,.int .u64 0,.int .u64 0,.int .u64 0] 24)
 have HX:=qh hX
 have HY:=qh hY
 have HB:=qh hB
 have HZ:=qh hZ
 have HS:=qh hs
 clear hX hY hB hz hZ hs
 go_enter Tryz.func98,Tryz.ntmps98
 go_wp2_with fail
 generalize (w.alloc (.cells #[.int .u64 0,.int .u64 0,.int .u64 0,.int .u64 0] 24)).alloc (.cells #[.int .u64 0,.int .u64 0,.int .u64 0,.int .u64 0] 24)=W0 at HX HY HB ⊢
 have hal:Tryz.prog.arrayLen 24 = 4:=by kernel_rfl
 have hcl:Tryz.prog.cellsOf 22 = 1:=by kernel_rfl
 go_loopw [13] (fun i wr=>∃ j:Nat,j≤s.length∧i=.int .i64 (j:Int)∧wr.heap[w.heap.size]? = some (.cells #[.int .u64 0,.int .u64 0,.int .u64 0,.int .u64 0] 24 (0,0))∧wr.heap[w.heap.size+1]? = some (.cells (u4C (U4.of (fromV s j))) 24 (0,0))∧Below w.heap.size w wr) (fun i _=>s.length - (intOf i).toNat)
 case atStart=>exact ⟨0,by omega,rfl,HX.out,HZ.out ▸ HY.out,HB.out⟩
 case round =>
  obtain ⟨j,hj,rfl,hX,hO,hb⟩:=hrel
  clear HX HY HB HZ
  by_cases hlt:j < s.length
  ·have hltI:(j:Int) < s.length:=by omega
   obtain ⟨c,hc⟩:=qan hlt
   obtain ⟨k,hk⟩:∃ k,k+j+1=s.length:=⟨s.length - 1 - j,by omega⟩
   have hkI:(s.length:Int) - 1 - j=k:=by omega
   have hci:s[j]=c:=(List.getElem?_eq_some_iff.1 hc).2
   obtain ⟨f1,f2⟩:=qo1 hc hk
   have hlt1:=fromV_lt s HS.out (j+1) (by omega)
   have hcl8:=c.toNat_lt
   obtain ⟨s1,s2,s3⟩:=qoo (q:=natOf (s.take j)) (c:=c.toNat) (k:=k) (by omega) (by omega) (by rw [← f1];exact hlt1)
   rw [← f1,← f2] at s1 s3
   have hk8:k / 8 < 4:=by omega
   have cx:wr.cell? ⟨w.heap.size+1,k / 8,none⟩=some (.int .u64 ((U4.of (fromV s j)).word (k / 8):Int)):=rc hO _ (qb3 _ _ hk8)
   have fo:=rf hO (k / 8)
   have hst:=qaa hO (i:=k / 8) (.int .u64 ((U4.of (fromV s (j+1))).word (k / 8):Int))
   rw [u4C_set hk8 s3] at hst
   have hor:=or_here s1 (qcv (U4.of_wf _) _) s2
   obtain ⟨p,hp⟩:∃ p,(U4.of (fromV s j)).word (k / 8)=p:=⟨_,rfl⟩
   obtain ⟨q,hq⟩:∃ q,(U4.of (fromV s (j+1))).word (k / 8)=q:=⟨_,rfl⟩
   rw [hp] at cx hor
   rw [hq] at hst hor
   have HST:=qh hst
   have HX:=qh hX
   have HB:=qh hb
   clear hst hX hO hb hp hq s1 s2 s3 f1 f2 hlt1 hc
   go_wp2_with fail
   go_region
   go_wp2_with fail
   go_roundw
   case rel=>exact ⟨j+1,by omega,by go_num,(qab (by omega) _).trans HX.out,HST.out,(HB.out.setCell (p:=⟨w.heap.size+1,k / 8,none⟩) (by simp) _).drew⟩
   case measure=>simp [intOf];omega
  ·obtain rfl:j=s.length:=by omega
   have hfin:U4.of (fromV s s.length)=uOf s:=by unfold fromV uOf;rw [List.take_of_length_le qn,Nat.sub_self,Nat.pow_zero,Nat.mul_one]
   rw [hfin] at hO
   obtain ⟨z,hzz⟩:∃ z,uOf s=z:=⟨_,rfl⟩
   rw [hzz] at hO
   have HZZ:=qh hzz
   have o0:wr.cell? ⟨w.heap.size+1,0,none⟩=some (.int .u64 (z.a:Int)):=rc hO 0 rfl
   have o1:wr.cell? ⟨w.heap.size+1,1,none⟩=some (.int .u64 (z.b:Int)):=rc hO 1 rfl
   have o2:wr.cell? ⟨w.heap.size+1,2,none⟩=some (.int .u64 (z.c:Int)):=rc hO 2 rfl
   have o3:wr.cell? ⟨w.heap.size+1,3,none⟩=some (.int .u64 (z.d:Int)):=rc hO 3 rfl
   have r0:wr.cell? ⟨w.heap.size,0,none⟩=some (.int .u64 0):=rc hX 0 rfl
   have r1:wr.cell? ⟨w.heap.size,1,none⟩=some (.int .u64 0):=rc hX 1 rfl
   have r2:wr.cell? ⟨w.heap.size,2,none⟩=some (.int .u64 0):=rc hX 2 rfl
   have r3:wr.cell? ⟨w.heap.size,3,none⟩=some (.int .u64 0):=rc hX 3 rfl
   have f0:=rf hX 0
   have f1:=rf hX 1
   have f2:=rf hX 2
   have f3:=rf hX 3
   have HB:=qh hb
   have HR:=qh hX
   clear hX hO hb hfin hzz
   go_wp2_with fail
   have hfin:=qaa (qaa (qaa (qaa HR.out (i:=0) (.int .u64 (z.a:Int))) (i:=1) (.int .u64 (z.b:Int))) (i:=2) (.int .u64 (z.c:Int))) (i:=3) (.int .u64 (z.d:Int))
   refine bodyPost_ret (v:=.tuple #[.agg (u4C z),.int .i64 0]) (qah rfl _ _ w.heap.size _ _ _ _ rfl hfin _ rfl Tryz.underlying24 rfl infoU) rfl ?_
   rw [HZZ.out]
   exact ⟨rfl,(((HB.out.setCell (p:=⟨w.heap.size,0,none⟩) (by simp) _).setCell (p:=⟨w.heap.size,1,none⟩) (by simp) _).setCell (p:=⟨w.heap.size,2,none⟩) (by simp) _).setCell (p:=⟨w.heap.size,3,none⟩) (by simp) _⟩
/- The walks of field.Prime at the order, and of sign.between, high, right. -/
/-- by how much the order is below 2^256; the order -/
def cU:U4:=⟨4624529908474429119,4994812053365940164,1,0⟩
def nU:U4:=⟨13822214165235122497,13451932020343611451,18446744073709551614,18446744073709551615⟩
theorem nU_sub:diffW zeroU cU=(nU,1):=by decide +kernel
theorem nU_val:nU.val=ordN:=by decide +kernel
theorem cU_wf:cU.Wf:=⟨by decide,by decide,by decide,by decide⟩
theorem nU_wf:nU.Wf:=⟨by decide,by decide,by decide,by decide⟩
theorem ql0 {fn:Func} {p:Tmp} {ty:TypeId} (h:fn.results=#[.cell p ty]) (tmps:Array Value) (P:Program) (w:World) :
  (results fn tmps).run P w=((asAddr (tmps.getD p undef)).run P w).andThen fun a w₁=>(loadVar ty a).run P w₁:=by
 simp only [results,h]
 simp [Sem.run_bind]
/-- a result of four cells -/
theorem qlc {P:Program} {fn:Func} {p:Tmp} {ty:TypeId} (h:fn.results=#[.cell p ty]) (tmps:Array Value) (w:World) (g:Nat) (t:TypeId) (cs:Array Value) (fr:Nat×Nat) (d:TypeDesc)
  (hp:tmps.getD p undef=.pointer (some ⟨g,0,none⟩)) (hg:w.heap[g]? = some (.cells cs t fr))
  (hu:P.underlying ty=some d) (hd:(match d with | .struct _ | .array _ _=>true | _=>false)=true) (hi:(P.info? ty).map (·.size)=some cs.size) :
  (results fn tmps).run P w=.ok (.agg cs) w:=by
 rw [ql0 h,hp]
 simp [asAddr,Sem.run_pure,run_loadVar_row w g t ty cs fr d hg hu hd hi]
theorem row4 {w:World} {g:Nat} {a b c d:Value} {e:TypeId} (h:w.heap[g]? = some (.cells #[a,b,c,d] e (0,0))):w.cell? ⟨g,0,none⟩=some a∧w.cell? ⟨g,1,none⟩=some b∧w.cell? ⟨g,2,none⟩=some c∧w.cell? ⟨g,3,none⟩=some d∧w.frozen? ⟨g,0,none⟩=false∧w.frozen? ⟨g,1,none⟩=false∧w.frozen? ⟨g,2,none⟩=false∧w.frozen? ⟨g,3,none⟩=false :=
 ⟨rc h 0 rfl,rc h 1 rfl,rc h 2 rfl,rc h 3 rfl,rf h 0,rf h 1,rf h 2,rf h 3⟩
/-- a row of four cells set anew -/
def set4 (w:World) (g:Nat) (a b c d:Value):World:=(((w.setCell ⟨g,0,none⟩ a).setCell ⟨g,1,none⟩ b).setCell ⟨g,2,none⟩ c).setCell ⟨g,3,none⟩ d
theorem qk7 {w:World} {g:Nat} {a b c d a' b' c' d':Value} {e:TypeId} (h:w.heap[g]? = some (.cells #[a',b',c',d'] e (0,0))):(set4 w g a b c d).heap[g]? = some (.cells #[a,b,c,d] e (0,0)) :=
 qaa (qaa (qaa (qaa h (i:=0) a) (i:=1) b) (i:=2) c) (i:=3) d
theorem qpn {w:World} {g b0:Nat} {a b c d:Value} (h:b0≠g):(set4 w g a b c d).heap[b0]? = w.heap[b0]?:=by
 unfold set4
 rw [qab h,qab h,qab h,qab h]
theorem qgk {B:Nat} {w0 w:World} {g:Nat} {a b c d:Value} (h:Below B w0 w) (hg:B≤g):Below B w0 (set4 w g a b c d) :=
 (((h.setCell (p:=⟨g,0,none⟩) hg _).setCell (p:=⟨g,1,none⟩) hg _).setCell (p:=⟨g,2,none⟩) hg _).setCell (p:=⟨g,3,none⟩) hg _
theorem qje (w:World):Calls Tryz.prog 225 #[.int .i64 1] w fun e w'=>e=.returned (.tuple #[.agg #[.int .u64 4624529908474429119,.int .u64 4994812053365940164,.int .u64 1,.int .u64 0],.bool true])∧Below w.heap.size w w':=by
 have HX:=qh (heap_alloc_new w (.cells #[.int .u64 4624529908474429119,.int .u64 4994812053365940164,.int .u64 1,.int .u64 0] 24))
 have HB:=qh ((Below.refl w.heap.size w).alloc qn (.cells #[.int .u64 4624529908474429119,.int .u64 4994812053365940164,.int .u64 1,.int .u64 0] 24))
 go_enter Tryz.func225,Tryz.ntmps225
 go_wp2_with fail
 exact bodyPost_ret (v:=.tuple #[.agg #[.int .u64 4624529908474429119,.int .u64 4994812053365940164,.int .u64 1,.int .u64 0],.bool true]) (qah rfl _ _ w.heap.size _ _ _ _ rfl HX.out _ rfl Tryz.underlying24 rfl infoU) rfl ⟨rfl,HB.out⟩
theorem sub_lit (w:World):Calls Tryz.prog 227 #[.agg #[.int .u64 0,.int .u64 0,.int .u64 0,.int .u64 0],.agg #[.int .u64 4624529908474429119,.int .u64 4994812053365940164,.int .u64 1,.int .u64 0]] w fun e w'=>e=.returned (.tuple #[.agg #[.int .u64 13822214165235122497,.int .u64 13451932020343611451,.int .u64 18446744073709551614,.int .u64 18446744073709551615],.bool true])∧Below w.heap.size w w':=by
 have h:=qsy zeroU cU qg4 cU_wf w
 rw [nU_sub] at h
 exact h
theorem qke (w:World):Calls Tryz.prog 228 #[.int .i64 1] w fun e w'=>e=.returned (.agg #[.int .u64 13822214165235122497,.int .u64 13451932020343611451,.int .u64 18446744073709551614,.int .u64 18446744073709551615])∧Below w.heap.size w w':=by
 have hX:=heap_alloc_new w (.cells #[.int .u64 0,.int .u64 0,.int .u64 0,.int .u64 0] 24)
 have HB:=qh ((Below.refl w.heap.size w).alloc qn (.cells #[.int .u64 0,.int .u64 0,.int .u64 0,.int .u64 0] 24))
 have HX:=qh hX
 clear hX
 go_enter Tryz.func228,Tryz.ntmps228
 go_wp2_with fail
 refine (qje _).mono ?_
 rintro e w1 ⟨rfl,hb1⟩
 have HX1:=qh ((hb1.block _ (qg HX.out)).trans HX.out)
 have HB1:=qh (qac HB.out HB.out.size hb1)
 clear hb1 HX HB
 go_wp2_with fail
 refine (sub_lit _).mono ?_
 rintro e w2 ⟨rfl,hb2⟩
 have hba:Below w1.heap.size w1 (w1.alloc (.cells #[.int .u64 4624529908474429119,.int .u64 4994812053365940164,.int .u64 1,.int .u64 0] 24)):=(Below.refl _ _).alloc qn _
 have hX2:=(hb2.block _ (Nat.lt_of_lt_of_le (qg HX1.out) hba.size)).trans ((hba.block _ (qg HX1.out)).trans HX1.out)
 have HB2:=qh (qac (qac HB1.out HB1.out.size hba) (Nat.le_trans HB1.out.size hba.size) hb2)
 have hX3:=(heap_alloc_old w2 (.cells #[.int .u64 13822214165235122497,.int .u64 13451932020343611451,.int .u64 18446744073709551614,.int .u64 18446744073709551615] 24) (qg hX2)).trans hX2
 have HB3:=qh (HB2.out.alloc HB2.out.size (.cells #[.int .u64 13822214165235122497,.int .u64 13451932020343611451,.int .u64 18446744073709551614,.int .u64 18446744073709551615] 24))
 obtain ⟨r0,r1,r2,r3,f0,f1,f2,f3⟩:=row4 hX2
 obtain ⟨p0,p1,p2,p3,g0,g1,g2,g3⟩:=row4 hX3
 have HX3:=qh hX3
 clear hb2 hba hX2 hX3 HX1 HB1 HB2
 go_wp2_with fail
 exact bodyPost_ret (v:=.agg #[.int .u64 13822214165235122497,.int .u64 13451932020343611451,.int .u64 18446744073709551614,.int .u64 18446744073709551615]) (qlc rfl _ _ w.heap.size _ _ _ _ rfl (by exact qk7 HX3.out) Tryz.underlying24 rfl infoU) rfl ⟨rfl,qgk HB3.out qn⟩
theorem qi0 (w:World):Calls Tryz.prog 196 #[.int .i64 1] w fun e w'=>e=.returned (.tuple #[.agg #[.int .u64 13822214165235122497,.int .u64 13451932020343611451,.int .u64 18446744073709551614,.int .u64 18446744073709551615],.int .i64 0])∧Below w.heap.size w w':=by
 have hX:=heap_alloc_new w (.cells #[.int .u64 0,.int .u64 0,.int .u64 0,.int .u64 0] 24)
 have HB:=qh ((Below.refl w.heap.size w).alloc qn (.cells #[.int .u64 0,.int .u64 0,.int .u64 0,.int .u64 0] 24))
 have HX:=qh hX
 clear hX
 go_enter Tryz.func196,Tryz.ntmps196
 go_wp2_with fail
 refine (qje _).mono ?_
 rintro e w1 ⟨rfl,hb1⟩
 have HX1:=qh ((hb1.block _ (qg HX.out)).trans HX.out)
 have HB1:=qh (qac HB.out HB.out.size hb1)
 clear hb1 HX HB
 go_wp2_with fail
 refine (qke _).mono ?_
 rintro e w2 ⟨rfl,hb2⟩
 have hba:Below w1.heap.size w1 (w1.alloc (.cells #[.int .u64 4624529908474429119,.int .u64 4994812053365940164,.int .u64 1,.int .u64 0] 24)):=(Below.refl _ _).alloc qn _
 have hX2:=(hb2.block _ (Nat.lt_of_lt_of_le (qg HX1.out) hba.size)).trans ((hba.block _ (qg HX1.out)).trans HX1.out)
 have HB2:=qh (qac (qac HB1.out HB1.out.size hba) (Nat.le_trans HB1.out.size hba.size) hb2)
 obtain ⟨r0,r1,r2,r3,f0,f1,f2,f3⟩:=row4 hX2
 have HX2:=qh hX2
 clear hb2 hba hX2 HX1 HB1
 go_wp2_with fail
 exact bodyPost_ret (v:=.tuple #[.agg #[.int .u64 13822214165235122497,.int .u64 13451932020343611451,.int .u64 18446744073709551614,.int .u64 18446744073709551615],.int .i64 0]) (qah rfl _ _ w.heap.size _ _ _ _ rfl (by exact qk7 HX2.out) _ rfl Tryz.underlying24 rfl infoU) rfl ⟨rfl,qgk HB2.out qn⟩
theorem cmpN (x:U4) (h:x.Wf):(cmpW x nU < 0↔x.val < ordN)∧(0 < cmpW x nU↔ordN < x.val):=by
 rw [qns h nU_wf,nU_val]
 by_cases h1:x.val < ordN
 ·rw [if_pos h1];exact ⟨by simp [h1],by simp;omega⟩
 ·rw [if_neg h1]
  by_cases h2:ordN < x.val
  ·rw [if_pos h2];exact ⟨by simp;omega,by simp [h2]⟩
  ·rw [if_neg h2];exact ⟨by simp;omega,by simp;omega⟩
theorem qp2 (x:U4) (w:World):Calls Tryz.prog 197 #[.agg #[.int .u64 (x.a:Int),.int .u64 (x.b:Int),.int .u64 (x.c:Int),.int .u64 (x.d:Int)],.agg #[.int .u64 13822214165235122497,.int .u64 13451932020343611451,.int .u64 18446744073709551614,.int .u64 18446744073709551615]] w fun e w'=>e=.returned (.int .i64 (cmpW x nU))∧Below w.heap.size w w':=qp3 x nU w
theorem qd1 {P:Program} (d:Nat) {e:TypeId} {q:IntKind} (he:P.underlying e=some (.int q)) (w:World) (xs ys:Array Value) (f g:Nat→Int):∀ (is:List Nat),(∀ i∈is,xs[i * 1]? = some (.int q (f i))∧ys[i * 1]? = some (.int q (g i))) →
  (Op.eqItems (d+1) e 1 xs ys is).run P w=.ok (is.all fun i=>f i == g i) w
 | [],_=>by simp [Op.eqItems]
 | i :: is,h=>by
  obtain ⟨hv,hv2⟩:=h i (by simp)
  have hp:(part e xs (i * 1)).run P w=.ok (.int q (f i)) w:=by simp only [part,isAgg,Sem.run_bind,run_underlying he,Result.andThen_ok,hv];simp
  have hp2:(part e ys (i * 1)).run P w=.ok (.int q (g i)) w:=by simp only [part,isAgg,Sem.run_bind,run_underlying he,Result.andThen_ok,hv2];simp
  have ih:=qd1 d he w xs ys f g is (fun j hj=>h j (by simp [hj]))
  simp only [Op.eqItems,Sem.run_bind,hp,hp2,Result.andThen_ok,run_equalIn_int w d e q q _ _ he]
  cases hfg:(f i == g i) with
  | true=>simpa [hfg] using ih
  | false=>simp [hfg]
theorem infoU64:∃ i,Tryz.prog.info? 22 = some i:=info_of_underlying Tryz.underlying22
def eqU (x y:U4):Bool:=decide (x=y)
theorem qs4 (x y:U4):((List.range 4).all fun i=>(x.word i:Int) == (y.word i:Int))=eqU x y:=by
 unfold eqU
 rw [Bool.eq_iff_iff,decide_eq_true_iff,List.all_eq_true]
 constructor
 ·intro h
  have h0:=h 0 (by decide)
  have h1:=h 1 (by decide)
  have h2:=h 2 (by decide)
  have h3:=h 3 (by decide)
  simp only [beq_iff_eq,U4.word] at h0 h1 h2 h3
  obtain ⟨a,b,c,d⟩:=x
  obtain ⟨a',b',c',d'⟩:=y
  simp only [U4.mk.injEq]
  simp only [] at h0 h1 h2 h3
  exact ⟨Int.ofNat.inj h0,Int.ofNat.inj h1,Int.ofNat.inj h2,Int.ofNat.inj h3⟩
 ·rintro rfl i _
  exact beq_self_eq_true _
theorem qe6 (d:Nat) (x y:U4) (w:World):(Op.equalIn (d+2) 24 (.agg #[.int .u64 (x.a:Int),.int .u64 (x.b:Int),.int .u64 (x.c:Int),.int .u64 (x.d:Int)]) (.agg #[.int .u64 (y.a:Int),.int .u64 (y.b:Int),.int .u64 (y.c:Int),.int .u64 (y.d:Int)])).run Tryz.prog w=.ok (eqU x y) w:=by
 obtain ⟨i,hi⟩:=infoU64
 refine (run_equalIn_array w (d+1) _ _ Tryz.underlying24 hi).trans ?_
 rw [show Tryz.prog.cellsOf 22 = 1 by kernel_rfl]
 refine (qd1 d Tryz.underlying22 w _ _ (fun i=>(x.word i:Int)) (fun i=>(y.word i:Int)) (List.range 4) (fun j hj=>?_)).trans ?_
 rotate_left
 ·refine congrArg (fun b=>Result.ok b w) (qs4 x y)
 ·have hj:j < 4:=by simpa using hj
  exact ⟨by rw [Nat.mul_one];exact qb3 x j hj,by rw [Nat.mul_one];exact qb3 y j hj⟩
theorem qdx (x:U4) (h:x.Wf) (w:World):Calls Tryz.prog 144 #[.agg #[.int .u64 (x.a:Int),.int .u64 (x.b:Int),.int .u64 (x.c:Int),.int .u64 (x.d:Int)]] w fun e w'=>e=.returned (.bool (insideN x))∧Below w.heap.size w w':=by
 have hX:=heap_alloc_new w (.cells #[.int .u64 (x.a:Int),.int .u64 (x.b:Int),.int .u64 (x.c:Int),.int .u64 (x.d:Int)] 24)
 have HB:=qh ((Below.refl w.heap.size w).alloc qn (.cells #[.int .u64 (x.a:Int),.int .u64 (x.b:Int),.int .u64 (x.c:Int),.int .u64 (x.d:Int)] 24))
 have HX:=qh hX
 have HW:=qh h
 clear hX h
 go_enter Tryz.func144,Tryz.ntmps144
 go_wp2_with fail
 refine (qi0 _).mono ?_
 rintro e w1 ⟨rfl,hb1⟩
 have hX1:=(hb1.block _ (qg HX.out)).trans HX.out
 have hX2:=(heap_alloc_old w1 (.cells #[.int .u64 13822214165235122497,.int .u64 13451932020343611451,.int .u64 18446744073709551614,.int .u64 18446744073709551615] 24) (qg hX1)).trans hX1
 have HB1:=qh (qac HB.out HB.out.size hb1)
 obtain ⟨r0,r1,r2,r3,f0,f1,f2,f3⟩:=row4 hX1
 obtain ⟨p0,p1,p2,p3,g0,g1,g2,g3⟩:=row4 hX2
 have HV:=qh (cmpN x HW.out)
 have HI:Hid (insideN x=(!(eqU x zeroU) && decide (cmpW x nU < 0))):=qh (by
  unfold insideN eqU
  rw [Bool.eq_iff_iff]
  simp only [Bool.and_eq_true,decide_eq_true_eq,Bool.not_eq_true',decide_eq_false_iff_not,HV.out.1]
  constructor
  ·rintro ⟨h1,h2⟩;exact ⟨fun e=>by rw [e] at h1;simp [U4.val,zeroU] at h1,h2⟩
  ·rintro ⟨h1,h2⟩
   exact ⟨Nat.pos_of_ne_zero fun e=>h1 (U4.ext HW.out qg4 (by rw [e];rfl)),h2⟩)
 obtain ⟨b,hb⟩:∃ b,eqU x zeroU=b:=⟨_,rfl⟩
 have heq:∀ W:World,(Op.equalIn 10000 24 (.agg #[.int .u64 (x.a:Int),.int .u64 (x.b:Int),.int .u64 (x.c:Int),.int .u64 (x.d:Int)]) (.agg #[.int .u64 0,.int .u64 0,.int .u64 0,.int .u64 0])).run Tryz.prog W=.ok b W:=fun W=>by
  have:=qe6 9998 x zeroU W
  rw [hb] at this
  exact this
 obtain ⟨k,hk⟩:∃ k,cmpW x nU=k:=⟨_,rfl⟩
 have HBB:=qh hb
 have HKK:=qh hk
 clear hb1 HX HB hX1 hX2 hb
 cases b with
 | true =>
  clear hk
  go_wp2_with fail
  go_ret
  exact ⟨by rw [HI.out,HBB.out];rfl,HB1.out.alloc HB1.out.size _⟩
 | false =>
  clear hk
  go_wp2_with fail
  refine (qp2 x _).mono ?_
  rintro e w2 ⟨rfl,hb2⟩
  rw [HKK.out]
  have HB2:=qh (qac (HB1.out.alloc HB1.out.size _) (Nat.le_trans HB1.out.size (by simp)) hb2)
  clear hb2
  go_wp2_with fail
  go_ret
  exact ⟨by rw [HI.out,HBB.out,HKK.out];rfl,HB2.out⟩
/- The walks of sign.high, right, Bytes, From. -/
theorem uadd_lit (x y z:U4) (k:Nat) (hx:x.Wf) (hy:y.Wf) (h:sumW x y=(z,k)) (w:World):Calls Tryz.prog 198 #[.agg #[.int .u64 (x.a:Int),.int .u64 (x.b:Int),.int .u64 (x.c:Int),.int .u64 (x.d:Int)],.agg #[.int .u64 (y.a:Int),.int .u64 (y.b:Int),.int .u64 (y.c:Int),.int .u64 (y.d:Int)]] w fun e w'=>e=.returned (.tuple #[.agg #[.int .u64 (z.a:Int),.int .u64 (z.b:Int),.int .u64 (z.c:Int),.int .u64 (z.d:Int)],.bool ((k:Int) == 1)])∧Below w.heap.size w w':=by
 have:=qqy x y hx hy w
 rw [h] at this
 exact this
theorem qnb (x:U4) (h:x.Wf) (w:World):Calls Tryz.prog 145 #[.agg #[.int .u64 (x.a:Int),.int .u64 (x.b:Int),.int .u64 (x.c:Int),.int .u64 (x.d:Int)]] w fun e w'=>e=.returned (.bool (highN x))∧Below w.heap.size w w':=by
 obtain ⟨h1,h2,h3⟩:=qn3 h h
 obtain ⟨z,k,hzk⟩:∃ z k,sumW x x=(z,k):=⟨_,_,rfl⟩
 rw [hzk] at h1 h2 h3
 simp only [] at h1 h2 h3
 have hN:ordN < two256:=by decide
 have HA:=qh (fun W:World=>uadd_lit x x z k h h hzk W)
 have HI:Hid (highN x=(((k:Int) == 1) || decide (0 < cmpW z nU))):=qh (by
  unfold highN
  rw [Bool.eq_iff_iff]
  simp only [Bool.or_eq_true,decide_eq_true_eq,beq_iff_eq,(cmpN z h1).2]
  have:=U4.val_lt h1
  rcases (by omega:k=0∨k=1) with rfl | rfl
  ·constructor
   ·intro h;exact .inr (by omega)
   ·rintro (h | h)
    ·omega
    ·omega
  ·constructor
   ·intro _;exact .inl rfl
   ·intro _;omega)
 have hX:=heap_alloc_new w (.cells #[.int .u64 (x.a:Int),.int .u64 (x.b:Int),.int .u64 (x.c:Int),.int .u64 (x.d:Int)] 24)
 have HB:=qh ((Below.refl w.heap.size w).alloc qn (.cells #[.int .u64 (x.a:Int),.int .u64 (x.b:Int),.int .u64 (x.c:Int),.int .u64 (x.d:Int)] 24))
 have HX:=qh hX
 clear hX h h1 h2 h3 hzk hN
 go_enter Tryz.func145,Tryz.ntmps145
 go_wp2_with fail
 refine (HA.out _).mono ?_
 rintro e w1 ⟨rfl,hb1⟩
 have HB1:=qh (qac HB.out HB.out.size hb1)
 have HX1:=qh (heap_alloc_new w1 (.cells #[.int .u64 (z.a:Int),.int .u64 (z.b:Int),.int .u64 (z.c:Int),.int .u64 (z.d:Int)] 24))
 have HB1a:=qh (HB1.out.alloc HB1.out.size (.cells #[.int .u64 (z.a:Int),.int .u64 (z.b:Int),.int .u64 (z.c:Int),.int .u64 (z.d:Int)] 24))
 clear hb1 HB HX
 go_wp2_with fail
 refine (qi0 _).mono ?_
 rintro e w2 ⟨rfl,hb2⟩
 have hX2:=(hb2.block _ (qg HX1.out)).trans HX1.out
 have hX3:=(heap_alloc_old w2 (.cells #[.int .u64 13822214165235122497,.int .u64 13451932020343611451,.int .u64 18446744073709551614,.int .u64 18446744073709551615] 24) (qg hX2)).trans hX2
 have HB2:=qh (qac HB1a.out HB1a.out.size hb2)
 obtain ⟨r0,r1,r2,r3,f0,f1,f2,f3⟩:=row4 hX2
 obtain ⟨p0,p1,p2,p3,g0,g1,g2,g3⟩:=row4 hX3
 clear hb2 hX2 hX3 HX1 HB1a HB1
 cases hk:((k:Int) == 1) with
 | true =>
  have HK:=qh hk
  clear hk
  go_wp2_with fail
  go_ret
  exact ⟨by rw [HI.out,HK.out];rfl,HB2.out.alloc HB2.out.size _⟩
 | false =>
  have HK:=qh hk
  clear hk
  go_wp2_with fail
  refine (qp2 z _).mono ?_
  rintro e w3 ⟨rfl,hb3⟩
  obtain ⟨q,hq⟩:∃ q,cmpW z nU=q:=⟨_,rfl⟩
  rw [hq]
  have HQ:=qh hq
  have HB3:=qh (qac (HB2.out.alloc HB2.out.size _) (Nat.le_trans HB2.out.size (by simp)) hb3)
  clear hb3 hq
  go_wp2_with fail
  go_ret
  exact ⟨by rw [HI.out,HK.out,HQ.out];rfl,HB3.out⟩
theorem row9 {w:World} {g:Nat} {a b c d a' b' c' d' v:Value} {e:TypeId} (h:w.heap[g]? = some (.cells #[a,b,c,d,a',b',c',d',v] e (0,0))):w.cell? ⟨g,0,none⟩=some a∧w.cell? ⟨g,1,none⟩=some b∧w.cell? ⟨g,2,none⟩=some c∧w.cell? ⟨g,3,none⟩=some d∧w.cell? ⟨g,4,none⟩=some a'∧w.cell? ⟨g,5,none⟩=some b'∧w.cell? ⟨g,6,none⟩=some c'∧w.cell? ⟨g,7,none⟩=some d'∧w.cell? ⟨g,8,none⟩=some v :=
 ⟨rc h 0 rfl,rc h 1 rfl,rc h 2 rfl,rc h 3 rfl,rc h 4 rfl,rc h 5 rfl,rc h 6 rfl,rc h 7 rfl,rc h 8 rfl⟩
theorem okSg_eq (x:Sg):okSg x=(insideN x.r && insideN x.s && !highN x.s && (x.v == 0 || x.v == 1)):=rfl
theorem qfn (x:Sg) (h:x.Wf) (w:World):Calls Tryz.prog 91 #[.agg #[.int .u64 (x.r.a:Int),.int .u64 (x.r.b:Int),.int .u64 (x.r.c:Int),.int .u64 (x.r.d:Int),.int .u64 (x.s.a:Int),.int .u64 (x.s.b:Int),.int .u64 (x.s.c:Int),.int .u64 (x.s.d:Int),.int .i64 x.v]] w fun e w'=>e=.returned (.bool (okSg x))∧Below w.heap.size w w':=by
 have hX:=heap_alloc_new w (.cells #[.int .u64 (x.r.a:Int),.int .u64 (x.r.b:Int),.int .u64 (x.r.c:Int),.int .u64 (x.r.d:Int),.int .u64 (x.s.a:Int),.int .u64 (x.s.b:Int),.int .u64 (x.s.c:Int),.int .u64 (x.s.d:Int),.int .i64 x.v] 26)
 have HB0:=qh ((Below.refl w.heap.size w).alloc qn (.cells #[.int .u64 (x.r.a:Int),.int .u64 (x.r.b:Int),.int .u64 (x.r.c:Int),.int .u64 (x.r.d:Int),.int .u64 (x.s.a:Int),.int .u64 (x.s.b:Int),.int .u64 (x.s.c:Int),.int .u64 (x.s.d:Int),.int .i64 x.v] 26))
 have HX0:=qh hX
 have hbr:=fun W:World=>qdx x.r h.r W
 have hbs:=fun W:World=>qdx x.s h.s W
 have hhs:=fun W:World=>qnb x.s h.s W
 have hok:=okSg_eq x
 obtain ⟨c0,c1,c2,c3,c4,c5,c6,c7,c8⟩:=row9 hX
 clear hX h
 obtain ⟨b1,e1⟩:∃ b,insideN x.r=b:=⟨_,rfl⟩
 obtain ⟨b2,e2⟩:∃ b,insideN x.s=b:=⟨_,rfl⟩
 obtain ⟨b3,e3⟩:∃ b,highN x.s=b:=⟨_,rfl⟩
 obtain ⟨v,e4⟩:∃ v,x.v=v:=⟨_,rfl⟩
 rw [e1,e2,e3,e4] at hok
 rw [e1] at hbr
 rw [e2] at hbs
 rw [e3] at hhs
 rw [e4] at c8 HX0 HB0 ⊢
 have HOK:=qh hok
 have HBR:=qh hbr
 have HBS:=qh hbs
 have HHS:=qh hhs
 clear hok e1 e2 e3 e4 hbr hbs hhs
 go_enter Tryz.func91,Tryz.ntmps91
 go_wp2_with fail
 refine (HBR.out _).mono ?_
 rintro e w1 ⟨rfl,hb1⟩
 have hX1:=(hb1.block _ (qg HX0.out)).trans HX0.out
 have HB1:=qh (qac HB0.out HB0.out.size hb1)
 obtain ⟨c0,c1,c2,c3,c4,c5,c6,c7,c8⟩:=row9 hX1
 have HX1:=qh hX1
 clear hb1 hX1 HX0 HB0
 cases b1 with
 | false =>
  go_wp2_with fail
  go_ret
  exact ⟨by rw [HOK.out];rfl,HB1.out⟩
 | true =>
  go_wp2_with fail
  refine (HBS.out _).mono ?_
  rintro e w2 ⟨rfl,hb2⟩
  have hX2:=(hb2.block _ (qg HX1.out)).trans HX1.out
  have HB2:=qh (qac HB1.out HB1.out.size hb2)
  obtain ⟨c0,c1,c2,c3,c4,c5,c6,c7,c8⟩:=row9 hX2
  have HX2:=qh hX2
  clear hb2 hX2 HX1 HB1
  cases b2 with
  | false =>
   go_wp2_with fail
   go_ret
   exact ⟨by rw [HOK.out];rfl,HB2.out⟩
  | true =>
   go_wp2_with fail
   refine (HHS.out _).mono ?_
   rintro e w3 ⟨rfl,hb3⟩
   have hX3:=(hb3.block _ (qg HX2.out)).trans HX2.out
   have HB3:=qh (qac HB2.out HB2.out.size hb3)
   obtain ⟨c0,c1,c2,c3,c4,c5,c6,c7,c8⟩:=row9 hX3
   have HX3:=qh hX3
   clear hb3 hX3 HX2 HB2
   cases b3 with
   | true =>
    go_wp2_with fail
    go_ret
    exact ⟨by rw [HOK.out];rfl,HB3.out⟩
   | false =>
    cases hv0:(v == 0) with
    | true =>
     have HV:=qh hv0
     go_wp2_with fail
     go_ret
     exact ⟨by rw [HOK.out];rw [HV.out];rfl,HB3.out⟩
    | false =>
     have HV:=qh hv0
     go_wp2_with fail
     go_ret
     exact ⟨by rw [HOK.out];rw [HV.out];rfl,HB3.out⟩
end Go.Proofs.YteoednifdpdbnaaGreat
