/- The walks of u256: Add, Sub. -/
import Derived.Test.YtjanaholcjkceaaGreatZ31
import Derived.Test.YtjanaholcjkceaaGreatZ07
import Derived.Test.YtjanaholcjkceaaGreatZ15
import Derived.Laws.Externs
import Derived.StillTailTactics
import Derived.RegionTactic
namespace Go.Proofs.YtjanaholcjkceaaGreat
set_option linter.unusedVariables false
set_option linter.unusedSimpArgs false
open Go.RowKit
set_option maxHeartbeats 4000000
set_option maxRecDepth 100000
def carW (x y:U4):Nat→Nat
 | 0=>0
 | j+1=>(addW (x.word j) (y.word j) (carW x y j)).2
def borW (x y:U4):Nat→Nat
 | 0=>0
 | j+1=>(subW (x.word j) (y.word j) (borW x y j)).2
/-- the first words of a number -/
def partW (z:U4) (j:Nat):U4:=⟨if 0 < j then z.a else 0,if 1 < j then z.b else 0,if 2 < j then z.c else 0,if 3 < j then z.d else 0⟩
theorem partW_set (z:U4) (j:Nat) (hj:j < 4):(u4C (partW z j)).setIfInBounds j (.int .u64 (z.word j:Int))=u4C (partW z (j+1)):=by
 match j,hj with
 | 0,_=>rfl
 | 1,_=>rfl
 | 2,_=>rfl
 | 3,_=>rfl
theorem sumW_word (x y:U4) (j:Nat) (hj:j < 4):(sumW x y).1.word j=(addW (x.word j) (y.word j) (carW x y j)).1:=by
 match j,hj with
 | 0,_=>rfl
 | 1,_=>rfl
 | 2,_=>rfl
 | 3,_=>rfl
section
variable (f:Nat→Nat→Nat→Nat×Nat)
def genW (x y:U4):U4×Nat :=
 let e0:=f x.a y.a 0
 let e1:=f x.b y.b e0.2
 let e2:=f x.c y.c e1.2
 let e3:=f x.d y.d e2.2
 (⟨e0.1,e1.1,e2.1,e3.1⟩,e3.2)
def genC (x y:U4):Nat→Nat
 | 0=>0
 | j+1=>(f (x.word j) (y.word j) (genC x y j)).2
theorem genW_word (x y:U4) (j:Nat) (hj:j < 4):(genW f x y).1.word j=(f (x.word j) (y.word j) (genC f x y j)).1:=by
 match j,hj with
 | 0,_=>rfl
 | 1,_=>rfl
 | 2,_=>rfl
 | 3,_=>rfl
theorem genC_four (x y:U4):genC f x y 4=(genW f x y).2:=rfl
end
theorem diffW_gen:diffW=genW subW:=by unfold diffW genW;rfl
theorem borW_gen (x y:U4):∀ j,borW x y j=genC subW x y j
 | 0=>by rw [borW,genC]
 | j+1=>by rw [borW,genC,borW_gen x y j]
theorem diffW_word (x y:U4) (j:Nat) (hj:j < 4):(diffW x y).1.word j=(subW (x.word j) (y.word j) (borW x y j)).1:=by
 rw [diffW_gen,borW_gen];exact genW_word subW x y j hj
theorem borW_four (x y:U4):borW x y 4=(diffW x y).2:=by rw [diffW_gen,borW_gen];exact genC_four subW x y
theorem carW_four (x y:U4):carW x y 4=(sumW x y).2:=rfl
theorem word_lt {x:U4} (h:x.Wf) (j:Nat):x.word j < 18446744073709551616:=by
 obtain ⟨h1,h2,h3,h4⟩:=h
 unfold U4.word
 split <;> omega
theorem carW_le {x y:U4} (hx:x.Wf) (hy:y.Wf):∀ j,carW x y j≤1
 | 0=>Nat.zero_le _
 | j+1=>by
  have h1:=word_lt hx j
  have h2:=word_lt hy j
  have h3:=carW_le hx hy j
  show (x.word j+y.word j+carW x y j) / 18446744073709551616≤1
  omega
theorem borW_le {x y:U4}:∀ j,borW x y j≤1
 | 0=>Nat.zero_le _
 | j+1=>by
  show (if x.word j < y.word j+borW x y j then 1 else 0)≤1
  split <;> omega
theorem run_add (p q r:Nat) (hr:r≤1) (w:World):(callFunc 140 #[.int .u64 (p:Int),.int .u64 (q:Int),.int .u64 (r:Int)]).run Tryz.prog w=.ok (.value (.tuple #[.int .u64 ((addW p q r).1:Int),.int .u64 ((addW p q r).2:Int)])) w:=by
 refine (run_callFunc_extern (fn:=Tryz.f140) (e:=add64Entry) (by kernel_rfl) (by kernel_rfl) (by kernel_rfl) (by kernel_rfl) (by rfl) _ w).trans ?_
 rw [run_add64 _ _ _ (by omega) (by omega) (by omega) (by omega)]
 rfl
def sub64Entry:Array Value→Sem Value:=fun args=>do
 let (x,y,b) ← Extern.MathBitsCarry.three "Sub64" args
 pure (Extern.MathBitsCarry.pair ((x+Extern.MathBitsCarry.m64 - y - b) % Extern.MathBitsCarry.m64) (if x < y+b then 1 else 0))
theorem run_sub (p q r:Nat) (hr:r≤1) (w:World):(callFunc 142 #[.int .u64 (p:Int),.int .u64 (q:Int),.int .u64 (r:Int)]).run Tryz.prog w=.ok (.value (.tuple #[.int .u64 ((subW p q r).1:Int),.int .u64 ((subW p q r).2:Int)])) w:=by
 refine (run_callFunc_extern (fn:=Tryz.f142) (e:=sub64Entry) (by kernel_rfl) (by kernel_rfl) (by kernel_rfl) (by kernel_rfl) (by rfl) _ w).trans ?_
 have:r=0∨r=1:=by omega
 rcases this with rfl | rfl <;> rfl
theorem infoU:(Tryz.prog.info? 51).map (·.size)=some 4:=by kernel_rfl
theorem four_new (w:World) (o0 o1 o2 o3:Obj):((((w.alloc o0).alloc o1).alloc o2).alloc o3).heap[w.heap.size]? = some o0∧((((w.alloc o0).alloc o1).alloc o2).alloc o3).heap[w.heap.size+1]? = some o1∧((((w.alloc o0).alloc o1).alloc o2).alloc o3).heap[w.heap.size+1+1]? = some o2∧((((w.alloc o0).alloc o1).alloc o2).alloc o3).heap[w.heap.size+1+1+1]? = some o3∧Below w.heap.size w ((((w.alloc o0).alloc o1).alloc o2).alloc o3)∧((((w.alloc o0).alloc o1).alloc o2).alloc o3).heap.size=w.heap.size+4:=by
 have z1:(w.alloc o0).heap.size=w.heap.size+1:=by simp
 have z2:((w.alloc o0).alloc o1).heap.size=w.heap.size+1+1:=by simp
 have z3:(((w.alloc o0).alloc o1).alloc o2).heap.size=w.heap.size+1+1+1:=by simp
 have h0:=heap_alloc_new w o0
 have h1:=heap_alloc_new (w.alloc o0) o1
 have h2:=heap_alloc_new ((w.alloc o0).alloc o1) o2
 have h3:=heap_alloc_new (((w.alloc o0).alloc o1).alloc o2) o3
 rw [z1] at h1
 rw [z2] at h2
 rw [z3] at h3
 refine ⟨?_,?_,?_,h3,?_,by simp⟩
 ·rw [heap_alloc_old _ _ (by omega),heap_alloc_old _ _ (by omega),heap_alloc_old _ _ (by omega)];exact h0
 ·rw [heap_alloc_old _ _ (by omega),heap_alloc_old _ _ (by omega)];exact h1
 ·rw [heap_alloc_old _ _ (by omega)];exact h2
 ·exact ((((Below.refl _ _).alloc qn _).alloc (by omega) _).alloc (by omega) _).alloc (by omega) _
theorem add_any (x y:U4) (hx:x.Wf) (hy:y.Wf) (w:World):Calls Tryz.prog 127 #[.agg (u4C x),.agg (u4C y)] w fun e w'=>e=.returned (.tuple #[.agg (u4C (sumW x y).1),.bool (((sumW x y).2:Int) == 1)])∧Below w.heap.size w w':=by
 have HWW:=sumW_word x y
 have HFF:=carW_four x y
 obtain ⟨z,hzz⟩:∃ z,sumW x y=z:=⟨_,rfl⟩
 rw [hzz] at HWW HFF ⊢
 obtain ⟨hX,hY,hR,hO,hB,hz⟩:=four_new w (.cells (u4C x) 51) (.cells (u4C y) 51) (.cells #[.int .u64 0,.int .u64 0,.int .u64 0,.int .u64 0] 51) (.cells #[.int .u64 0,.int .u64 0,.int .u64 0,.int .u64 0] 51)
 have HX:=qh hX
 have HY:=qh hY
 have HR:=qh hR
 have HO:=qh hO
 have HB:=qh hB
 have HC:=qh (fun j=>carW_le hx hy j)
 have HW:=qh HWW
 have HF:=qh HFF
 clear hX hY hR hO hB hz HWW HFF hzz
 go_enter Tryz.func127,Tryz.ntmps127
 go_wp2_with fail
 generalize ((((w.alloc (.cells (u4C x) 51)).alloc (.cells (u4C y) 51)).alloc (.cells #[.int .u64 0,.int .u64 0,.int .u64 0,.int .u64 0] 51)).alloc (.cells #[.int .u64 0,.int .u64 0,.int .u64 0,.int .u64 0] 51))=W0 at HX HY HR HO HB ⊢
 have hal:Tryz.prog.arrayLen 51 = 4:=by kernel_rfl
 have hcl:Tryz.prog.cellsOf 22 = 1:=by kernel_rfl
 go_loopw [7,9] (fun c i wr=>∃ j:Nat,j≤4∧i=.int .i64 (j:Int)∧c=.int .u64 (carW x y j:Int)∧wr.heap[w.heap.size]? = some (.cells (u4C x) 51 (0,0))∧wr.heap[w.heap.size+1]? = some (.cells (u4C y) 51 (0,0))∧wr.heap[w.heap.size+1+1]? = some (.cells #[.int .u64 0,.int .u64 0,.int .u64 0,.int .u64 0] 51 (0,0))∧wr.heap[w.heap.size+1+1+1]? = some (.cells (u4C (partW z.1 j)) 51 (0,0))∧Below w.heap.size w wr) (fun _ i _=>4 - (intOf i).toNat)
 case atStart=>exact ⟨0,by omega,rfl,rfl,HX.out,HY.out,HR.out,HO.out,HB.out⟩
 case round =>
  obtain ⟨j,hj,rfl,rfl,hX,hY,hR,hO,hb⟩:=hrel
  clear HX HY HR HO HB
  by_cases hlt:j < 4
  ·have hltI:(j:Int) < 4:=by omega
   have cx:wr.cell? ⟨w.heap.size,j,none⟩=some (.int .u64 (x.word j:Int)):=rc hX j (u4C_get x j hlt)
   have cy:wr.cell? ⟨w.heap.size+1,j,none⟩=some (.int .u64 (y.word j:Int)):=rc hY j (u4C_get y j hlt)
   have co:wr.cell? ⟨w.heap.size+1+1+1,j,none⟩=some (.int .u64 ((partW z.1 j).word j:Int)):=rc hO j (u4C_get _ j hlt)
   have fo:=rf hO j
   have hadd:=run_add (x.word j) (y.word j) (carW x y j) (HC.out j)
   have hst:=heap_setCell_here hO (i:=j) (.int .u64 (z.1.word j:Int))
   rw [partW_set _ _ hlt,HW.out j hlt] at hst
   obtain ⟨p,hp⟩:∃ p,x.word j=p:=⟨_,rfl⟩
   obtain ⟨q,hq⟩:∃ q,y.word j=q:=⟨_,rfl⟩
   obtain ⟨r,hr⟩:∃ r,carW x y j=r:=⟨_,rfl⟩
   obtain ⟨s,hs⟩:∃ s,(addW p q r).1=s:=⟨_,rfl⟩
   obtain ⟨t,ht⟩:∃ t,(addW p q r).2=t:=⟨_,rfl⟩
   have hnx:Hid (carW x y (j+1)=t):=qh (by rw [carW,hp,hq,hr,ht])
   rw [hp] at cx hadd hst
   rw [hq] at cy hadd hst
   rw [hr] at hadd hst ⊢
   rw [hs] at hadd hst
   rw [ht] at hadd
   have HST:=qh hst
   have HX:=qh hX
   have HY:=qh hY
   have HR:=qh hR
   have HB:=qh hb
   clear hst hX hY hR hO hb hp hq hr hs ht
   go_wp2_with fail
   go_region
   go_wp2_with fail
   go_roundw
   case rel=>exact ⟨j+1,by omega,by go_num,by rw [hnx.out],(heap_set_ne (by omega) _).trans HX.out,(heap_set_ne (by omega) _).trans HY.out,(heap_set_ne (by omega) _).trans HR.out,HST.out,(HB.out.setCell (p:=⟨w.heap.size+1+1+1,j,none⟩) (by simp;omega) _).drew⟩
   case measure=>simp [intOf];omega
  ·obtain rfl:j=4:=by omega
   have o0:wr.cell? ⟨w.heap.size+1+1+1,0,none⟩=some (.int .u64 (z.1.a:Int)):=rc hO 0 rfl
   have o1:wr.cell? ⟨w.heap.size+1+1+1,1,none⟩=some (.int .u64 (z.1.b:Int)):=rc hO 1 rfl
   have o2:wr.cell? ⟨w.heap.size+1+1+1,2,none⟩=some (.int .u64 (z.1.c:Int)):=rc hO 2 rfl
   have o3:wr.cell? ⟨w.heap.size+1+1+1,3,none⟩=some (.int .u64 (z.1.d:Int)):=rc hO 3 rfl
   have r0:wr.cell? ⟨w.heap.size+1+1,0,none⟩=some (.int .u64 0):=rc hR 0 rfl
   have r1:wr.cell? ⟨w.heap.size+1+1,1,none⟩=some (.int .u64 0):=rc hR 1 rfl
   have r2:wr.cell? ⟨w.heap.size+1+1,2,none⟩=some (.int .u64 0):=rc hR 2 rfl
   have r3:wr.cell? ⟨w.heap.size+1+1,3,none⟩=some (.int .u64 0):=rc hR 3 rfl
   have f0:=rf hR 0
   have f1:=rf hR 1
   have f2:=rf hR 2
   have f3:=rf hR 3
   have HB:=qh hb
   have HR:=qh hR
   have hF:=HF.out
   rw [hF]
   obtain ⟨k,hk⟩:∃ k,z.2=k:=⟨_,rfl⟩
   rw [hk]
   have HKK:=qh hk
   clear hX hY hO hR hb hF hk
   go_wp2_with fail
   have hfin:=heap_setCell_here (heap_setCell_here (heap_setCell_here (heap_setCell_here HR.out (i:=0) (.int .u64 (z.1.a:Int))) (i:=1) (.int .u64 (z.1.b:Int))) (i:=2) (.int .u64 (z.1.c:Int))) (i:=3) (.int .u64 (z.1.d:Int))
   refine bodyPost_ret (v:=.tuple #[.agg (u4C z.1),.bool ((k:Int) == 1)]) (results_row_tmp rfl _ _ (w.heap.size+1+1) _ _ _ _ rfl hfin _ rfl Tryz.underlying51 rfl infoU) rfl ?_
   rw [HKK.out]
   exact ⟨rfl,(((HB.out.setCell (p:=⟨w.heap.size+1+1,0,none⟩) (by simp;omega) _).setCell (p:=⟨w.heap.size+1+1,1,none⟩) (by simp;omega) _).setCell (p:=⟨w.heap.size+1+1,2,none⟩) (by simp;omega) _).setCell (p:=⟨w.heap.size+1+1,3,none⟩) (by simp;omega) _⟩
theorem sub_any (x y:U4) (hx:x.Wf) (hy:y.Wf) (w:World):Calls Tryz.prog 141 #[.agg (u4C x),.agg (u4C y)] w fun e w'=>e=.returned (.tuple #[.agg (u4C (diffW x y).1),.bool (((diffW x y).2:Int) == 1)])∧Below w.heap.size w w':=by
 have HWW:=diffW_word x y
 have HFF:=borW_four x y
 obtain ⟨z,hzz⟩:∃ z,diffW x y=z:=⟨_,rfl⟩
 rw [hzz] at HWW HFF ⊢
 obtain ⟨hX,hY,hR,hO,hB,hz⟩:=four_new w (.cells (u4C x) 51) (.cells (u4C y) 51) (.cells #[.int .u64 0,.int .u64 0,.int .u64 0,.int .u64 0] 51) (.cells #[.int .u64 0,.int .u64 0,.int .u64 0,.int .u64 0] 51)
 have HX:=qh hX
 have HY:=qh hY
 have HR:=qh hR
 have HO:=qh hO
 have HB:=qh hB
 have HC:=qh (fun j=>borW_le (x:=x) (y:=y) j)
 have HW:=qh HWW
 have HF:=qh HFF
 clear hX hY hR hO hB hz HWW HFF hzz
 go_enter Tryz.func141,Tryz.ntmps141
 go_wp2_with fail
 generalize ((((w.alloc (.cells (u4C x) 51)).alloc (.cells (u4C y) 51)).alloc (.cells #[.int .u64 0,.int .u64 0,.int .u64 0,.int .u64 0] 51)).alloc (.cells #[.int .u64 0,.int .u64 0,.int .u64 0,.int .u64 0] 51))=W0 at HX HY HR HO HB ⊢
 have hal:Tryz.prog.arrayLen 51 = 4:=by kernel_rfl
 have hcl:Tryz.prog.cellsOf 22 = 1:=by kernel_rfl
 go_loopw [7,9] (fun c i wr=>∃ j:Nat,j≤4∧i=.int .i64 (j:Int)∧c=.int .u64 (borW x y j:Int)∧wr.heap[w.heap.size]? = some (.cells (u4C x) 51 (0,0))∧wr.heap[w.heap.size+1]? = some (.cells (u4C y) 51 (0,0))∧wr.heap[w.heap.size+1+1]? = some (.cells #[.int .u64 0,.int .u64 0,.int .u64 0,.int .u64 0] 51 (0,0))∧wr.heap[w.heap.size+1+1+1]? = some (.cells (u4C (partW z.1 j)) 51 (0,0))∧Below w.heap.size w wr) (fun _ i _=>4 - (intOf i).toNat)
 case atStart=>exact ⟨0,by omega,rfl,rfl,HX.out,HY.out,HR.out,HO.out,HB.out⟩
 case round =>
  obtain ⟨j,hj,rfl,rfl,hX,hY,hR,hO,hb⟩:=hrel
  clear HX HY HR HO HB
  by_cases hlt:j < 4
  ·have hltI:(j:Int) < 4:=by omega
   have cx:wr.cell? ⟨w.heap.size,j,none⟩=some (.int .u64 (x.word j:Int)):=rc hX j (u4C_get x j hlt)
   have cy:wr.cell? ⟨w.heap.size+1,j,none⟩=some (.int .u64 (y.word j:Int)):=rc hY j (u4C_get y j hlt)
   have co:wr.cell? ⟨w.heap.size+1+1+1,j,none⟩=some (.int .u64 ((partW z.1 j).word j:Int)):=rc hO j (u4C_get _ j hlt)
   have fo:=rf hO j
   have hadd:=run_sub (x.word j) (y.word j) (borW x y j) (HC.out j)
   have hst:=heap_setCell_here hO (i:=j) (.int .u64 (z.1.word j:Int))
   rw [partW_set _ _ hlt,HW.out j hlt] at hst
   obtain ⟨p,hp⟩:∃ p,x.word j=p:=⟨_,rfl⟩
   obtain ⟨q,hq⟩:∃ q,y.word j=q:=⟨_,rfl⟩
   obtain ⟨r,hr⟩:∃ r,borW x y j=r:=⟨_,rfl⟩
   obtain ⟨s,hs⟩:∃ s,(subW p q r).1=s:=⟨_,rfl⟩
   obtain ⟨t,ht⟩:∃ t,(subW p q r).2=t:=⟨_,rfl⟩
   have hnx:Hid (borW x y (j+1)=t):=qh (by rw [borW,hp,hq,hr,ht])
   rw [hp] at cx hadd hst
   rw [hq] at cy hadd hst
   rw [hr] at hadd hst ⊢
   rw [hs] at hadd hst
   rw [ht] at hadd
   have HST:=qh hst
   have HX:=qh hX
   have HY:=qh hY
   have HR:=qh hR
   have HB:=qh hb
   clear hst hX hY hR hO hb hp hq hr hs ht
   go_wp2_with fail
   go_region
   go_wp2_with fail
   go_roundw
   case rel=>exact ⟨j+1,by omega,by go_num,by rw [hnx.out],(heap_set_ne (by omega) _).trans HX.out,(heap_set_ne (by omega) _).trans HY.out,(heap_set_ne (by omega) _).trans HR.out,HST.out,(HB.out.setCell (p:=⟨w.heap.size+1+1+1,j,none⟩) (by simp;omega) _).drew⟩
   case measure=>simp [intOf];omega
  ·obtain rfl:j=4:=by omega
   have o0:wr.cell? ⟨w.heap.size+1+1+1,0,none⟩=some (.int .u64 (z.1.a:Int)):=rc hO 0 rfl
   have o1:wr.cell? ⟨w.heap.size+1+1+1,1,none⟩=some (.int .u64 (z.1.b:Int)):=rc hO 1 rfl
   have o2:wr.cell? ⟨w.heap.size+1+1+1,2,none⟩=some (.int .u64 (z.1.c:Int)):=rc hO 2 rfl
   have o3:wr.cell? ⟨w.heap.size+1+1+1,3,none⟩=some (.int .u64 (z.1.d:Int)):=rc hO 3 rfl
   have r0:wr.cell? ⟨w.heap.size+1+1,0,none⟩=some (.int .u64 0):=rc hR 0 rfl
   have r1:wr.cell? ⟨w.heap.size+1+1,1,none⟩=some (.int .u64 0):=rc hR 1 rfl
   have r2:wr.cell? ⟨w.heap.size+1+1,2,none⟩=some (.int .u64 0):=rc hR 2 rfl
   have r3:wr.cell? ⟨w.heap.size+1+1,3,none⟩=some (.int .u64 0):=rc hR 3 rfl
   have f0:=rf hR 0
   have f1:=rf hR 1
   have f2:=rf hR 2
   have f3:=rf hR 3
   have HB:=qh hb
   have HR:=qh hR
   have hF:=HF.out
   rw [hF]
   obtain ⟨k,hk⟩:∃ k,z.2=k:=⟨_,rfl⟩
   rw [hk]
   have HKK:=qh hk
   clear hX hY hO hR hb hF hk
   go_wp2_with fail
   have hfin:=heap_setCell_here (heap_setCell_here (heap_setCell_here (heap_setCell_here HR.out (i:=0) (.int .u64 (z.1.a:Int))) (i:=1) (.int .u64 (z.1.b:Int))) (i:=2) (.int .u64 (z.1.c:Int))) (i:=3) (.int .u64 (z.1.d:Int))
   refine bodyPost_ret (v:=.tuple #[.agg (u4C z.1),.bool ((k:Int) == 1)]) (results_row_tmp rfl _ _ (w.heap.size+1+1) _ _ _ _ rfl hfin _ rfl Tryz.underlying51 rfl infoU) rfl ?_
   rw [HKK.out]
   exact ⟨rfl,(((HB.out.setCell (p:=⟨w.heap.size+1+1,0,none⟩) (by simp;omega) _).setCell (p:=⟨w.heap.size+1+1,1,none⟩) (by simp;omega) _).setCell (p:=⟨w.heap.size+1+1,2,none⟩) (by simp;omega) _).setCell (p:=⟨w.heap.size+1+1,3,none⟩) (by simp;omega) _⟩
end Go.Proofs.YtjanaholcjkceaaGreat
