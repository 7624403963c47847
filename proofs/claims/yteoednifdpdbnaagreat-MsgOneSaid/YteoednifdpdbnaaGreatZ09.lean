/- The walks of u256: Cmp. -/
import Derived.Test.YteoednifdpdbnaaGreatZ04
import Derived.Test.YteoednifdpdbnaaGreatZ08
import Derived.Test.YteoednifdpdbnaaGreatProg
import Derived.BigQuiet
import Derived.Deep.QuietTactic
namespace Go.Proofs.YteoednifdpdbnaaGreat
set_option linter.unusedVariables false
set_option linter.unusedSimpArgs false
open Go.RowKit
set_option maxHeartbeats 4000000
set_option maxRecDepth 100000
/-- a number's cells -/
def u4C (x:U4):Array Value:=#[.int .u64 (x.a:Int),.int .u64 (x.b:Int),.int .u64 (x.c:Int),.int .u64 (x.d:Int)]
theorem qb3 (x:U4) (j:Nat) (hj:j < 4):(u4C x)[j]? = some (.int .u64 (x.word j:Int)):=by
 match j,hj with
 | 0,_=>rfl
 | 1,_=>rfl
 | 2,_=>rfl
 | 3,_=>rfl
/-- compared from word j downward -/
def cmpD (x y:U4):Nat→Int
 | 0=>0
 | j+1=>if x.word j < y.word j then -1 else if y.word j < x.word j then 1 else cmpD x y j
theorem qrw (x y:U4):cmpD x y 4=cmpW x y:=rfl
theorem qp3 (x y:U4) (w:World):Calls Tryz.prog 197 #[.agg (u4C x),.agg (u4C y)] w fun e w'=>e=.returned (.int .i64 (cmpW x y))∧Below w.heap.size w w':=by
 have hX:=heap_alloc_new w (.cells (u4C x) 24)
 have hz:(w.alloc (.cells (u4C x) 24)).heap.size=w.heap.size+1:=by simp
 have hY:=heap_alloc_new (w.alloc (.cells (u4C x) 24)) (.cells (u4C y) 24)
 have hX:=(heap_alloc_old _ (.cells (u4C y) 24) (qg hX)).trans hX
 rw [hz] at hY
 have hB:=((Below.refl w.heap.size w).alloc qn (.cells (u4C x) 24)).alloc (by simp) (.cells (u4C y) 24)
 have HX:=qh hX
 have HY:=qh hY
 have HB:=qh hB
 have HR:=qh (qrw x y)
 clear hX hY hB hz
 go_enter Tryz.func197,Tryz.ntmps197
 go_wp2_with fail
 clear hX
 generalize (w.alloc (.cells (u4C x) 24)).alloc (.cells (u4C y) 24)=W0 at HX HY HB ⊢
 have hal:Tryz.prog.arrayLen 24 = 4:=by kernel_rfl
 have hcl:Tryz.prog.cellsOf 22 = 1:=by kernel_rfl
 go_loopw [5] (fun i wr=>∃ j:Nat,j≤4∧i=.int .i64 ((j:Int) - 1)∧Hid (cmpW x y=cmpD x y j)∧Below W0.heap.size W0 wr) (fun i _=>(intOf i+1).toNat)
 case atStart=>exact ⟨4,by omega,rfl,qh HR.out.symm,Below.refl _ _⟩
 case round =>
  obtain ⟨j,hj,rfl,HC,hb⟩:=hrel
  match j,hj,HC with
  | 0,_,HC =>
   have HB2:=qh (HB.out.trans (hb.mono HB.out.size))
   clear hb
   go_wp2_with fail
   go_ret
   exact ⟨by rw [HC.out];rfl,HB2.out⟩
  | j+1,hj,HC =>
   have hi:((j+1:Nat):Int) - 1=(j:Int):=by omega
   rw [hi]
   have hj4:(j:Int) < 4:=by omega
   have cx:wr.cell? ⟨w.heap.size,j,none⟩=some (.int .u64 (x.word j:Int)):=rc ((hb.block _ (qg HX.out)).trans HX.out) j (qb3 x j (by omega))
   have cy:wr.cell? ⟨w.heap.size+1,j,none⟩=some (.int .u64 (y.word j:Int)):=rc ((hb.block _ (qg HY.out)).trans HY.out) j (qb3 y j (by omega))
   have hc:=HC.out
   rw [cmpD] at hc
   obtain ⟨p,hp⟩:∃ p,x.word j=p:=⟨_,rfl⟩
   obtain ⟨q,hq⟩:∃ q,y.word j=q:=⟨_,rfl⟩
   rw [hp] at cx hc
   rw [hq] at cy hc
   have HB2:=qh (HB.out.trans (hb.mono HB.out.size))
   have HBB:=qh hb
   clear hb HC hi
   by_cases h1:p < q
   ·have h1I:(p:Int) < q:=by omega
    have HD:=qh (hc.trans (if_pos h1))
    clear hc
    go_wp2_with fail
    go_quiet (fail)
    go_wp2_with fail
    go_ret
    exact ⟨by rw [HD.out];rfl,qb1 HB2.out nq⟩
   ·have h1I:¬ (p:Int) < q:=by omega
    rw [if_neg h1] at hc
    by_cases h2:q < p
    ·have h2I:(q:Int) < p:=by omega
     have HD:=qh (hc.trans (if_pos h2))
     clear hc
     go_wp2_with fail
     go_quiet (fail)
     go_wp2_with fail
     go_quiet (fail)
     go_wp2_with fail
     go_ret
     exact ⟨by rw [HD.out];rfl,qb1 (qb1 HB2.out _) _⟩
    ·have h2I:¬ (q:Int) < p:=by omega
     have HD:=qh (hc.trans (if_neg h2))
     have hw:IntKind.i64.wrap ((j:Int) - 1)=(j:Int) - 1:=IntWalk.i64_in _ (by omega)
     clear hc
     go_wp2_with fail
     go_quiet (fail)
     go_wp2_with fail
     go_quiet (fail)
     go_wp2_with fail
     go_roundw
     case rel=>exact ⟨j,by omega,rfl,HD,qb1 HBB.out _⟩
     case measure=>simp [intOf]
end Go.Proofs.YteoednifdpdbnaaGreat
