/- The walk of ecclesiaref03.round. -/
import Derived.Test.YteoednifdpdbnaaGreatZ13
import Derived.Deep.RegionWith
import Derived.Test.YteoednifdpdbnaaGreatZ22
namespace Go.Proofs.YteoednifdpdbnaaGreat
set_option linter.unusedVariables false
set_option linter.unusedSimpArgs false
open Go.RowKit
/-- the blocks of the reference's round: the state, the result, two rows -/
structure RefSt (B:Nat) (w wr:World) (a c:List W64):Prop where
 bel:Below B w wr
 ra:WRow wr B a 154
 rres:WRow wr (B+1) (List.replicate 25 0) 154
 rc:WRow wr (B+1+1) c 277
theorem RefSt.drew {B:Nat} {w wr:World} {a c:List W64} (h:RefSt B w wr a c):RefSt B w wr.drew a c:=⟨h.bel.drew,h.ra,h.rres,h.rc⟩
theorem RefSt.setC {B:Nat} {w wr:World} {a c:List W64} (h:RefSt B w wr a c) (i:Nat) (v:W64):RefSt B w (wr.setCell ⟨B+1+1,i,none⟩ (.int .u64 (wv v))) a (c.set i v) :=
 ⟨h.bel.setCell (p:=⟨_,_,_⟩) (by show B≤B+1+1;omega) _,h.ra.other (by omega) _,h.rres.other (by omega) _,h.rc.set i v⟩
theorem RefSt.alloc {B:Nat} {w wr:World} {a c:List W64} (h:RefSt B w wr a c) (o:Obj):RefSt B w (wr.alloc o) a c :=
 ⟨h.bel.alloc (by have:=h.ra.lt;omega) _,h.ra.alloc _,h.rres.alloc _,h.rc.alloc _⟩
theorem RefSt.keep {B:Nat} {w wr w':World} {a c:List W64} (h:RefSt B w wr a c) (hb:Below wr.heap.size wr w'):RefSt B w w' a c :=
 ⟨h.bel.trans (hb.mono (by have:=h.ra.lt;omega)),h.ra.keep hb h.ra.lt,h.rres.keep hb h.rres.lt,h.rc.keep hb h.rc.lt⟩
/- The walks of ecclesiaref03.Mix and ecclesiaref03.Sum: the same sum. -/
structure RefMix (B:Nat) (w wr:World) (a:List W64):Prop where
 bel:Below B w wr
 ra:WRow wr B a 154
 rres:WRow wr (B+1) (List.replicate 25 0) 154
theorem RefMix.keep {B:Nat} {w wr w':World} {a:List W64} (h:RefMix B w wr a) (hb:Below wr.heap.size wr w'):RefMix B w w' a :=
 ⟨h.bel.trans (hb.mono (by have:=h.ra.lt;omega)),h.ra.keep hb h.ra.lt,h.rres.keep hb h.rres.lt⟩
theorem RefMix.row {B:Nat} {w wr:World} {a:List W64} (h:RefMix B w wr a) (l:List W64):RefMix B w (wr.setRow B (wsC l)) l :=
 ⟨qal h.bel qn _,h.ra.row l,h.rres.rowOther (by omega) _⟩
end Go.Proofs.YteoednifdpdbnaaGreat
