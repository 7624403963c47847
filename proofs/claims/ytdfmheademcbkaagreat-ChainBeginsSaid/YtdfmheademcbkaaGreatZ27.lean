/- rlp.Decode: the deferred closure, and the walk. -/
import Derived.Test.YtdfmheademcbkaaGreatZ26
import Derived.Defers
import Derived.Recover
namespace Go.Proofs.YtdfmheademcbkaaGreat
set_option linter.unusedVariables false
set_option linter.unusedSimpArgs false
open Go.RowKit
theorem ca {w:World} {b o:Nat} {v:Value} (h:w.cell? ⟨b,o,none⟩=some v) (x:Obj):(w.alloc x).cell? ⟨b,o,none⟩=some v:=by
 rw [World.cell?_alloc_lt _ _ _ (lt_of_cell h)];exact h
theorem fa {w:World} {b o:Nat} {u:Bool} (hl:b < w.heap.size) (h:w.frozen? ⟨b,o,none⟩=u) (x:Obj):(w.alloc x).frozen? ⟨b,o,none⟩=u:=by
 rw [← h];exact ((bcell ((Below.refl w.heap.size w).alloc (Nat.le_refl _) x)).2 b o hl)
/- Numbers: rlp.Value, rlp.Number, rlp.List, the reference's. -/
theorem Number_any (n:Int) (h0:0≤n) (hn:n < 18446744073709551616) (w:World) :
  Calls Tryz.prog 125 #[.int .u64 n] w fun e w'=>e=.returned (.agg #[.bool false,.string (bs (digs n.toNat)),.slice none 0 0])∧Below w.heap.size w w':=by
 go_enter Tryz.func125,Tryz.ntmps125
 go_wp2_with fail
 refine (plain_any n h0 hn _).mono ?_
 rintro e w1 ⟨rfl,hb1⟩
 have hw:=below_box (hb1.mono (by simp))
 obtain ⟨q1,q2⟩:=bcell hb1
 have r0:w1.cell? ⟨w.heap.size,0,none⟩=some (.bool false):=by rw [q1 _ _ (by simp)];simp
 have r1:w1.cell? ⟨w.heap.size,1,none⟩=some (.string ⟨#[]⟩):=by rw [q1 _ _ (by simp)];simp
 have r2:w1.cell? ⟨w.heap.size,2,none⟩=some (.slice none 0 0):=by rw [q1 _ _ (by simp)];simp
 have rf:∀ o,w1.frozen? ⟨w.heap.size,o,none⟩=false:=fun o=>by rw [q2 _ _ (by simp)];simp
 clear q1 q2
 go_wp2_with fail
 refine bodyPost_ret (v:=.agg #[.bool false,.string (bs (digs n.toNat)),.slice none 0 0]) (by simp [results,Tryz.results125,go_sem,r0,r1,r2]) rfl ?_
 exact ⟨rfl,((hw.setCell (p:=⟨w.heap.size,0,none⟩) (Nat.le_refl _) _).setCell (p:=⟨w.heap.size,1,none⟩) (Nat.le_refl _) _).setCell (p:=⟨w.heap.size,2,none⟩) (Nat.le_refl _) _⟩
theorem refNumber_any (n:Int) (h0:0≤n) (hn:n < 18446744073709551616) (w:World) :
  Calls Tryz.prog 94 #[.int .u64 n] w fun e w'=>e=.returned (.agg #[.bool false,.string (bs (digs n.toNat)),.slice none 0 0])∧Below w.heap.size w w':=by
 go_enter Tryz.func94,Tryz.ntmps94
 go_wp2_with fail
 refine (Digits_any n h0 hn _).mono ?_
 rintro e w1 ⟨rfl,hb1⟩
 have hw:=below_box (hb1.mono (by simp))
 obtain ⟨q1,q2⟩:=bcell hb1
 have r0:w1.cell? ⟨w.heap.size,0,none⟩=some (.bool false):=by rw [q1 _ _ (by simp)];simp
 have r1:w1.cell? ⟨w.heap.size,1,none⟩=some (.string ⟨#[]⟩):=by rw [q1 _ _ (by simp)];simp
 have r2:w1.cell? ⟨w.heap.size,2,none⟩=some (.slice none 0 0):=by rw [q1 _ _ (by simp)];simp
 have rf:∀ o,w1.frozen? ⟨w.heap.size,o,none⟩=false:=fun o=>by rw [q2 _ _ (by simp)];simp
 clear q1 q2
 go_wp2_with fail
 refine bodyPost_ret (v:=.agg #[.bool false,.string (bs (digs n.toNat)),.slice none 0 0]) (by simp [results,Tryz.results94,go_sem,r0,r1,r2]) rfl ?_
 exact ⟨rfl,((hw.setCell (p:=⟨w.heap.size,0,none⟩) (Nat.le_refl _) _).setCell (p:=⟨w.heap.size,1,none⟩) (Nat.le_refl _) _).setCell (p:=⟨w.heap.size,2,none⟩) (Nat.le_refl _) _⟩
theorem List_any (A:Option Addr) (m c:Nat) (w:World) :
  Calls Tryz.prog 74 #[.slice A m c] w fun e w'=>e=.returned (.agg #[.bool true,.string (bs []),.slice A m c])∧Below w.heap.size w w':=by
 go_enter Tryz.func74,Tryz.ntmps74
 go_wp2_with fail
 refine bodyPost_ret (v:=.agg #[.bool true,.string (bs []),.slice A m c]) (by simp [results,Tryz.results74,go_sem];rfl) rfl ?_
 exact ⟨rfl,by repeat' first | exact Below.refl _ _ | refine Below.setCell (p:=⟨w.heap.size,_,none⟩) ?_ (Nat.le_refl _) _ | refine Below.alloc ?_ (Nat.le_refl _) _⟩
end Go.Proofs.YtdfmheademcbkaaGreat
