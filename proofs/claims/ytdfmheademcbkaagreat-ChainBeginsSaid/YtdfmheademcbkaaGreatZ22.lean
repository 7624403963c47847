/- Sums in memory; the walk of sums.told. -/
import Derived.Test.YtdfmheademcbkaaGreatZ21
import Derived.Test.YtdfmheademcbkaaGreatZ05
namespace Go.Proofs.YtdfmheademcbkaaGreat
set_option linter.unusedVariables false
set_option linter.unusedSimpArgs false
open Go.RowKit
set_option maxHeartbeats 4000000
set_option maxRecDepth 100000
/-- sums in memory -/
structure SumV (w:World) (g:Nat) (v:Value) (its:List Item) (last:Bytes) (xs:List Value):Prop where
 ptr:w.heap[g]? = some (.cells #[v,.string (bs last)] 127 (0,0))
 own:w.ownsRow (g+1) 86 3 v its.length xs
 rep:RepN (Apart g v) w 3 (itemsD its) xs
section
variable {w w':World} {g:Nat} {v:Value} {its:List Item} {last:Bytes} {xs:List Value}
theorem SumV.keep (h:SumV w g v its last xs) (hb:Below w.heap.size w w'):SumV w' g v its last xs :=
 ⟨(hb.block g (Array.getElem?_eq_some_iff.1 h.ptr).1).trans h.ptr,own_keep h.own hb,RepN.mono h.rep fun b hl hs=>⟨hs,hb.block b hl⟩⟩
theorem SumV.lt (h:SumV w g v its last xs):g < w.heap.size:=(Array.getElem?_eq_some_iff.1 h.ptr).1
theorem SumV.cell0 (h:SumV w g v its last xs):w.cell? ⟨g,0,none⟩=some v:=by rw [cell_of_row _ _ _ _ _ _ h.ptr];rfl
theorem SumV.cell1 (h:SumV w g v its last xs):w.cell? ⟨g,1,none⟩=some (.string (bs last)):=by rw [cell_of_row _ _ _ _ _ _ h.ptr];rfl
theorem SumV.free (h:SumV w g v its last xs) (i:Nat):w.frozen? ⟨g,i,none⟩=false:=by simp [World.frozen?,h.ptr]
end
theorem infoI:(Tryz.prog.info? 86).map (·.size)=some 3:=by kernel_rfl
theorem told_any (w:World) (g:Nat) (v:Value) (its:List Item) (last:Bytes) (xs:List Value) (hs:SumV w g v its last xs) (S:Nat→Prop) (hrep:RepN S w 3 (itemsD its) xs) (i:Int) (hi:i = -1∨(0≤i∧i < its.length)) :
  Calls Tryz.prog 123 #[.pointer (some ⟨g,0,none⟩),.int .i64 i] w fun e w'=>∃ A c,e=.returned (.agg #[.bool (tellAt its i).l,.string (bs (tellAt its i).b),.slice A (tellAt its i).ks.length c])∧ItemV S w' (tellAt its i) A c∧Below w.heap.size w w':=by
 have hb:Below w.heap.size w (w.alloc (.cells #[.bool false,.string ⟨#[]⟩,.slice none 0 0] 86)):=(Below.refl _ _).alloc (Nat.le_refl _) _
 have hn0:(w.alloc (.cells #[.bool false,.string ⟨#[]⟩,.slice none 0 0] 86)).heap[w.heap.size]? = some (.cells #[.bool false,.string ⟨#[]⟩,.slice none 0 0] 86 (0,0)):=heap_alloc_new w _
 have HB:=Lib.hid hb
 have HN:=Lib.hid hn0
 by_cases h1:i = -1
 ·subst h1
  have ht:tellAt its (-1)=leafIt []:=rfl
  rw [ht]
  clear hb hn0 hs hi hrep
  go_enter Tryz.func123,Tryz.ntmps123
  go_wp2_with fail
  exact bodyPost_ret (v:=.agg #[.bool false,.string ⟨#[]⟩,.slice none 0 0]) (results_cell_row rfl _ _ w.heap.size _ _ _ _ rfl HN.out Tryz.underlying86 rfl infoI) rfl ⟨none,0,rfl,ItemV.leaf [] false,HB.out⟩
 ·obtain ⟨n,rfl⟩:∃ n:Nat,i=(n:Int):=⟨i.toNat,by omega⟩
  have hnl:n < its.length:=by omega
  obtain ⟨x,hx⟩:=getElem_ex hnl
  have ht:tellAt its (n:Int)=x:=by
   unfold tellAt
   rw [if_neg (by omega),Int.toNat_natCast,List.getD_eq_getElem?_getD,hx];rfl
  rw [ht]
  have hsk:=hs.keep hb
  obtain ⟨A0,c0,rfl⟩:=own_form hs.own
  obtain ⟨g',A',c',e',hv,d0,d1,d2⟩:=own_item hsk.own hrep hx
  subst e'
  have z0:=hsk.cell0
  have hnI:(n:Int) < its.length:=by omega
  have hne:((n:Int) == -1)=false:=by rw [beq_eq_false_iff_ne];omega
  have HV:=Lib.hid hv
  clear hb hn0 hs hi hsk ht hx hv h1 hrep
  go_enter Tryz.func123,Tryz.ntmps123
  go_wp2_with fail
  exact bodyPost_ret (v:=.agg #[.bool x.l,.string (bs x.b),.slice A' x.ks.length c']) (results_cell_row rfl _ _ w.heap.size _ _ _ _ rfl (heap_alloc_new w _) Tryz.underlying86 rfl infoI) rfl ⟨A',c',rfl,HV.out.alloc _,(Below.refl _ _).alloc (Nat.le_refl _) _⟩
end Go.Proofs.YtdfmheademcbkaaGreat
