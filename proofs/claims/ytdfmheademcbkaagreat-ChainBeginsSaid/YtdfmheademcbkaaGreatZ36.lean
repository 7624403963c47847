/- The walk of the reference's told, out of item's. -/
import Derived.Test.YtdfmheademcbkaaGreatZ31
import Derived.Test.YtdfmheademcbkaaGreatZ35
namespace Go.Proofs.YtdfmheademcbkaaGreat
set_option linter.unusedVariables false
set_option linter.unusedSimpArgs false
open Go.RowKit
set_option maxHeartbeats 4000000
set_option maxRecDepth 100000
/-- blocks from a number on -/
def From (B:Nat):Nat→Prop:=fun b=>B≤b
/-- behind an item that is made -/
def ItPost (x:Item) (w:World) (e:Ending) (w':World):Prop :=
 ∃ A c,e=.returned (.agg #[.bool x.l,.string (bs x.b),.slice A x.ks.length c])∧ItemV (From w.heap.size) w' x A c∧Below w.heap.size w w'
structure ItIn (N:Nat) (l:List KV):Prop where
 short:Short N l
 rise:Rise l
 half:Half l
 small:Small l
 le:l.length≤1000
def ItemSaid (N:Nat):Prop:=∀ (l:List KV) (A:Option Addr) (c:Nat) (w:World),N≤66→l ≠ []→ItIn N l→KVs Any w l A c →
 Calls Tryz.prog 100 #[.slice A l.length c] w (ItPost (itemP N l) w)
def ToldSaid (N:Nat):Prop:=∀ (l:List KV) (A:Option Addr) (c:Nat) (w:World),N≤66→ItIn N l→KVs Any w l A c →
 Calls Tryz.prog 151 #[.slice A l.length c] w (ItPost (toldP N l) w)
theorem refTold_any (N:Nat) (hI:ItemSaid N):ToldSaid N:=by
 intro l A c w hN hin hv
 have hb:Below w.heap.size w (w.alloc (.cells #[.bool false,.string ⟨#[]⟩,.slice none 0 0] 86)):=(Below.refl _ _).alloc (Nat.le_refl _) _
 have hr:(w.alloc (.cells #[.bool false,.string ⟨#[]⟩,.slice none 0 0] 86)).heap[w.heap.size]? = some (.cells #[.bool false,.string ⟨#[]⟩,.slice none 0 0] 86 (0,0)):=heap_alloc_new w _
 by_cases hne:l = []
 ·subst hne
  go_enter Tryz.func151,Tryz.ntmps151
  go_wp2_with fail
  exact bodyPost_ret (v:=.agg #[.bool false,.string ⟨#[]⟩,.slice none 0 0]) (results_cell_row rfl _ _ w.heap.size _ _ _ _ rfl hr Tryz.underlying86 rfl infoI) rfl ⟨none,0,rfl,ItemV.leaf [] false,hb⟩
 ·have hpos:0 < l.length:=List.length_pos_iff.2 hne
  have hlen0:((l.length:Int) == 0)=false:=by rw [beq_eq_false_iff_ne];omega
  have hf:=item_fine N hN l hne hin.short hin.rise hin.small
  have hC:=hI l A c _ hN hne hin (hv.keep hb)
  have ht:=toldP_cons N hne
  obtain ⟨x,hx⟩:∃ x,itemP N l=x:=⟨_,rfl⟩
  have hp:=hf.pure
  have hfl:=hf.len
  rw [hx] at hC ht hp hfl
  have hcnt:=pure_count x hp
  have HT:=Lib.hid ht
  have HB:=Lib.hid hb
  have HR:=Lib.hid hr
  clear hin hv hb hr hf hx ht hp hne hI
  go_enter Tryz.func151,Tryz.ntmps151
  go_wp2_with fail
  refine hC.mono ?_
  clear hC
  rintro e w1 ⟨A1,c1,rfl,hx1,hb1⟩
  have HS1:=Lib.hid hb1.size
  rw [World.size_alloc] at HS1
  have hr1:=(hb1.block _ (Array.getElem?_eq_some_iff.1 HR.out).1).trans HR.out
  have hB1:=below_call HB.out HB.out.size hb1
  have hba:Below w1.heap.size w1 (w1.alloc (.cells #[.bool x.l,.string (bs x.b),.slice A1 x.ks.length c1] 86)):=(Below.refl _ _).alloc (Nat.le_refl _) _
  have HW:=Lib.hid (Write_any (countP x) x A1 c1 _ (Nat.le_refl _) (by omega) (by omega) (hx1.keep hba).any)
  have HX2:=Lib.hid (hx1.keep hba)
  have HR2:=Lib.hid ((hba.block _ (Array.getElem?_eq_some_iff.1 hr1).1).trans hr1)
  have HB2:=Lib.hid (below_call hB1 hB1.size hba)
  have HV2:=Lib.hid (heap_alloc_new w1 (.cells #[.bool x.l,.string (bs x.b),.slice A1 x.ks.length c1] 86))
  clear hx1 hr1 hB1 hba hb1 HB HR
  go_wp2_with fail
  refine HW.out.mono ?_
  clear HW
  rintro e w3 ⟨rfl,hb3⟩
  have hX3:=HX2.out.keep hb3
  have hR3:=(hb3.block _ (Array.getElem?_eq_some_iff.1 HR2.out).1).trans HR2.out
  have hB3:=below_call HB2.out HB2.out.size hb3
  have hV3:=(hb3.block _ (Array.getElem?_eq_some_iff.1 HV2.out).1).trans HV2.out
  have hRl:=(Array.getElem?_eq_some_iff.1 hR3).1
  have c0:w3.cell? ⟨w.heap.size,0,none⟩=some (.bool false):=rc0 hR3
  have c1':w3.cell? ⟨w.heap.size,1,none⟩=some (.string ⟨#[]⟩):=rc1 hR3
  have c2:w3.cell? ⟨w.heap.size,2,none⟩=some (.slice none 0 0):=rc2 hR3
  have f0:=rf hR3 0
  have f1:=rf hR3 1
  have f2:=rf hR3 2
  have hwl:w.heap.size+1≤w1.heap.size:=HS1.out
  have HX3:=Lib.hid hX3
  have HR3:=Lib.hid hR3
  have HB3:=Lib.hid hB3
  clear hX3 hR3 hB3 hb3 HX2 HR2 HB2 HV2
  by_cases h32:(writeP x).length < 32
  ·have hxt:toldP N l=x:=by rw [HT.out];unfold tellP;rw [if_neg (by omega)]
   have HXT:=Lib.hid hxt
   have v0:w3.cell? ⟨w1.heap.size,0,none⟩=some (.bool x.l):=rc0 hV3
   have v1:w3.cell? ⟨w1.heap.size,1,none⟩=some (.string (bs x.b)):=rc1 hV3
   have v2:w3.cell? ⟨w1.heap.size,2,none⟩=some (.slice A1 x.ks.length c1):=rc2 hV3
   have h32I:((writeP x).length:Int) < 32:=by omega
   clear hxt hV3
   go_wp2_with fail
   have hfin:=heap_setCell_here (heap_setCell_here (heap_setCell_here HR3.out (i:=0) (.bool x.l)) (i:=1) (.string (bs x.b))) (i:=2) (.slice A1 x.ks.length c1)
   refine bodyPost_ret (v:=.agg #[.bool x.l,.string (bs x.b),.slice A1 x.ks.length c1]) (results_cell_row rfl _ _ w.heap.size _ _ _ _ rfl hfin Tryz.underlying86 rfl infoI) rfl ?_
   rw [HXT.out]
   refine ⟨A1,c1,rfl,HX3.out.mono fun b _ hb=>⟨?_,?_⟩,((HB3.out.setCell (p:=⟨w.heap.size,_,_⟩) (Nat.le_refl _) _).setCell (p:=⟨w.heap.size,_,_⟩) (Nat.le_refl _) _).setCell (p:=⟨w.heap.size,_,_⟩) (Nat.le_refl _) _⟩
   ·have:(w.alloc (.cells #[.bool false,.string ⟨#[]⟩,.slice none 0 0] 86)).heap.size≤b:=hb
    rw [World.size_alloc] at this
    show w.heap.size≤b
    omega
   ·have:(w.alloc (.cells #[.bool false,.string ⟨#[]⟩,.slice none 0 0] 86)).heap.size≤b:=hb
    rw [World.size_alloc] at this
    rw [heap_set_ne (by omega),heap_set_ne (by omega),heap_set_ne (by omega)]
  ·have hxt:toldP N l=leafIt (sumK (writeP x)):=by rw [HT.out];unfold tellP;rw [if_pos (by omega)]
   have HXT:=Lib.hid hxt
   have h32I:¬ ((writeP x).length:Int) < 32:=by omega
   clear hxt hV3
   go_wp2_with fail
   refine (refSum_any (writeP x) (by omega) _).mono ?_
   rintro e w5 ⟨rfl,hb5⟩
   have hR5:=(hb5.block _ hRl).trans HR3.out
   have hB5:=below_call HB3.out HB3.out.size hb5
   replace c0:w5.cell? ⟨w.heap.size,0,none⟩=some (.bool false):=rc0 hR5
   replace c1':w5.cell? ⟨w.heap.size,1,none⟩=some (.string ⟨#[]⟩):=rc1 hR5
   replace c2:w5.cell? ⟨w.heap.size,2,none⟩=some (.slice none 0 0):=rc2 hR5
   replace f0:=rf hR5 0
   replace f1:=rf hR5 1
   replace f2:=rf hR5 2
   have HR5:=Lib.hid hR5
   have HB5:=Lib.hid hB5
   clear hR5 hB5 hb5
   go_wp2_with fail
   have hfin:=heap_setCell_here (heap_setCell_here (heap_setCell_here HR5.out (i:=0) (.bool false)) (i:=1) (.string (bs (sumK (writeP x))))) (i:=2) (.slice none 0 0)
   refine bodyPost_ret (v:=.agg #[.bool false,.string (bs (sumK (writeP x))),.slice none 0 0]) (results_cell_row rfl _ _ w.heap.size _ _ _ _ rfl hfin Tryz.underlying86 rfl infoI) rfl ?_
   rw [HXT.out]
   exact ⟨none,0,rfl,ItemV.leaf _ _,((HB5.out.setCell (p:=⟨w.heap.size,_,_⟩) (Nat.le_refl _) _).setCell (p:=⟨w.heap.size,_,_⟩) (Nat.le_refl _) _).setCell (p:=⟨w.heap.size,_,_⟩) (Nat.le_refl _) _⟩
/- Kinds in memory; the walks of frame.one, some, kinds at forms of plain kinds and of lists of these. -/
theorem infoK:(Tryz.prog.info? 90).map (·.size)=some 2:=by kernel_rfl
theorem elKind:ElemOk Tryz.prog 80 90 (.agg #[.int .u8 0,.slice none 0 0]) 2 32:=⟨Tryz.underlying80,by kernel_rfl,rfl,by omega⟩
/-- three results, the first one a row -/
theorem results_row_tmp2 {P:Program} {fn:Func} {p u v:Tmp} {ty:TypeId} (h:fn.results=#[.cell p ty,.tmp u,.tmp v]) (tmps:Array Value) (w:World) (g:Nat) (t:TypeId) (cs:Array Value) (fr:Nat×Nat) (d:TypeDesc)
  (hp:tmps.getD p undef=.pointer (some ⟨g,0,none⟩)) (hg:w.heap[g]? = some (.cells cs t fr)) (x y:Value) (hx:tmps.getD u undef=x) (hy:tmps.getD v undef=y)
  (hu:P.underlying ty=some d) (hd:(match d with | .struct _ | .array _ _=>true | _=>false)=true) (hi:(P.info? ty).map (·.size)=some cs.size) :
  (results fn tmps).run P w=.ok (.tuple #[.agg cs,x,y]) w:=by
 rw [Array.getD_eq_getD_getElem?] at hp hx hy
 unfold results
 rw [h]
 simp [hp,hx,hy,asAddr,Sem.run_bind,Sem.run_pure,run_loadVar_row w g t ty cs fr d hg hu hd hi]
def cellK (c:UInt8):List Value:=[.int .u8 c.toNat,.slice none 0 0]
def plainD (c:UInt8):D:=.st [.v (.int .u8 c.toNat),.v (.slice none 0 0)]
def kdD (k:Kd):D:=if k.star then .st [.v (.int .u8 42),.sl 2 [plainD k.c]] else plainD k.c
theorem rep_plain {S:Nat→Prop} {w:World} (c:UInt8):Rep S w (plainD c) (cellK c):=.st (.cons (.v _ rfl) (.cons (cs':=[]) (.v _ rfl) .nil))
theorem rep_plain_form {S:Nat→Prop} {w:World} {c:UInt8} {cs:List Value} (h:Rep S w (plainD c) cs):cs=cellK c:=by
 obtain ⟨a,b,rfl,h1,h2⟩:=h.st_form.cons_form
 obtain ⟨c0,d0,rfl,h3,h4⟩:=h2.cons_form
 rw [h1.v_form,h3.v_form,h4.nil_form];rfl
theorem rep_star {S:Nat→Prop} {w:World} {g:Nat} {c:UInt8} {fr:Nat×Nat} {e:TypeId} (h:w.heap[g]? = some (.cells (cellK c).toArray e fr)) (hS:S g):Rep S w (.st [.v (.int .u8 42),.sl 2 [plainD c]]) [.int .u8 42,.slice (some ⟨g,0,none⟩) 1 1] :=
 .st (.cons (.v _ rfl) (.cons (cs':=[]) (.sl (.cons (rep_plain c) rfl .nil) rfl (fun _=>⟨g,0,rfl,hS,fun j u hj=>by rw [Nat.zero_add,cell_of_row _ _ _ _ _ _ h];simpa using hj⟩) (Nat.le_refl _) (by simp [maxLen])) .nil))
theorem kd_len {S:Nat→Prop} {w:World} {k:Kd} {cs:List Value} (h:Rep S w (kdD k) cs):∃ n A m c,cs = [.int .u8 n,.slice A m c]:=by
 unfold kdD at h
 split at h
 ·obtain ⟨a,b,rfl,h1,h2⟩:=h.st_form.cons_form
  obtain ⟨c0,d0,rfl,h3,h4⟩:=h2.cons_form
  obtain ⟨A,m,c,rfl⟩:=h3.slice_form
  rw [h1.v_form,h4.nil_form]
  exact ⟨_,_,_,_,rfl⟩
 ·rw [rep_plain_form h];exact ⟨_,_,_,_,rfl⟩
/-- behind one kind that is read -/
def OnePost (k:Kd) (w:World) (e:Ending) (w':World):Prop :=
 ∃ s A n c,e=.returned (.tuple #[.agg #[.int .u8 s,.slice A n c],.int .i64 k.txt.length,.bool true])∧Rep (From w.heap.size) w' (kdD k) [.int .u8 s,.slice A n c]∧Below w.heap.size w w'
theorem one_plain (c:UInt8) (hc:okC c) (t:Bytes) (d:Int) (h0:0≤d) (h1:d≤4) (w:World) :
  Calls Tryz.prog 124 #[.string (bs (c :: t)),.int .i64 d] w fun e w'=>e=.returned (.tuple #[.agg (cellK c).toArray,.int .i64 1,.bool true])∧Below w.heap.size w w':=by
 have hb:Below w.heap.size w (w.alloc (.cells #[.int .u8 0,.slice none 0 0] 90)):=(Below.refl _ _).alloc (Nat.le_refl _) _
 have hr:(w.alloc (.cells #[.int .u8 0,.slice none 0 0] 90)).heap[w.heap.size]? = some (.cells #[.int .u8 0,.slice none 0 0] 90 (0,0)):=heap_alloc_new w _
 have HB:=Lib.hid hb
 have HR:=Lib.hid hr
 clear hb hr
 have hd:¬ 4 < d:=by omega
 rcases hc with rfl | rfl | rfl | rfl | rfl
 all_goals
  go_enter Tryz.func124,Tryz.ntmps124
  go_wp2_with fail
 ·exact bodyPost_ret (v:=.tuple #[.agg #[.int .u8 110,.slice none 0 0],.int .i64 1,.bool true]) (results_row_tmp2 rfl _ _ w.heap.size _ _ _ _ rfl (heap_alloc_new w _) _ _ rfl rfl Tryz.underlying90 rfl infoK) rfl ⟨rfl,(Below.refl _ _).alloc (Nat.le_refl _) _⟩
 ·exact bodyPost_ret (v:=.tuple #[.agg #[.int .u8 104,.slice none 0 0],.int .i64 1,.bool true]) (results_row_tmp2 rfl _ _ w.heap.size _ _ _ _ rfl (heap_alloc_new w _) _ _ rfl rfl Tryz.underlying90 rfl infoK) rfl ⟨rfl,(Below.refl _ _).alloc (Nat.le_refl _) _⟩
 ·exact bodyPost_ret (v:=.tuple #[.agg #[.int .u8 97,.slice none 0 0],.int .i64 1,.bool true]) (results_row_tmp2 rfl _ _ w.heap.size _ _ _ _ rfl (heap_alloc_new w _) _ _ rfl rfl Tryz.underlying90 rfl infoK) rfl ⟨rfl,(Below.refl _ _).alloc (Nat.le_refl _) _⟩
 ·exact bodyPost_ret (v:=.tuple #[.agg #[.int .u8 115,.slice none 0 0],.int .i64 1,.bool true]) (results_row_tmp2 rfl _ _ w.heap.size _ _ _ _ rfl (heap_alloc_new w _) _ _ rfl rfl Tryz.underlying90 rfl infoK) rfl ⟨rfl,(Below.refl _ _).alloc (Nat.le_refl _) _⟩
 ·exact bodyPost_ret (v:=.tuple #[.agg #[.int .u8 98,.slice none 0 0],.int .i64 1,.bool true]) (results_row_tmp2 rfl _ _ w.heap.size _ _ _ _ rfl (heap_alloc_new w _) _ _ rfl rfl Tryz.underlying90 rfl infoK) rfl ⟨rfl,(Below.refl _ _).alloc (Nat.le_refl _) _⟩
theorem one_nil (w:World):Calls Tryz.prog 124 #[.string (bs []),.int .i64 0] w fun e w'=>e=.returned (.tuple #[.agg #[.int .u8 0,.slice none 0 0],.int .i64 0,.bool false])∧Below w.heap.size w w':=by
 go_enter Tryz.func124,Tryz.ntmps124
 go_wp2_with fail
 exact bodyPost_ret (v:=.tuple #[.agg #[.int .u8 0,.slice none 0 0],.int .i64 0,.bool false]) (results_row_tmp2 rfl _ _ w.heap.size _ _ _ _ rfl (heap_alloc_new w _) _ _ rfl rfl Tryz.underlying90 rfl infoK) rfl ⟨rfl,(Below.refl _ _).alloc (Nat.le_refl _) _⟩
theorem one_any (k:Kd) (hc:okC k.c) (t:Bytes) (w:World):Calls Tryz.prog 124 #[.string (bs (k.txt ++ t)),.int .i64 0] w (OnePost k w):=by
 obtain ⟨c,st⟩:=k
 cases st with
 | false =>
  have h:(⟨c,false⟩:Kd).txt ++ t=c :: t:=rfl
  rw [h]
  refine (one_plain c hc t 0 (by omega) (by omega) w).mono ?_
  rintro e w' ⟨rfl,hb⟩
  exact ⟨_,_,_,_,rfl,rep_plain c,hb⟩
 | true =>
  have h:(⟨c,true⟩:Kd).txt ++ t=42 :: c :: t:=rfl
  rw [h]
  have hb:Below w.heap.size w (w.alloc (.cells #[.int .u8 0,.slice none 0 0] 90)):=(Below.refl _ _).alloc (Nat.le_refl _) _
  have hr:(w.alloc (.cells #[.int .u8 0,.slice none 0 0] 90)).heap[w.heap.size]? = some (.cells #[.int .u8 0,.slice none 0 0] 90 (0,0)):=heap_alloc_new w _
  have HC:=Lib.hid (one_plain c hc t 1 (by omega) (by omega) (w.alloc (.cells #[.int .u8 0,.slice none 0 0] 90)))
  have HB:=Lib.hid hb
  have HR:=Lib.hid hr
  have hdr:List.take (t.length+1) (c :: t)=c :: t:=List.take_of_length_le (by simp)
  clear hb hr hc h
  go_enter Tryz.func124,Tryz.ntmps124
  go_wp2_with fail
  refine HC.out.mono ?_
  clear HC hdr
  rintro e w1 ⟨rfl,hb1⟩
  have hr1:=(hb1.block _ (Array.getElem?_eq_some_iff.1 HR.out).1).trans HR.out
  have hB1:=below_call HB.out HB.out.size hb1
  have hRl:=(Array.getElem?_eq_some_iff.1 hr1).1
  obtain ⟨kc,hkc⟩:∃ kc:Int,kc=c.toNat:=⟨_,rfl⟩
  have hck:(cellK c).toArray=#[.int .u8 kc,.slice none 0 0]:=by rw [hkc];rfl
  rw [hck]
  have HKC:=Lib.hid hkc
  clear hck hkc
  have d0:w1.cell? ⟨w.heap.size,0,none⟩=some (.int .u8 0):=rc hr1 0 rfl
  have d1:w1.cell? ⟨w.heap.size,1,none⟩=some (.slice none 0 0):=rc hr1 1 rfl
  have f0:=rf hr1 0
  have f1:=rf hr1 1
  have HR1:=Lib.hid hr1
  have HB1:=Lib.hid hB1
  clear hr1 hB1 hb1 HB HR
  go_wp2_with fail
  have hfin:=heap_setCell_here (heap_setCell_here HR1.out (i:=0) (.int .u8 42)) (i:=1) (.slice (some ⟨w1.heap.size+1,0,none⟩) 1 1)
  have hfin1:=(heap_alloc_old _ (.cells #[.int .u8 kc,.slice none 0 0] 90) (by simp;omega)).trans hfin
  have hfin2:=(heap_alloc_old _ (.cells #[.int .u8 kc,.slice none 0 0] 90) (by simp;omega)).trans hfin1
  refine bodyPost_ret (v:=.tuple #[.agg #[.int .u8 42,.slice (some ⟨w1.heap.size+1,0,none⟩) 1 1],.int .i64 2,.bool true]) (results_row_tmp2 rfl _ _ w.heap.size _ _ _ _ rfl hfin2 _ _ rfl rfl Tryz.underlying90 rfl infoK) rfl ?_
  refine ⟨42,_,_,_,rfl,?_,?_⟩
  ·refine rep_star (g:=w1.heap.size+1) (c:=c) (fr:=(0,0)) (e:=90) ?_ (by show w.heap.size≤_;omega)
   rw [show (cellK c).toArray=#[.int .u8 kc,.slice none 0 0] by rw [HKC.out];rfl]
   have:=heap_alloc_new (((w1.setCell ⟨w.heap.size,0,none⟩ (.int .u8 42)).setCell ⟨w.heap.size,1,none⟩ (.slice (some ⟨w1.heap.size+1,0,none⟩) 1 1)).alloc (.cells #[.int .u8 kc,.slice none 0 0] 90)) (.cells #[.int .u8 kc,.slice none 0 0] 90)
   simpa using this
  ·exact ((((HB1.out.setCell (p:=⟨w.heap.size,_,_⟩) (Nat.le_refl _) _).setCell (p:=⟨w.heap.size,_,_⟩) (Nat.le_refl _) _).alloc (by have:=HB1.out.size;simp;omega) _).alloc (by have:=HB1.out.size;simp;omega) _)
/- The walks of frame.some and kinds. -/
def kindsD (ks:List Kd):List D:=ks.map kdD
/-- kinds in memory -/
def KindsV (S:Nat→Prop) (w:World) (ks:List Kd) (A:Option Addr) (c:Nat):Prop:=Rep S w (.sl 2 (kindsD ks)) [.slice A ks.length c]
theorem form_drop {ks:List Kd} {i:Nat} {k:Kd} (h:ks[i]? = some k):(formP ks).drop (formP (ks.take i)).length=k.txt ++ formP (ks.drop (i+1)):=by
 obtain ⟨hi,hk⟩:=List.getElem?_eq_some_iff.1 h
 have hs:ks=ks.take i ++ k :: ks.drop (i+1):=by rw [← hk,List.getElem_cons_drop,List.take_append_drop]
 have hF:formP ks=formP (ks.take i) ++ (k.txt ++ formP (ks.drop (i+1))):=by
  conv=>lhs;rw [hs]
  rw [formP_append];rfl
 rw [hF,List.drop_left]
theorem form_take_succ {ks:List Kd} {i:Nat} {k:Kd} (h:ks[i]? = some k):(formP (ks.take (i+1))).length=(formP (ks.take i)).length+k.txt.length:=by
 rw [take_snoc h,formP_append,List.length_append];simp [formP]
theorem form_take_le (ks:List Kd) (i:Nat):(formP (ks.take i)).length≤(formP ks).length:=by
 conv=>rhs;rw [← List.take_append_drop i ks]
 rw [formP_append,List.length_append];omega
/-- behind kinds that are read -/
def SomePost (ks:List Kd) (w:World) (e:Ending) (w':World):Prop :=
 ∃ A c,e=.returned (.tuple #[.slice A ks.length c,.int .i64 (formP ks).length])∧KindsV (From w.heap.size) w' ks A c∧Below w.heap.size w w'
theorem some_any (ks:List Kd) (hf:OkForm ks) (hl:ks.length≤1000) (w:World):Calls Tryz.prog 73 #[.string (bs (formP ks)),.int .i64 0] w (SomePost ks w):=by
 have hFl:=(formP_len ks).2
 obtain ⟨F,hF⟩:∃ F,formP ks=F:=⟨_,rfl⟩
 have hFl':F.length≤2 * ks.length:=by rw [← hF];exact hFl
 rw [hF]
 have HF:=Lib.hid hF
 have HOK:=Lib.hid hf
 clear hF hFl hf
 go_enter Tryz.func73,Tryz.ntmps73
 go_wp2_with fail
 go_step3
 go_wp2_with fail
 go_step3
 go_wp2_with fail
 go_loopw [6,7] (fun o at' wr=>∃ (i a:Nat) (ys:List Value),at'=.int .i64 a∧i≤ks.length∧Hid (a=(formP (ks.take i)).length)∧a≤F.length∧wr.ownsRow w.heap.size 90 2 o i ys∧RepN (RowS w.heap.size o) wr 2 (kindsD (ks.take i)) ys∧Below w.heap.size w wr) (fun _ at' _=>F.length - (intOf at').toNat)
 case atStart=>exact ⟨0,0,[],rfl,Nat.zero_le _,Lib.hid rfl,Nat.zero_le _,World.ownsRow_nil _ _ _ _,.nil,Below.refl _ _⟩
 case round =>
  obtain ⟨i,a,ys,rfl,hi,ha,hal,hown,hrep,hB⟩:=hrel
  obtain ⟨A',c',rfl⟩:=own_form hown
  have hBs:=hB.size
  by_cases hlt:i < ks.length
  ·obtain ⟨k,hk⟩:=getElem_ex hlt
   have hd:List.take (F.length - a) (List.drop a F)=k.txt ++ formP (ks.drop (i+1)):=by
    rw [List.take_of_length_le (by simp),← HF.out,ha.out,form_drop hk]
   obtain ⟨t,ht⟩:∃ t,k.txt ++ formP (ks.drop (i+1))=t:=⟨_,rfl⟩
   have hC:=one_any k (HOK.out k (List.mem_of_getElem? hk)) (formP (ks.drop (i+1))) wr
   rw [ht] at hd hC
   have hal2:(formP (ks.take (i+1))).length≤F.length:=by rw [← HF.out];exact form_take_le ks (i+1)
   rw [form_take_succ hk,← ha.out] at hal2
   have hkl:=txt_len k
   have HT1:=Lib.hid (form_take_succ hk)
   obtain ⟨n,hn⟩:∃ n,k.txt.length=n:=⟨_,rfl⟩
   rw [hn] at hal2 hkl HT1
   unfold OnePost at hC
   rw [hn] at hC
   have HC:=Lib.hid hC
   have HK:=Lib.hid hk
   have HW:=Lib.hid hown
   have HP:=Lib.hid hrep
   have HB:=Lib.hid hB
   have halI:(a:Int)≤F.length:=by omega
   clear hC hk hown hrep hB ht hn
   go_wp2_with fail
   refine HC.out.mono ?_
   clear HC hd
   rintro e w1 ⟨s1,A1,n1,c1,rfl,hr1,hb1⟩
   have hB1:=below_call HB.out HB.out.size hb1
   have hown1:=own_keep HW.out hb1
   have hb1s:=hb1.size
   have hP1:RepN (RowS w.heap.size (.slice A' i c')) w1 2 (kindsD (ks.take (i+1))) (ys ++ [.int .u8 s1,.slice A1 n1 c1]):=by
    unfold kindsD
    rw [take_snoc HK.out,List.map_append]
    refine RepN.snoc (hr1.mono fun b _ hb=>⟨⟨Nat.le_trans hBs hb,fun e=>by have h1:=(HW.out.lt _ e).2;have h2:wr.heap.size≤b:=hb;omega⟩,rfl⟩) rfl (HP.out.keep hb1)
   have HB1:=Lib.hid hB1
   have HW1:=Lib.hid hown1
   have HP1:=Lib.hid hP1
   clear hB1 hown1 hP1 hb1 HW HP HB hr1
   go_wp2_with (at_builtin;refine wpl_append elKind rfl rfl w.heap.size ((HW1.out.alloc _).alloc _) rfl (m:=1) [.int .u8 s1,.slice A1 n1 c1] rfl rfl ?_ ?_ ?_ ?_ ?_ ?_;exact (lies_new' _ _ (by simp) _ _);(intro u hu;simp at hu;rcases hu with rfl | rfl <;> rfl);(simp only [maxLen];omega);omega;(simp;omega);intro v1 w4 hown4 hg4 hat4;obtain ⟨A2,c2,rfl⟩:=own_form hown4)
   go_roundw
   case rel =>
    refine ⟨i+1,a+n,ys ++ [.int .u8 s1,.slice A1 n1 c1],by go_num,by omega,Lib.hid (by rw [HT1.out,ha.out]),hal2,hown4,?_,?_⟩
    ·exact repN_app ((HP1.out.keep ((Below.refl _ _).alloc (Nat.le_refl _) _)).keep ((Below.refl _ _).alloc (Nat.le_refl _) _)) hg4 hat4
    ·exact below_app ((HB1.out.alloc (by omega) _).alloc (by simp;omega) _) ((HW1.out.alloc _).alloc _) hg4 (by simp;omega) (Nat.le_refl _)
   case measure=>simp [intOf];omega
  ·obtain rfl:i=ks.length:=by omega
   have haF:a=F.length:=by rw [ha.out,List.take_length,HF.out]
   subst haF
   have hd:List.take 0 (List.drop F.length F) = []:=rfl
   have HW:=Lib.hid hown
   have HP:=Lib.hid hrep
   have HB:=Lib.hid hB
   clear hown hrep hB
   go_wp2_with fail
   refine (show Calls Tryz.prog 124 #[.string ByteArray.empty,.int .i64 0] wr _ from one_nil wr).mono ?_
   rintro e w1 ⟨rfl,hb1⟩
   have HR1:Hid (KindsV (From w.heap.size) w1 ks A' c'):=Lib.hid (by
    have hp:=HP.out.keep hb1
    rw [List.take_length] at hp
    exact rep_own (own_keep HW.out hb1) (RepN.mono hp fun b _ hb=>⟨hb.1,rfl⟩) (by simp [kindsD]) (fun g h1 _=>h1))
   have HB1:=Lib.hid (below_call HB.out HB.out.size hb1)
   clear hb1 HP HW HB hd
   go_wp2_with fail
   rw [Exit.noGoto_ret]
   go_ret2
   rw [← HF.out]
   exact ⟨A',c',rfl,Rep.alloc HR1.out _,HB1.out.alloc HB1.out.size _⟩
/-- behind a form's kinds -/
def KindsPost (ks:List Kd) (w:World) (e:Ending) (w':World):Prop :=
 ∃ A c,e=.returned (.tuple #[.slice A ks.length c,.bool true])∧KindsV (From w.heap.size) w' ks A c∧Below w.heap.size w w'
theorem kinds_any (ks:List Kd) (hf:OkForm ks) (hl:(formP ks).length≤40) (w:World):Calls Tryz.prog 39 #[.string (bs (formP ks))] w (KindsPost ks w):=by
 have hC:=some_any ks hf (by have:=(formP_len ks).1;omega) w
 have hlI:¬ (40:Int) < (formP ks).length:=by omega
 unfold SomePost at hC
 obtain ⟨F,hF⟩:∃ F,formP ks=F:=⟨_,rfl⟩
 rw [hF] at hC hlI ⊢
 have HC:=Lib.hid hC
 clear hC hF hf hl
 go_enter Tryz.func39,Tryz.ntmps39
 go_wp2_with fail
 refine HC.out.mono ?_
 rintro e w1 ⟨A,c,rfl,hr,hb⟩
 have HR:=Lib.hid hr
 have HB:=Lib.hid hb
 clear hr hb
 go_wp2_with fail
 go_ret2
 exact ⟨A,c,by simp,HR.out,HB.out⟩
/- Fields in memory; the walk of frame.count. -/
def lfD (x:Lf):D:=.st [.v (.int .u64 (x.1:Int)),.v (.string (bs x.2)),.sl 3 []]
def fdD (f:Fd):D:=.st [.v (.int .u64 (f.n:Int)),.v (.string (bs f.b)),.sl 3 (f.l.map lfD)]
def upF (x:Lf):Fd:=⟨x.1,x.2,[]⟩
theorem fdD_up (x:Lf):fdD (upF x)=lfD x:=rfl
def fdsD (fs:List Fd):List D:=fs.map fdD
theorem fdsD_append (a b:List Fd):fdsD (a ++ b)=fdsD a ++ fdsD b:=by simp [fdsD]
theorem fdsD_up (l:List Lf):fdsD (l.map upF)=l.map lfD:=by simp [fdsD,fdD_up]
/-- a field's cells -/
def fdC (f:Fd) (A:Option Addr) (c:Nat):List Value:=[.int .u64 (f.n:Int),.string (bs f.b),.slice A f.l.length c]
/-- a row of plain fields; of fields -/
def LfsV (S:Nat→Prop) (w:World) (l:List Lf) (A:Option Addr) (c:Nat):Prop:=Rep S w (.sl 3 (l.map lfD)) [.slice A l.length c]
def FdsV (S:Nat→Prop) (w:World) (fs:List Fd) (A:Option Addr) (c:Nat):Prop:=Rep S w (.sl 3 (fdsD fs)) [.slice A fs.length c]
theorem rep_fd {S:Nat→Prop} {w:World} {f:Fd} {cs:List Value} (h:Rep S w (fdD f) cs):∃ A c,cs=fdC f A c∧LfsV S w f.l A c:=by
 obtain ⟨a,b,rfl,h1,h2⟩:=h.st_form.cons_form
 obtain ⟨a2,b2,rfl,h3,h4⟩:=h2.cons_form
 obtain ⟨a3,b3,rfl,h5,h6⟩:=h4.cons_form
 obtain ⟨A,n,c,rfl⟩:=h5.slice_form
 have hn:=h5.slice_len.1
 rw [List.length_map] at hn
 subst hn
 rw [h1.v_form,h3.v_form,h6.nil_form]
 exact ⟨A,c,rfl,h5⟩
theorem fd_rep {S:Nat→Prop} {w:World} {f:Fd} {A:Option Addr} {c:Nat} (h:LfsV S w f.l A c):Rep S w (fdD f) (fdC f A c) :=
 .st (.cons (.v _ rfl) (.cons (cs':=[.slice A f.l.length c]) (.v _ rfl) (.cons (cs':=[]) h .nil)))
theorem fd_rep0 {S:Nat→Prop} {w:World} (n:Nat) (b:Bytes):Rep S w (fdD ⟨n,b,[]⟩) [.int .u64 (n:Int),.string (bs b),.slice none 0 0]:=fd_rep (f:=⟨n,b,[]⟩) (A:=none) (c:=0) (Rep.nil_slice 3)
theorem infoF:(Tryz.prog.info? 56).map (·.size)=some 3:=by kernel_rfl
theorem elField:ElemOk Tryz.prog 54 56 (.agg #[.int .u64 0,.string (bs []),.slice none 0 0]) 3 48:=⟨Tryz.underlying54,by kernel_rfl,rfl,by omega⟩
theorem own_field {S:Nat→Prop} {w wr:World} {base:Nat} {e:TypeId} {A:Option Addr} {n c:Nat} {q:List Fd} {xs:List Value} {i:Nat} {f:Fd}
  (hown:wr.ownsRow base e 3 (.slice A n c) n xs) (hr:RepN S w 3 (fdsD q) xs) (hi:q[i]? = some f) :
  ∃ g A' c',A=some ⟨g,0,none⟩∧LfsV S w f.l A' c'∧wr.cell? ⟨g,i * 3,none⟩=some (.int .u64 (f.n:Int))∧wr.cell? ⟨g,i * 3+1,none⟩=some (.string (bs f.b)) ∧
   wr.cell? ⟨g,i * 3+2,none⟩=some (.slice A' f.l.length c'):=by
 obtain ⟨ci,r1,r2,r3⟩:=hr.at_ (i:=i) (d:=fdD f) (by unfold fdsD;rw [List.getElem?_map,hi];rfl)
 obtain ⟨A',c',rfl,hv⟩:=rep_fd r1
 have h0:=r3 0 _ rfl
 obtain ⟨g,o,hA,_,hc⟩:=lies_own (S:=Any) hown (fun _ _ _=>trivial) (by intro he;rw [he] at h0;simp at h0)
 subst hA
 have ho:o=0:=by
  rcases hown.2 with ⟨hv,_⟩ | ⟨g',cap,cur,hv,_⟩
  ·simp at hv
  ·simp at hv;exact hv.1.2
 subst ho
 exact ⟨g,A',c',rfl,hv,by simpa using hc _ _ h0,by simpa [Nat.add_assoc] using hc _ _ (r3 1 _ rfl),by simpa [Nat.add_assoc] using hc _ _ (r3 2 _ rfl)⟩
/-- a field at a place of a row of fields -/
theorem fds_at {S:Nat→Prop} {w:World} {fs:List Fd} {A:Option Addr} {c i:Nat} {f:Fd} (h:FdsV S w fs A c) (hi:fs[i]? = some f) :
  ∃ g o A' c',A=some ⟨g,o,none⟩∧S g∧LfsV S w f.l A' c'∧∀ j u,(fdC f A' c')[j]? = some u→w.cell? ⟨g,o+i * 3+j,none⟩=some u:=by
 obtain ⟨g,o,ci,hA,hs,r1,r2,r3⟩:=Rep.slice_at h (by omega) (i:=i) (d:=fdD f) (by unfold fdsD;rw [List.getElem?_map,hi];rfl)
 obtain ⟨A',c',rfl,hv⟩:=rep_fd r1
 exact ⟨g,o,A',c',hA,hs,hv,fun j u hj=>by rw [Nat.add_assoc];exact r3 j u hj⟩
theorem lfs_at {S:Nat→Prop} {w:World} {l:List Lf} {A:Option Addr} {c i:Nat} {f:Lf} (h:LfsV S w l A c) (hi:l[i]? = some f) :
  ∃ g o A' c',A=some ⟨g,o,none⟩∧S g∧LfsV S w [] A' c'∧∀ j u,(fdC (upF f) A' c')[j]? = some u→w.cell? ⟨g,o+i * 3+j,none⟩=some u:=by
 obtain ⟨g,o,ci,hA,hs,r1,r2,r3⟩:=Rep.slice_at h (by omega) (i:=i) (d:=lfD f) (by rw [List.getElem?_map,hi];rfl)
 obtain ⟨A',c',rfl,hv⟩:=rep_fd (f:=upF f) r1
 exact ⟨g,o,A',c',hA,hs,hv,fun j u hj=>by rw [Nat.add_assoc];exact r3 j u hj⟩
/-- blocks that are there -/
def Old (w:World):Nat→Prop:=fun b=>b < w.heap.size
theorem Rep.old {S:Nat→Prop} {w:World} {d:D} {cs:List Value} (h:Rep S w d cs):Rep (Old w) w d cs:=h.mono fun b hb _=>⟨hb,rfl⟩
theorem RepN.old {S:Nat→Prop} {w:World} {n:Nat} {d:List D} {cs:List Value} (h:RepN S w n d cs):RepN (Old w) w n d cs:=h.mono fun b hb _=>⟨hb,rfl⟩
def sumL:List Fd→Nat
 | []=>0
 | f :: fs=>f.l.length+sumL fs
theorem sumL_append (a b:List Fd):sumL (a ++ b)=sumL a+sumL b:=by
 induction a with
 | nil=>simp [sumL]
 | cons f a ih=>simp [sumL,ih];omega
theorem sumL_up (l:List Lf):sumL (l.map upF)=0:=by
 induction l with
 | nil=>rfl
 | cons f a ih=>simp [sumL,ih,upF]
def totF (fs:List Fd):Nat:=fs.length+sumL fs
/-- behind count -/
def CountPost (fs:List Fd) (w:World) (e:Ending) (w':World):Prop:=∃ b,e=.returned (.bool b)∧(totF fs≤1000→b=true)∧Below w.heap.size w w'
theorem count_any (fs:List Fd) (hl:fs.length≤1000) (A:Option Addr) (c:Nat) (w:World) (hv:FdsV Any w fs A c) :
  Calls Tryz.prog 40 #[.slice A fs.length c] w (CountPost fs w):=by
 obtain ⟨css,hr0,hlies,hcl,hone⟩:=Rep.slice_open hv
 have hlc:=(Rep.slice_len hv).2.1
 have hcm:=(Rep.slice_len hv).2.2
 have hrep0:=hr0.old
 have hmin:min (fs.length:Int) 1000=fs.length:=by omega
 have hlI:(fs.length:Int)≤c:=by omega
 have hl1:(fs.length:Int)≤1000:=by omega
 have hcI:(c:Int)≤9223372036854775807:=by simp only [maxLen] at hcm;omega
 have hO:(w.alloc (.cells #[] 56)).ownsRow w.heap.size 56 3 (.slice (some ⟨w.heap.size,0,none⟩) 0 0) 0 []:=World.ownsRow_lit w #[] 0 (Nat.le_refl _) (Nat.zero_le _) rfl
 have hb:Below w.heap.size w (w.alloc (.cells #[] 56)):=(Below.refl _ _).alloc (Nat.le_refl _) _
 have HO:=Lib.hid hO
 have HB:=Lib.hid hb
 have HL:=Lib.hid (hlies.mono (S':=Any) (w':=w.alloc (.cells #[] 56)) fun b hbl _=>⟨trivial,hb.block b hbl⟩)
 have HC:=Lib.hid hcl
 have H1:=Lib.hid hone
 have HR:=Lib.hid hrep0
 clear hv hr0 hlies hcl hone hrep0 hO hb
 go_enter Tryz.func40,Tryz.ntmps40
 go_wp2_with (at_builtin;refine wpl_append elField rfl rfl w.heap.size HO.out rfl (m:=fs.length) css rfl HC.out HL.out H1.out (by simp only [maxLen];omega) (by omega) (by simp) ?_;intro v1 w1 hown1 hg1 hat1)
 have hB1:=below_app HB.out HO.out hg1 (by simp) (Nat.le_refl _)
 simp only [Nat.zero_add,List.nil_append] at hown1
 have HB1:=Lib.hid hB1
 have HW1:=Lib.hid hown1
 clear hown1 hB1 hg1 hat1 HB HL HO H1
 go_loopw [3,4] (fun q a wr=>∃ (i:Nat) (Q:List Fd) (ys:List Value),a=.int .i64 i∧i≤Q.length∧Q.length≤1000∧Hid (Q.length+sumL (Q.drop i)=totF fs)∧wr.ownsRow w.heap.size 56 3 q Q.length ys∧RepN (Old w) w 3 (fdsD Q) ys∧Below w.heap.size w wr) (fun _ a _=>1000 - (intOf a).toNat)
 case atStart=>exact ⟨0,fs,css,rfl,Nat.zero_le _,hl,Lib.hid rfl,HW1.out,HR.out,HB1.out⟩
 case round =>
  clear HB1 HW1 HR HC
  obtain ⟨i,Q,ys,rfl,hi,hQ,hsum,hown,hrep,hB⟩:=hrel
  obtain ⟨A',c',rfl⟩:=own_form hown
  have hBs:=hB.size
  by_cases hlt:i < Q.length
  ·obtain ⟨f,hf⟩:=getElem_ex hlt
   obtain ⟨g,A1,c1,rfl,hlv,d0,d1,d2⟩:=own_field hown hrep hf
   have hltI:(i:Int) < Q.length:=by omega
   have hQI:(Q.length:Int)≤1000:=by omega
   have hdr:sumL (Q.drop i)=f.l.length+sumL (Q.drop (i+1)):=by
    obtain ⟨hi',hfe⟩:=List.getElem?_eq_some_iff.1 hf
    rw [← List.getElem_cons_drop (h:=hi'),hfe];rfl
   by_cases hgt:f.l.length≤1000 - Q.length
   ·have hgI:¬ (1000 - (Q.length:Int)) < (f.l.length:Int):=by omega
    obtain ⟨css1,hr1,hlies1,hcl1,hone1⟩:=Rep.slice_open hlv
    have hs1:Q.length+f.l.length+sumL ((Q ++ f.l.map upF).drop (i+1))=totF fs:=by
     rw [List.drop_append_of_le_length (by omega),sumL_append,sumL_up]
     have:=hsum.out;omega
    have HS1:=Lib.hid hs1
    have HL1:=Lib.hid (hlies1.mono (S':=Any) (w':=wr) fun b hbl _=>⟨trivial,hB.block b hbl⟩)
    have HR1:Hid (RepN (Old w) w 3 (fdsD (Q ++ f.l.map upF)) (ys ++ css1)):=Lib.hid (by rw [fdsD_append,fdsD_up];exact RepN.append hr1 hrep)
    have HC1:=Lib.hid hcl1
    have HO1:=Lib.hid hone1
    have HW:=Lib.hid hown
    have HB:=Lib.hid hB
    clear hr1 hlies1 hcl1 hone1 hlv hown hrep hB hsum hdr hs1 hf d0 d1
    go_wp2_with (at_builtin;refine wpl_append elField rfl rfl w.heap.size HW.out rfl (m:=f.l.length) css1 rfl HC1.out HL1.out HO1.out (by simp only [maxLen];omega) (by omega) hBs ?_;intro v1 w4 hown4 hg4 hat4;obtain ⟨A2,c2,rfl⟩:=own_form hown4)
    go_roundw
    case rel=>exact ⟨i+1,Q ++ f.l.map upF,ys ++ css1,by go_num,by simp;omega,by simp;omega,Lib.hid (by rw [List.length_append,List.length_map];exact HS1.out),by rw [List.length_append,List.length_map];exact hown4,HR1.out,below_app HB.out HW.out hg4 hBs (Nat.le_refl _)⟩
    case measure=>simp [intOf];omega
   ·have hgI:(1000 - (Q.length:Int)) < (f.l.length:Int):=by omega
    have hno:Hid (¬ totF fs≤1000):=Lib.hid (by have:=hsum.out;omega)
    clear hsum hdr hf hlv hrep d0 d1
    go_wp2_with fail
    go_ret
    exact ⟨false,rfl,fun h=>absurd h hno.out,hB⟩
  ·obtain rfl:i=Q.length:=by omega
   go_wp2_with fail
   go_ret
   exact ⟨true,by simp,fun _=>rfl,hB⟩
/- The walks of frame.sizes, and of frame.item at plain kinds, at numbers. -/
theorem sizes_any (c:UInt8) (hc:c=104∨c=97∨c=115) (w:World):Calls Tryz.prog 126 #[.int .u8 (c.toNat:Int)] w fun e w'=>e=.returned (.int .i64 (sizeC c:Nat))∧w'=w:=by
 rcases hc with rfl | rfl | rfl
 all_goals
  go_enter Tryz.func126,Tryz.ntmps126
  go_wp2_with fail
  go_ret
  exact ⟨rfl,rfl⟩
theorem item_n111 (n:Int) (b:Bytes) (A:Option Addr) (m c:Nat) (h0:0≤n) (h64:n < 18446744073709551616) (hn:(n == 0)=true) (hm:((m:Int) == 0)=true) (hb:(b == [])=true) (w:World) :
  Calls Tryz.prog 75 #[.agg #[.int .u8 110,.slice none 0 0],.agg #[.int .u64 n,.string (bs b),.slice A m c]] w fun e w'=>e=.returned (.tuple #[.agg #[.bool false,.string (bs (digs n.toNat)),.slice none 0 0],.bool true])∧Below w.heap.size w w':=by
 have hB:Below w.heap.size w (((w.alloc (.cells #[.int .u8 110,.slice none 0 0] 90)).alloc (.cells #[.int .u64 n,.string (bs b),.slice A m c] 56)).alloc (.cells #[.bool false,.string ⟨#[]⟩,.slice none 0 0] 86)):=(((Below.refl _ _).alloc (Nat.le_refl _) _).alloc (by simp) _).alloc (by simp;omega) _
 have hI:=heap_alloc_new ((w.alloc (.cells #[.int .u8 110,.slice none 0 0] 90)).alloc (.cells #[.int .u64 n,.string (bs b),.slice A m c] 56)) (.cells #[.bool false,.string ⟨#[]⟩,.slice none 0 0] 86)
 have hF:=(heap_alloc_old ((w.alloc (.cells #[.int .u8 110,.slice none 0 0] 90)).alloc (.cells #[.int .u64 n,.string (bs b),.slice A m c] 56)) (.cells #[.bool false,.string ⟨#[]⟩,.slice none 0 0] 86) (by simp)).trans (heap_alloc_new (w.alloc (.cells #[.int .u8 110,.slice none 0 0] 90)) (.cells #[.int .u64 n,.string (bs b),.slice A m c] 56))
 have hKd:=(heap_alloc_old ((w.alloc (.cells #[.int .u8 110,.slice none 0 0] 90)).alloc (.cells #[.int .u64 n,.string (bs b),.slice A m c] 56)) (.cells #[.bool false,.string ⟨#[]⟩,.slice none 0 0] 86) (by simp;omega)).trans ((heap_alloc_old (w.alloc (.cells #[.int .u8 110,.slice none 0 0] 90)) (.cells #[.int .u64 n,.string (bs b),.slice A m c] 56) (by simp)).trans (heap_alloc_new w _))
 simp only [World.size_alloc] at hI hF hKd
 have HB:=Lib.hid hB
 have HI:=Lib.hid hI
 have HF:=Lib.hid hF
 have HK:=Lib.hid hKd
 clear hB hI hF hKd
 go_enter Tryz.func75,Tryz.ntmps75
 go_wp2_with fail
 have hbd:Below (((w.alloc (.cells #[.int .u8 110,.slice none 0 0] 90)).alloc (.cells #[.int .u64 n,.string (bs b),.slice A m c] 56)).alloc (.cells #[.bool false,.string ⟨#[]⟩,.slice none 0 0] 86)).heap.size (((w.alloc (.cells #[.int .u8 110,.slice none 0 0] 90)).alloc (.cells #[.int .u64 n,.string (bs b),.slice A m c] 56)).alloc (.cells #[.bool false,.string ⟨#[]⟩,.slice none 0 0] 86)) (((w.alloc (.cells #[.int .u8 110,.slice none 0 0] 90)).alloc (.cells #[.int .u64 n,.string (bs b),.slice A m c] 56)).alloc (.cells #[.bool false,.string ⟨#[]⟩,.slice none 0 0] 86)).drew:=(Below.refl _ _).drew
 have hKd:=(hbd.block _ (Array.getElem?_eq_some_iff.1 HK.out).1).trans HK.out
 have hF:=(hbd.block _ (Array.getElem?_eq_some_iff.1 HF.out).1).trans HF.out
 have hI:=(hbd.block _ (Array.getElem?_eq_some_iff.1 HI.out).1).trans HI.out
 have hB:=below_call HB.out HB.out.size hbd
 refine wp_region_R [(99,fun w'=>w'.heap[w.heap.size]? = some (.cells #[.int .u8 110,.slice none 0 0] 90 (0,0))∧w'.heap[w.heap.size+1]? = some (.cells #[.int .u64 n,.string (bs b),.slice A m c] 56 (0,0)))] (by kernel_rfl) ?_
 generalize (((w.alloc (.cells #[.int .u8 110,.slice none 0 0] 90)).alloc (.cells #[.int .u64 n,.string (bs b),.slice A m c] 56)).alloc (.cells #[.bool false,.string ⟨#[]⟩,.slice none 0 0] 86)).drew=w3 at hKd hF hI hB ⊢
 clear hbd HK HF HI HB
 refine R_p (i:=0) (v:=.pointer (some ⟨w.heap.size+1,0,none⟩)) (Meets.here ⟨hKd,hF⟩ Meets.nil) ?_
 refine R_l (i:=1) (v:=.int .u64 n) 99 _ List.mem_cons_self rfl (yieldsIf_load_cell rfl rfl rfl (fun w' hS=>rc hS.2 0 rfl) Tryz.underlying22 rfl) (Meets.here ⟨hKd,hF⟩ Meets.nil) ?_
 refine R_p (i:=3) (v:=.pointer (some ⟨w.heap.size+1,1,none⟩)) (Meets.here ⟨hKd,hF⟩ Meets.nil) ?_
 refine R_l (i:=4) (v:=.string (bs b)) 99 _ List.mem_cons_self rfl (yieldsIf_load_cell rfl rfl rfl (fun w' hS=>rc hS.2 1 rfl) Tryz.underlying9 rfl) (Meets.here ⟨hKd,hF⟩ Meets.nil) ?_
 refine R_p (i:=5) (v:=.bool true) (Meets.here ⟨hKd,hF⟩ Meets.nil) ?_
 refine R_now 2 fun K hK=>?_
 go_simp
 refine (Number_any n h0 h64 _).mono ?_
 rintro e w4 ⟨rfl,hb4⟩
 replace hKd:=(hb4.block _ (Array.getElem?_eq_some_iff.1 hKd).1).trans hKd
 replace hF:=(hb4.block _ (Array.getElem?_eq_some_iff.1 hF).1).trans hF
 replace hI:=(hb4.block _ (Array.getElem?_eq_some_iff.1 hI).1).trans hI
 replace hB:=below_call hB hB.size hb4
 clear hb4
 refine hK.out _ _ (Meets.here ⟨hKd,hF⟩ Meets.nil) (fun hMeets=>?_)
 clear hK K hMeets
 refine lay_R ?_
 refine R_p (i:=6) (v:=.bool true) (Meets.here ⟨hKd,hF⟩ Meets.nil) ?_
 refine R_p (i:=7) (v:=.pointer (some ⟨w.heap.size+1,2,none⟩)) (Meets.here ⟨hKd,hF⟩ Meets.nil) ?_
 refine R_l (i:=8) (v:=.slice A m c) 99 _ List.mem_cons_self rfl (yieldsIf_load_cell rfl rfl rfl (fun w' hS=>rc hS.2 2 rfl) Tryz.underlying54 rfl) (Meets.here ⟨hKd,hF⟩ Meets.nil) ?_
 refine R_p (i:=9) (v:=.int .i64 (m:Int)) (Meets.here ⟨hKd,hF⟩ Meets.nil) ?_
 refine R_p (i:=10) (v:=.bool true) (Meets.here ⟨hKd,hF⟩ Meets.nil) ?_
 refine R_p (i:=11) (v:=.bool true) (Meets.here ⟨hKd,hF⟩ Meets.nil) ?_
 have d0:w4.cell? ⟨w.heap.size+1+1,0,none⟩=some (.bool false):=rc0 hI
 have d1:w4.cell? ⟨w.heap.size+1+1,1,none⟩=some (.string ⟨#[]⟩):=rc1 hI
 have d2:w4.cell? ⟨w.heap.size+1+1,2,none⟩=some (.slice none 0 0):=rc2 hI
 have f0:=rf hI 0
 have f1:=rf hI 1
 have f2:=rf hI 2
 refine R_now 12 fun K hK=>?_
 obtain ⟨W9,hW9⟩:∃ W9,W9=(((w4.setCell ⟨w.heap.size+1+1,0,none⟩ (.bool false)).setCell ⟨w.heap.size+1+1,1,none⟩ (.string (bs (digs n.toNat)))).setCell ⟨w.heap.size+1+1,2,none⟩ (.slice none 0 0)):=⟨_,rfl⟩
 have hI9:W9.heap[w.heap.size+1+1]? = some (.cells #[.bool false,.string (bs (digs n.toNat)),.slice none 0 0] 86 (0,0)):=by rw [hW9];exact heap_setCell_here (heap_setCell_here (heap_setCell_here hI _) _) _
 have hF9:W9.heap[w.heap.size+1]? = some (.cells #[.int .u64 n,.string (bs b),.slice A m c] 56 (0,0)):=by rw [hW9];exact (heap_set_ne (by omega) _).trans ((heap_set_ne (by omega) _).trans ((heap_set_ne (by omega) _).trans hF))
 have hKd9:W9.heap[w.heap.size]? = some (.cells #[.int .u8 110,.slice none 0 0] 90 (0,0)):=by rw [hW9];exact (heap_set_ne (by omega) _).trans ((heap_set_ne (by omega) _).trans ((heap_set_ne (by omega) _).trans hKd))
 have hB9:Below w.heap.size w W9:=by rw [hW9];exact ((hB.setCell (p:=⟨w.heap.size+1+1,_,_⟩) (by simp;omega) _).setCell (p:=⟨w.heap.size+1+1,_,_⟩) (by simp;omega) _).setCell (p:=⟨w.heap.size+1+1,_,_⟩) (by simp;omega) _
 have HI9:=Lib.hid hI9
 have HB9:=Lib.hid hB9
 clear hI9 hB9
 go_simp
 rw [← hW9]
 clear hW9 d0 d1 d2 f0 f1 f2
 refine hK.out _ _ (Meets.here ⟨hKd9,hF9⟩ Meets.nil) (fun hMeets=>?_)
 clear hK K hMeets
 refine lay_R ?_
 refine R_p (i:=13) (v:=.bool true) (Meets.here ⟨hKd9,hF9⟩ Meets.nil) ?_
 refine R_done (by kernel_rfl) ?_ _
 go_wp2_with fail
 exact bodyPost_ret (v:=.tuple #[.agg #[.bool false,.string (bs (digs n.toNat)),.slice none 0 0],.bool true]) (results_row_tmp rfl _ _ (w.heap.size+1+1) _ _ _ _ rfl HI9.out _ rfl Tryz.underlying86 rfl infoI) rfl ⟨rfl,HB9.out⟩
theorem item_n110 (n:Int) (b:Bytes) (A:Option Addr) (m c:Nat) (h0:0≤n) (h64:n < 18446744073709551616) (hn:(n == 0)=true) (hm:((m:Int) == 0)=true) (hb:(b == [])=false) (w:World) :
  Calls Tryz.prog 75 #[.agg #[.int .u8 110,.slice none 0 0],.agg #[.int .u64 n,.string (bs b),.slice A m c]] w fun e w'=>e=.returned (.tuple #[.agg #[.bool false,.string (bs (digs n.toNat)),.slice none 0 0],.bool false])∧Below w.heap.size w w':=by
 have hB:Below w.heap.size w (((w.alloc (.cells #[.int .u8 110,.slice none 0 0] 90)).alloc (.cells #[.int .u64 n,.string (bs b),.slice A m c] 56)).alloc (.cells #[.bool false,.string ⟨#[]⟩,.slice none 0 0] 86)):=(((Below.refl _ _).alloc (Nat.le_refl _) _).alloc (by simp) _).alloc (by simp;omega) _
 have hI:=heap_alloc_new ((w.alloc (.cells #[.int .u8 110,.slice none 0 0] 90)).alloc (.cells #[.int .u64 n,.string (bs b),.slice A m c] 56)) (.cells #[.bool false,.string ⟨#[]⟩,.slice none 0 0] 86)
 have hF:=(heap_alloc_old ((w.alloc (.cells #[.int .u8 110,.slice none 0 0] 90)).alloc (.cells #[.int .u64 n,.string (bs b),.slice A m c] 56)) (.cells #[.bool false,.string ⟨#[]⟩,.slice none 0 0] 86) (by simp)).trans (heap_alloc_new (w.alloc (.cells #[.int .u8 110,.slice none 0 0] 90)) (.cells #[.int .u64 n,.string (bs b),.slice A m c] 56))
 have hKd:=(heap_alloc_old ((w.alloc (.cells #[.int .u8 110,.slice none 0 0] 90)).alloc (.cells #[.int .u64 n,.string (bs b),.slice A m c] 56)) (.cells #[.bool false,.string ⟨#[]⟩,.slice none 0 0] 86) (by simp;omega)).trans ((heap_alloc_old (w.alloc (.cells #[.int .u8 110,.slice none 0 0] 90)) (.cells #[.int .u64 n,.string (bs b),.slice A m c] 56) (by simp)).trans (heap_alloc_new w _))
 simp only [World.size_alloc] at hI hF hKd
 have HB:=Lib.hid hB
 have HI:=Lib.hid hI
 have HF:=Lib.hid hF
 have HK:=Lib.hid hKd
 clear hB hI hF hKd
 go_enter Tryz.func75,Tryz.ntmps75
 go_wp2_with fail
 have hbd:Below (((w.alloc (.cells #[.int .u8 110,.slice none 0 0] 90)).alloc (.cells #[.int .u64 n,.string (bs b),.slice A m c] 56)).alloc (.cells #[.bool false,.string ⟨#[]⟩,.slice none 0 0] 86)).heap.size (((w.alloc (.cells #[.int .u8 110,.slice none 0 0] 90)).alloc (.cells #[.int .u64 n,.string (bs b),.slice A m c] 56)).alloc (.cells #[.bool false,.string ⟨#[]⟩,.slice none 0 0] 86)) (((w.alloc (.cells #[.int .u8 110,.slice none 0 0] 90)).alloc (.cells #[.int .u64 n,.string (bs b),.slice A m c] 56)).alloc (.cells #[.bool false,.string ⟨#[]⟩,.slice none 0 0] 86)).drew:=(Below.refl _ _).drew
 have hKd:=(hbd.block _ (Array.getElem?_eq_some_iff.1 HK.out).1).trans HK.out
 have hF:=(hbd.block _ (Array.getElem?_eq_some_iff.1 HF.out).1).trans HF.out
 have hI:=(hbd.block _ (Array.getElem?_eq_some_iff.1 HI.out).1).trans HI.out
 have hB:=below_call HB.out HB.out.size hbd
 refine wp_region_R [(99,fun w'=>w'.heap[w.heap.size]? = some (.cells #[.int .u8 110,.slice none 0 0] 90 (0,0))∧w'.heap[w.heap.size+1]? = some (.cells #[.int .u64 n,.string (bs b),.slice A m c] 56 (0,0)))] (by kernel_rfl) ?_
 generalize (((w.alloc (.cells #[.int .u8 110,.slice none 0 0] 90)).alloc (.cells #[.int .u64 n,.string (bs b),.slice A m c] 56)).alloc (.cells #[.bool false,.string ⟨#[]⟩,.slice none 0 0] 86)).drew=w3 at hKd hF hI hB ⊢
 clear hbd HK HF HI HB
 refine R_p (i:=0) (v:=.pointer (some ⟨w.heap.size+1,0,none⟩)) (Meets.here ⟨hKd,hF⟩ Meets.nil) ?_
 refine R_l (i:=1) (v:=.int .u64 n) 99 _ List.mem_cons_self rfl (yieldsIf_load_cell rfl rfl rfl (fun w' hS=>rc hS.2 0 rfl) Tryz.underlying22 rfl) (Meets.here ⟨hKd,hF⟩ Meets.nil) ?_
 refine R_p (i:=3) (v:=.pointer (some ⟨w.heap.size+1,1,none⟩)) (Meets.here ⟨hKd,hF⟩ Meets.nil) ?_
 refine R_l (i:=4) (v:=.string (bs b)) 99 _ List.mem_cons_self rfl (yieldsIf_load_cell rfl rfl rfl (fun w' hS=>rc hS.2 1 rfl) Tryz.underlying9 rfl) (Meets.here ⟨hKd,hF⟩ Meets.nil) ?_
 refine R_p (i:=5) (v:=.bool false) (Meets.here ⟨hKd,hF⟩ Meets.nil) ?_
 refine R_now 2 fun K hK=>?_
 go_simp
 refine (Number_any n h0 h64 _).mono ?_
 rintro e w4 ⟨rfl,hb4⟩
 replace hKd:=(hb4.block _ (Array.getElem?_eq_some_iff.1 hKd).1).trans hKd
 replace hF:=(hb4.block _ (Array.getElem?_eq_some_iff.1 hF).1).trans hF
 replace hI:=(hb4.block _ (Array.getElem?_eq_some_iff.1 hI).1).trans hI
 replace hB:=below_call hB hB.size hb4
 clear hb4
 refine hK.out _ _ (Meets.here ⟨hKd,hF⟩ Meets.nil) (fun hMeets=>?_)
 clear hK K hMeets
 refine lay_R ?_
 refine R_p (i:=6) (v:=.bool false) (Meets.here ⟨hKd,hF⟩ Meets.nil) ?_
 refine R_s (i:=7) (Meets.here ⟨hKd,hF⟩ Meets.nil) ?_
 refine R_s (i:=8) (Meets.here ⟨hKd,hF⟩ Meets.nil) ?_
 refine R_s (i:=9) (Meets.here ⟨hKd,hF⟩ Meets.nil) ?_
 refine R_s (i:=10) (Meets.here ⟨hKd,hF⟩ Meets.nil) ?_
 refine R_p (i:=11) (v:=.bool false) (Meets.here ⟨hKd,hF⟩ Meets.nil) ?_
 have d0:w4.cell? ⟨w.heap.size+1+1,0,none⟩=some (.bool false):=rc0 hI
 have d1:w4.cell? ⟨w.heap.size+1+1,1,none⟩=some (.string ⟨#[]⟩):=rc1 hI
 have d2:w4.cell? ⟨w.heap.size+1+1,2,none⟩=some (.slice none 0 0):=rc2 hI
 have f0:=rf hI 0
 have f1:=rf hI 1
 have f2:=rf hI 2
 refine R_now 12 fun K hK=>?_
 obtain ⟨W9,hW9⟩:∃ W9,W9=(((w4.setCell ⟨w.heap.size+1+1,0,none⟩ (.bool false)).setCell ⟨w.heap.size+1+1,1,none⟩ (.string (bs (digs n.toNat)))).setCell ⟨w.heap.size+1+1,2,none⟩ (.slice none 0 0)):=⟨_,rfl⟩
 have hI9:W9.heap[w.heap.size+1+1]? = some (.cells #[.bool false,.string (bs (digs n.toNat)),.slice none 0 0] 86 (0,0)):=by rw [hW9];exact heap_setCell_here (heap_setCell_here (heap_setCell_here hI _) _) _
 have hF9:W9.heap[w.heap.size+1]? = some (.cells #[.int .u64 n,.string (bs b),.slice A m c] 56 (0,0)):=by rw [hW9];exact (heap_set_ne (by omega) _).trans ((heap_set_ne (by omega) _).trans ((heap_set_ne (by omega) _).trans hF))
 have hKd9:W9.heap[w.heap.size]? = some (.cells #[.int .u8 110,.slice none 0 0] 90 (0,0)):=by rw [hW9];exact (heap_set_ne (by omega) _).trans ((heap_set_ne (by omega) _).trans ((heap_set_ne (by omega) _).trans hKd))
 have hB9:Below w.heap.size w W9:=by rw [hW9];exact ((hB.setCell (p:=⟨w.heap.size+1+1,_,_⟩) (by simp;omega) _).setCell (p:=⟨w.heap.size+1+1,_,_⟩) (by simp;omega) _).setCell (p:=⟨w.heap.size+1+1,_,_⟩) (by simp;omega) _
 have HI9:=Lib.hid hI9
 have HB9:=Lib.hid hB9
 clear hI9 hB9
 go_simp
 rw [← hW9]
 clear hW9 d0 d1 d2 f0 f1 f2
 refine hK.out _ _ (Meets.here ⟨hKd9,hF9⟩ Meets.nil) (fun hMeets=>?_)
 clear hK K hMeets
 refine lay_R ?_
 refine R_p (i:=13) (v:=.bool false) (Meets.here ⟨hKd9,hF9⟩ Meets.nil) ?_
 refine R_done (by kernel_rfl) ?_ _
 go_wp2_with fail
 exact bodyPost_ret (v:=.tuple #[.agg #[.bool false,.string (bs (digs n.toNat)),.slice none 0 0],.bool false]) (results_row_tmp rfl _ _ (w.heap.size+1+1) _ _ _ _ rfl HI9.out _ rfl Tryz.underlying86 rfl infoI) rfl ⟨rfl,HB9.out⟩
theorem item_n101 (n:Int) (b:Bytes) (A:Option Addr) (m c:Nat) (h0:0≤n) (h64:n < 18446744073709551616) (hn:(n == 0)=true) (hm:((m:Int) == 0)=false) (hb:(b == [])=true) (w:World) :
  Calls Tryz.prog 75 #[.agg #[.int .u8 110,.slice none 0 0],.agg #[.int .u64 n,.string (bs b),.slice A m c]] w fun e w'=>e=.returned (.tuple #[.agg #[.bool false,.string (bs (digs n.toNat)),.slice none 0 0],.bool false])∧Below w.heap.size w w':=by
 have hB:Below w.heap.size w (((w.alloc (.cells #[.int .u8 110,.slice none 0 0] 90)).alloc (.cells #[.int .u64 n,.string (bs b),.slice A m c] 56)).alloc (.cells #[.bool false,.string ⟨#[]⟩,.slice none 0 0] 86)):=(((Below.refl _ _).alloc (Nat.le_refl _) _).alloc (by simp) _).alloc (by simp;omega) _
 have hI:=heap_alloc_new ((w.alloc (.cells #[.int .u8 110,.slice none 0 0] 90)).alloc (.cells #[.int .u64 n,.string (bs b),.slice A m c] 56)) (.cells #[.bool false,.string ⟨#[]⟩,.slice none 0 0] 86)
 have hF:=(heap_alloc_old ((w.alloc (.cells #[.int .u8 110,.slice none 0 0] 90)).alloc (.cells #[.int .u64 n,.string (bs b),.slice A m c] 56)) (.cells #[.bool false,.string ⟨#[]⟩,.slice none 0 0] 86) (by simp)).trans (heap_alloc_new (w.alloc (.cells #[.int .u8 110,.slice none 0 0] 90)) (.cells #[.int .u64 n,.string (bs b),.slice A m c] 56))
 have hKd:=(heap_alloc_old ((w.alloc (.cells #[.int .u8 110,.slice none 0 0] 90)).alloc (.cells #[.int .u64 n,.string (bs b),.slice A m c] 56)) (.cells #[.bool false,.string ⟨#[]⟩,.slice none 0 0] 86) (by simp;omega)).trans ((heap_alloc_old (w.alloc (.cells #[.int .u8 110,.slice none 0 0] 90)) (.cells #[.int .u64 n,.string (bs b),.slice A m c] 56) (by simp)).trans (heap_alloc_new w _))
 simp only [World.size_alloc] at hI hF hKd
 have HB:=Lib.hid hB
 have HI:=Lib.hid hI
 have HF:=Lib.hid hF
 have HK:=Lib.hid hKd
 clear hB hI hF hKd
 go_enter Tryz.func75,Tryz.ntmps75
 go_wp2_with fail
 have hbd:Below (((w.alloc (.cells #[.int .u8 110,.slice none 0 0] 90)).alloc (.cells #[.int .u64 n,.string (bs b),.slice A m c] 56)).alloc (.cells #[.bool false,.string ⟨#[]⟩,.slice none 0 0] 86)).heap.size (((w.alloc (.cells #[.int .u8 110,.slice none 0 0] 90)).alloc (.cells #[.int .u64 n,.string (bs b),.slice A m c] 56)).alloc (.cells #[.bool false,.string ⟨#[]⟩,.slice none 0 0] 86)) (((w.alloc (.cells #[.int .u8 110,.slice none 0 0] 90)).alloc (.cells #[.int .u64 n,.string (bs b),.slice A m c] 56)).alloc (.cells #[.bool false,.string ⟨#[]⟩,.slice none 0 0] 86)).drew:=(Below.refl _ _).drew
 have hKd:=(hbd.block _ (Array.getElem?_eq_some_iff.1 HK.out).1).trans HK.out
 have hF:=(hbd.block _ (Array.getElem?_eq_some_iff.1 HF.out).1).trans HF.out
 have hI:=(hbd.block _ (Array.getElem?_eq_some_iff.1 HI.out).1).trans HI.out
 have hB:=below_call HB.out HB.out.size hbd
 refine wp_region_R [(99,fun w'=>w'.heap[w.heap.size]? = some (.cells #[.int .u8 110,.slice none 0 0] 90 (0,0))∧w'.heap[w.heap.size+1]? = some (.cells #[.int .u64 n,.string (bs b),.slice A m c] 56 (0,0)))] (by kernel_rfl) ?_
 generalize (((w.alloc (.cells #[.int .u8 110,.slice none 0 0] 90)).alloc (.cells #[.int .u64 n,.string (bs b),.slice A m c] 56)).alloc (.cells #[.bool false,.string ⟨#[]⟩,.slice none 0 0] 86)).drew=w3 at hKd hF hI hB ⊢
 clear hbd HK HF HI HB
 refine R_p (i:=0) (v:=.pointer (some ⟨w.heap.size+1,0,none⟩)) (Meets.here ⟨hKd,hF⟩ Meets.nil) ?_
 refine R_l (i:=1) (v:=.int .u64 n) 99 _ List.mem_cons_self rfl (yieldsIf_load_cell rfl rfl rfl (fun w' hS=>rc hS.2 0 rfl) Tryz.underlying22 rfl) (Meets.here ⟨hKd,hF⟩ Meets.nil) ?_
 refine R_p (i:=3) (v:=.pointer (some ⟨w.heap.size+1,1,none⟩)) (Meets.here ⟨hKd,hF⟩ Meets.nil) ?_
 refine R_l (i:=4) (v:=.string (bs b)) 99 _ List.mem_cons_self rfl (yieldsIf_load_cell rfl rfl rfl (fun w' hS=>rc hS.2 1 rfl) Tryz.underlying9 rfl) (Meets.here ⟨hKd,hF⟩ Meets.nil) ?_
 refine R_p (i:=5) (v:=.bool true) (Meets.here ⟨hKd,hF⟩ Meets.nil) ?_
 refine R_now 2 fun K hK=>?_
 go_simp
 refine (Number_any n h0 h64 _).mono ?_
 rintro e w4 ⟨rfl,hb4⟩
 replace hKd:=(hb4.block _ (Array.getElem?_eq_some_iff.1 hKd).1).trans hKd
 replace hF:=(hb4.block _ (Array.getElem?_eq_some_iff.1 hF).1).trans hF
 replace hI:=(hb4.block _ (Array.getElem?_eq_some_iff.1 hI).1).trans hI
 replace hB:=below_call hB hB.size hb4
 clear hb4
 refine hK.out _ _ (Meets.here ⟨hKd,hF⟩ Meets.nil) (fun hMeets=>?_)
 clear hK K hMeets
 refine lay_R ?_
 refine R_p (i:=6) (v:=.bool true) (Meets.here ⟨hKd,hF⟩ Meets.nil) ?_
 refine R_p (i:=7) (v:=.pointer (some ⟨w.heap.size+1,2,none⟩)) (Meets.here ⟨hKd,hF⟩ Meets.nil) ?_
 refine R_l (i:=8) (v:=.slice A m c) 99 _ List.mem_cons_self rfl (yieldsIf_load_cell rfl rfl rfl (fun w' hS=>rc hS.2 2 rfl) Tryz.underlying54 rfl) (Meets.here ⟨hKd,hF⟩ Meets.nil) ?_
 refine R_p (i:=9) (v:=.int .i64 (m:Int)) (Meets.here ⟨hKd,hF⟩ Meets.nil) ?_
 refine R_p (i:=10) (v:=.bool false) (Meets.here ⟨hKd,hF⟩ Meets.nil) ?_
 refine R_p (i:=11) (v:=.bool false) (Meets.here ⟨hKd,hF⟩ Meets.nil) ?_
 have d0:w4.cell? ⟨w.heap.size+1+1,0,none⟩=some (.bool false):=rc0 hI
 have d1:w4.cell? ⟨w.heap.size+1+1,1,none⟩=some (.string ⟨#[]⟩):=rc1 hI
 have d2:w4.cell? ⟨w.heap.size+1+1,2,none⟩=some (.slice none 0 0):=rc2 hI
 have f0:=rf hI 0
 have f1:=rf hI 1
 have f2:=rf hI 2
 refine R_now 12 fun K hK=>?_
 obtain ⟨W9,hW9⟩:∃ W9,W9=(((w4.setCell ⟨w.heap.size+1+1,0,none⟩ (.bool false)).setCell ⟨w.heap.size+1+1,1,none⟩ (.string (bs (digs n.toNat)))).setCell ⟨w.heap.size+1+1,2,none⟩ (.slice none 0 0)):=⟨_,rfl⟩
 have hI9:W9.heap[w.heap.size+1+1]? = some (.cells #[.bool false,.string (bs (digs n.toNat)),.slice none 0 0] 86 (0,0)):=by rw [hW9];exact heap_setCell_here (heap_setCell_here (heap_setCell_here hI _) _) _
 have hF9:W9.heap[w.heap.size+1]? = some (.cells #[.int .u64 n,.string (bs b),.slice A m c] 56 (0,0)):=by rw [hW9];exact (heap_set_ne (by omega) _).trans ((heap_set_ne (by omega) _).trans ((heap_set_ne (by omega) _).trans hF))
 have hKd9:W9.heap[w.heap.size]? = some (.cells #[.int .u8 110,.slice none 0 0] 90 (0,0)):=by rw [hW9];exact (heap_set_ne (by omega) _).trans ((heap_set_ne (by omega) _).trans ((heap_set_ne (by omega) _).trans hKd))
 have hB9:Below w.heap.size w W9:=by rw [hW9];exact ((hB.setCell (p:=⟨w.heap.size+1+1,_,_⟩) (by simp;omega) _).setCell (p:=⟨w.heap.size+1+1,_,_⟩) (by simp;omega) _).setCell (p:=⟨w.heap.size+1+1,_,_⟩) (by simp;omega) _
 have HI9:=Lib.hid hI9
 have HB9:=Lib.hid hB9
 clear hI9 hB9
 go_simp
 rw [← hW9]
 clear hW9 d0 d1 d2 f0 f1 f2
 refine hK.out _ _ (Meets.here ⟨hKd9,hF9⟩ Meets.nil) (fun hMeets=>?_)
 clear hK K hMeets
 refine lay_R ?_
 refine R_p (i:=13) (v:=.bool false) (Meets.here ⟨hKd9,hF9⟩ Meets.nil) ?_
 refine R_done (by kernel_rfl) ?_ _
 go_wp2_with fail
 exact bodyPost_ret (v:=.tuple #[.agg #[.bool false,.string (bs (digs n.toNat)),.slice none 0 0],.bool false]) (results_row_tmp rfl _ _ (w.heap.size+1+1) _ _ _ _ rfl HI9.out _ rfl Tryz.underlying86 rfl infoI) rfl ⟨rfl,HB9.out⟩
theorem item_n100 (n:Int) (b:Bytes) (A:Option Addr) (m c:Nat) (h0:0≤n) (h64:n < 18446744073709551616) (hn:(n == 0)=true) (hm:((m:Int) == 0)=false) (hb:(b == [])=false) (w:World) :
  Calls Tryz.prog 75 #[.agg #[.int .u8 110,.slice none 0 0],.agg #[.int .u64 n,.string (bs b),.slice A m c]] w fun e w'=>e=.returned (.tuple #[.agg #[.bool false,.string (bs (digs n.toNat)),.slice none 0 0],.bool false])∧Below w.heap.size w w':=by
 have hB:Below w.heap.size w (((w.alloc (.cells #[.int .u8 110,.slice none 0 0] 90)).alloc (.cells #[.int .u64 n,.string (bs b),.slice A m c] 56)).alloc (.cells #[.bool false,.string ⟨#[]⟩,.slice none 0 0] 86)):=(((Below.refl _ _).alloc (Nat.le_refl _) _).alloc (by simp) _).alloc (by simp;omega) _
 have hI:=heap_alloc_new ((w.alloc (.cells #[.int .u8 110,.slice none 0 0] 90)).alloc (.cells #[.int .u64 n,.string (bs b),.slice A m c] 56)) (.cells #[.bool false,.string ⟨#[]⟩,.slice none 0 0] 86)
 have hF:=(heap_alloc_old ((w.alloc (.cells #[.int .u8 110,.slice none 0 0] 90)).alloc (.cells #[.int .u64 n,.string (bs b),.slice A m c] 56)) (.cells #[.bool false,.string ⟨#[]⟩,.slice none 0 0] 86) (by simp)).trans (heap_alloc_new (w.alloc (.cells #[.int .u8 110,.slice none 0 0] 90)) (.cells #[.int .u64 n,.string (bs b),.slice A m c] 56))
 have hKd:=(heap_alloc_old ((w.alloc (.cells #[.int .u8 110,.slice none 0 0] 90)).alloc (.cells #[.int .u64 n,.string (bs b),.slice A m c] 56)) (.cells #[.bool false,.string ⟨#[]⟩,.slice none 0 0] 86) (by simp;omega)).trans ((heap_alloc_old (w.alloc (.cells #[.int .u8 110,.slice none 0 0] 90)) (.cells #[.int .u64 n,.string (bs b),.slice A m c] 56) (by simp)).trans (heap_alloc_new w _))
 simp only [World.size_alloc] at hI hF hKd
 have HB:=Lib.hid hB
 have HI:=Lib.hid hI
 have HF:=Lib.hid hF
 have HK:=Lib.hid hKd
 clear hB hI hF hKd
 go_enter Tryz.func75,Tryz.ntmps75
 go_wp2_with fail
 have hbd:Below (((w.alloc (.cells #[.int .u8 110,.slice none 0 0] 90)).alloc (.cells #[.int .u64 n,.string (bs b),.slice A m c] 56)).alloc (.cells #[.bool false,.string ⟨#[]⟩,.slice none 0 0] 86)).heap.size (((w.alloc (.cells #[.int .u8 110,.slice none 0 0] 90)).alloc (.cells #[.int .u64 n,.string (bs b),.slice A m c] 56)).alloc (.cells #[.bool false,.string ⟨#[]⟩,.slice none 0 0] 86)) (((w.alloc (.cells #[.int .u8 110,.slice none 0 0] 90)).alloc (.cells #[.int .u64 n,.string (bs b),.slice A m c] 56)).alloc (.cells #[.bool false,.string ⟨#[]⟩,.slice none 0 0] 86)).drew:=(Below.refl _ _).drew
 have hKd:=(hbd.block _ (Array.getElem?_eq_some_iff.1 HK.out).1).trans HK.out
 have hF:=(hbd.block _ (Array.getElem?_eq_some_iff.1 HF.out).1).trans HF.out
 have hI:=(hbd.block _ (Array.getElem?_eq_some_iff.1 HI.out).1).trans HI.out
 have hB:=below_call HB.out HB.out.size hbd
 refine wp_region_R [(99,fun w'=>w'.heap[w.heap.size]? = some (.cells #[.int .u8 110,.slice none 0 0] 90 (0,0))∧w'.heap[w.heap.size+1]? = some (.cells #[.int .u64 n,.string (bs b),.slice A m c] 56 (0,0)))] (by kernel_rfl) ?_
 generalize (((w.alloc (.cells #[.int .u8 110,.slice none 0 0] 90)).alloc (.cells #[.int .u64 n,.string (bs b),.slice A m c] 56)).alloc (.cells #[.bool false,.string ⟨#[]⟩,.slice none 0 0] 86)).drew=w3 at hKd hF hI hB ⊢
 clear hbd HK HF HI HB
 refine R_p (i:=0) (v:=.pointer (some ⟨w.heap.size+1,0,none⟩)) (Meets.here ⟨hKd,hF⟩ Meets.nil) ?_
 refine R_l (i:=1) (v:=.int .u64 n) 99 _ List.mem_cons_self rfl (yieldsIf_load_cell rfl rfl rfl (fun w' hS=>rc hS.2 0 rfl) Tryz.underlying22 rfl) (Meets.here ⟨hKd,hF⟩ Meets.nil) ?_
 refine R_p (i:=3) (v:=.pointer (some ⟨w.heap.size+1,1,none⟩)) (Meets.here ⟨hKd,hF⟩ Meets.nil) ?_
 refine R_l (i:=4) (v:=.string (bs b)) 99 _ List.mem_cons_self rfl (yieldsIf_load_cell rfl rfl rfl (fun w' hS=>rc hS.2 1 rfl) Tryz.underlying9 rfl) (Meets.here ⟨hKd,hF⟩ Meets.nil) ?_
 refine R_p (i:=5) (v:=.bool false) (Meets.here ⟨hKd,hF⟩ Meets.nil) ?_
 refine R_now 2 fun K hK=>?_
 go_simp
 refine (Number_any n h0 h64 _).mono ?_
 rintro e w4 ⟨rfl,hb4⟩
 replace hKd:=(hb4.block _ (Array.getElem?_eq_some_iff.1 hKd).1).trans hKd
 replace hF:=(hb4.block _ (Array.getElem?_eq_some_iff.1 hF).1).trans hF
 replace hI:=(hb4.block _ (Array.getElem?_eq_some_iff.1 hI).1).trans hI
 replace hB:=below_call hB hB.size hb4
 clear hb4
 refine hK.out _ _ (Meets.here ⟨hKd,hF⟩ Meets.nil) (fun hMeets=>?_)
 clear hK K hMeets
 refine lay_R ?_
 refine R_p (i:=6) (v:=.bool false) (Meets.here ⟨hKd,hF⟩ Meets.nil) ?_
 refine R_s (i:=7) (Meets.here ⟨hKd,hF⟩ Meets.nil) ?_
 refine R_s (i:=8) (Meets.here ⟨hKd,hF⟩ Meets.nil) ?_
 refine R_s (i:=9) (Meets.here ⟨hKd,hF⟩ Meets.nil) ?_
 refine R_s (i:=10) (Meets.here ⟨hKd,hF⟩ Meets.nil) ?_
 refine R_p (i:=11) (v:=.bool false) (Meets.here ⟨hKd,hF⟩ Meets.nil) ?_
 have d0:w4.cell? ⟨w.heap.size+1+1,0,none⟩=some (.bool false):=rc0 hI
 have d1:w4.cell? ⟨w.heap.size+1+1,1,none⟩=some (.string ⟨#[]⟩):=rc1 hI
 have d2:w4.cell? ⟨w.heap.size+1+1,2,none⟩=some (.slice none 0 0):=rc2 hI
 have f0:=rf hI 0
 have f1:=rf hI 1
 have f2:=rf hI 2
 refine R_now 12 fun K hK=>?_
 obtain ⟨W9,hW9⟩:∃ W9,W9=(((w4.setCell ⟨w.heap.size+1+1,0,none⟩ (.bool false)).setCell ⟨w.heap.size+1+1,1,none⟩ (.string (bs (digs n.toNat)))).setCell ⟨w.heap.size+1+1,2,none⟩ (.slice none 0 0)):=⟨_,rfl⟩
 have hI9:W9.heap[w.heap.size+1+1]? = some (.cells #[.bool false,.string (bs (digs n.toNat)),.slice none 0 0] 86 (0,0)):=by rw [hW9];exact heap_setCell_here (heap_setCell_here (heap_setCell_here hI _) _) _
 have hF9:W9.heap[w.heap.size+1]? = some (.cells #[.int .u64 n,.string (bs b),.slice A m c] 56 (0,0)):=by rw [hW9];exact (heap_set_ne (by omega) _).trans ((heap_set_ne (by omega) _).trans ((heap_set_ne (by omega) _).trans hF))
 have hKd9:W9.heap[w.heap.size]? = some (.cells #[.int .u8 110,.slice none 0 0] 90 (0,0)):=by rw [hW9];exact (heap_set_ne (by omega) _).trans ((heap_set_ne (by omega) _).trans ((heap_set_ne (by omega) _).trans hKd))
 have hB9:Below w.heap.size w W9:=by rw [hW9];exact ((hB.setCell (p:=⟨w.heap.size+1+1,_,_⟩) (by simp;omega) _).setCell (p:=⟨w.heap.size+1+1,_,_⟩) (by simp;omega) _).setCell (p:=⟨w.heap.size+1+1,_,_⟩) (by simp;omega) _
 have HI9:=Lib.hid hI9
 have HB9:=Lib.hid hB9
 clear hI9 hB9
 go_simp
 rw [← hW9]
 clear hW9 d0 d1 d2 f0 f1 f2
 refine hK.out _ _ (Meets.here ⟨hKd9,hF9⟩ Meets.nil) (fun hMeets=>?_)
 clear hK K hMeets
 refine lay_R ?_
 refine R_p (i:=13) (v:=.bool false) (Meets.here ⟨hKd9,hF9⟩ Meets.nil) ?_
 refine R_done (by kernel_rfl) ?_ _
 go_wp2_with fail
 exact bodyPost_ret (v:=.tuple #[.agg #[.bool false,.string (bs (digs n.toNat)),.slice none 0 0],.bool false]) (results_row_tmp rfl _ _ (w.heap.size+1+1) _ _ _ _ rfl HI9.out _ rfl Tryz.underlying86 rfl infoI) rfl ⟨rfl,HB9.out⟩
theorem item_n011 (n:Int) (b:Bytes) (A:Option Addr) (m c:Nat) (h0:0≤n) (h64:n < 18446744073709551616) (hn:(n == 0)=false) (hm:((m:Int) == 0)=true) (hb:(b == [])=true) (w:World) :
  Calls Tryz.prog 75 #[.agg #[.int .u8 110,.slice none 0 0],.agg #[.int .u64 n,.string (bs b),.slice A m c]] w fun e w'=>e=.returned (.tuple #[.agg #[.bool false,.string (bs (digs n.toNat)),.slice none 0 0],.bool true])∧Below w.heap.size w w':=by
 have hB:Below w.heap.size w (((w.alloc (.cells #[.int .u8 110,.slice none 0 0] 90)).alloc (.cells #[.int .u64 n,.string (bs b),.slice A m c] 56)).alloc (.cells #[.bool false,.string ⟨#[]⟩,.slice none 0 0] 86)):=(((Below.refl _ _).alloc (Nat.le_refl _) _).alloc (by simp) _).alloc (by simp;omega) _
 have hI:=heap_alloc_new ((w.alloc (.cells #[.int .u8 110,.slice none 0 0] 90)).alloc (.cells #[.int .u64 n,.string (bs b),.slice A m c] 56)) (.cells #[.bool false,.string ⟨#[]⟩,.slice none 0 0] 86)
 have hF:=(heap_alloc_old ((w.alloc (.cells #[.int .u8 110,.slice none 0 0] 90)).alloc (.cells #[.int .u64 n,.string (bs b),.slice A m c] 56)) (.cells #[.bool false,.string ⟨#[]⟩,.slice none 0 0] 86) (by simp)).trans (heap_alloc_new (w.alloc (.cells #[.int .u8 110,.slice none 0 0] 90)) (.cells #[.int .u64 n,.string (bs b),.slice A m c] 56))
 have hKd:=(heap_alloc_old ((w.alloc (.cells #[.int .u8 110,.slice none 0 0] 90)).alloc (.cells #[.int .u64 n,.string (bs b),.slice A m c] 56)) (.cells #[.bool false,.string ⟨#[]⟩,.slice none 0 0] 86) (by simp;omega)).trans ((heap_alloc_old (w.alloc (.cells #[.int .u8 110,.slice none 0 0] 90)) (.cells #[.int .u64 n,.string (bs b),.slice A m c] 56) (by simp)).trans (heap_alloc_new w _))
 simp only [World.size_alloc] at hI hF hKd
 have HB:=Lib.hid hB
 have HI:=Lib.hid hI
 have HF:=Lib.hid hF
 have HK:=Lib.hid hKd
 clear hB hI hF hKd
 go_enter Tryz.func75,Tryz.ntmps75
 go_wp2_with fail
 have hbd:Below (((w.alloc (.cells #[.int .u8 110,.slice none 0 0] 90)).alloc (.cells #[.int .u64 n,.string (bs b),.slice A m c] 56)).alloc (.cells #[.bool false,.string ⟨#[]⟩,.slice none 0 0] 86)).heap.size (((w.alloc (.cells #[.int .u8 110,.slice none 0 0] 90)).alloc (.cells #[.int .u64 n,.string (bs b),.slice A m c] 56)).alloc (.cells #[.bool false,.string ⟨#[]⟩,.slice none 0 0] 86)) (((w.alloc (.cells #[.int .u8 110,.slice none 0 0] 90)).alloc (.cells #[.int .u64 n,.string (bs b),.slice A m c] 56)).alloc (.cells #[.bool false,.string ⟨#[]⟩,.slice none 0 0] 86)).drew:=(Below.refl _ _).drew
 have hKd:=(hbd.block _ (Array.getElem?_eq_some_iff.1 HK.out).1).trans HK.out
 have hF:=(hbd.block _ (Array.getElem?_eq_some_iff.1 HF.out).1).trans HF.out
 have hI:=(hbd.block _ (Array.getElem?_eq_some_iff.1 HI.out).1).trans HI.out
 have hB:=below_call HB.out HB.out.size hbd
 refine wp_region_R [(99,fun w'=>w'.heap[w.heap.size]? = some (.cells #[.int .u8 110,.slice none 0 0] 90 (0,0))∧w'.heap[w.heap.size+1]? = some (.cells #[.int .u64 n,.string (bs b),.slice A m c] 56 (0,0)))] (by kernel_rfl) ?_
 generalize (((w.alloc (.cells #[.int .u8 110,.slice none 0 0] 90)).alloc (.cells #[.int .u64 n,.string (bs b),.slice A m c] 56)).alloc (.cells #[.bool false,.string ⟨#[]⟩,.slice none 0 0] 86)).drew=w3 at hKd hF hI hB ⊢
 clear hbd HK HF HI HB
 refine R_p (i:=0) (v:=.pointer (some ⟨w.heap.size+1,0,none⟩)) (Meets.here ⟨hKd,hF⟩ Meets.nil) ?_
 refine R_l (i:=1) (v:=.int .u64 n) 99 _ List.mem_cons_self rfl (yieldsIf_load_cell rfl rfl rfl (fun w' hS=>rc hS.2 0 rfl) Tryz.underlying22 rfl) (Meets.here ⟨hKd,hF⟩ Meets.nil) ?_
 refine R_p (i:=3) (v:=.pointer (some ⟨w.heap.size+1,1,none⟩)) (Meets.here ⟨hKd,hF⟩ Meets.nil) ?_
 refine R_l (i:=4) (v:=.string (bs b)) 99 _ List.mem_cons_self rfl (yieldsIf_load_cell rfl rfl rfl (fun w' hS=>rc hS.2 1 rfl) Tryz.underlying9 rfl) (Meets.here ⟨hKd,hF⟩ Meets.nil) ?_
 refine R_p (i:=5) (v:=.bool true) (Meets.here ⟨hKd,hF⟩ Meets.nil) ?_
 refine R_now 2 fun K hK=>?_
 go_simp
 refine (Number_any n h0 h64 _).mono ?_
 rintro e w4 ⟨rfl,hb4⟩
 replace hKd:=(hb4.block _ (Array.getElem?_eq_some_iff.1 hKd).1).trans hKd
 replace hF:=(hb4.block _ (Array.getElem?_eq_some_iff.1 hF).1).trans hF
 replace hI:=(hb4.block _ (Array.getElem?_eq_some_iff.1 hI).1).trans hI
 replace hB:=below_call hB hB.size hb4
 clear hb4
 refine hK.out _ _ (Meets.here ⟨hKd,hF⟩ Meets.nil) (fun hMeets=>?_)
 clear hK K hMeets
 refine lay_R ?_
 refine R_p (i:=6) (v:=.bool true) (Meets.here ⟨hKd,hF⟩ Meets.nil) ?_
 refine R_p (i:=7) (v:=.pointer (some ⟨w.heap.size+1,2,none⟩)) (Meets.here ⟨hKd,hF⟩ Meets.nil) ?_
 refine R_l (i:=8) (v:=.slice A m c) 99 _ List.mem_cons_self rfl (yieldsIf_load_cell rfl rfl rfl (fun w' hS=>rc hS.2 2 rfl) Tryz.underlying54 rfl) (Meets.here ⟨hKd,hF⟩ Meets.nil) ?_
 refine R_p (i:=9) (v:=.int .i64 (m:Int)) (Meets.here ⟨hKd,hF⟩ Meets.nil) ?_
 refine R_p (i:=10) (v:=.bool true) (Meets.here ⟨hKd,hF⟩ Meets.nil) ?_
 refine R_p (i:=11) (v:=.bool true) (Meets.here ⟨hKd,hF⟩ Meets.nil) ?_
 have d0:w4.cell? ⟨w.heap.size+1+1,0,none⟩=some (.bool false):=rc0 hI
 have d1:w4.cell? ⟨w.heap.size+1+1,1,none⟩=some (.string ⟨#[]⟩):=rc1 hI
 have d2:w4.cell? ⟨w.heap.size+1+1,2,none⟩=some (.slice none 0 0):=rc2 hI
 have f0:=rf hI 0
 have f1:=rf hI 1
 have f2:=rf hI 2
 refine R_now 12 fun K hK=>?_
 obtain ⟨W9,hW9⟩:∃ W9,W9=(((w4.setCell ⟨w.heap.size+1+1,0,none⟩ (.bool false)).setCell ⟨w.heap.size+1+1,1,none⟩ (.string (bs (digs n.toNat)))).setCell ⟨w.heap.size+1+1,2,none⟩ (.slice none 0 0)):=⟨_,rfl⟩
 have hI9:W9.heap[w.heap.size+1+1]? = some (.cells #[.bool false,.string (bs (digs n.toNat)),.slice none 0 0] 86 (0,0)):=by rw [hW9];exact heap_setCell_here (heap_setCell_here (heap_setCell_here hI _) _) _
 have hF9:W9.heap[w.heap.size+1]? = some (.cells #[.int .u64 n,.string (bs b),.slice A m c] 56 (0,0)):=by rw [hW9];exact (heap_set_ne (by omega) _).trans ((heap_set_ne (by omega) _).trans ((heap_set_ne (by omega) _).trans hF))
 have hKd9:W9.heap[w.heap.size]? = some (.cells #[.int .u8 110,.slice none 0 0] 90 (0,0)):=by rw [hW9];exact (heap_set_ne (by omega) _).trans ((heap_set_ne (by omega) _).trans ((heap_set_ne (by omega) _).trans hKd))
 have hB9:Below w.heap.size w W9:=by rw [hW9];exact ((hB.setCell (p:=⟨w.heap.size+1+1,_,_⟩) (by simp;omega) _).setCell (p:=⟨w.heap.size+1+1,_,_⟩) (by simp;omega) _).setCell (p:=⟨w.heap.size+1+1,_,_⟩) (by simp;omega) _
 have HI9:=Lib.hid hI9
 have HB9:=Lib.hid hB9
 clear hI9 hB9
 go_simp
 rw [← hW9]
 clear hW9 d0 d1 d2 f0 f1 f2
 refine hK.out _ _ (Meets.here ⟨hKd9,hF9⟩ Meets.nil) (fun hMeets=>?_)
 clear hK K hMeets
 refine lay_R ?_
 refine R_p (i:=13) (v:=.bool true) (Meets.here ⟨hKd9,hF9⟩ Meets.nil) ?_
 refine R_done (by kernel_rfl) ?_ _
 go_wp2_with fail
 exact bodyPost_ret (v:=.tuple #[.agg #[.bool false,.string (bs (digs n.toNat)),.slice none 0 0],.bool true]) (results_row_tmp rfl _ _ (w.heap.size+1+1) _ _ _ _ rfl HI9.out _ rfl Tryz.underlying86 rfl infoI) rfl ⟨rfl,HB9.out⟩
theorem item_n010 (n:Int) (b:Bytes) (A:Option Addr) (m c:Nat) (h0:0≤n) (h64:n < 18446744073709551616) (hn:(n == 0)=false) (hm:((m:Int) == 0)=true) (hb:(b == [])=false) (w:World) :
  Calls Tryz.prog 75 #[.agg #[.int .u8 110,.slice none 0 0],.agg #[.int .u64 n,.string (bs b),.slice A m c]] w fun e w'=>e=.returned (.tuple #[.agg #[.bool false,.string (bs (digs n.toNat)),.slice none 0 0],.bool false])∧Below w.heap.size w w':=by
 have hB:Below w.heap.size w (((w.alloc (.cells #[.int .u8 110,.slice none 0 0] 90)).alloc (.cells #[.int .u64 n,.string (bs b),.slice A m c] 56)).alloc (.cells #[.bool false,.string ⟨#[]⟩,.slice none 0 0] 86)):=(((Below.refl _ _).alloc (Nat.le_refl _) _).alloc (by simp) _).alloc (by simp;omega) _
 have hI:=heap_alloc_new ((w.alloc (.cells #[.int .u8 110,.slice none 0 0] 90)).alloc (.cells #[.int .u64 n,.string (bs b),.slice A m c] 56)) (.cells #[.bool false,.string ⟨#[]⟩,.slice none 0 0] 86)
 have hF:=(heap_alloc_old ((w.alloc (.cells #[.int .u8 110,.slice none 0 0] 90)).alloc (.cells #[.int .u64 n,.string (bs b),.slice A m c] 56)) (.cells #[.bool false,.string ⟨#[]⟩,.slice none 0 0] 86) (by simp)).trans (heap_alloc_new (w.alloc (.cells #[.int .u8 110,.slice none 0 0] 90)) (.cells #[.int .u64 n,.string (bs b),.slice A m c] 56))
 have hKd:=(heap_alloc_old ((w.alloc (.cells #[.int .u8 110,.slice none 0 0] 90)).alloc (.cells #[.int .u64 n,.string (bs b),.slice A m c] 56)) (.cells #[.bool false,.string ⟨#[]⟩,.slice none 0 0] 86) (by simp;omega)).trans ((heap_alloc_old (w.alloc (.cells #[.int .u8 110,.slice none 0 0] 90)) (.cells #[.int .u64 n,.string (bs b),.slice A m c] 56) (by simp)).trans (heap_alloc_new w _))
 simp only [World.size_alloc] at hI hF hKd
 have HB:=Lib.hid hB
 have HI:=Lib.hid hI
 have HF:=Lib.hid hF
 have HK:=Lib.hid hKd
 clear hB hI hF hKd
 go_enter Tryz.func75,Tryz.ntmps75
 go_wp2_with fail
 have hbd:Below (((w.alloc (.cells #[.int .u8 110,.slice none 0 0] 90)).alloc (.cells #[.int .u64 n,.string (bs b),.slice A m c] 56)).alloc (.cells #[.bool false,.string ⟨#[]⟩,.slice none 0 0] 86)).heap.size (((w.alloc (.cells #[.int .u8 110,.slice none 0 0] 90)).alloc (.cells #[.int .u64 n,.string (bs b),.slice A m c] 56)).alloc (.cells #[.bool false,.string ⟨#[]⟩,.slice none 0 0] 86)) (((w.alloc (.cells #[.int .u8 110,.slice none 0 0] 90)).alloc (.cells #[.int .u64 n,.string (bs b),.slice A m c] 56)).alloc (.cells #[.bool false,.string ⟨#[]⟩,.slice none 0 0] 86)).drew:=(Below.refl _ _).drew
 have hKd:=(hbd.block _ (Array.getElem?_eq_some_iff.1 HK.out).1).trans HK.out
 have hF:=(hbd.block _ (Array.getElem?_eq_some_iff.1 HF.out).1).trans HF.out
 have hI:=(hbd.block _ (Array.getElem?_eq_some_iff.1 HI.out).1).trans HI.out
 have hB:=below_call HB.out HB.out.size hbd
 refine wp_region_R [(99,fun w'=>w'.heap[w.heap.size]? = some (.cells #[.int .u8 110,.slice none 0 0] 90 (0,0))∧w'.heap[w.heap.size+1]? = some (.cells #[.int .u64 n,.string (bs b),.slice A m c] 56 (0,0)))] (by kernel_rfl) ?_
 generalize (((w.alloc (.cells #[.int .u8 110,.slice none 0 0] 90)).alloc (.cells #[.int .u64 n,.string (bs b),.slice A m c] 56)).alloc (.cells #[.bool false,.string ⟨#[]⟩,.slice none 0 0] 86)).drew=w3 at hKd hF hI hB ⊢
 clear hbd HK HF HI HB
 refine R_p (i:=0) (v:=.pointer (some ⟨w.heap.size+1,0,none⟩)) (Meets.here ⟨hKd,hF⟩ Meets.nil) ?_
 refine R_l (i:=1) (v:=.int .u64 n) 99 _ List.mem_cons_self rfl (yieldsIf_load_cell rfl rfl rfl (fun w' hS=>rc hS.2 0 rfl) Tryz.underlying22 rfl) (Meets.here ⟨hKd,hF⟩ Meets.nil) ?_
 refine R_p (i:=3) (v:=.pointer (some ⟨w.heap.size+1,1,none⟩)) (Meets.here ⟨hKd,hF⟩ Meets.nil) ?_
 refine R_l (i:=4) (v:=.string (bs b)) 99 _ List.mem_cons_self rfl (yieldsIf_load_cell rfl rfl rfl (fun w' hS=>rc hS.2 1 rfl) Tryz.underlying9 rfl) (Meets.here ⟨hKd,hF⟩ Meets.nil) ?_
 refine R_p (i:=5) (v:=.bool false) (Meets.here ⟨hKd,hF⟩ Meets.nil) ?_
 refine R_now 2 fun K hK=>?_
 go_simp
 refine (Number_any n h0 h64 _).mono ?_
 rintro e w4 ⟨rfl,hb4⟩
 replace hKd:=(hb4.block _ (Array.getElem?_eq_some_iff.1 hKd).1).trans hKd
 replace hF:=(hb4.block _ (Array.getElem?_eq_some_iff.1 hF).1).trans hF
 replace hI:=(hb4.block _ (Array.getElem?_eq_some_iff.1 hI).1).trans hI
 replace hB:=below_call hB hB.size hb4
 clear hb4
 refine hK.out _ _ (Meets.here ⟨hKd,hF⟩ Meets.nil) (fun hMeets=>?_)
 clear hK K hMeets
 refine lay_R ?_
 refine R_p (i:=6) (v:=.bool false) (Meets.here ⟨hKd,hF⟩ Meets.nil) ?_
 refine R_s (i:=7) (Meets.here ⟨hKd,hF⟩ Meets.nil) ?_
 refine R_s (i:=8) (Meets.here ⟨hKd,hF⟩ Meets.nil) ?_
 refine R_s (i:=9) (Meets.here ⟨hKd,hF⟩ Meets.nil) ?_
 refine R_s (i:=10) (Meets.here ⟨hKd,hF⟩ Meets.nil) ?_
 refine R_p (i:=11) (v:=.bool false) (Meets.here ⟨hKd,hF⟩ Meets.nil) ?_
 have d0:w4.cell? ⟨w.heap.size+1+1,0,none⟩=some (.bool false):=rc0 hI
 have d1:w4.cell? ⟨w.heap.size+1+1,1,none⟩=some (.string ⟨#[]⟩):=rc1 hI
 have d2:w4.cell? ⟨w.heap.size+1+1,2,none⟩=some (.slice none 0 0):=rc2 hI
 have f0:=rf hI 0
 have f1:=rf hI 1
 have f2:=rf hI 2
 refine R_now 12 fun K hK=>?_
 obtain ⟨W9,hW9⟩:∃ W9,W9=(((w4.setCell ⟨w.heap.size+1+1,0,none⟩ (.bool false)).setCell ⟨w.heap.size+1+1,1,none⟩ (.string (bs (digs n.toNat)))).setCell ⟨w.heap.size+1+1,2,none⟩ (.slice none 0 0)):=⟨_,rfl⟩
 have hI9:W9.heap[w.heap.size+1+1]? = some (.cells #[.bool false,.string (bs (digs n.toNat)),.slice none 0 0] 86 (0,0)):=by rw [hW9];exact heap_setCell_here (heap_setCell_here (heap_setCell_here hI _) _) _
 have hF9:W9.heap[w.heap.size+1]? = some (.cells #[.int .u64 n,.string (bs b),.slice A m c] 56 (0,0)):=by rw [hW9];exact (heap_set_ne (by omega) _).trans ((heap_set_ne (by omega) _).trans ((heap_set_ne (by omega) _).trans hF))
 have hKd9:W9.heap[w.heap.size]? = some (.cells #[.int .u8 110,.slice none 0 0] 90 (0,0)):=by rw [hW9];exact (heap_set_ne (by omega) _).trans ((heap_set_ne (by omega) _).trans ((heap_set_ne (by omega) _).trans hKd))
 have hB9:Below w.heap.size w W9:=by rw [hW9];exact ((hB.setCell (p:=⟨w.heap.size+1+1,_,_⟩) (by simp;omega) _).setCell (p:=⟨w.heap.size+1+1,_,_⟩) (by simp;omega) _).setCell (p:=⟨w.heap.size+1+1,_,_⟩) (by simp;omega) _
 have HI9:=Lib.hid hI9
 have HB9:=Lib.hid hB9
 clear hI9 hB9
 go_simp
 rw [← hW9]
 clear hW9 d0 d1 d2 f0 f1 f2
 refine hK.out _ _ (Meets.here ⟨hKd9,hF9⟩ Meets.nil) (fun hMeets=>?_)
 clear hK K hMeets
 refine lay_R ?_
 refine R_p (i:=13) (v:=.bool false) (Meets.here ⟨hKd9,hF9⟩ Meets.nil) ?_
 refine R_done (by kernel_rfl) ?_ _
 go_wp2_with fail
 exact bodyPost_ret (v:=.tuple #[.agg #[.bool false,.string (bs (digs n.toNat)),.slice none 0 0],.bool false]) (results_row_tmp rfl _ _ (w.heap.size+1+1) _ _ _ _ rfl HI9.out _ rfl Tryz.underlying86 rfl infoI) rfl ⟨rfl,HB9.out⟩
theorem item_n001 (n:Int) (b:Bytes) (A:Option Addr) (m c:Nat) (h0:0≤n) (h64:n < 18446744073709551616) (hn:(n == 0)=false) (hm:((m:Int) == 0)=false) (hb:(b == [])=true) (w:World) :
  Calls Tryz.prog 75 #[.agg #[.int .u8 110,.slice none 0 0],.agg #[.int .u64 n,.string (bs b),.slice A m c]] w fun e w'=>e=.returned (.tuple #[.agg #[.bool false,.string (bs (digs n.toNat)),.slice none 0 0],.bool false])∧Below w.heap.size w w':=by
 have hB:Below w.heap.size w (((w.alloc (.cells #[.int .u8 110,.slice none 0 0] 90)).alloc (.cells #[.int .u64 n,.string (bs b),.slice A m c] 56)).alloc (.cells #[.bool false,.string ⟨#[]⟩,.slice none 0 0] 86)):=(((Below.refl _ _).alloc (Nat.le_refl _) _).alloc (by simp) _).alloc (by simp;omega) _
 have hI:=heap_alloc_new ((w.alloc (.cells #[.int .u8 110,.slice none 0 0] 90)).alloc (.cells #[.int .u64 n,.string (bs b),.slice A m c] 56)) (.cells #[.bool false,.string ⟨#[]⟩,.slice none 0 0] 86)
 have hF:=(heap_alloc_old ((w.alloc (.cells #[.int .u8 110,.slice none 0 0] 90)).alloc (.cells #[.int .u64 n,.string (bs b),.slice A m c] 56)) (.cells #[.bool false,.string ⟨#[]⟩,.slice none 0 0] 86) (by simp)).trans (heap_alloc_new (w.alloc (.cells #[.int .u8 110,.slice none 0 0] 90)) (.cells #[.int .u64 n,.string (bs b),.slice A m c] 56))
 have hKd:=(heap_alloc_old ((w.alloc (.cells #[.int .u8 110,.slice none 0 0] 90)).alloc (.cells #[.int .u64 n,.string (bs b),.slice A m c] 56)) (.cells #[.bool false,.string ⟨#[]⟩,.slice none 0 0] 86) (by simp;omega)).trans ((heap_alloc_old (w.alloc (.cells #[.int .u8 110,.slice none 0 0] 90)) (.cells #[.int .u64 n,.string (bs b),.slice A m c] 56) (by simp)).trans (heap_alloc_new w _))
 simp only [World.size_alloc] at hI hF hKd
 have HB:=Lib.hid hB
 have HI:=Lib.hid hI
 have HF:=Lib.hid hF
 have HK:=Lib.hid hKd
 clear hB hI hF hKd
 go_enter Tryz.func75,Tryz.ntmps75
 go_wp2_with fail
 have hbd:Below (((w.alloc (.cells #[.int .u8 110,.slice none 0 0] 90)).alloc (.cells #[.int .u64 n,.string (bs b),.slice A m c] 56)).alloc (.cells #[.bool false,.string ⟨#[]⟩,.slice none 0 0] 86)).heap.size (((w.alloc (.cells #[.int .u8 110,.slice none 0 0] 90)).alloc (.cells #[.int .u64 n,.string (bs b),.slice A m c] 56)).alloc (.cells #[.bool false,.string ⟨#[]⟩,.slice none 0 0] 86)) (((w.alloc (.cells #[.int .u8 110,.slice none 0 0] 90)).alloc (.cells #[.int .u64 n,.string (bs b),.slice A m c] 56)).alloc (.cells #[.bool false,.string ⟨#[]⟩,.slice none 0 0] 86)).drew:=(Below.refl _ _).drew
 have hKd:=(hbd.block _ (Array.getElem?_eq_some_iff.1 HK.out).1).trans HK.out
 have hF:=(hbd.block _ (Array.getElem?_eq_some_iff.1 HF.out).1).trans HF.out
 have hI:=(hbd.block _ (Array.getElem?_eq_some_iff.1 HI.out).1).trans HI.out
 have hB:=below_call HB.out HB.out.size hbd
 refine wp_region_R [(99,fun w'=>w'.heap[w.heap.size]? = some (.cells #[.int .u8 110,.slice none 0 0] 90 (0,0))∧w'.heap[w.heap.size+1]? = some (.cells #[.int .u64 n,.string (bs b),.slice A m c] 56 (0,0)))] (by kernel_rfl) ?_
 generalize (((w.alloc (.cells #[.int .u8 110,.slice none 0 0] 90)).alloc (.cells #[.int .u64 n,.string (bs b),.slice A m c] 56)).alloc (.cells #[.bool false,.string ⟨#[]⟩,.slice none 0 0] 86)).drew=w3 at hKd hF hI hB ⊢
 clear hbd HK HF HI HB
 refine R_p (i:=0) (v:=.pointer (some ⟨w.heap.size+1,0,none⟩)) (Meets.here ⟨hKd,hF⟩ Meets.nil) ?_
 refine R_l (i:=1) (v:=.int .u64 n) 99 _ List.mem_cons_self rfl (yieldsIf_load_cell rfl rfl rfl (fun w' hS=>rc hS.2 0 rfl) Tryz.underlying22 rfl) (Meets.here ⟨hKd,hF⟩ Meets.nil) ?_
 refine R_p (i:=3) (v:=.pointer (some ⟨w.heap.size+1,1,none⟩)) (Meets.here ⟨hKd,hF⟩ Meets.nil) ?_
 refine R_l (i:=4) (v:=.string (bs b)) 99 _ List.mem_cons_self rfl (yieldsIf_load_cell rfl rfl rfl (fun w' hS=>rc hS.2 1 rfl) Tryz.underlying9 rfl) (Meets.here ⟨hKd,hF⟩ Meets.nil) ?_
 refine R_p (i:=5) (v:=.bool true) (Meets.here ⟨hKd,hF⟩ Meets.nil) ?_
 refine R_now 2 fun K hK=>?_
 go_simp
 refine (Number_any n h0 h64 _).mono ?_
 rintro e w4 ⟨rfl,hb4⟩
 replace hKd:=(hb4.block _ (Array.getElem?_eq_some_iff.1 hKd).1).trans hKd
 replace hF:=(hb4.block _ (Array.getElem?_eq_some_iff.1 hF).1).trans hF
 replace hI:=(hb4.block _ (Array.getElem?_eq_some_iff.1 hI).1).trans hI
 replace hB:=below_call hB hB.size hb4
 clear hb4
 refine hK.out _ _ (Meets.here ⟨hKd,hF⟩ Meets.nil) (fun hMeets=>?_)
 clear hK K hMeets
 refine lay_R ?_
 refine R_p (i:=6) (v:=.bool true) (Meets.here ⟨hKd,hF⟩ Meets.nil) ?_
 refine R_p (i:=7) (v:=.pointer (some ⟨w.heap.size+1,2,none⟩)) (Meets.here ⟨hKd,hF⟩ Meets.nil) ?_
 refine R_l (i:=8) (v:=.slice A m c) 99 _ List.mem_cons_self rfl (yieldsIf_load_cell rfl rfl rfl (fun w' hS=>rc hS.2 2 rfl) Tryz.underlying54 rfl) (Meets.here ⟨hKd,hF⟩ Meets.nil) ?_
 refine R_p (i:=9) (v:=.int .i64 (m:Int)) (Meets.here ⟨hKd,hF⟩ Meets.nil) ?_
 refine R_p (i:=10) (v:=.bool false) (Meets.here ⟨hKd,hF⟩ Meets.nil) ?_
 refine R_p (i:=11) (v:=.bool false) (Meets.here ⟨hKd,hF⟩ Meets.nil) ?_
 have d0:w4.cell? ⟨w.heap.size+1+1,0,none⟩=some (.bool false):=rc0 hI
 have d1:w4.cell? ⟨w.heap.size+1+1,1,none⟩=some (.string ⟨#[]⟩):=rc1 hI
 have d2:w4.cell? ⟨w.heap.size+1+1,2,none⟩=some (.slice none 0 0):=rc2 hI
 have f0:=rf hI 0
 have f1:=rf hI 1
 have f2:=rf hI 2
 refine R_now 12 fun K hK=>?_
 obtain ⟨W9,hW9⟩:∃ W9,W9=(((w4.setCell ⟨w.heap.size+1+1,0,none⟩ (.bool false)).setCell ⟨w.heap.size+1+1,1,none⟩ (.string (bs (digs n.toNat)))).setCell ⟨w.heap.size+1+1,2,none⟩ (.slice none 0 0)):=⟨_,rfl⟩
 have hI9:W9.heap[w.heap.size+1+1]? = some (.cells #[.bool false,.string (bs (digs n.toNat)),.slice none 0 0] 86 (0,0)):=by rw [hW9];exact heap_setCell_here (heap_setCell_here (heap_setCell_here hI _) _) _
 have hF9:W9.heap[w.heap.size+1]? = some (.cells #[.int .u64 n,.string (bs b),.slice A m c] 56 (0,0)):=by rw [hW9];exact (heap_set_ne (by omega) _).trans ((heap_set_ne (by omega) _).trans ((heap_set_ne (by omega) _).trans hF))
 have hKd9:W9.heap[w.heap.size]? = some (.cells #[.int .u8 110,.slice none 0 0] 90 (0,0)):=by rw [hW9];exact (heap_set_ne (by omega) _).trans ((heap_set_ne (by omega) _).trans ((heap_set_ne (by omega) _).trans hKd))
 have hB9:Below w.heap.size w W9:=by rw [hW9];exact ((hB.setCell (p:=⟨w.heap.size+1+1,_,_⟩) (by simp;omega) _).setCell (p:=⟨w.heap.size+1+1,_,_⟩) (by simp;omega) _).setCell (p:=⟨w.heap.size+1+1,_,_⟩) (by simp;omega) _
 have HI9:=Lib.hid hI9
 have HB9:=Lib.hid hB9
 clear hI9 hB9
 go_simp
 rw [← hW9]
 clear hW9 d0 d1 d2 f0 f1 f2
 refine hK.out _ _ (Meets.here ⟨hKd9,hF9⟩ Meets.nil) (fun hMeets=>?_)
 clear hK K hMeets
 refine lay_R ?_
 refine R_p (i:=13) (v:=.bool false) (Meets.here ⟨hKd9,hF9⟩ Meets.nil) ?_
 refine R_done (by kernel_rfl) ?_ _
 go_wp2_with fail
 exact bodyPost_ret (v:=.tuple #[.agg #[.bool false,.string (bs (digs n.toNat)),.slice none 0 0],.bool false]) (results_row_tmp rfl _ _ (w.heap.size+1+1) _ _ _ _ rfl HI9.out _ rfl Tryz.underlying86 rfl infoI) rfl ⟨rfl,HB9.out⟩
theorem item_n000 (n:Int) (b:Bytes) (A:Option Addr) (m c:Nat) (h0:0≤n) (h64:n < 18446744073709551616) (hn:(n == 0)=false) (hm:((m:Int) == 0)=false) (hb:(b == [])=false) (w:World) :
  Calls Tryz.prog 75 #[.agg #[.int .u8 110,.slice none 0 0],.agg #[.int .u64 n,.string (bs b),.slice A m c]] w fun e w'=>e=.returned (.tuple #[.agg #[.bool false,.string (bs (digs n.toNat)),.slice none 0 0],.bool false])∧Below w.heap.size w w':=by
 have hB:Below w.heap.size w (((w.alloc (.cells #[.int .u8 110,.slice none 0 0] 90)).alloc (.cells #[.int .u64 n,.string (bs b),.slice A m c] 56)).alloc (.cells #[.bool false,.string ⟨#[]⟩,.slice none 0 0] 86)):=(((Below.refl _ _).alloc (Nat.le_refl _) _).alloc (by simp) _).alloc (by simp;omega) _
 have hI:=heap_alloc_new ((w.alloc (.cells #[.int .u8 110,.slice none 0 0] 90)).alloc (.cells #[.int .u64 n,.string (bs b),.slice A m c] 56)) (.cells #[.bool false,.string ⟨#[]⟩,.slice none 0 0] 86)
 have hF:=(heap_alloc_old ((w.alloc (.cells #[.int .u8 110,.slice none 0 0] 90)).alloc (.cells #[.int .u64 n,.string (bs b),.slice A m c] 56)) (.cells #[.bool false,.string ⟨#[]⟩,.slice none 0 0] 86) (by simp)).trans (heap_alloc_new (w.alloc (.cells #[.int .u8 110,.slice none 0 0] 90)) (.cells #[.int .u64 n,.string (bs b),.slice A m c] 56))
 have hKd:=(heap_alloc_old ((w.alloc (.cells #[.int .u8 110,.slice none 0 0] 90)).alloc (.cells #[.int .u64 n,.string (bs b),.slice A m c] 56)) (.cells #[.bool false,.string ⟨#[]⟩,.slice none 0 0] 86) (by simp;omega)).trans ((heap_alloc_old (w.alloc (.cells #[.int .u8 110,.slice none 0 0] 90)) (.cells #[.int .u64 n,.string (bs b),.slice A m c] 56) (by simp)).trans (heap_alloc_new w _))
 simp only [World.size_alloc] at hI hF hKd
 have HB:=Lib.hid hB
 have HI:=Lib.hid hI
 have HF:=Lib.hid hF
 have HK:=Lib.hid hKd
 clear hB hI hF hKd
 go_enter Tryz.func75,Tryz.ntmps75
 go_wp2_with fail
 have hbd:Below (((w.alloc (.cells #[.int .u8 110,.slice none 0 0] 90)).alloc (.cells #[.int .u64 n,.string (bs b),.slice A m c] 56)).alloc (.cells #[.bool false,.string ⟨#[]⟩,.slice none 0 0] 86)).heap.size (((w.alloc (.cells #[.int .u8 110,.slice none 0 0] 90)).alloc (.cells #[.int .u64 n,.string (bs b),.slice A m c] 56)).alloc (.cells #[.bool false,.string ⟨#[]⟩,.slice none 0 0] 86)) (((w.alloc (.cells #[.int .u8 110,.slice none 0 0] 90)).alloc (.cells #[.int .u64 n,.string (bs b),.slice A m c] 56)).alloc (.cells #[.bool false,.string ⟨#[]⟩,.slice none 0 0] 86)).drew:=(Below.refl _ _).drew
 have hKd:=(hbd.block _ (Array.getElem?_eq_some_iff.1 HK.out).1).trans HK.out
 have hF:=(hbd.block _ (Array.getElem?_eq_some_iff.1 HF.out).1).trans HF.out
 have hI:=(hbd.block _ (Array.getElem?_eq_some_iff.1 HI.out).1).trans HI.out
 have hB:=below_call HB.out HB.out.size hbd
 refine wp_region_R [(99,fun w'=>w'.heap[w.heap.size]? = some (.cells #[.int .u8 110,.slice none 0 0] 90 (0,0))∧w'.heap[w.heap.size+1]? = some (.cells #[.int .u64 n,.string (bs b),.slice A m c] 56 (0,0)))] (by kernel_rfl) ?_
 generalize (((w.alloc (.cells #[.int .u8 110,.slice none 0 0] 90)).alloc (.cells #[.int .u64 n,.string (bs b),.slice A m c] 56)).alloc (.cells #[.bool false,.string ⟨#[]⟩,.slice none 0 0] 86)).drew=w3 at hKd hF hI hB ⊢
 clear hbd HK HF HI HB
 refine R_p (i:=0) (v:=.pointer (some ⟨w.heap.size+1,0,none⟩)) (Meets.here ⟨hKd,hF⟩ Meets.nil) ?_
 refine R_l (i:=1) (v:=.int .u64 n) 99 _ List.mem_cons_self rfl (yieldsIf_load_cell rfl rfl rfl (fun w' hS=>rc hS.2 0 rfl) Tryz.underlying22 rfl) (Meets.here ⟨hKd,hF⟩ Meets.nil) ?_
 refine R_p (i:=3) (v:=.pointer (some ⟨w.heap.size+1,1,none⟩)) (Meets.here ⟨hKd,hF⟩ Meets.nil) ?_
 refine R_l (i:=4) (v:=.string (bs b)) 99 _ List.mem_cons_self rfl (yieldsIf_load_cell rfl rfl rfl (fun w' hS=>rc hS.2 1 rfl) Tryz.underlying9 rfl) (Meets.here ⟨hKd,hF⟩ Meets.nil) ?_
 refine R_p (i:=5) (v:=.bool false) (Meets.here ⟨hKd,hF⟩ Meets.nil) ?_
 refine R_now 2 fun K hK=>?_
 go_simp
 refine (Number_any n h0 h64 _).mono ?_
 rintro e w4 ⟨rfl,hb4⟩
 replace hKd:=(hb4.block _ (Array.getElem?_eq_some_iff.1 hKd).1).trans hKd
 replace hF:=(hb4.block _ (Array.getElem?_eq_some_iff.1 hF).1).trans hF
 replace hI:=(hb4.block _ (Array.getElem?_eq_some_iff.1 hI).1).trans hI
 replace hB:=below_call hB hB.size hb4
 clear hb4
 refine hK.out _ _ (Meets.here ⟨hKd,hF⟩ Meets.nil) (fun hMeets=>?_)
 clear hK K hMeets
 refine lay_R ?_
 refine R_p (i:=6) (v:=.bool false) (Meets.here ⟨hKd,hF⟩ Meets.nil) ?_
 refine R_s (i:=7) (Meets.here ⟨hKd,hF⟩ Meets.nil) ?_
 refine R_s (i:=8) (Meets.here ⟨hKd,hF⟩ Meets.nil) ?_
 refine R_s (i:=9) (Meets.here ⟨hKd,hF⟩ Meets.nil) ?_
 refine R_s (i:=10) (Meets.here ⟨hKd,hF⟩ Meets.nil) ?_
 refine R_p (i:=11) (v:=.bool false) (Meets.here ⟨hKd,hF⟩ Meets.nil) ?_
 have d0:w4.cell? ⟨w.heap.size+1+1,0,none⟩=some (.bool false):=rc0 hI
 have d1:w4.cell? ⟨w.heap.size+1+1,1,none⟩=some (.string ⟨#[]⟩):=rc1 hI
 have d2:w4.cell? ⟨w.heap.size+1+1,2,none⟩=some (.slice none 0 0):=rc2 hI
 have f0:=rf hI 0
 have f1:=rf hI 1
 have f2:=rf hI 2
 refine R_now 12 fun K hK=>?_
 obtain ⟨W9,hW9⟩:∃ W9,W9=(((w4.setCell ⟨w.heap.size+1+1,0,none⟩ (.bool false)).setCell ⟨w.heap.size+1+1,1,none⟩ (.string (bs (digs n.toNat)))).setCell ⟨w.heap.size+1+1,2,none⟩ (.slice none 0 0)):=⟨_,rfl⟩
 have hI9:W9.heap[w.heap.size+1+1]? = some (.cells #[.bool false,.string (bs (digs n.toNat)),.slice none 0 0] 86 (0,0)):=by rw [hW9];exact heap_setCell_here (heap_setCell_here (heap_setCell_here hI _) _) _
 have hF9:W9.heap[w.heap.size+1]? = some (.cells #[.int .u64 n,.string (bs b),.slice A m c] 56 (0,0)):=by rw [hW9];exact (heap_set_ne (by omega) _).trans ((heap_set_ne (by omega) _).trans ((heap_set_ne (by omega) _).trans hF))
 have hKd9:W9.heap[w.heap.size]? = some (.cells #[.int .u8 110,.slice none 0 0] 90 (0,0)):=by rw [hW9];exact (heap_set_ne (by omega) _).trans ((heap_set_ne (by omega) _).trans ((heap_set_ne (by omega) _).trans hKd))
 have hB9:Below w.heap.size w W9:=by rw [hW9];exact ((hB.setCell (p:=⟨w.heap.size+1+1,_,_⟩) (by simp;omega) _).setCell (p:=⟨w.heap.size+1+1,_,_⟩) (by simp;omega) _).setCell (p:=⟨w.heap.size+1+1,_,_⟩) (by simp;omega) _
 have HI9:=Lib.hid hI9
 have HB9:=Lib.hid hB9
 clear hI9 hB9
 go_simp
 rw [← hW9]
 clear hW9 d0 d1 d2 f0 f1 f2
 refine hK.out _ _ (Meets.here ⟨hKd9,hF9⟩ Meets.nil) (fun hMeets=>?_)
 clear hK K hMeets
 refine lay_R ?_
 refine R_p (i:=13) (v:=.bool false) (Meets.here ⟨hKd9,hF9⟩ Meets.nil) ?_
 refine R_done (by kernel_rfl) ?_ _
 go_wp2_with fail
 exact bodyPost_ret (v:=.tuple #[.agg #[.bool false,.string (bs (digs n.toNat)),.slice none 0 0],.bool false]) (results_row_tmp rfl _ _ (w.heap.size+1+1) _ _ _ _ rfl HI9.out _ rfl Tryz.underlying86 rfl infoI) rfl ⟨rfl,HB9.out⟩
/- The walks of frame.sizes, and of frame.item at plain kinds, at bytes. -/
theorem item_b111 (n:Int) (b:Bytes) (A:Option Addr) (m c:Nat) (hn:(n == 0)=true) (hm:((m:Int) == 0)=true) (hl:(b.length:Int)≤64) (w:World) :
  Calls Tryz.prog 75 #[.agg #[.int .u8 98,.slice none 0 0],.agg #[.int .u64 n,.string (bs b),.slice A m c]] w fun e w'=>e=.returned (.tuple #[.agg #[.bool false,.string (bs b),.slice none 0 0],.bool true])∧Below w.heap.size w w':=by
 have hB:Below w.heap.size w (((w.alloc (.cells #[.int .u8 98,.slice none 0 0] 90)).alloc (.cells #[.int .u64 n,.string (bs b),.slice A m c] 56)).alloc (.cells #[.bool false,.string ⟨#[]⟩,.slice none 0 0] 86)):=(((Below.refl _ _).alloc (Nat.le_refl _) _).alloc (by simp) _).alloc (by simp;omega) _
 have hI:=heap_alloc_new ((w.alloc (.cells #[.int .u8 98,.slice none 0 0] 90)).alloc (.cells #[.int .u64 n,.string (bs b),.slice A m c] 56)) (.cells #[.bool false,.string ⟨#[]⟩,.slice none 0 0] 86)
 have hF:=(heap_alloc_old ((w.alloc (.cells #[.int .u8 98,.slice none 0 0] 90)).alloc (.cells #[.int .u64 n,.string (bs b),.slice A m c] 56)) (.cells #[.bool false,.string ⟨#[]⟩,.slice none 0 0] 86) (by simp)).trans (heap_alloc_new (w.alloc (.cells #[.int .u8 98,.slice none 0 0] 90)) (.cells #[.int .u64 n,.string (bs b),.slice A m c] 56))
 have hKd:=(heap_alloc_old ((w.alloc (.cells #[.int .u8 98,.slice none 0 0] 90)).alloc (.cells #[.int .u64 n,.string (bs b),.slice A m c] 56)) (.cells #[.bool false,.string ⟨#[]⟩,.slice none 0 0] 86) (by simp;omega)).trans ((heap_alloc_old (w.alloc (.cells #[.int .u8 98,.slice none 0 0] 90)) (.cells #[.int .u64 n,.string (bs b),.slice A m c] 56) (by simp)).trans (heap_alloc_new w _))
 simp only [World.size_alloc] at hI hF hKd
 have HB:=Lib.hid hB
 have HI:=Lib.hid hI
 have HF:=Lib.hid hF
 have HK:=Lib.hid hKd
 clear hB hI hF hKd
 go_enter Tryz.func75,Tryz.ntmps75
 go_wp2_with fail
 have hbd:Below (((w.alloc (.cells #[.int .u8 98,.slice none 0 0] 90)).alloc (.cells #[.int .u64 n,.string (bs b),.slice A m c] 56)).alloc (.cells #[.bool false,.string ⟨#[]⟩,.slice none 0 0] 86)).heap.size (((w.alloc (.cells #[.int .u8 98,.slice none 0 0] 90)).alloc (.cells #[.int .u64 n,.string (bs b),.slice A m c] 56)).alloc (.cells #[.bool false,.string ⟨#[]⟩,.slice none 0 0] 86)) (((w.alloc (.cells #[.int .u8 98,.slice none 0 0] 90)).alloc (.cells #[.int .u64 n,.string (bs b),.slice A m c] 56)).alloc (.cells #[.bool false,.string ⟨#[]⟩,.slice none 0 0] 86)).drew:=(Below.refl _ _).drew
 have hKd:=(hbd.block _ (Array.getElem?_eq_some_iff.1 HK.out).1).trans HK.out
 have hF:=(hbd.block _ (Array.getElem?_eq_some_iff.1 HF.out).1).trans HF.out
 have hI:=(hbd.block _ (Array.getElem?_eq_some_iff.1 HI.out).1).trans HI.out
 have hB:=below_call HB.out HB.out.size hbd
 refine wp_region_R [(99,fun w'=>w'.heap[w.heap.size]? = some (.cells #[.int .u8 98,.slice none 0 0] 90 (0,0))∧w'.heap[w.heap.size+1]? = some (.cells #[.int .u64 n,.string (bs b),.slice A m c] 56 (0,0)))] (by kernel_rfl) ?_
 generalize (((w.alloc (.cells #[.int .u8 98,.slice none 0 0] 90)).alloc (.cells #[.int .u64 n,.string (bs b),.slice A m c] 56)).alloc (.cells #[.bool false,.string ⟨#[]⟩,.slice none 0 0] 86)).drew=w3 at hKd hF hI hB ⊢
 clear hbd HK HF HI HB
 refine R_p (i:=0) (v:=.pointer (some ⟨w.heap.size+1,1,none⟩)) (Meets.here ⟨hKd,hF⟩ Meets.nil) ?_
 refine R_l (i:=1) (v:=.string (bs b)) 99 _ List.mem_cons_self rfl (yieldsIf_load_cell rfl rfl rfl (fun w' hS=>rc hS.2 1 rfl) Tryz.underlying9 rfl) (Meets.here ⟨hKd,hF⟩ Meets.nil) ?_
 refine R_p (i:=2) (v:=.agg #[.bool false,.string (bs b),.slice none 0 0]) (Meets.here ⟨hKd,hF⟩ Meets.nil) ?_
 refine R_p (i:=3) (v:=.bool true) (Meets.here ⟨hKd,hF⟩ Meets.nil) ?_
 refine R_p (i:=4) (v:=.bool true) (Meets.here ⟨hKd,hF⟩ Meets.nil) ?_
 refine R_p (i:=5) (v:=.pointer (some ⟨w.heap.size+1,1,none⟩)) (Meets.here ⟨hKd,hF⟩ Meets.nil) ?_
 refine R_l (i:=6) (v:=.string (bs b)) 99 _ List.mem_cons_self rfl (yieldsIf_load_cell rfl rfl rfl (fun w' hS=>rc hS.2 1 rfl) Tryz.underlying9 rfl) (Meets.here ⟨hKd,hF⟩ Meets.nil) ?_
 refine R_p (i:=7) (v:=.int .i64 (b.length:Int)) (Meets.here ⟨hKd,hF⟩ Meets.nil) ?_
 refine R_p (i:=8) (v:=.bool true) (Meets.here ⟨hKd,hF⟩ Meets.nil) ?_
 refine R_p (i:=9) (v:=.bool true) (Meets.here ⟨hKd,hF⟩ Meets.nil) ?_
 have d0:w3.cell? ⟨w.heap.size+1+1,0,none⟩=some (.bool false):=rc0 hI
 have d1:w3.cell? ⟨w.heap.size+1+1,1,none⟩=some (.string ⟨#[]⟩):=rc1 hI
 have d2:w3.cell? ⟨w.heap.size+1+1,2,none⟩=some (.slice none 0 0):=rc2 hI
 have f0:=rf hI 0
 have f1:=rf hI 1
 have f2:=rf hI 2
 refine R_now 10 fun K hK=>?_
 obtain ⟨W9,hW9⟩:∃ W9,W9=(((w3.setCell ⟨w.heap.size+1+1,0,none⟩ (.bool false)).setCell ⟨w.heap.size+1+1,1,none⟩ (.string (bs b))).setCell ⟨w.heap.size+1+1,2,none⟩ (.slice none 0 0)):=⟨_,rfl⟩
 have hI9:W9.heap[w.heap.size+1+1]? = some (.cells #[.bool false,.string (bs b),.slice none 0 0] 86 (0,0)):=by rw [hW9];exact heap_setCell_here (heap_setCell_here (heap_setCell_here hI _) _) _
 have hF9:W9.heap[w.heap.size+1]? = some (.cells #[.int .u64 n,.string (bs b),.slice A m c] 56 (0,0)):=by rw [hW9];exact (heap_set_ne (by omega) _).trans ((heap_set_ne (by omega) _).trans ((heap_set_ne (by omega) _).trans hF))
 have hKd9:W9.heap[w.heap.size]? = some (.cells #[.int .u8 98,.slice none 0 0] 90 (0,0)):=by rw [hW9];exact (heap_set_ne (by omega) _).trans ((heap_set_ne (by omega) _).trans ((heap_set_ne (by omega) _).trans hKd))
 have hB9:Below w.heap.size w W9:=by rw [hW9];exact ((hB.setCell (p:=⟨w.heap.size+1+1,_,_⟩) (by simp;omega) _).setCell (p:=⟨w.heap.size+1+1,_,_⟩) (by simp;omega) _).setCell (p:=⟨w.heap.size+1+1,_,_⟩) (by simp;omega) _
 have HI9:=Lib.hid hI9
 have HB9:=Lib.hid hB9
 clear hI9 hB9
 go_simp
 rw [← hW9]
 clear hW9 d0 d1 d2 f0 f1 f2
 refine hK.out _ _ (Meets.here ⟨hKd9,hF9⟩ Meets.nil) (fun hMeets=>?_)
 clear hK K hMeets
 refine lay_R ?_
 refine R_p (i:=11) (v:=.bool true) (Meets.here ⟨hKd9,hF9⟩ Meets.nil) ?_
 refine R_done (by kernel_rfl) ?_ _
 go_wp2_with fail
 exact bodyPost_ret (v:=.tuple #[.agg #[.bool false,.string (bs b),.slice none 0 0],.bool true]) (results_row_tmp rfl _ _ (w.heap.size+1+1) _ _ _ _ rfl HI9.out _ rfl Tryz.underlying86 rfl infoI) rfl ⟨rfl,HB9.out⟩
theorem item_b110 (n:Int) (b:Bytes) (A:Option Addr) (m c:Nat) (hn:(n == 0)=true) (hm:((m:Int) == 0)=true) (hl:¬ (b.length:Int)≤64) (w:World) :
  Calls Tryz.prog 75 #[.agg #[.int .u8 98,.slice none 0 0],.agg #[.int .u64 n,.string (bs b),.slice A m c]] w fun e w'=>e=.returned (.tuple #[.agg #[.bool false,.string (bs b),.slice none 0 0],.bool false])∧Below w.heap.size w w':=by
 have hB:Below w.heap.size w (((w.alloc (.cells #[.int .u8 98,.slice none 0 0] 90)).alloc (.cells #[.int .u64 n,.string (bs b),.slice A m c] 56)).alloc (.cells #[.bool false,.string ⟨#[]⟩,.slice none 0 0] 86)):=(((Below.refl _ _).alloc (Nat.le_refl _) _).alloc (by simp) _).alloc (by simp;omega) _
 have hI:=heap_alloc_new ((w.alloc (.cells #[.int .u8 98,.slice none 0 0] 90)).alloc (.cells #[.int .u64 n,.string (bs b),.slice A m c] 56)) (.cells #[.bool false,.string ⟨#[]⟩,.slice none 0 0] 86)
 have hF:=(heap_alloc_old ((w.alloc (.cells #[.int .u8 98,.slice none 0 0] 90)).alloc (.cells #[.int .u64 n,.string (bs b),.slice A m c] 56)) (.cells #[.bool false,.string ⟨#[]⟩,.slice none 0 0] 86) (by simp)).trans (heap_alloc_new (w.alloc (.cells #[.int .u8 98,.slice none 0 0] 90)) (.cells #[.int .u64 n,.string (bs b),.slice A m c] 56))
 have hKd:=(heap_alloc_old ((w.alloc (.cells #[.int .u8 98,.slice none 0 0] 90)).alloc (.cells #[.int .u64 n,.string (bs b),.slice A m c] 56)) (.cells #[.bool false,.string ⟨#[]⟩,.slice none 0 0] 86) (by simp;omega)).trans ((heap_alloc_old (w.alloc (.cells #[.int .u8 98,.slice none 0 0] 90)) (.cells #[.int .u64 n,.string (bs b),.slice A m c] 56) (by simp)).trans (heap_alloc_new w _))
 simp only [World.size_alloc] at hI hF hKd
 have HB:=Lib.hid hB
 have HI:=Lib.hid hI
 have HF:=Lib.hid hF
 have HK:=Lib.hid hKd
 clear hB hI hF hKd
 go_enter Tryz.func75,Tryz.ntmps75
 go_wp2_with fail
 have hbd:Below (((w.alloc (.cells #[.int .u8 98,.slice none 0 0] 90)).alloc (.cells #[.int .u64 n,.string (bs b),.slice A m c] 56)).alloc (.cells #[.bool false,.string ⟨#[]⟩,.slice none 0 0] 86)).heap.size (((w.alloc (.cells #[.int .u8 98,.slice none 0 0] 90)).alloc (.cells #[.int .u64 n,.string (bs b),.slice A m c] 56)).alloc (.cells #[.bool false,.string ⟨#[]⟩,.slice none 0 0] 86)) (((w.alloc (.cells #[.int .u8 98,.slice none 0 0] 90)).alloc (.cells #[.int .u64 n,.string (bs b),.slice A m c] 56)).alloc (.cells #[.bool false,.string ⟨#[]⟩,.slice none 0 0] 86)).drew:=(Below.refl _ _).drew
 have hKd:=(hbd.block _ (Array.getElem?_eq_some_iff.1 HK.out).1).trans HK.out
 have hF:=(hbd.block _ (Array.getElem?_eq_some_iff.1 HF.out).1).trans HF.out
 have hI:=(hbd.block _ (Array.getElem?_eq_some_iff.1 HI.out).1).trans HI.out
 have hB:=below_call HB.out HB.out.size hbd
 refine wp_region_R [(99,fun w'=>w'.heap[w.heap.size]? = some (.cells #[.int .u8 98,.slice none 0 0] 90 (0,0))∧w'.heap[w.heap.size+1]? = some (.cells #[.int .u64 n,.string (bs b),.slice A m c] 56 (0,0)))] (by kernel_rfl) ?_
 generalize (((w.alloc (.cells #[.int .u8 98,.slice none 0 0] 90)).alloc (.cells #[.int .u64 n,.string (bs b),.slice A m c] 56)).alloc (.cells #[.bool false,.string ⟨#[]⟩,.slice none 0 0] 86)).drew=w3 at hKd hF hI hB ⊢
 clear hbd HK HF HI HB
 refine R_p (i:=0) (v:=.pointer (some ⟨w.heap.size+1,1,none⟩)) (Meets.here ⟨hKd,hF⟩ Meets.nil) ?_
 refine R_l (i:=1) (v:=.string (bs b)) 99 _ List.mem_cons_self rfl (yieldsIf_load_cell rfl rfl rfl (fun w' hS=>rc hS.2 1 rfl) Tryz.underlying9 rfl) (Meets.here ⟨hKd,hF⟩ Meets.nil) ?_
 refine R_p (i:=2) (v:=.agg #[.bool false,.string (bs b),.slice none 0 0]) (Meets.here ⟨hKd,hF⟩ Meets.nil) ?_
 refine R_p (i:=3) (v:=.bool true) (Meets.here ⟨hKd,hF⟩ Meets.nil) ?_
 refine R_p (i:=4) (v:=.bool true) (Meets.here ⟨hKd,hF⟩ Meets.nil) ?_
 refine R_p (i:=5) (v:=.pointer (some ⟨w.heap.size+1,1,none⟩)) (Meets.here ⟨hKd,hF⟩ Meets.nil) ?_
 refine R_l (i:=6) (v:=.string (bs b)) 99 _ List.mem_cons_self rfl (yieldsIf_load_cell rfl rfl rfl (fun w' hS=>rc hS.2 1 rfl) Tryz.underlying9 rfl) (Meets.here ⟨hKd,hF⟩ Meets.nil) ?_
 refine R_p (i:=7) (v:=.int .i64 (b.length:Int)) (Meets.here ⟨hKd,hF⟩ Meets.nil) ?_
 refine R_p (i:=8) (v:=.bool false) (Meets.here ⟨hKd,hF⟩ Meets.nil) ?_
 refine R_p (i:=9) (v:=.bool false) (Meets.here ⟨hKd,hF⟩ Meets.nil) ?_
 have d0:w3.cell? ⟨w.heap.size+1+1,0,none⟩=some (.bool false):=rc0 hI
 have d1:w3.cell? ⟨w.heap.size+1+1,1,none⟩=some (.string ⟨#[]⟩):=rc1 hI
 have d2:w3.cell? ⟨w.heap.size+1+1,2,none⟩=some (.slice none 0 0):=rc2 hI
 have f0:=rf hI 0
 have f1:=rf hI 1
 have f2:=rf hI 2
 refine R_now 10 fun K hK=>?_
 obtain ⟨W9,hW9⟩:∃ W9,W9=(((w3.setCell ⟨w.heap.size+1+1,0,none⟩ (.bool false)).setCell ⟨w.heap.size+1+1,1,none⟩ (.string (bs b))).setCell ⟨w.heap.size+1+1,2,none⟩ (.slice none 0 0)):=⟨_,rfl⟩
 have hI9:W9.heap[w.heap.size+1+1]? = some (.cells #[.bool false,.string (bs b),.slice none 0 0] 86 (0,0)):=by rw [hW9];exact heap_setCell_here (heap_setCell_here (heap_setCell_here hI _) _) _
 have hF9:W9.heap[w.heap.size+1]? = some (.cells #[.int .u64 n,.string (bs b),.slice A m c] 56 (0,0)):=by rw [hW9];exact (heap_set_ne (by omega) _).trans ((heap_set_ne (by omega) _).trans ((heap_set_ne (by omega) _).trans hF))
 have hKd9:W9.heap[w.heap.size]? = some (.cells #[.int .u8 98,.slice none 0 0] 90 (0,0)):=by rw [hW9];exact (heap_set_ne (by omega) _).trans ((heap_set_ne (by omega) _).trans ((heap_set_ne (by omega) _).trans hKd))
 have hB9:Below w.heap.size w W9:=by rw [hW9];exact ((hB.setCell (p:=⟨w.heap.size+1+1,_,_⟩) (by simp;omega) _).setCell (p:=⟨w.heap.size+1+1,_,_⟩) (by simp;omega) _).setCell (p:=⟨w.heap.size+1+1,_,_⟩) (by simp;omega) _
 have HI9:=Lib.hid hI9
 have HB9:=Lib.hid hB9
 clear hI9 hB9
 go_simp
 rw [← hW9]
 clear hW9 d0 d1 d2 f0 f1 f2
 refine hK.out _ _ (Meets.here ⟨hKd9,hF9⟩ Meets.nil) (fun hMeets=>?_)
 clear hK K hMeets
 refine lay_R ?_
 refine R_p (i:=11) (v:=.bool false) (Meets.here ⟨hKd9,hF9⟩ Meets.nil) ?_
 refine R_done (by kernel_rfl) ?_ _
 go_wp2_with fail
 exact bodyPost_ret (v:=.tuple #[.agg #[.bool false,.string (bs b),.slice none 0 0],.bool false]) (results_row_tmp rfl _ _ (w.heap.size+1+1) _ _ _ _ rfl HI9.out _ rfl Tryz.underlying86 rfl infoI) rfl ⟨rfl,HB9.out⟩
theorem item_b100 (n:Int) (b:Bytes) (A:Option Addr) (m c:Nat) (hn:(n == 0)=true) (hm:((m:Int) == 0)=false) (w:World) :
  Calls Tryz.prog 75 #[.agg #[.int .u8 98,.slice none 0 0],.agg #[.int .u64 n,.string (bs b),.slice A m c]] w fun e w'=>e=.returned (.tuple #[.agg #[.bool false,.string (bs b),.slice none 0 0],.bool false])∧Below w.heap.size w w':=by
 have hB:Below w.heap.size w (((w.alloc (.cells #[.int .u8 98,.slice none 0 0] 90)).alloc (.cells #[.int .u64 n,.string (bs b),.slice A m c] 56)).alloc (.cells #[.bool false,.string ⟨#[]⟩,.slice none 0 0] 86)):=(((Below.refl _ _).alloc (Nat.le_refl _) _).alloc (by simp) _).alloc (by simp;omega) _
 have hI:=heap_alloc_new ((w.alloc (.cells #[.int .u8 98,.slice none 0 0] 90)).alloc (.cells #[.int .u64 n,.string (bs b),.slice A m c] 56)) (.cells #[.bool false,.string ⟨#[]⟩,.slice none 0 0] 86)
 have hF:=(heap_alloc_old ((w.alloc (.cells #[.int .u8 98,.slice none 0 0] 90)).alloc (.cells #[.int .u64 n,.string (bs b),.slice A m c] 56)) (.cells #[.bool false,.string ⟨#[]⟩,.slice none 0 0] 86) (by simp)).trans (heap_alloc_new (w.alloc (.cells #[.int .u8 98,.slice none 0 0] 90)) (.cells #[.int .u64 n,.string (bs b),.slice A m c] 56))
 have hKd:=(heap_alloc_old ((w.alloc (.cells #[.int .u8 98,.slice none 0 0] 90)).alloc (.cells #[.int .u64 n,.string (bs b),.slice A m c] 56)) (.cells #[.bool false,.string ⟨#[]⟩,.slice none 0 0] 86) (by simp;omega)).trans ((heap_alloc_old (w.alloc (.cells #[.int .u8 98,.slice none 0 0] 90)) (.cells #[.int .u64 n,.string (bs b),.slice A m c] 56) (by simp)).trans (heap_alloc_new w _))
 simp only [World.size_alloc] at hI hF hKd
 have HB:=Lib.hid hB
 have HI:=Lib.hid hI
 have HF:=Lib.hid hF
 have HK:=Lib.hid hKd
 clear hB hI hF hKd
 go_enter Tryz.func75,Tryz.ntmps75
 go_wp2_with fail
 have hbd:Below (((w.alloc (.cells #[.int .u8 98,.slice none 0 0] 90)).alloc (.cells #[.int .u64 n,.string (bs b),.slice A m c] 56)).alloc (.cells #[.bool false,.string ⟨#[]⟩,.slice none 0 0] 86)).heap.size (((w.alloc (.cells #[.int .u8 98,.slice none 0 0] 90)).alloc (.cells #[.int .u64 n,.string (bs b),.slice A m c] 56)).alloc (.cells #[.bool false,.string ⟨#[]⟩,.slice none 0 0] 86)) (((w.alloc (.cells #[.int .u8 98,.slice none 0 0] 90)).alloc (.cells #[.int .u64 n,.string (bs b),.slice A m c] 56)).alloc (.cells #[.bool false,.string ⟨#[]⟩,.slice none 0 0] 86)).drew:=(Below.refl _ _).drew
 have hKd:=(hbd.block _ (Array.getElem?_eq_some_iff.1 HK.out).1).trans HK.out
 have hF:=(hbd.block _ (Array.getElem?_eq_some_iff.1 HF.out).1).trans HF.out
 have hI:=(hbd.block _ (Array.getElem?_eq_some_iff.1 HI.out).1).trans HI.out
 have hB:=below_call HB.out HB.out.size hbd
 refine wp_region_R [(99,fun w'=>w'.heap[w.heap.size]? = some (.cells #[.int .u8 98,.slice none 0 0] 90 (0,0))∧w'.heap[w.heap.size+1]? = some (.cells #[.int .u64 n,.string (bs b),.slice A m c] 56 (0,0)))] (by kernel_rfl) ?_
 generalize (((w.alloc (.cells #[.int .u8 98,.slice none 0 0] 90)).alloc (.cells #[.int .u64 n,.string (bs b),.slice A m c] 56)).alloc (.cells #[.bool false,.string ⟨#[]⟩,.slice none 0 0] 86)).drew=w3 at hKd hF hI hB ⊢
 clear hbd HK HF HI HB
 refine R_p (i:=0) (v:=.pointer (some ⟨w.heap.size+1,1,none⟩)) (Meets.here ⟨hKd,hF⟩ Meets.nil) ?_
 refine R_l (i:=1) (v:=.string (bs b)) 99 _ List.mem_cons_self rfl (yieldsIf_load_cell rfl rfl rfl (fun w' hS=>rc hS.2 1 rfl) Tryz.underlying9 rfl) (Meets.here ⟨hKd,hF⟩ Meets.nil) ?_
 refine R_p (i:=2) (v:=.agg #[.bool false,.string (bs b),.slice none 0 0]) (Meets.here ⟨hKd,hF⟩ Meets.nil) ?_
 refine R_p (i:=3) (v:=.bool false) (Meets.here ⟨hKd,hF⟩ Meets.nil) ?_
 refine R_p (i:=4) (v:=.bool false) (Meets.here ⟨hKd,hF⟩ Meets.nil) ?_
 refine R_s (i:=5) (Meets.here ⟨hKd,hF⟩ Meets.nil) ?_
 refine R_s (i:=6) (Meets.here ⟨hKd,hF⟩ Meets.nil) ?_
 refine R_s (i:=7) (Meets.here ⟨hKd,hF⟩ Meets.nil) ?_
 refine R_s (i:=8) (Meets.here ⟨hKd,hF⟩ Meets.nil) ?_
 refine R_p (i:=9) (v:=.bool false) (Meets.here ⟨hKd,hF⟩ Meets.nil) ?_
 have d0:w3.cell? ⟨w.heap.size+1+1,0,none⟩=some (.bool false):=rc0 hI
 have d1:w3.cell? ⟨w.heap.size+1+1,1,none⟩=some (.string ⟨#[]⟩):=rc1 hI
 have d2:w3.cell? ⟨w.heap.size+1+1,2,none⟩=some (.slice none 0 0):=rc2 hI
 have f0:=rf hI 0
 have f1:=rf hI 1
 have f2:=rf hI 2
 refine R_now 10 fun K hK=>?_
 obtain ⟨W9,hW9⟩:∃ W9,W9=(((w3.setCell ⟨w.heap.size+1+1,0,none⟩ (.bool false)).setCell ⟨w.heap.size+1+1,1,none⟩ (.string (bs b))).setCell ⟨w.heap.size+1+1,2,none⟩ (.slice none 0 0)):=⟨_,rfl⟩
 have hI9:W9.heap[w.heap.size+1+1]? = some (.cells #[.bool false,.string (bs b),.slice none 0 0] 86 (0,0)):=by rw [hW9];exact heap_setCell_here (heap_setCell_here (heap_setCell_here hI _) _) _
 have hF9:W9.heap[w.heap.size+1]? = some (.cells #[.int .u64 n,.string (bs b),.slice A m c] 56 (0,0)):=by rw [hW9];exact (heap_set_ne (by omega) _).trans ((heap_set_ne (by omega) _).trans ((heap_set_ne (by omega) _).trans hF))
 have hKd9:W9.heap[w.heap.size]? = some (.cells #[.int .u8 98,.slice none 0 0] 90 (0,0)):=by rw [hW9];exact (heap_set_ne (by omega) _).trans ((heap_set_ne (by omega) _).trans ((heap_set_ne (by omega) _).trans hKd))
 have hB9:Below w.heap.size w W9:=by rw [hW9];exact ((hB.setCell (p:=⟨w.heap.size+1+1,_,_⟩) (by simp;omega) _).setCell (p:=⟨w.heap.size+1+1,_,_⟩) (by simp;omega) _).setCell (p:=⟨w.heap.size+1+1,_,_⟩) (by simp;omega) _
 have HI9:=Lib.hid hI9
 have HB9:=Lib.hid hB9
 clear hI9 hB9
 go_simp
 rw [← hW9]
 clear hW9 d0 d1 d2 f0 f1 f2
 refine hK.out _ _ (Meets.here ⟨hKd9,hF9⟩ Meets.nil) (fun hMeets=>?_)
 clear hK K hMeets
 refine lay_R ?_
 refine R_p (i:=11) (v:=.bool false) (Meets.here ⟨hKd9,hF9⟩ Meets.nil) ?_
 refine R_done (by kernel_rfl) ?_ _
 go_wp2_with fail
 exact bodyPost_ret (v:=.tuple #[.agg #[.bool false,.string (bs b),.slice none 0 0],.bool false]) (results_row_tmp rfl _ _ (w.heap.size+1+1) _ _ _ _ rfl HI9.out _ rfl Tryz.underlying86 rfl infoI) rfl ⟨rfl,HB9.out⟩
theorem item_b000 (n:Int) (b:Bytes) (A:Option Addr) (m c:Nat) (hn:(n == 0)=false) (w:World) :
  Calls Tryz.prog 75 #[.agg #[.int .u8 98,.slice none 0 0],.agg #[.int .u64 n,.string (bs b),.slice A m c]] w fun e w'=>e=.returned (.tuple #[.agg #[.bool false,.string (bs b),.slice none 0 0],.bool false])∧Below w.heap.size w w':=by
 have hB:Below w.heap.size w (((w.alloc (.cells #[.int .u8 98,.slice none 0 0] 90)).alloc (.cells #[.int .u64 n,.string (bs b),.slice A m c] 56)).alloc (.cells #[.bool false,.string ⟨#[]⟩,.slice none 0 0] 86)):=(((Below.refl _ _).alloc (Nat.le_refl _) _).alloc (by simp) _).alloc (by simp;omega) _
 have hI:=heap_alloc_new ((w.alloc (.cells #[.int .u8 98,.slice none 0 0] 90)).alloc (.cells #[.int .u64 n,.string (bs b),.slice A m c] 56)) (.cells #[.bool false,.string ⟨#[]⟩,.slice none 0 0] 86)
 have hF:=(heap_alloc_old ((w.alloc (.cells #[.int .u8 98,.slice none 0 0] 90)).alloc (.cells #[.int .u64 n,.string (bs b),.slice A m c] 56)) (.cells #[.bool false,.string ⟨#[]⟩,.slice none 0 0] 86) (by simp)).trans (heap_alloc_new (w.alloc (.cells #[.int .u8 98,.slice none 0 0] 90)) (.cells #[.int .u64 n,.string (bs b),.slice A m c] 56))
 have hKd:=(heap_alloc_old ((w.alloc (.cells #[.int .u8 98,.slice none 0 0] 90)).alloc (.cells #[.int .u64 n,.string (bs b),.slice A m c] 56)) (.cells #[.bool false,.string ⟨#[]⟩,.slice none 0 0] 86) (by simp;omega)).trans ((heap_alloc_old (w.alloc (.cells #[.int .u8 98,.slice none 0 0] 90)) (.cells #[.int .u64 n,.string (bs b),.slice A m c] 56) (by simp)).trans (heap_alloc_new w _))
 simp only [World.size_alloc] at hI hF hKd
 have HB:=Lib.hid hB
 have HI:=Lib.hid hI
 have HF:=Lib.hid hF
 have HK:=Lib.hid hKd
 clear hB hI hF hKd
 go_enter Tryz.func75,Tryz.ntmps75
 go_wp2_with fail
 have hbd:Below (((w.alloc (.cells #[.int .u8 98,.slice none 0 0] 90)).alloc (.cells #[.int .u64 n,.string (bs b),.slice A m c] 56)).alloc (.cells #[.bool false,.string ⟨#[]⟩,.slice none 0 0] 86)).heap.size (((w.alloc (.cells #[.int .u8 98,.slice none 0 0] 90)).alloc (.cells #[.int .u64 n,.string (bs b),.slice A m c] 56)).alloc (.cells #[.bool false,.string ⟨#[]⟩,.slice none 0 0] 86)) (((w.alloc (.cells #[.int .u8 98,.slice none 0 0] 90)).alloc (.cells #[.int .u64 n,.string (bs b),.slice A m c] 56)).alloc (.cells #[.bool false,.string ⟨#[]⟩,.slice none 0 0] 86)).drew:=(Below.refl _ _).drew
 have hKd:=(hbd.block _ (Array.getElem?_eq_some_iff.1 HK.out).1).trans HK.out
 have hF:=(hbd.block _ (Array.getElem?_eq_some_iff.1 HF.out).1).trans HF.out
 have hI:=(hbd.block _ (Array.getElem?_eq_some_iff.1 HI.out).1).trans HI.out
 have hB:=below_call HB.out HB.out.size hbd
 refine wp_region_R [(99,fun w'=>w'.heap[w.heap.size]? = some (.cells #[.int .u8 98,.slice none 0 0] 90 (0,0))∧w'.heap[w.heap.size+1]? = some (.cells #[.int .u64 n,.string (bs b),.slice A m c] 56 (0,0)))] (by kernel_rfl) ?_
 generalize (((w.alloc (.cells #[.int .u8 98,.slice none 0 0] 90)).alloc (.cells #[.int .u64 n,.string (bs b),.slice A m c] 56)).alloc (.cells #[.bool false,.string ⟨#[]⟩,.slice none 0 0] 86)).drew=w3 at hKd hF hI hB ⊢
 clear hbd HK HF HI HB
 refine R_p (i:=0) (v:=.pointer (some ⟨w.heap.size+1,1,none⟩)) (Meets.here ⟨hKd,hF⟩ Meets.nil) ?_
 refine R_l (i:=1) (v:=.string (bs b)) 99 _ List.mem_cons_self rfl (yieldsIf_load_cell rfl rfl rfl (fun w' hS=>rc hS.2 1 rfl) Tryz.underlying9 rfl) (Meets.here ⟨hKd,hF⟩ Meets.nil) ?_
 refine R_p (i:=2) (v:=.agg #[.bool false,.string (bs b),.slice none 0 0]) (Meets.here ⟨hKd,hF⟩ Meets.nil) ?_
 refine R_p (i:=3) (v:=.bool false) (Meets.here ⟨hKd,hF⟩ Meets.nil) ?_
 refine R_p (i:=4) (v:=.bool false) (Meets.here ⟨hKd,hF⟩ Meets.nil) ?_
 refine R_s (i:=5) (Meets.here ⟨hKd,hF⟩ Meets.nil) ?_
 refine R_s (i:=6) (Meets.here ⟨hKd,hF⟩ Meets.nil) ?_
 refine R_s (i:=7) (Meets.here ⟨hKd,hF⟩ Meets.nil) ?_
 refine R_s (i:=8) (Meets.here ⟨hKd,hF⟩ Meets.nil) ?_
 refine R_p (i:=9) (v:=.bool false) (Meets.here ⟨hKd,hF⟩ Meets.nil) ?_
 have d0:w3.cell? ⟨w.heap.size+1+1,0,none⟩=some (.bool false):=rc0 hI
 have d1:w3.cell? ⟨w.heap.size+1+1,1,none⟩=some (.string ⟨#[]⟩):=rc1 hI
 have d2:w3.cell? ⟨w.heap.size+1+1,2,none⟩=some (.slice none 0 0):=rc2 hI
 have f0:=rf hI 0
 have f1:=rf hI 1
 have f2:=rf hI 2
 refine R_now 10 fun K hK=>?_
 obtain ⟨W9,hW9⟩:∃ W9,W9=(((w3.setCell ⟨w.heap.size+1+1,0,none⟩ (.bool false)).setCell ⟨w.heap.size+1+1,1,none⟩ (.string (bs b))).setCell ⟨w.heap.size+1+1,2,none⟩ (.slice none 0 0)):=⟨_,rfl⟩
 have hI9:W9.heap[w.heap.size+1+1]? = some (.cells #[.bool false,.string (bs b),.slice none 0 0] 86 (0,0)):=by rw [hW9];exact heap_setCell_here (heap_setCell_here (heap_setCell_here hI _) _) _
 have hF9:W9.heap[w.heap.size+1]? = some (.cells #[.int .u64 n,.string (bs b),.slice A m c] 56 (0,0)):=by rw [hW9];exact (heap_set_ne (by omega) _).trans ((heap_set_ne (by omega) _).trans ((heap_set_ne (by omega) _).trans hF))
 have hKd9:W9.heap[w.heap.size]? = some (.cells #[.int .u8 98,.slice none 0 0] 90 (0,0)):=by rw [hW9];exact (heap_set_ne (by omega) _).trans ((heap_set_ne (by omega) _).trans ((heap_set_ne (by omega) _).trans hKd))
 have hB9:Below w.heap.size w W9:=by rw [hW9];exact ((hB.setCell (p:=⟨w.heap.size+1+1,_,_⟩) (by simp;omega) _).setCell (p:=⟨w.heap.size+1+1,_,_⟩) (by simp;omega) _).setCell (p:=⟨w.heap.size+1+1,_,_⟩) (by simp;omega) _
 have HI9:=Lib.hid hI9
 have HB9:=Lib.hid hB9
 clear hI9 hB9
 go_simp
 rw [← hW9]
 clear hW9 d0 d1 d2 f0 f1 f2
 refine hK.out _ _ (Meets.here ⟨hKd9,hF9⟩ Meets.nil) (fun hMeets=>?_)
 clear hK K hMeets
 refine lay_R ?_
 refine R_p (i:=11) (v:=.bool false) (Meets.here ⟨hKd9,hF9⟩ Meets.nil) ?_
 refine R_done (by kernel_rfl) ?_ _
 go_wp2_with fail
 exact bodyPost_ret (v:=.tuple #[.agg #[.bool false,.string (bs b),.slice none 0 0],.bool false]) (results_row_tmp rfl _ _ (w.heap.size+1+1) _ _ _ _ rfl HI9.out _ rfl Tryz.underlying86 rfl infoI) rfl ⟨rfl,HB9.out⟩
theorem item_s111 (ci:Int) (n:Int) (b:Bytes) (A:Option Addr) (m c:Nat) (hn:(n == 0)=true) (hm:((m:Int) == 0)=true) (h1:(ci == 110)=false) (h2:(ci == 98)=false) (h3:(ci == 40)=false) (h4:(ci == 42)=false) (sz:Nat) (HSZ:Hid (∀ w:World,Calls Tryz.prog 126 #[.int .u8 ci] w fun e w'=>e=.returned (.int .i64 sz)∧w=w')) (hl:((b.length:Int) == (sz:Int))=true) (w:World) :
  Calls Tryz.prog 75 #[.agg #[.int .u8 ci,.slice none 0 0],.agg #[.int .u64 n,.string (bs b),.slice A m c]] w fun e w'=>e=.returned (.tuple #[.agg #[.bool false,.string (bs b),.slice none 0 0],.bool true])∧Below w.heap.size w w':=by
 have hB:Below w.heap.size w (((w.alloc (.cells #[.int .u8 ci,.slice none 0 0] 90)).alloc (.cells #[.int .u64 n,.string (bs b),.slice A m c] 56)).alloc (.cells #[.bool false,.string ⟨#[]⟩,.slice none 0 0] 86)):=(((Below.refl _ _).alloc (Nat.le_refl _) _).alloc (by simp) _).alloc (by simp;omega) _
 have hI:=heap_alloc_new ((w.alloc (.cells #[.int .u8 ci,.slice none 0 0] 90)).alloc (.cells #[.int .u64 n,.string (bs b),.slice A m c] 56)) (.cells #[.bool false,.string ⟨#[]⟩,.slice none 0 0] 86)
 have hF:=(heap_alloc_old ((w.alloc (.cells #[.int .u8 ci,.slice none 0 0] 90)).alloc (.cells #[.int .u64 n,.string (bs b),.slice A m c] 56)) (.cells #[.bool false,.string ⟨#[]⟩,.slice none 0 0] 86) (by simp)).trans (heap_alloc_new (w.alloc (.cells #[.int .u8 ci,.slice none 0 0] 90)) (.cells #[.int .u64 n,.string (bs b),.slice A m c] 56))
 have hKd:=(heap_alloc_old ((w.alloc (.cells #[.int .u8 ci,.slice none 0 0] 90)).alloc (.cells #[.int .u64 n,.string (bs b),.slice A m c] 56)) (.cells #[.bool false,.string ⟨#[]⟩,.slice none 0 0] 86) (by simp;omega)).trans ((heap_alloc_old (w.alloc (.cells #[.int .u8 ci,.slice none 0 0] 90)) (.cells #[.int .u64 n,.string (bs b),.slice A m c] 56) (by simp)).trans (heap_alloc_new w _))
 simp only [World.size_alloc] at hI hF hKd
 have HB:=Lib.hid hB
 have HI:=Lib.hid hI
 have HF:=Lib.hid hF
 have HK:=Lib.hid hKd
 clear hB hI hF hKd
 go_enter Tryz.func75,Tryz.ntmps75
 go_wp2_with fail
 have hbd:Below (((w.alloc (.cells #[.int .u8 ci,.slice none 0 0] 90)).alloc (.cells #[.int .u64 n,.string (bs b),.slice A m c] 56)).alloc (.cells #[.bool false,.string ⟨#[]⟩,.slice none 0 0] 86)).heap.size (((w.alloc (.cells #[.int .u8 ci,.slice none 0 0] 90)).alloc (.cells #[.int .u64 n,.string (bs b),.slice A m c] 56)).alloc (.cells #[.bool false,.string ⟨#[]⟩,.slice none 0 0] 86)) (((w.alloc (.cells #[.int .u8 ci,.slice none 0 0] 90)).alloc (.cells #[.int .u64 n,.string (bs b),.slice A m c] 56)).alloc (.cells #[.bool false,.string ⟨#[]⟩,.slice none 0 0] 86)).drew:=(Below.refl _ _).drew
 have hKd:=(hbd.block _ (Array.getElem?_eq_some_iff.1 HK.out).1).trans HK.out
 have hF:=(hbd.block _ (Array.getElem?_eq_some_iff.1 HF.out).1).trans HF.out
 have hI:=(hbd.block _ (Array.getElem?_eq_some_iff.1 HI.out).1).trans HI.out
 have hB:=below_call HB.out HB.out.size hbd
 refine wp_region_R [(99,fun w'=>w'.heap[w.heap.size]? = some (.cells #[.int .u8 ci,.slice none 0 0] 90 (0,0))∧w'.heap[w.heap.size+1]? = some (.cells #[.int .u64 n,.string (bs b),.slice A m c] 56 (0,0)))] (by kernel_rfl) ?_
 generalize (((w.alloc (.cells #[.int .u8 ci,.slice none 0 0] 90)).alloc (.cells #[.int .u64 n,.string (bs b),.slice A m c] 56)).alloc (.cells #[.bool false,.string ⟨#[]⟩,.slice none 0 0] 86)).drew=w3 at hKd hF hI hB ⊢
 clear hbd HK HF HI HB
 refine R_p (i:=0) (v:=.pointer (some ⟨w.heap.size+1,1,none⟩)) (Meets.here ⟨hKd,hF⟩ Meets.nil) ?_
 refine R_l (i:=1) (v:=.string (bs b)) 99 _ List.mem_cons_self rfl (yieldsIf_load_cell rfl rfl rfl (fun w' hS=>rc hS.2 1 rfl) Tryz.underlying9 rfl) (Meets.here ⟨hKd,hF⟩ Meets.nil) ?_
 refine R_p (i:=2) (v:=.agg #[.bool false,.string (bs b),.slice none 0 0]) (Meets.here ⟨hKd,hF⟩ Meets.nil) ?_
 refine R_p (i:=3) (v:=.bool true) (Meets.here ⟨hKd,hF⟩ Meets.nil) ?_
 refine R_p (i:=4) (v:=.bool true) (Meets.here ⟨hKd,hF⟩ Meets.nil) ?_
 refine R_p (i:=5) (v:=.pointer (some ⟨w.heap.size+1,1,none⟩)) (Meets.here ⟨hKd,hF⟩ Meets.nil) ?_
 refine R_l (i:=6) (v:=.string (bs b)) 99 _ List.mem_cons_self rfl (yieldsIf_load_cell rfl rfl rfl (fun w' hS=>rc hS.2 1 rfl) Tryz.underlying9 rfl) (Meets.here ⟨hKd,hF⟩ Meets.nil) ?_
 refine R_p (i:=7) (v:=.int .i64 (b.length:Int)) (Meets.here ⟨hKd,hF⟩ Meets.nil) ?_
 refine R_p (i:=8) (v:=.pointer (some ⟨w.heap.size,0,none⟩)) (Meets.here ⟨hKd,hF⟩ Meets.nil) ?_
 refine R_l (i:=9) (v:=.int .u8 ci) 99 _ List.mem_cons_self rfl (yieldsIf_load_cell rfl rfl rfl (fun w' hS=>rc hS.1 0 rfl) Tryz.underlying5 rfl) (Meets.here ⟨hKd,hF⟩ Meets.nil) ?_
 refine R_now 10 fun K hK=>?_
 go_simp
 refine (HSZ.out _).mono ?_
 rintro e w4 ⟨rfl,rfl⟩
 refine hK.out _ _ (Meets.here ⟨hKd,hF⟩ Meets.nil) (fun hMeets=>?_)
 clear hK K hMeets
 refine lay_R ?_
 refine R_p (i:=11) (v:=.bool true) (Meets.here ⟨hKd,hF⟩ Meets.nil) ?_
 refine R_p (i:=12) (v:=.bool true) (Meets.here ⟨hKd,hF⟩ Meets.nil) ?_
 have d0:w3.cell? ⟨w.heap.size+1+1,0,none⟩=some (.bool false):=rc0 hI
 have d1:w3.cell? ⟨w.heap.size+1+1,1,none⟩=some (.string ⟨#[]⟩):=rc1 hI
 have d2:w3.cell? ⟨w.heap.size+1+1,2,none⟩=some (.slice none 0 0):=rc2 hI
 have f0:=rf hI 0
 have f1:=rf hI 1
 have f2:=rf hI 2
 refine R_now 13 fun K hK=>?_
 obtain ⟨W9,hW9⟩:∃ W9,W9=(((w3.setCell ⟨w.heap.size+1+1,0,none⟩ (.bool false)).setCell ⟨w.heap.size+1+1,1,none⟩ (.string (bs b))).setCell ⟨w.heap.size+1+1,2,none⟩ (.slice none 0 0)):=⟨_,rfl⟩
 have hI9:W9.heap[w.heap.size+1+1]? = some (.cells #[.bool false,.string (bs b),.slice none 0 0] 86 (0,0)):=by rw [hW9];exact heap_setCell_here (heap_setCell_here (heap_setCell_here hI _) _) _
 have hF9:W9.heap[w.heap.size+1]? = some (.cells #[.int .u64 n,.string (bs b),.slice A m c] 56 (0,0)):=by rw [hW9];exact (heap_set_ne (by omega) _).trans ((heap_set_ne (by omega) _).trans ((heap_set_ne (by omega) _).trans hF))
 have hKd9:W9.heap[w.heap.size]? = some (.cells #[.int .u8 ci,.slice none 0 0] 90 (0,0)):=by rw [hW9];exact (heap_set_ne (by omega) _).trans ((heap_set_ne (by omega) _).trans ((heap_set_ne (by omega) _).trans hKd))
 have hB9:Below w.heap.size w W9:=by rw [hW9];exact ((hB.setCell (p:=⟨w.heap.size+1+1,_,_⟩) (by simp;omega) _).setCell (p:=⟨w.heap.size+1+1,_,_⟩) (by simp;omega) _).setCell (p:=⟨w.heap.size+1+1,_,_⟩) (by simp;omega) _
 have HI9:=Lib.hid hI9
 have HB9:=Lib.hid hB9
 clear hI9 hB9
 go_simp
 rw [← hW9]
 clear hW9 d0 d1 d2 f0 f1 f2
 refine hK.out _ _ (Meets.here ⟨hKd9,hF9⟩ Meets.nil) (fun hMeets=>?_)
 clear hK K hMeets
 refine lay_R ?_
 refine R_p (i:=14) (v:=.bool true) (Meets.here ⟨hKd9,hF9⟩ Meets.nil) ?_
 refine R_done (by kernel_rfl) ?_ _
 go_wp2_with fail
 exact bodyPost_ret (v:=.tuple #[.agg #[.bool false,.string (bs b),.slice none 0 0],.bool true]) (results_row_tmp rfl _ _ (w.heap.size+1+1) _ _ _ _ rfl HI9.out _ rfl Tryz.underlying86 rfl infoI) rfl ⟨rfl,HB9.out⟩
theorem item_s110 (ci:Int) (n:Int) (b:Bytes) (A:Option Addr) (m c:Nat) (hn:(n == 0)=true) (hm:((m:Int) == 0)=true) (h1:(ci == 110)=false) (h2:(ci == 98)=false) (h3:(ci == 40)=false) (h4:(ci == 42)=false) (sz:Nat) (HSZ:Hid (∀ w:World,Calls Tryz.prog 126 #[.int .u8 ci] w fun e w'=>e=.returned (.int .i64 sz)∧w=w')) (hl:((b.length:Int) == (sz:Int))=false) (w:World) :
  Calls Tryz.prog 75 #[.agg #[.int .u8 ci,.slice none 0 0],.agg #[.int .u64 n,.string (bs b),.slice A m c]] w fun e w'=>e=.returned (.tuple #[.agg #[.bool false,.string (bs b),.slice none 0 0],.bool false])∧Below w.heap.size w w':=by
 have hB:Below w.heap.size w (((w.alloc (.cells #[.int .u8 ci,.slice none 0 0] 90)).alloc (.cells #[.int .u64 n,.string (bs b),.slice A m c] 56)).alloc (.cells #[.bool false,.string ⟨#[]⟩,.slice none 0 0] 86)):=(((Below.refl _ _).alloc (Nat.le_refl _) _).alloc (by simp) _).alloc (by simp;omega) _
 have hI:=heap_alloc_new ((w.alloc (.cells #[.int .u8 ci,.slice none 0 0] 90)).alloc (.cells #[.int .u64 n,.string (bs b),.slice A m c] 56)) (.cells #[.bool false,.string ⟨#[]⟩,.slice none 0 0] 86)
 have hF:=(heap_alloc_old ((w.alloc (.cells #[.int .u8 ci,.slice none 0 0] 90)).alloc (.cells #[.int .u64 n,.string (bs b),.slice A m c] 56)) (.cells #[.bool false,.string ⟨#[]⟩,.slice none 0 0] 86) (by simp)).trans (heap_alloc_new (w.alloc (.cells #[.int .u8 ci,.slice none 0 0] 90)) (.cells #[.int .u64 n,.string (bs b),.slice A m c] 56))
 have hKd:=(heap_alloc_old ((w.alloc (.cells #[.int .u8 ci,.slice none 0 0] 90)).alloc (.cells #[.int .u64 n,.string (bs b),.slice A m c] 56)) (.cells #[.bool false,.string ⟨#[]⟩,.slice none 0 0] 86) (by simp;omega)).trans ((heap_alloc_old (w.alloc (.cells #[.int .u8 ci,.slice none 0 0] 90)) (.cells #[.int .u64 n,.string (bs b),.slice A m c] 56) (by simp)).trans (heap_alloc_new w _))
 simp only [World.size_alloc] at hI hF hKd
 have HB:=Lib.hid hB
 have HI:=Lib.hid hI
 have HF:=Lib.hid hF
 have HK:=Lib.hid hKd
 clear hB hI hF hKd
 go_enter Tryz.func75,Tryz.ntmps75
 go_wp2_with fail
 have hbd:Below (((w.alloc (.cells #[.int .u8 ci,.slice none 0 0] 90)).alloc (.cells #[.int .u64 n,.string (bs b),.slice A m c] 56)).alloc (.cells #[.bool false,.string ⟨#[]⟩,.slice none 0 0] 86)).heap.size (((w.alloc (.cells #[.int .u8 ci,.slice none 0 0] 90)).alloc (.cells #[.int .u64 n,.string (bs b),.slice A m c] 56)).alloc (.cells #[.bool false,.string ⟨#[]⟩,.slice none 0 0] 86)) (((w.alloc (.cells #[.int .u8 ci,.slice none 0 0] 90)).alloc (.cells #[.int .u64 n,.string (bs b),.slice A m c] 56)).alloc (.cells #[.bool false,.string ⟨#[]⟩,.slice none 0 0] 86)).drew:=(Below.refl _ _).drew
 have hKd:=(hbd.block _ (Array.getElem?_eq_some_iff.1 HK.out).1).trans HK.out
 have hF:=(hbd.block _ (Array.getElem?_eq_some_iff.1 HF.out).1).trans HF.out
 have hI:=(hbd.block _ (Array.getElem?_eq_some_iff.1 HI.out).1).trans HI.out
 have hB:=below_call HB.out HB.out.size hbd
 refine wp_region_R [(99,fun w'=>w'.heap[w.heap.size]? = some (.cells #[.int .u8 ci,.slice none 0 0] 90 (0,0))∧w'.heap[w.heap.size+1]? = some (.cells #[.int .u64 n,.string (bs b),.slice A m c] 56 (0,0)))] (by kernel_rfl) ?_
 generalize (((w.alloc (.cells #[.int .u8 ci,.slice none 0 0] 90)).alloc (.cells #[.int .u64 n,.string (bs b),.slice A m c] 56)).alloc (.cells #[.bool false,.string ⟨#[]⟩,.slice none 0 0] 86)).drew=w3 at hKd hF hI hB ⊢
 clear hbd HK HF HI HB
 refine R_p (i:=0) (v:=.pointer (some ⟨w.heap.size+1,1,none⟩)) (Meets.here ⟨hKd,hF⟩ Meets.nil) ?_
 refine R_l (i:=1) (v:=.string (bs b)) 99 _ List.mem_cons_self rfl (yieldsIf_load_cell rfl rfl rfl (fun w' hS=>rc hS.2 1 rfl) Tryz.underlying9 rfl) (Meets.here ⟨hKd,hF⟩ Meets.nil) ?_
 refine R_p (i:=2) (v:=.agg #[.bool false,.string (bs b),.slice none 0 0]) (Meets.here ⟨hKd,hF⟩ Meets.nil) ?_
 refine R_p (i:=3) (v:=.bool true) (Meets.here ⟨hKd,hF⟩ Meets.nil) ?_
 refine R_p (i:=4) (v:=.bool true) (Meets.here ⟨hKd,hF⟩ Meets.nil) ?_
 refine R_p (i:=5) (v:=.pointer (some ⟨w.heap.size+1,1,none⟩)) (Meets.here ⟨hKd,hF⟩ Meets.nil) ?_
 refine R_l (i:=6) (v:=.string (bs b)) 99 _ List.mem_cons_self rfl (yieldsIf_load_cell rfl rfl rfl (fun w' hS=>rc hS.2 1 rfl) Tryz.underlying9 rfl) (Meets.here ⟨hKd,hF⟩ Meets.nil) ?_
 refine R_p (i:=7) (v:=.int .i64 (b.length:Int)) (Meets.here ⟨hKd,hF⟩ Meets.nil) ?_
 refine R_p (i:=8) (v:=.pointer (some ⟨w.heap.size,0,none⟩)) (Meets.here ⟨hKd,hF⟩ Meets.nil) ?_
 refine R_l (i:=9) (v:=.int .u8 ci) 99 _ List.mem_cons_self rfl (yieldsIf_load_cell rfl rfl rfl (fun w' hS=>rc hS.1 0 rfl) Tryz.underlying5 rfl) (Meets.here ⟨hKd,hF⟩ Meets.nil) ?_
 refine R_now 10 fun K hK=>?_
 go_simp
 refine (HSZ.out _).mono ?_
 rintro e w4 ⟨rfl,rfl⟩
 refine hK.out _ _ (Meets.here ⟨hKd,hF⟩ Meets.nil) (fun hMeets=>?_)
 clear hK K hMeets
 refine lay_R ?_
 refine R_p (i:=11) (v:=.bool false) (Meets.here ⟨hKd,hF⟩ Meets.nil) ?_
 refine R_p (i:=12) (v:=.bool false) (Meets.here ⟨hKd,hF⟩ Meets.nil) ?_
 have d0:w3.cell? ⟨w.heap.size+1+1,0,none⟩=some (.bool false):=rc0 hI
 have d1:w3.cell? ⟨w.heap.size+1+1,1,none⟩=some (.string ⟨#[]⟩):=rc1 hI
 have d2:w3.cell? ⟨w.heap.size+1+1,2,none⟩=some (.slice none 0 0):=rc2 hI
 have f0:=rf hI 0
 have f1:=rf hI 1
 have f2:=rf hI 2
 refine R_now 13 fun K hK=>?_
 obtain ⟨W9,hW9⟩:∃ W9,W9=(((w3.setCell ⟨w.heap.size+1+1,0,none⟩ (.bool false)).setCell ⟨w.heap.size+1+1,1,none⟩ (.string (bs b))).setCell ⟨w.heap.size+1+1,2,none⟩ (.slice none 0 0)):=⟨_,rfl⟩
 have hI9:W9.heap[w.heap.size+1+1]? = some (.cells #[.bool false,.string (bs b),.slice none 0 0] 86 (0,0)):=by rw [hW9];exact heap_setCell_here (heap_setCell_here (heap_setCell_here hI _) _) _
 have hF9:W9.heap[w.heap.size+1]? = some (.cells #[.int .u64 n,.string (bs b),.slice A m c] 56 (0,0)):=by rw [hW9];exact (heap_set_ne (by omega) _).trans ((heap_set_ne (by omega) _).trans ((heap_set_ne (by omega) _).trans hF))
 have hKd9:W9.heap[w.heap.size]? = some (.cells #[.int .u8 ci,.slice none 0 0] 90 (0,0)):=by rw [hW9];exact (heap_set_ne (by omega) _).trans ((heap_set_ne (by omega) _).trans ((heap_set_ne (by omega) _).trans hKd))
 have hB9:Below w.heap.size w W9:=by rw [hW9];exact ((hB.setCell (p:=⟨w.heap.size+1+1,_,_⟩) (by simp;omega) _).setCell (p:=⟨w.heap.size+1+1,_,_⟩) (by simp;omega) _).setCell (p:=⟨w.heap.size+1+1,_,_⟩) (by simp;omega) _
 have HI9:=Lib.hid hI9
 have HB9:=Lib.hid hB9
 clear hI9 hB9
 go_simp
 rw [← hW9]
 clear hW9 d0 d1 d2 f0 f1 f2
 refine hK.out _ _ (Meets.here ⟨hKd9,hF9⟩ Meets.nil) (fun hMeets=>?_)
 clear hK K hMeets
 refine lay_R ?_
 refine R_p (i:=14) (v:=.bool false) (Meets.here ⟨hKd9,hF9⟩ Meets.nil) ?_
 refine R_done (by kernel_rfl) ?_ _
 go_wp2_with fail
 exact bodyPost_ret (v:=.tuple #[.agg #[.bool false,.string (bs b),.slice none 0 0],.bool false]) (results_row_tmp rfl _ _ (w.heap.size+1+1) _ _ _ _ rfl HI9.out _ rfl Tryz.underlying86 rfl infoI) rfl ⟨rfl,HB9.out⟩
theorem item_s100 (ci:Int) (n:Int) (b:Bytes) (A:Option Addr) (m c:Nat) (hn:(n == 0)=true) (hm:((m:Int) == 0)=false) (h1:(ci == 110)=false) (h2:(ci == 98)=false) (h3:(ci == 40)=false) (h4:(ci == 42)=false) (w:World) :
  Calls Tryz.prog 75 #[.agg #[.int .u8 ci,.slice none 0 0],.agg #[.int .u64 n,.string (bs b),.slice A m c]] w fun e w'=>e=.returned (.tuple #[.agg #[.bool false,.string (bs b),.slice none 0 0],.bool false])∧Below w.heap.size w w':=by
 have hB:Below w.heap.size w (((w.alloc (.cells #[.int .u8 ci,.slice none 0 0] 90)).alloc (.cells #[.int .u64 n,.string (bs b),.slice A m c] 56)).alloc (.cells #[.bool false,.string ⟨#[]⟩,.slice none 0 0] 86)):=(((Below.refl _ _).alloc (Nat.le_refl _) _).alloc (by simp) _).alloc (by simp;omega) _
 have hI:=heap_alloc_new ((w.alloc (.cells #[.int .u8 ci,.slice none 0 0] 90)).alloc (.cells #[.int .u64 n,.string (bs b),.slice A m c] 56)) (.cells #[.bool false,.string ⟨#[]⟩,.slice none 0 0] 86)
 have hF:=(heap_alloc_old ((w.alloc (.cells #[.int .u8 ci,.slice none 0 0] 90)).alloc (.cells #[.int .u64 n,.string (bs b),.slice A m c] 56)) (.cells #[.bool false,.string ⟨#[]⟩,.slice none 0 0] 86) (by simp)).trans (heap_alloc_new (w.alloc (.cells #[.int .u8 ci,.slice none 0 0] 90)) (.cells #[.int .u64 n,.string (bs b),.slice A m c] 56))
 have hKd:=(heap_alloc_old ((w.alloc (.cells #[.int .u8 ci,.slice none 0 0] 90)).alloc (.cells #[.int .u64 n,.string (bs b),.slice A m c] 56)) (.cells #[.bool false,.string ⟨#[]⟩,.slice none 0 0] 86) (by simp;omega)).trans ((heap_alloc_old (w.alloc (.cells #[.int .u8 ci,.slice none 0 0] 90)) (.cells #[.int .u64 n,.string (bs b),.slice A m c] 56) (by simp)).trans (heap_alloc_new w _))
 simp only [World.size_alloc] at hI hF hKd
 have HB:=Lib.hid hB
 have HI:=Lib.hid hI
 have HF:=Lib.hid hF
 have HK:=Lib.hid hKd
 clear hB hI hF hKd
 go_enter Tryz.func75,Tryz.ntmps75
 go_wp2_with fail
 have hbd:Below (((w.alloc (.cells #[.int .u8 ci,.slice none 0 0] 90)).alloc (.cells #[.int .u64 n,.string (bs b),.slice A m c] 56)).alloc (.cells #[.bool false,.string ⟨#[]⟩,.slice none 0 0] 86)).heap.size (((w.alloc (.cells #[.int .u8 ci,.slice none 0 0] 90)).alloc (.cells #[.int .u64 n,.string (bs b),.slice A m c] 56)).alloc (.cells #[.bool false,.string ⟨#[]⟩,.slice none 0 0] 86)) (((w.alloc (.cells #[.int .u8 ci,.slice none 0 0] 90)).alloc (.cells #[.int .u64 n,.string (bs b),.slice A m c] 56)).alloc (.cells #[.bool false,.string ⟨#[]⟩,.slice none 0 0] 86)).drew:=(Below.refl _ _).drew
 have hKd:=(hbd.block _ (Array.getElem?_eq_some_iff.1 HK.out).1).trans HK.out
 have hF:=(hbd.block _ (Array.getElem?_eq_some_iff.1 HF.out).1).trans HF.out
 have hI:=(hbd.block _ (Array.getElem?_eq_some_iff.1 HI.out).1).trans HI.out
 have hB:=below_call HB.out HB.out.size hbd
 refine wp_region_R [(99,fun w'=>w'.heap[w.heap.size]? = some (.cells #[.int .u8 ci,.slice none 0 0] 90 (0,0))∧w'.heap[w.heap.size+1]? = some (.cells #[.int .u64 n,.string (bs b),.slice A m c] 56 (0,0)))] (by kernel_rfl) ?_
 generalize (((w.alloc (.cells #[.int .u8 ci,.slice none 0 0] 90)).alloc (.cells #[.int .u64 n,.string (bs b),.slice A m c] 56)).alloc (.cells #[.bool false,.string ⟨#[]⟩,.slice none 0 0] 86)).drew=w3 at hKd hF hI hB ⊢
 clear hbd HK HF HI HB
 refine R_p (i:=0) (v:=.pointer (some ⟨w.heap.size+1,1,none⟩)) (Meets.here ⟨hKd,hF⟩ Meets.nil) ?_
 refine R_l (i:=1) (v:=.string (bs b)) 99 _ List.mem_cons_self rfl (yieldsIf_load_cell rfl rfl rfl (fun w' hS=>rc hS.2 1 rfl) Tryz.underlying9 rfl) (Meets.here ⟨hKd,hF⟩ Meets.nil) ?_
 refine R_p (i:=2) (v:=.agg #[.bool false,.string (bs b),.slice none 0 0]) (Meets.here ⟨hKd,hF⟩ Meets.nil) ?_
 refine R_p (i:=3) (v:=.bool false) (Meets.here ⟨hKd,hF⟩ Meets.nil) ?_
 refine R_p (i:=4) (v:=.bool false) (Meets.here ⟨hKd,hF⟩ Meets.nil) ?_
 refine R_s (i:=5) (Meets.here ⟨hKd,hF⟩ Meets.nil) ?_
 refine R_s (i:=6) (Meets.here ⟨hKd,hF⟩ Meets.nil) ?_
 refine R_s (i:=7) (Meets.here ⟨hKd,hF⟩ Meets.nil) ?_
 refine R_s (i:=8) (Meets.here ⟨hKd,hF⟩ Meets.nil) ?_
 refine R_s (i:=9) (Meets.here ⟨hKd,hF⟩ Meets.nil) ?_
 refine R_s (i:=10) (Meets.here ⟨hKd,hF⟩ Meets.nil) ?_
 refine R_s (i:=11) (Meets.here ⟨hKd,hF⟩ Meets.nil) ?_
 refine R_p (i:=12) (v:=.bool false) (Meets.here ⟨hKd,hF⟩ Meets.nil) ?_
 have d0:w3.cell? ⟨w.heap.size+1+1,0,none⟩=some (.bool false):=rc0 hI
 have d1:w3.cell? ⟨w.heap.size+1+1,1,none⟩=some (.string ⟨#[]⟩):=rc1 hI
 have d2:w3.cell? ⟨w.heap.size+1+1,2,none⟩=some (.slice none 0 0):=rc2 hI
 have f0:=rf hI 0
 have f1:=rf hI 1
 have f2:=rf hI 2
 refine R_now 13 fun K hK=>?_
 obtain ⟨W9,hW9⟩:∃ W9,W9=(((w3.setCell ⟨w.heap.size+1+1,0,none⟩ (.bool false)).setCell ⟨w.heap.size+1+1,1,none⟩ (.string (bs b))).setCell ⟨w.heap.size+1+1,2,none⟩ (.slice none 0 0)):=⟨_,rfl⟩
 have hI9:W9.heap[w.heap.size+1+1]? = some (.cells #[.bool false,.string (bs b),.slice none 0 0] 86 (0,0)):=by rw [hW9];exact heap_setCell_here (heap_setCell_here (heap_setCell_here hI _) _) _
 have hF9:W9.heap[w.heap.size+1]? = some (.cells #[.int .u64 n,.string (bs b),.slice A m c] 56 (0,0)):=by rw [hW9];exact (heap_set_ne (by omega) _).trans ((heap_set_ne (by omega) _).trans ((heap_set_ne (by omega) _).trans hF))
 have hKd9:W9.heap[w.heap.size]? = some (.cells #[.int .u8 ci,.slice none 0 0] 90 (0,0)):=by rw [hW9];exact (heap_set_ne (by omega) _).trans ((heap_set_ne (by omega) _).trans ((heap_set_ne (by omega) _).trans hKd))
 have hB9:Below w.heap.size w W9:=by rw [hW9];exact ((hB.setCell (p:=⟨w.heap.size+1+1,_,_⟩) (by simp;omega) _).setCell (p:=⟨w.heap.size+1+1,_,_⟩) (by simp;omega) _).setCell (p:=⟨w.heap.size+1+1,_,_⟩) (by simp;omega) _
 have HI9:=Lib.hid hI9
 have HB9:=Lib.hid hB9
 clear hI9 hB9
 go_simp
 rw [← hW9]
 clear hW9 d0 d1 d2 f0 f1 f2
 refine hK.out _ _ (Meets.here ⟨hKd9,hF9⟩ Meets.nil) (fun hMeets=>?_)
 clear hK K hMeets
 refine lay_R ?_
 refine R_p (i:=14) (v:=.bool false) (Meets.here ⟨hKd9,hF9⟩ Meets.nil) ?_
 refine R_done (by kernel_rfl) ?_ _
 go_wp2_with fail
 exact bodyPost_ret (v:=.tuple #[.agg #[.bool false,.string (bs b),.slice none 0 0],.bool false]) (results_row_tmp rfl _ _ (w.heap.size+1+1) _ _ _ _ rfl HI9.out _ rfl Tryz.underlying86 rfl infoI) rfl ⟨rfl,HB9.out⟩
theorem item_s000 (ci:Int) (n:Int) (b:Bytes) (A:Option Addr) (m c:Nat) (hn:(n == 0)=false) (h1:(ci == 110)=false) (h2:(ci == 98)=false) (h3:(ci == 40)=false) (h4:(ci == 42)=false) (w:World) :
  Calls Tryz.prog 75 #[.agg #[.int .u8 ci,.slice none 0 0],.agg #[.int .u64 n,.string (bs b),.slice A m c]] w fun e w'=>e=.returned (.tuple #[.agg #[.bool false,.string (bs b),.slice none 0 0],.bool false])∧Below w.heap.size w w':=by
 have hB:Below w.heap.size w (((w.alloc (.cells #[.int .u8 ci,.slice none 0 0] 90)).alloc (.cells #[.int .u64 n,.string (bs b),.slice A m c] 56)).alloc (.cells #[.bool false,.string ⟨#[]⟩,.slice none 0 0] 86)):=(((Below.refl _ _).alloc (Nat.le_refl _) _).alloc (by simp) _).alloc (by simp;omega) _
 have hI:=heap_alloc_new ((w.alloc (.cells #[.int .u8 ci,.slice none 0 0] 90)).alloc (.cells #[.int .u64 n,.string (bs b),.slice A m c] 56)) (.cells #[.bool false,.string ⟨#[]⟩,.slice none 0 0] 86)
 have hF:=(heap_alloc_old ((w.alloc (.cells #[.int .u8 ci,.slice none 0 0] 90)).alloc (.cells #[.int .u64 n,.string (bs b),.slice A m c] 56)) (.cells #[.bool false,.string ⟨#[]⟩,.slice none 0 0] 86) (by simp)).trans (heap_alloc_new (w.alloc (.cells #[.int .u8 ci,.slice none 0 0] 90)) (.cells #[.int .u64 n,.string (bs b),.slice A m c] 56))
 have hKd:=(heap_alloc_old ((w.alloc (.cells #[.int .u8 ci,.slice none 0 0] 90)).alloc (.cells #[.int .u64 n,.string (bs b),.slice A m c] 56)) (.cells #[.bool false,.string ⟨#[]⟩,.slice none 0 0] 86) (by simp;omega)).trans ((heap_alloc_old (w.alloc (.cells #[.int .u8 ci,.slice none 0 0] 90)) (.cells #[.int .u64 n,.string (bs b),.slice A m c] 56) (by simp)).trans (heap_alloc_new w _))
 simp only [World.size_alloc] at hI hF hKd
 have HB:=Lib.hid hB
 have HI:=Lib.hid hI
 have HF:=Lib.hid hF
 have HK:=Lib.hid hKd
 clear hB hI hF hKd
 go_enter Tryz.func75,Tryz.ntmps75
 go_wp2_with fail
 have hbd:Below (((w.alloc (.cells #[.int .u8 ci,.slice none 0 0] 90)).alloc (.cells #[.int .u64 n,.string (bs b),.slice A m c] 56)).alloc (.cells #[.bool false,.string ⟨#[]⟩,.slice none 0 0] 86)).heap.size (((w.alloc (.cells #[.int .u8 ci,.slice none 0 0] 90)).alloc (.cells #[.int .u64 n,.string (bs b),.slice A m c] 56)).alloc (.cells #[.bool false,.string ⟨#[]⟩,.slice none 0 0] 86)) (((w.alloc (.cells #[.int .u8 ci,.slice none 0 0] 90)).alloc (.cells #[.int .u64 n,.string (bs b),.slice A m c] 56)).alloc (.cells #[.bool false,.string ⟨#[]⟩,.slice none 0 0] 86)).drew:=(Below.refl _ _).drew
 have hKd:=(hbd.block _ (Array.getElem?_eq_some_iff.1 HK.out).1).trans HK.out
 have hF:=(hbd.block _ (Array.getElem?_eq_some_iff.1 HF.out).1).trans HF.out
 have hI:=(hbd.block _ (Array.getElem?_eq_some_iff.1 HI.out).1).trans HI.out
 have hB:=below_call HB.out HB.out.size hbd
 refine wp_region_R [(99,fun w'=>w'.heap[w.heap.size]? = some (.cells #[.int .u8 ci,.slice none 0 0] 90 (0,0))∧w'.heap[w.heap.size+1]? = some (.cells #[.int .u64 n,.string (bs b),.slice A m c] 56 (0,0)))] (by kernel_rfl) ?_
 generalize (((w.alloc (.cells #[.int .u8 ci,.slice none 0 0] 90)).alloc (.cells #[.int .u64 n,.string (bs b),.slice A m c] 56)).alloc (.cells #[.bool false,.string ⟨#[]⟩,.slice none 0 0] 86)).drew=w3 at hKd hF hI hB ⊢
 clear hbd HK HF HI HB
 refine R_p (i:=0) (v:=.pointer (some ⟨w.heap.size+1,1,none⟩)) (Meets.here ⟨hKd,hF⟩ Meets.nil) ?_
 refine R_l (i:=1) (v:=.string (bs b)) 99 _ List.mem_cons_self rfl (yieldsIf_load_cell rfl rfl rfl (fun w' hS=>rc hS.2 1 rfl) Tryz.underlying9 rfl) (Meets.here ⟨hKd,hF⟩ Meets.nil) ?_
 refine R_p (i:=2) (v:=.agg #[.bool false,.string (bs b),.slice none 0 0]) (Meets.here ⟨hKd,hF⟩ Meets.nil) ?_
 refine R_p (i:=3) (v:=.bool false) (Meets.here ⟨hKd,hF⟩ Meets.nil) ?_
 refine R_p (i:=4) (v:=.bool false) (Meets.here ⟨hKd,hF⟩ Meets.nil) ?_
 refine R_s (i:=5) (Meets.here ⟨hKd,hF⟩ Meets.nil) ?_
 refine R_s (i:=6) (Meets.here ⟨hKd,hF⟩ Meets.nil) ?_
 refine R_s (i:=7) (Meets.here ⟨hKd,hF⟩ Meets.nil) ?_
 refine R_s (i:=8) (Meets.here ⟨hKd,hF⟩ Meets.nil) ?_
 refine R_s (i:=9) (Meets.here ⟨hKd,hF⟩ Meets.nil) ?_
 refine R_s (i:=10) (Meets.here ⟨hKd,hF⟩ Meets.nil) ?_
 refine R_s (i:=11) (Meets.here ⟨hKd,hF⟩ Meets.nil) ?_
 refine R_p (i:=12) (v:=.bool false) (Meets.here ⟨hKd,hF⟩ Meets.nil) ?_
 have d0:w3.cell? ⟨w.heap.size+1+1,0,none⟩=some (.bool false):=rc0 hI
 have d1:w3.cell? ⟨w.heap.size+1+1,1,none⟩=some (.string ⟨#[]⟩):=rc1 hI
 have d2:w3.cell? ⟨w.heap.size+1+1,2,none⟩=some (.slice none 0 0):=rc2 hI
 have f0:=rf hI 0
 have f1:=rf hI 1
 have f2:=rf hI 2
 refine R_now 13 fun K hK=>?_
 obtain ⟨W9,hW9⟩:∃ W9,W9=(((w3.setCell ⟨w.heap.size+1+1,0,none⟩ (.bool false)).setCell ⟨w.heap.size+1+1,1,none⟩ (.string (bs b))).setCell ⟨w.heap.size+1+1,2,none⟩ (.slice none 0 0)):=⟨_,rfl⟩
 have hI9:W9.heap[w.heap.size+1+1]? = some (.cells #[.bool false,.string (bs b),.slice none 0 0] 86 (0,0)):=by rw [hW9];exact heap_setCell_here (heap_setCell_here (heap_setCell_here hI _) _) _
 have hF9:W9.heap[w.heap.size+1]? = some (.cells #[.int .u64 n,.string (bs b),.slice A m c] 56 (0,0)):=by rw [hW9];exact (heap_set_ne (by omega) _).trans ((heap_set_ne (by omega) _).trans ((heap_set_ne (by omega) _).trans hF))
 have hKd9:W9.heap[w.heap.size]? = some (.cells #[.int .u8 ci,.slice none 0 0] 90 (0,0)):=by rw [hW9];exact (heap_set_ne (by omega) _).trans ((heap_set_ne (by omega) _).trans ((heap_set_ne (by omega) _).trans hKd))
 have hB9:Below w.heap.size w W9:=by rw [hW9];exact ((hB.setCell (p:=⟨w.heap.size+1+1,_,_⟩) (by simp;omega) _).setCell (p:=⟨w.heap.size+1+1,_,_⟩) (by simp;omega) _).setCell (p:=⟨w.heap.size+1+1,_,_⟩) (by simp;omega) _
 have HI9:=Lib.hid hI9
 have HB9:=Lib.hid hB9
 clear hI9 hB9
 go_simp
 rw [← hW9]
 clear hW9 d0 d1 d2 f0 f1 f2
 refine hK.out _ _ (Meets.here ⟨hKd9,hF9⟩ Meets.nil) (fun hMeets=>?_)
 clear hK K hMeets
 refine lay_R ?_
 refine R_p (i:=14) (v:=.bool false) (Meets.here ⟨hKd9,hF9⟩ Meets.nil) ?_
 refine R_done (by kernel_rfl) ?_ _
 go_wp2_with fail
 exact bodyPost_ret (v:=.tuple #[.agg #[.bool false,.string (bs b),.slice none 0 0],.bool false]) (results_row_tmp rfl _ _ (w.heap.size+1+1) _ _ _ _ rfl HI9.out _ rfl Tryz.underlying86 rfl infoI) rfl ⟨rfl,HB9.out⟩
/- The walk of frame.items at a list of plain fields. -/
/-- behind an item of a field: what it is if it fits -/
def FitPost (x:Item) (ok:Bool) (w:World) (e:Ending) (w':World):Prop :=
 ∃ y A c,e=.returned (.tuple #[.agg #[.bool y.l,.string (bs y.b),.slice A y.ks.length c],.bool ok])∧ItemV (From w.heap.size) w' y A c∧(ok=true→y=x)∧Below w.heap.size w w'
theorem item_plain_any (c:UInt8) (hc:okC c) (n:Nat) (hn:n < 18446744073709551616) (b:Bytes) (A:Option Addr) (m cf:Nat) (w:World) :
  Calls Tryz.prog 75 #[.agg (cellK c).toArray,.agg #[.int .u64 (n:Int),.string (bs b),.slice A m cf]] w (FitPost (lfI c (n,b)) (m == 0 && fitC c (n,b)) w):=by
 have key:∀ (s:Bytes) (ok:Bool),lfI c (n,b)=leafIt s→(m == 0 && fitC c (n,b))=ok →
   Calls Tryz.prog 75 #[.agg (cellK c).toArray,.agg #[.int .u64 (n:Int),.string (bs b),.slice A m cf]] w (fun e w'=>e=.returned (.tuple #[.agg #[.bool false,.string (bs s),.slice none 0 0],.bool ok])∧Below w.heap.size w w') →
   Calls Tryz.prog 75 #[.agg (cellK c).toArray,.agg #[.int .u64 (n:Int),.string (bs b),.slice A m cf]] w (FitPost (lfI c (n,b)) (m == 0 && fitC c (n,b)) w):=by
  intro s ok h1 h2 h
  refine h.mono ?_
  rintro e w' ⟨rfl,hb⟩
  rw [h1,h2]
  exact ⟨leafIt s,none,0,rfl,ItemV.leaf s false,fun _=>rfl,hb⟩
 have hnB:((n:Int) == 0)=(n == 0):=by rw [Bool.eq_iff_iff];simp
 have hmB:((m:Int) == 0)=(m == 0):=by rw [Bool.eq_iff_iff];simp
 by_cases h110:c=110
 ·subst h110
  refine key (digs n) (m == 0 && b.isEmpty) (by simp [lfI]) (by simp [fitC]) ?_
  have hi:(n:Int).toNat=n:=by simp
  have h0:(0:Int)≤n:=by omega
  have h64:(n:Int) < 18446744073709551616:=by omega
  cases hA:(n == 0) <;> cases hB:(m == 0) <;> cases hC:b.isEmpty
  ·have:=item_n000 n b A m cf h0 h64 (by rw [hnB,hA]) (by rw [hmB,hB]) (by cases b <;> simp_all) w;rwa [hi] at this
  ·have:=item_n001 n b A m cf h0 h64 (by rw [hnB,hA]) (by rw [hmB,hB]) (by cases b <;> simp_all) w;rwa [hi] at this
  ·have:=item_n010 n b A m cf h0 h64 (by rw [hnB,hA]) (by rw [hmB,hB]) (by cases b <;> simp_all) w;rwa [hi] at this
  ·have:=item_n011 n b A m cf h0 h64 (by rw [hnB,hA]) (by rw [hmB,hB]) (by cases b <;> simp_all) w;rwa [hi] at this
  ·have:=item_n100 n b A m cf h0 h64 (by rw [hnB,hA]) (by rw [hmB,hB]) (by cases b <;> simp_all) w;rwa [hi] at this
  ·have:=item_n101 n b A m cf h0 h64 (by rw [hnB,hA]) (by rw [hmB,hB]) (by cases b <;> simp_all) w;rwa [hi] at this
  ·have:=item_n110 n b A m cf h0 h64 (by rw [hnB,hA]) (by rw [hmB,hB]) (by cases b <;> simp_all) w;rwa [hi] at this
  ·have:=item_n111 n b A m cf h0 h64 (by rw [hnB,hA]) (by rw [hmB,hB]) (by cases b <;> simp_all) w;rwa [hi] at this
 ·have hl:lfI c (n,b)=leafIt b:=by simp [lfI,h110]
  by_cases h98:c=98
  ·subst h98
   have hf:fitC 98 (n,b)=((n == 0) && decide (b.length≤64)):=by simp [fitC]
   rcases Bool.eq_false_or_eq_true (n == 0) with hA | hA
   ·rcases Bool.eq_false_or_eq_true (m == 0) with hB | hB
    ·by_cases h64:b.length≤64
     ·exact key b true hl (by rw [hf,hA,hB];simp [h64]) (item_b111 n b A m cf (by rw [hnB,hA]) (by rw [hmB,hB]) (by omega) w)
     ·exact key b false hl (by rw [hf,hA,hB];simp;omega) (item_b110 n b A m cf (by rw [hnB,hA]) (by rw [hmB,hB]) (by omega) w)
    ·exact key b false hl (by rw [hB];rfl) (item_b100 n b A m cf (by rw [hnB,hA]) (by rw [hmB,hB]) w)
   ·exact key b false hl (by rw [hf,hA];simp) (item_b000 n b A m cf (by rw [hnB,hA]) w)
  ·have h3:c=104∨c=97∨c=115:=by
    rcases hc with h | h | h | h | h
    ·exact absurd h h110
    ·exact .inl h
    ·exact .inr (.inl h)
    ·exact .inr (.inr h)
    ·exact absurd h h98
   have hf:fitC c (n,b)=((n == 0) && b.length == sizeC c):=by simp [fitC,h110,h98]
   have hS:=Lib.hid (fun w:World=>(sizes_any c h3 w).mono (R':=fun e w'=>e=.returned (.int .i64 (sizeC c:Nat))∧w=w') fun e w' h=>⟨h.1,h.2.symm⟩)
   have hq:((c.toNat:Int) == 110)=false∧((c.toNat:Int) == 98)=false∧((c.toNat:Int) == 40)=false∧((c.toNat:Int) == 42)=false:=by
    rcases h3 with rfl | rfl | rfl <;> decide
   have hsB:((b.length:Int) == (sizeC c:Int))=(b.length == sizeC c):=by rw [Bool.eq_iff_iff];simp only [beq_iff_eq];omega
   rcases Bool.eq_false_or_eq_true (n == 0) with hA | hA
   ·rcases Bool.eq_false_or_eq_true (m == 0) with hB | hB
    ·rcases Bool.eq_false_or_eq_true (b.length == sizeC c) with hD | hD
     ·exact key b true hl (by rw [hf,hA,hB,hD];rfl) (item_s111 c.toNat n b A m cf (by rw [hnB,hA]) (by rw [hmB,hB]) hq.1 hq.2.1 hq.2.2.1 hq.2.2.2 _ hS (by rw [hsB,hD]) w)
     ·exact key b false hl (by rw [hf,hA,hB,hD];rfl) (item_s110 c.toNat n b A m cf (by rw [hnB,hA]) (by rw [hmB,hB]) hq.1 hq.2.1 hq.2.2.1 hq.2.2.2 _ hS (by rw [hsB,hD]) w)
    ·exact key b false hl (by rw [hB];rfl) (item_s100 c.toNat n b A m cf (by rw [hnB,hA]) (by rw [hmB,hB]) hq.1 hq.2.1 hq.2.2.1 hq.2.2.2 w)
   ·exact key b false hl (by rw [hf,hA];simp) (item_s000 c.toNat n b A m cf (by rw [hnB,hA]) hq.1 hq.2.1 hq.2.2.1 hq.2.2.2 w)
/- The walk of frame.items. -/
theorem kinds_at {S:Nat→Prop} {w:World} {ks:List Kd} {A:Option Addr} {c i:Nat} {k:Kd} (h:KindsV S w ks A c) (hi:ks[i]? = some k) :
  ∃ g o s A1 n1 c1,A=some ⟨g,o,none⟩∧Rep S w (kdD k) [.int .u8 s,.slice A1 n1 c1]∧w.cell? ⟨g,o+i * 2,none⟩=some (.int .u8 s)∧w.cell? ⟨g,o+i * 2+1,none⟩=some (.slice A1 n1 c1):=by
 obtain ⟨g,o,ci,hA,hs,r1,r2,r3⟩:=Rep.slice_at h (by omega) (i:=i) (d:=kdD k) (by unfold kindsD;rw [List.getElem?_map,hi];rfl)
 obtain ⟨n,A1,m,c1,rfl⟩:=kd_len r1
 exact ⟨g,o,n,A1,m,c1,hA,r1,by simpa using r3 0 _ rfl,by simpa [Nat.add_assoc] using r3 1 _ rfl⟩
theorem items_star (fs:List Fd) (it:Nat→Item) (ok:Nat→Bool) (kc:UInt8) (kd:Nat→Kd) (hkd:∀ i,kd i=⟨kc,false⟩) (Ak:Option Addr) (ck:Nat) (A:Option Addr) (c:Nat) (w:World) (hkv:∀ W:World,Below w.heap.size w W→∃ gk og,Ak=some ⟨gk,og,none⟩∧W.cell? ⟨gk,og,none⟩=some (.int .u8 kc.toNat)∧W.cell? ⟨gk,og+1,none⟩=some (.slice none 0 0)) (hv:FdsV Any w fs A c)
  (hit:∀ (i:Nat) (f:Fd) (s:Int) (A1:Option Addr) (n1 c1:Nat) (A2:Option Addr) (c2:Nat) (W:World),fs[i]? = some f→Rep Any W (kdD (kd i)) [.int .u8 s,.slice A1 n1 c1]→LfsV Any W f.l A2 c2 →
   Calls Tryz.prog 75 #[.agg #[.int .u8 s,.slice A1 n1 c1],.agg (fdC f A2 c2).toArray] W (FitPost (it i) (ok i) W)) :
  Calls Tryz.prog 41 #[.agg #[.int .u8 42,.slice Ak 1 ck],.slice A fs.length c] w (FitPost (listIt ((List.range fs.length).map it)) (decide (fs.length≤40) && (List.range fs.length).all ok) w):=by
 obtain ⟨OK,hOK⟩:∃ OK,(decide (fs.length≤40) && (List.range fs.length).all ok)=OK:=⟨_,rfl⟩
 rw [hOK]
 have HOK:=Lib.hid hOK
 have hb:Below w.heap.size w ((w.alloc (.cells #[.int .u8 42,.slice Ak 1 ck] 90)).alloc (.cells #[.bool false,.string ⟨#[]⟩,.slice none 0 0] 86)):=((Below.refl _ _).alloc (Nat.le_refl _) _).alloc (by simp) _
 have hr:=heap_alloc_new (w.alloc (.cells #[.int .u8 42,.slice Ak 1 ck] 90)) (.cells #[.bool false,.string ⟨#[]⟩,.slice none 0 0] 86)
 have hk0:=(heap_alloc_old (w.alloc (.cells #[.int .u8 42,.slice Ak 1 ck] 90)) (.cells #[.bool false,.string ⟨#[]⟩,.slice none 0 0] 86) (by simp)).trans (heap_alloc_new w (.cells #[.int .u8 42,.slice Ak 1 ck] 90))
 simp only [World.size_alloc] at hr
 have hsz:((w.alloc (.cells #[.int .u8 42,.slice Ak 1 ck] 90)).alloc (.cells #[.bool false,.string ⟨#[]⟩,.slice none 0 0] 86)).heap.size=w.heap.size+2:=by simp
 have HB:=Lib.hid hb
 have HR:=Lib.hid hr
 have HKB:=Lib.hid hk0
 have HV:=Lib.hid hv
 have HIT:=Lib.hid hit
 have HKV:=Lib.hid hkv
 have HSZ:=Lib.hid hsz
 clear hOK hb hr hk0 hv hit hkv hsz
 by_cases hlen:fs.length≤40
 case neg =>
  have hok:OK=false:=by rw [← HOK.out];simp [hlen]
  have hlI:(40:Int) < fs.length:=by omega
  clear HIT HV HKV HKB HSZ hlen
  go_enter Tryz.func41,Tryz.ntmps41
  go_wp2_with fail
  refine bodyPost_ret (v:=.tuple #[.agg #[.bool false,.string ⟨#[]⟩,.slice none 0 0],.bool false]) (results_row_tmp rfl _ _ (w.heap.size+1) _ _ _ _ rfl HR.out _ rfl Tryz.underlying86 rfl infoI) rfl ?_
  rw [hok]
  exact ⟨leafIt [],none,0,rfl,ItemV.leaf [] false,(fun h=>by cases h),HB.out⟩
 have hlI:¬ (40:Int) < fs.length:=by omega
 have hOKi:Hid (OK=((List.range fs.length).all ok)):=Lib.hid (by rw [← HOK.out];simp [hlen])
 have hfl:fs.length≤1000:=by omega
 clear HOK hlen
 go_enter Tryz.func41,Tryz.ntmps41
 go_wp2_with fail
 refine (List_any none 0 0 _).mono ?_
 rintro e w1 ⟨rfl,hb1⟩
 have hR1:=(hb1.block _ (Array.getElem?_eq_some_iff.1 HR.out).1).trans HR.out
 have hK1:=(hb1.block _ (Array.getElem?_eq_some_iff.1 HKB.out).1).trans HKB.out
 have hB1:=below_call HB.out HB.out.size hb1
 have hw1:w.heap.size+2≤w1.heap.size:=by rw [← HSZ.out];exact hb1.size
 have hba:Below w1.heap.size w1 (w1.alloc (.cells #[.bool true,.string (bs []),.slice none 0 0] 86)):=(Below.refl _ _).alloc (Nat.le_refl _) _
 have HX2:=Lib.hid (heap_alloc_new w1 (.cells #[.bool true,.string (bs []),.slice none 0 0] 86))
 have HR2:=Lib.hid ((hba.block _ (Array.getElem?_eq_some_iff.1 hR1).1).trans hR1)
 have HK2:=Lib.hid ((hba.block _ (Array.getElem?_eq_some_iff.1 hK1).1).trans hK1)
 have HB2:=Lib.hid (below_call hB1 hB1.size hba)
 clear hR1 hK1 hB1 hba hb1 HB HR HKB HSZ
 go_wp2_with fail
 obtain ⟨X,hXe⟩:∃ X,w1.heap.size=X:=⟨_,rfl⟩
 have hX0:=HX2.out
 rw [hXe] at hw1 hX0 ⊢
 have HX0:=Lib.hid hX0
 clear hX0 HX2
 go_loopw [37] (fun a wr=>∃ (i:Nat) (ys:List Value) (u:Value),a=.int .i64 i∧i≤fs.length∧Hid ((List.range i).all ok=true)∧wr.heap[X]? = some (.cells #[.bool true,.string (bs []),u] 86 (0,0))∧wr.heap[w.heap.size+1]? = some (.cells #[.bool false,.string ⟨#[]⟩,.slice none 0 0] 86 (0,0))∧wr.heap[w.heap.size]? = some (.cells #[.int .u8 42,.slice Ak 1 ck] 90 (0,0)) ∧
   wr.ownsRow (X+1) 86 3 u i ys∧RepN (RowS (X+1) u) wr 3 (itemsD ((List.range i).map it)) ys∧Below w.heap.size w wr) (fun a _=>fs.length - (intOf a).toNat)
 case atStart=>exact ⟨0,[],_,rfl,Nat.zero_le _,Lib.hid rfl,HX0.out,HR2.out,HK2.out,World.ownsRow_nil _ _ _ _,.nil,HB2.out⟩
 case round =>
  clear HX0 HR2 HK2 HB2
  obtain ⟨i,ys,u,rfl,hi,hall,hX,hR,hKd,hown,hrep,hB⟩:=hrel
  obtain ⟨A',c',rfl⟩:=own_form hown
  have hXl:=(Array.getElem?_eq_some_iff.1 hX).1
  by_cases hlt:i < fs.length
  ·obtain ⟨f,hf⟩:=getElem_ex hlt
   obtain ⟨g,o,A2,c2,rfl,_,hlv,hcf⟩:=fds_at (HV.out.keep hB) hf
   have hltI:(i:Int) < fs.length:=by omega
   have q0:=hcf 0 _ rfl
   have q1:=hcf 1 _ rfl
   have q2:=hcf 2 _ rfl
   simp only [Nat.add_zero] at q0
   have k0:wr.cell? ⟨w.heap.size,0,none⟩=some (.int .u8 42):=rc hKd 0 rfl
   have k1:wr.cell? ⟨w.heap.size,1,none⟩=some (.slice Ak 1 ck):=rc hKd 1 rfl
   obtain ⟨gk,og,hgk⟩:∃ gk og,Ak=some ⟨gk,og,none⟩∧wr.cell? ⟨gk,og,none⟩=some (.int .u8 kc.toNat)∧wr.cell? ⟨gk,og+1,none⟩=some (.slice none 0 0):=HKV.out wr hB
   obtain ⟨rfl,z0,z1⟩:=hgk
   have HRK:Hid (Rep Any wr (kdD (kd i)) [.int .u8 kc.toNat,.slice none 0 0]):=Lib.hid (by rw [hkd];exact rep_plain kc)
   have k1a:=ca k1 (.cells #[.int .u64 (f.n:Int),.string (bs f.b),.slice A2 f.l.length c2] 56)
   have k0b:=ca (ca k0 (.cells #[.int .u64 (f.n:Int),.string (bs f.b),.slice A2 f.l.length c2] 56)) (.cells #[.int .u8 kc.toNat,.slice none 0 0] 90)
   have z0a:=ca z0 (.cells #[.int .u64 (f.n:Int),.string (bs f.b),.slice A2 f.l.length c2] 56)
   have z1a:=ca z1 (.cells #[.int .u64 (f.n:Int),.string (bs f.b),.slice A2 f.l.length c2] 56)
   have HF:=Lib.hid hf
   have HX:=Lib.hid hX
   have HR:=Lib.hid hR
   have HKD:=Lib.hid hKd
   have HW:=Lib.hid hown
   have HP:=Lib.hid hrep
   have HB:=Lib.hid hB
   have HLV:=Lib.hid hlv
   clear hf hX hR hKd hown hrep hB hlv hcf
   go_wp2_with fail
   have hba:Below wr.heap.size wr ((wr.alloc (.cells #[.int .u64 (f.n:Int),.string (bs f.b),.slice A2 f.l.length c2] 56)).alloc (.cells #[.int .u8 kc.toNat,.slice none 0 0] 90)):=((Below.refl _ _).alloc (Nat.le_refl _) _).alloc (by simp) _
   have hC:=HIT.out i f _ _ _ _ A2 c2 ((wr.alloc (.cells #[.int .u64 (f.n:Int),.string (bs f.b),.slice A2 f.l.length c2] 56)).alloc (.cells #[.int .u8 kc.toNat,.slice none 0 0] 90)) HF.out (Rep.keep HRK.out hba) (HLV.out.keep hba)
   have HX1:=Lib.hid ((hba.block _ (Array.getElem?_eq_some_iff.1 HX.out).1).trans HX.out)
   have HR1:=Lib.hid ((hba.block _ (Array.getElem?_eq_some_iff.1 HR.out).1).trans HR.out)
   have HK1:=Lib.hid ((hba.block _ (Array.getElem?_eq_some_iff.1 HKD.out).1).trans HKD.out)
   have HW1:=Lib.hid (own_keep HW.out hba)
   have HP1:=Lib.hid (HP.out.keep hba)
   have HB1:=Lib.hid (below_call HB.out HB.out.size hba)
   have hXl1:=Nat.lt_of_lt_of_le hXl hba.size
   refine hC.mono ?_
   clear hC hba HX HR HKD HW HP HB
   rintro e w4 ⟨y,Ay,cy,rfl,hy,hyx,hb4⟩
   have HX4:=Lib.hid ((hb4.block _ (Array.getElem?_eq_some_iff.1 HX1.out).1).trans HX1.out)
   have HR4:=Lib.hid ((hb4.block _ (Array.getElem?_eq_some_iff.1 HR1.out).1).trans HR1.out)
   have HK4:=Lib.hid ((hb4.block _ (Array.getElem?_eq_some_iff.1 HK1.out).1).trans HK1.out)
   have HW4:=Lib.hid (own_keep HW1.out hb4)
   have HB4:=Lib.hid (below_call HB1.out HB1.out.size hb4)
   have hXl4:=Nat.lt_of_lt_of_le hXl1 hb4.size
   have HP4:Hid (RepN (RowS (X+1) (.slice A' i c')) w4 3 (itemsD ((List.range i).map it ++ [y])) (ys ++ [.bool y.l,.string (bs y.b),.slice Ay y.ks.length cy])):=Lib.hid (by
    rw [itemsD_append]
    exact RepN.snoc (hy.mono fun b _ hb=>⟨⟨Nat.le_trans hXl1 hb,fun e=>by have h1:=(HW1.out.lt _ e).2;have h2:_≤b:=hb;omega⟩,rfl⟩) rfl (HP1.out.keep hb4))
   clear hy hb4 HX1 HR1 HK1 HW1 HP1 HB1
   cases hoki:ok i with
   | false =>
    have hno:OK=false:=by
     rw [hOKi.out]
     refine Bool.eq_false_iff.2 fun h=>?_
     have:=List.all_eq_true.1 h i (List.mem_range.2 hlt)
     rw [hoki] at this;cases this
    have r0:w4.cell? ⟨w.heap.size+1,0,none⟩=some (.bool false):=rc0 HR4.out
    have r1:w4.cell? ⟨w.heap.size+1,1,none⟩=some (.string ⟨#[]⟩):=rc1 HR4.out
    have r2:w4.cell? ⟨w.heap.size+1,2,none⟩=some (.slice none 0 0):=rc2 HR4.out
    have f0:=rf HR4.out 0
    have f1:=rf HR4.out 1
    have f2:=rf HR4.out 2
    have HNO:=Lib.hid hno
    have hRl4:=(Array.getElem?_eq_some_iff.1 HR4.out).1
    clear hno hoki hyx
    go_wp2_with fail
    have hfin:=heap_setCell_here (heap_setCell_here (heap_setCell_here HR4.out (i:=0) (.bool false)) (i:=1) (.string ⟨#[]⟩)) (i:=2) (.slice none 0 0)
    have hfin1:=(heap_alloc_old _ (.cells #[.bool y.l,.string (bs y.b),.slice Ay y.ks.length cy] 86) (by simpa using hRl4)).trans hfin
    refine bodyPost_ret (v:=.tuple #[.agg #[.bool false,.string ⟨#[]⟩,.slice none 0 0],.bool false]) (results_row_tmp rfl _ _ (w.heap.size+1) _ _ _ _ rfl hfin1 _ rfl Tryz.underlying86 rfl infoI) rfl ?_
    rw [HNO.out]
    exact ⟨leafIt [],none,0,rfl,ItemV.leaf [] false,(fun h=>by cases h),(((HB4.out.setCell (p:=⟨w.heap.size+1,_,_⟩) (Nat.le_succ _) _).setCell (p:=⟨w.heap.size+1,_,_⟩) (Nat.le_succ _) _).setCell (p:=⟨w.heap.size+1,_,_⟩) (Nat.le_succ _) _).alloc (by have:=HB4.out.size;simp;omega) _⟩
   | true =>
    have hyi:=hyx hoki
    have HP5:Hid (RepN (RowS (X+1) (.slice A' i c')) w4 3 (itemsD ((List.range (i+1)).map it)) (ys ++ [.bool y.l,.string (bs y.b),.slice Ay y.ks.length cy])):=Lib.hid (by
     rw [List.range_succ,List.map_append,List.map_cons,List.map_nil,← hyi];exact HP4.out)
    have hall1:Hid ((List.range (i+1)).all ok=true):=Lib.hid (by rw [List.range_succ,List.all_append,hall.out];simp [hoki])
    have x2:w4.cell? ⟨X,2,none⟩=some (.slice A' i c'):=rc2 HX4.out
    have x2a:=ca x2 (.cells #[.bool y.l,.string (bs y.b),.slice Ay y.ks.length cy] 86)
    clear hyi hyx hoki HP4 hall
    have hX5:=(heap_alloc_old w4 (.cells #[.bool y.l,.string (bs y.b),.slice Ay y.ks.length cy] 86) hXl4).trans HX4.out
    go_wp2_with (at_builtin;refine wpl_append elItem rfl rfl (X+1) ((HW4.out.alloc _).alloc _) rfl (m:=1) [.bool y.l,.string (bs y.b),.slice Ay y.ks.length cy] rfl rfl ?_ ?_ ?_ ?_ ?_ ?_;exact (lies_new' _ _ (by simp) _ _);(intro u hu;simp at hu;rcases hu with rfl | rfl | rfl <;> rfl);(simp only [maxLen];omega);omega;(simp;omega);intro v1 w8 hown1 hg1 hat1;obtain ⟨A3,c3,rfl⟩:=own_form hown1;have hX8:=(hg1.block X (by simp;omega) (fun e=>by have:=(HW4.out.lt _ e.symm).1;omega)).trans ((heap_alloc_old _ _ (by simp;omega)).trans hX5);have d2:=rc2 hX8;have df:=rf hX8 2;have HX8:=Lib.hid hX8;clear hX8)
    have hba:Below w4.heap.size w4 ((w4.alloc (.cells #[.bool y.l,.string (bs y.b),.slice Ay y.ks.length cy] 86)).alloc (.cells #[.bool y.l,.string (bs y.b),.slice Ay y.ks.length cy] 86)):=((Below.refl _ _).alloc (Nat.le_refl _) _).alloc (by simp) _
    have hsz:w4.heap.size≤((w4.alloc (.cells #[.bool y.l,.string (bs y.b),.slice Ay y.ks.length cy] 86)).alloc (.cells #[.bool y.l,.string (bs y.b),.slice Ay y.ks.length cy] 86)).heap.size:=hba.size
    have hR8:=(hg1.block (w.heap.size+1) (by omega) (fun e=>by have:=(HW4.out.lt _ e.symm).1;omega)).trans ((hba.block (w.heap.size+1) (by omega)).trans HR4.out)
    have hK8:=(hg1.block w.heap.size (by omega) (fun e=>by have:=(HW4.out.lt _ e.symm).1;omega)).trans ((hba.block w.heap.size (by omega)).trans HK4.out)
    have hB8:=below_app (below_call HB4.out HB4.out.size hba) (own_keep HW4.out hba) hg1 (by omega) (by omega)
    have hP8:=repN_app (HP5.out.keep hba) hg1 hat1
    go_roundw
    case rel=>exact ⟨i+1,ys ++ [.bool y.l,.string (bs y.b),.slice Ay y.ks.length cy],.slice A3 (i+1) c3,by go_num,by omega,hall1,heap_setCell_here HX8.out _,(heap_set_ne (by omega) _).trans hR8,(heap_set_ne (by omega) _).trans hK8,own_setOther hown1 (by omega) _,RepN.mono hP8 (fun b _ hb=>⟨hb,heap_set_ne (by have:=hb.1;omega) _⟩),hB8.setCell (p:=⟨X,2,none⟩) (by simp;omega) _⟩
    case measure=>simp [intOf];omega
  ·obtain rfl:i=fs.length:=by omega
   have hOKt:OK=true:=by rw [hOKi.out];exact hall.out
   have r0:wr.cell? ⟨w.heap.size+1,0,none⟩=some (.bool false):=rc0 hR
   have r1:wr.cell? ⟨w.heap.size+1,1,none⟩=some (.string ⟨#[]⟩):=rc1 hR
   have r2:wr.cell? ⟨w.heap.size+1,2,none⟩=some (.slice none 0 0):=rc2 hR
   have f0:=rf hR 0
   have f1:=rf hR 1
   have f2:=rf hR 2
   have x0:wr.cell? ⟨X,0,none⟩=some (.bool true):=rc0 hX
   have x1:wr.cell? ⟨X,1,none⟩=some (.string (bs [])):=rc1 hX
   have x2:wr.cell? ⟨X,2,none⟩=some (.slice A' fs.length c'):=rc2 hX
   have HNO:=Lib.hid hOKt
   have HR:=Lib.hid hR
   have HW:=Lib.hid hown
   have HP:=Lib.hid hrep
   have HB:=Lib.hid hB
   clear hOKt hR hown hrep hB hX hKd hall
   go_wp2_with fail
   have hfin:=heap_setCell_here (heap_setCell_here (heap_setCell_here HR.out (i:=0) (.bool true)) (i:=1) (.string (bs []))) (i:=2) (.slice A' fs.length c')
   refine bodyPost_ret (v:=.tuple #[.agg #[.bool true,.string (bs []),.slice A' fs.length c'],.bool true]) (results_row_tmp rfl _ _ (w.heap.size+1) _ _ _ _ rfl hfin _ rfl Tryz.underlying86 rfl infoI) rfl ?_
   rw [HNO.out]
   have hO:=own_setOther (g:=w.heap.size+1) (i:=2) (own_setOther (g:=w.heap.size+1) (i:=1) (own_setOther (g:=w.heap.size+1) (i:=0) HW.out (by omega) (.bool true)) (by omega) (.string (bs []))) (by omega) (.slice A' fs.length c')
   have hkl:((List.range fs.length).map it).length=fs.length:=by simp
   have hq:ItemV (From w.heap.size) (((wr.setCell ⟨w.heap.size+1,0,none⟩ (.bool true)).setCell ⟨w.heap.size+1,1,none⟩ (.string (bs []))).setCell ⟨w.heap.size+1,2,none⟩ (.slice A' fs.length c')) (listIt ((List.range fs.length).map it)) A' c':=by
    refine itemV_mk ?_
    show Rep _ _ (.sl 3 (itemsD ((List.range fs.length).map it))) [.slice A' ((List.range fs.length).map it).length c']
    rw [hkl]
    refine rep_own hO (RepN.mono HP.out fun b _ hb=>⟨?_,?_⟩) (by rw [itemsD_len,hkl]) (fun b h1 _=>?_)
    ·have:=hb.1;show w.heap.size≤b;omega
    ·have:=hb.1;rw [heap_set_ne (by omega),heap_set_ne (by omega),heap_set_ne (by omega)]
    ·show w.heap.size≤b;omega
   refine ⟨listIt ((List.range fs.length).map it),A',c',?_,hq,fun _=>rfl,((HB.out.setCell (p:=⟨w.heap.size+1,_,_⟩) (Nat.le_succ _) _).setCell (p:=⟨w.heap.size+1,_,_⟩) (Nat.le_succ _) _).setCell (p:=⟨w.heap.size+1,_,_⟩) (Nat.le_succ _) _⟩
   rw [show (listIt ((List.range fs.length).map it)).ks.length=fs.length from hkl]
   rfl
theorem items_top (fs:List Fd) (it:Nat→Item) (ok:Nat→Bool) (ks:List Kd) (kd:Nat→Kd) (hkd:∀ i k,ks[i]? = some k→kd i=k) (hkl:ks.length≤1000) (Ak:Option Addr) (ck:Nat) (A:Option Addr) (c:Nat) (w:World) (hkv:KindsV Any w ks Ak ck) (hv:FdsV Any w fs A c)
  (hit:∀ (i:Nat) (f:Fd) (s:Int) (A1:Option Addr) (n1 c1:Nat) (A2:Option Addr) (c2:Nat) (W:World),fs[i]? = some f→(ks[i]?).isSome=true→Rep Any W (kdD (kd i)) [.int .u8 s,.slice A1 n1 c1]→LfsV Any W f.l A2 c2 →
   Calls Tryz.prog 75 #[.agg #[.int .u8 s,.slice A1 n1 c1],.agg (fdC f A2 c2).toArray] W (FitPost (it i) (ok i) W)) :
  Calls Tryz.prog 41 #[.agg #[.int .u8 40,.slice Ak ks.length ck],.slice A fs.length c] w (FitPost (listIt ((List.range fs.length).map it)) (decide (fs.length=ks.length) && (List.range fs.length).all ok) w):=by
 obtain ⟨OK,hOK⟩:∃ OK,(decide (fs.length=ks.length) && (List.range fs.length).all ok)=OK:=⟨_,rfl⟩
 rw [hOK]
 have HOK:=Lib.hid hOK
 have hb:Below w.heap.size w ((w.alloc (.cells #[.int .u8 40,.slice Ak ks.length ck] 90)).alloc (.cells #[.bool false,.string ⟨#[]⟩,.slice none 0 0] 86)):=((Below.refl _ _).alloc (Nat.le_refl _) _).alloc (by simp) _
 have hr:=heap_alloc_new (w.alloc (.cells #[.int .u8 40,.slice Ak ks.length ck] 90)) (.cells #[.bool false,.string ⟨#[]⟩,.slice none 0 0] 86)
 have hk0:=(heap_alloc_old (w.alloc (.cells #[.int .u8 40,.slice Ak ks.length ck] 90)) (.cells #[.bool false,.string ⟨#[]⟩,.slice none 0 0] 86) (by simp)).trans (heap_alloc_new w (.cells #[.int .u8 40,.slice Ak ks.length ck] 90))
 simp only [World.size_alloc] at hr
 have hsz:((w.alloc (.cells #[.int .u8 40,.slice Ak ks.length ck] 90)).alloc (.cells #[.bool false,.string ⟨#[]⟩,.slice none 0 0] 86)).heap.size=w.heap.size+2:=by simp
 have HB:=Lib.hid hb
 have HR:=Lib.hid hr
 have HKB:=Lib.hid hk0
 have HV:=Lib.hid hv
 have HIT:=Lib.hid hit
 have HKV:=Lib.hid hkv
 have HSZ:=Lib.hid hsz
 clear hOK hb hr hk0 hv hit hkv hsz
 by_cases hlen:fs.length=ks.length
 case neg =>
  have hok:OK=false:=by rw [← HOK.out];simp [hlen]
  have hlI:((fs.length:Int) == (ks.length:Int))=false:=by rw [beq_eq_false_iff_ne];omega
  clear HIT HV HKV HKB HSZ hlen
  go_enter Tryz.func41,Tryz.ntmps41
  go_wp2_with fail
  refine bodyPost_ret (v:=.tuple #[.agg #[.bool false,.string ⟨#[]⟩,.slice none 0 0],.bool false]) (results_row_tmp rfl _ _ (w.heap.size+1) _ _ _ _ rfl HR.out _ rfl Tryz.underlying86 rfl infoI) rfl ?_
  rw [hok]
  exact ⟨leafIt [],none,0,rfl,ItemV.leaf [] false,(fun h=>by cases h),HB.out⟩
 have hlI:((fs.length:Int) == (ks.length:Int))=true:=by simp [hlen]
 have HLEN:=Lib.hid hlen
 have hOKi:Hid (OK=((List.range fs.length).all ok)):=Lib.hid (by rw [← HOK.out];simp [hlen])
 have hfl:fs.length≤1000:=by have:=hkl;omega
 clear HOK hlen
 go_enter Tryz.func41,Tryz.ntmps41
 go_wp2_with fail
 refine (List_any none 0 0 _).mono ?_
 rintro e w1 ⟨rfl,hb1⟩
 have hR1:=(hb1.block _ (Array.getElem?_eq_some_iff.1 HR.out).1).trans HR.out
 have hK1:=(hb1.block _ (Array.getElem?_eq_some_iff.1 HKB.out).1).trans HKB.out
 have hB1:=below_call HB.out HB.out.size hb1
 have hw1:w.heap.size+2≤w1.heap.size:=by rw [← HSZ.out];exact hb1.size
 have hba:Below w1.heap.size w1 (w1.alloc (.cells #[.bool true,.string (bs []),.slice none 0 0] 86)):=(Below.refl _ _).alloc (Nat.le_refl _) _
 have HX2:=Lib.hid (heap_alloc_new w1 (.cells #[.bool true,.string (bs []),.slice none 0 0] 86))
 have HR2:=Lib.hid ((hba.block _ (Array.getElem?_eq_some_iff.1 hR1).1).trans hR1)
 have HK2:=Lib.hid ((hba.block _ (Array.getElem?_eq_some_iff.1 hK1).1).trans hK1)
 have HB2:=Lib.hid (below_call hB1 hB1.size hba)
 clear hR1 hK1 hB1 hba hb1 HB HR HKB HSZ
 go_wp2_with fail
 obtain ⟨X,hXe⟩:∃ X,w1.heap.size=X:=⟨_,rfl⟩
 have hX0:=HX2.out
 rw [hXe] at hw1 hX0 ⊢
 have HX0:=Lib.hid hX0
 clear hX0 HX2
 go_loopw [37] (fun a wr=>∃ (i:Nat) (ys:List Value) (u:Value),a=.int .i64 i∧i≤fs.length∧Hid ((List.range i).all ok=true)∧wr.heap[X]? = some (.cells #[.bool true,.string (bs []),u] 86 (0,0))∧wr.heap[w.heap.size+1]? = some (.cells #[.bool false,.string ⟨#[]⟩,.slice none 0 0] 86 (0,0))∧wr.heap[w.heap.size]? = some (.cells #[.int .u8 40,.slice Ak ks.length ck] 90 (0,0)) ∧
   wr.ownsRow (X+1) 86 3 u i ys∧RepN (RowS (X+1) u) wr 3 (itemsD ((List.range i).map it)) ys∧Below w.heap.size w wr) (fun a _=>fs.length - (intOf a).toNat)
 case atStart=>exact ⟨0,[],_,rfl,Nat.zero_le _,Lib.hid rfl,HX0.out,HR2.out,HK2.out,World.ownsRow_nil _ _ _ _,.nil,HB2.out⟩
 case round =>
  clear HX0 HR2 HK2 HB2
  obtain ⟨i,ys,u,rfl,hi,hall,hX,hR,hKd,hown,hrep,hB⟩:=hrel
  obtain ⟨A',c',rfl⟩:=own_form hown
  have hXl:=(Array.getElem?_eq_some_iff.1 hX).1
  by_cases hlt:i < fs.length
  ·obtain ⟨f,hf⟩:=getElem_ex hlt
   obtain ⟨g,o,A2,c2,rfl,_,hlv,hcf⟩:=fds_at (HV.out.keep hB) hf
   have hltI:(i:Int) < fs.length:=by omega
   have q0:=hcf 0 _ rfl
   have q1:=hcf 1 _ rfl
   have q2:=hcf 2 _ rfl
   simp only [Nat.add_zero] at q0
   have k0:wr.cell? ⟨w.heap.size,0,none⟩=some (.int .u8 40):=rc hKd 0 rfl
   have k1:wr.cell? ⟨w.heap.size,1,none⟩=some (.slice Ak ks.length ck):=rc hKd 1 rfl
   have hlk:=HLEN.out
   obtain ⟨k0e,hk0e⟩:∃ k,ks[0]? = some k:=getElem_ex (by omega)
   obtain ⟨kie,hkie⟩:∃ k,ks[i]? = some k:=getElem_ex (by omega)
   obtain ⟨gk,og,s0,A0,n0,c0,hA0,_,z0,z1⟩:=kinds_at (Rep.keep HKV.out hB) hk0e
   obtain ⟨gk2,og2,s1,A1,n1,c1,hA1,hrk,y0,y1⟩:=kinds_at (Rep.keep HKV.out hB) hkie
   rw [hA0] at hA1
   injection hA1 with hA1
   injection hA1 with e1 e2
   subst e1;subst e2;subst hA0
   simp only [Nat.zero_mul,Nat.add_zero] at z0 z1
   have hnil:¬ ks = []:=fun e=>by have h0:ks.length=0:=(by rw [e];rfl);omega
   have hikI:(i:Int) < ks.length:=by omega
   have h0kI:(0:Int) < ks.length:=by omega
   have HRK:Hid (Rep Any wr (kdD (kd i)) [.int .u8 s1,.slice A1 n1 c1]):=Lib.hid (by rw [hkd i kie hkie];exact hrk)
   have HSM:Hid ((ks[i]?).isSome=true):=Lib.hid (by rw [hkie];rfl)
   clear hlk hk0e hkie hrk
   have k1a:=ca k1 (.cells #[.int .u64 (f.n:Int),.string (bs f.b),.slice A2 f.l.length c2] 56)
   have k0b:=ca (ca k0 (.cells #[.int .u64 (f.n:Int),.string (bs f.b),.slice A2 f.l.length c2] 56)) (.cells #[.int .u8 s0,.slice A0 n0 c0] 90)
   have z0a:=ca z0 (.cells #[.int .u64 (f.n:Int),.string (bs f.b),.slice A2 f.l.length c2] 56)
   have z0b:=ca z0a (.cells #[.int .u8 s0,.slice A0 n0 c0] 90)
   have z1a:=ca z1 (.cells #[.int .u64 (f.n:Int),.string (bs f.b),.slice A2 f.l.length c2] 56)
   have z1b:=ca z1a (.cells #[.int .u8 s0,.slice A0 n0 c0] 90)
   have y0a:=ca y0 (.cells #[.int .u64 (f.n:Int),.string (bs f.b),.slice A2 f.l.length c2] 56)
   have y0b:=ca y0a (.cells #[.int .u8 s0,.slice A0 n0 c0] 90)
   have y1a:=ca y1 (.cells #[.int .u64 (f.n:Int),.string (bs f.b),.slice A2 f.l.length c2] 56)
   have y1b:=ca y1a (.cells #[.int .u8 s0,.slice A0 n0 c0] 90)
   have k1b:=ca k1a (.cells #[.int .u8 s0,.slice A0 n0 c0] 90)
   have HF:=Lib.hid hf
   have HX:=Lib.hid hX
   have HR:=Lib.hid hR
   have HKD:=Lib.hid hKd
   have HW:=Lib.hid hown
   have HP:=Lib.hid hrep
   have HB:=Lib.hid hB
   have HLV:=Lib.hid hlv
   clear hf hX hR hKd hown hrep hB hlv hcf
   go_wp2_with fail
   have hba:Below wr.heap.size wr ((wr.alloc (.cells #[.int .u64 (f.n:Int),.string (bs f.b),.slice A2 f.l.length c2] 56)).alloc (.cells #[.int .u8 s1,.slice A1 n1 c1] 90)):=((Below.refl _ _).alloc (Nat.le_refl _) _).alloc (by simp) _
   have hC:=HIT.out i f _ _ _ _ A2 c2 ((wr.alloc (.cells #[.int .u64 (f.n:Int),.string (bs f.b),.slice A2 f.l.length c2] 56)).alloc (.cells #[.int .u8 s1,.slice A1 n1 c1] 90)) HF.out HSM.out (Rep.keep HRK.out hba) (HLV.out.keep hba)
   have HX1:=Lib.hid ((hba.block _ (Array.getElem?_eq_some_iff.1 HX.out).1).trans HX.out)
   have HR1:=Lib.hid ((hba.block _ (Array.getElem?_eq_some_iff.1 HR.out).1).trans HR.out)
   have HK1:=Lib.hid ((hba.block _ (Array.getElem?_eq_some_iff.1 HKD.out).1).trans HKD.out)
   have HW1:=Lib.hid (own_keep HW.out hba)
   have HP1:=Lib.hid (HP.out.keep hba)
   have HB1:=Lib.hid (below_call HB.out HB.out.size hba)
   have hXl1:=Nat.lt_of_lt_of_le hXl hba.size
   refine hC.mono ?_
   clear hC hba HX HR HKD HW HP HB
   rintro e w4 ⟨y,Ay,cy,rfl,hy,hyx,hb4⟩
   have HX4:=Lib.hid ((hb4.block _ (Array.getElem?_eq_some_iff.1 HX1.out).1).trans HX1.out)
   have HR4:=Lib.hid ((hb4.block _ (Array.getElem?_eq_some_iff.1 HR1.out).1).trans HR1.out)
   have HK4:=Lib.hid ((hb4.block _ (Array.getElem?_eq_some_iff.1 HK1.out).1).trans HK1.out)
   have HW4:=Lib.hid (own_keep HW1.out hb4)
   have HB4:=Lib.hid (below_call HB1.out HB1.out.size hb4)
   have hXl4:=Nat.lt_of_lt_of_le hXl1 hb4.size
   have HP4:Hid (RepN (RowS (X+1) (.slice A' i c')) w4 3 (itemsD ((List.range i).map it ++ [y])) (ys ++ [.bool y.l,.string (bs y.b),.slice Ay y.ks.length cy])):=Lib.hid (by
    rw [itemsD_append]
    exact RepN.snoc (hy.mono fun b _ hb=>⟨⟨Nat.le_trans hXl1 hb,fun e=>by have h1:=(HW1.out.lt _ e).2;have h2:_≤b:=hb;omega⟩,rfl⟩) rfl (HP1.out.keep hb4))
   clear hy hb4 HX1 HR1 HK1 HW1 HP1 HB1
   cases hoki:ok i with
   | false =>
    have hno:OK=false:=by
     rw [hOKi.out]
     refine Bool.eq_false_iff.2 fun h=>?_
     have:=List.all_eq_true.1 h i (List.mem_range.2 hlt)
     rw [hoki] at this;cases this
    have r0:w4.cell? ⟨w.heap.size+1,0,none⟩=some (.bool false):=rc0 HR4.out
    have r1:w4.cell? ⟨w.heap.size+1,1,none⟩=some (.string ⟨#[]⟩):=rc1 HR4.out
    have r2:w4.cell? ⟨w.heap.size+1,2,none⟩=some (.slice none 0 0):=rc2 HR4.out
    have f0:=rf HR4.out 0
    have f1:=rf HR4.out 1
    have f2:=rf HR4.out 2
    have HNO:=Lib.hid hno
    have hRl4:=(Array.getElem?_eq_some_iff.1 HR4.out).1
    clear hno hoki hyx
    go_wp2_with fail
    have hfin:=heap_setCell_here (heap_setCell_here (heap_setCell_here HR4.out (i:=0) (.bool false)) (i:=1) (.string ⟨#[]⟩)) (i:=2) (.slice none 0 0)
    have hfin1:=(heap_alloc_old _ (.cells #[.bool y.l,.string (bs y.b),.slice Ay y.ks.length cy] 86) (by simpa using hRl4)).trans hfin
    refine bodyPost_ret (v:=.tuple #[.agg #[.bool false,.string ⟨#[]⟩,.slice none 0 0],.bool false]) (results_row_tmp rfl _ _ (w.heap.size+1) _ _ _ _ rfl hfin1 _ rfl Tryz.underlying86 rfl infoI) rfl ?_
    rw [HNO.out]
    exact ⟨leafIt [],none,0,rfl,ItemV.leaf [] false,(fun h=>by cases h),(((HB4.out.setCell (p:=⟨w.heap.size+1,_,_⟩) (Nat.le_succ _) _).setCell (p:=⟨w.heap.size+1,_,_⟩) (Nat.le_succ _) _).setCell (p:=⟨w.heap.size+1,_,_⟩) (Nat.le_succ _) _).alloc (by have:=HB4.out.size;simp;omega) _⟩
   | true =>
    have hyi:=hyx hoki
    have HP5:Hid (RepN (RowS (X+1) (.slice A' i c')) w4 3 (itemsD ((List.range (i+1)).map it)) (ys ++ [.bool y.l,.string (bs y.b),.slice Ay y.ks.length cy])):=Lib.hid (by
     rw [List.range_succ,List.map_append,List.map_cons,List.map_nil,← hyi];exact HP4.out)
    have hall1:Hid ((List.range (i+1)).all ok=true):=Lib.hid (by rw [List.range_succ,List.all_append,hall.out];simp [hoki])
    have x2:w4.cell? ⟨X,2,none⟩=some (.slice A' i c'):=rc2 HX4.out
    have x2a:=ca x2 (.cells #[.bool y.l,.string (bs y.b),.slice Ay y.ks.length cy] 86)
    clear hyi hyx hoki HP4 hall
    have hX5:=(heap_alloc_old w4 (.cells #[.bool y.l,.string (bs y.b),.slice Ay y.ks.length cy] 86) hXl4).trans HX4.out
    go_wp2_with (at_builtin;refine wpl_append elItem rfl rfl (X+1) ((HW4.out.alloc _).alloc _) rfl (m:=1) [.bool y.l,.string (bs y.b),.slice Ay y.ks.length cy] rfl rfl ?_ ?_ ?_ ?_ ?_ ?_;exact (lies_new' _ _ (by simp) _ _);(intro u hu;simp at hu;rcases hu with rfl | rfl | rfl <;> rfl);(simp only [maxLen];omega);omega;(simp;omega);intro v1 w8 hown1 hg1 hat1;obtain ⟨A3,c3,rfl⟩:=own_form hown1;have hX8:=(hg1.block X (by simp;omega) (fun e=>by have:=(HW4.out.lt _ e.symm).1;omega)).trans ((heap_alloc_old _ _ (by simp;omega)).trans hX5);have d2:=rc2 hX8;have df:=rf hX8 2;have HX8:=Lib.hid hX8;clear hX8)
    have hba:Below w4.heap.size w4 ((w4.alloc (.cells #[.bool y.l,.string (bs y.b),.slice Ay y.ks.length cy] 86)).alloc (.cells #[.bool y.l,.string (bs y.b),.slice Ay y.ks.length cy] 86)):=((Below.refl _ _).alloc (Nat.le_refl _) _).alloc (by simp) _
    have hsz:w4.heap.size≤((w4.alloc (.cells #[.bool y.l,.string (bs y.b),.slice Ay y.ks.length cy] 86)).alloc (.cells #[.bool y.l,.string (bs y.b),.slice Ay y.ks.length cy] 86)).heap.size:=hba.size
    have hR8:=(hg1.block (w.heap.size+1) (by omega) (fun e=>by have:=(HW4.out.lt _ e.symm).1;omega)).trans ((hba.block (w.heap.size+1) (by omega)).trans HR4.out)
    have hK8:=(hg1.block w.heap.size (by omega) (fun e=>by have:=(HW4.out.lt _ e.symm).1;omega)).trans ((hba.block w.heap.size (by omega)).trans HK4.out)
    have hB8:=below_app (below_call HB4.out HB4.out.size hba) (own_keep HW4.out hba) hg1 (by omega) (by omega)
    have hP8:=repN_app (HP5.out.keep hba) hg1 hat1
    go_roundw
    case rel=>exact ⟨i+1,ys ++ [.bool y.l,.string (bs y.b),.slice Ay y.ks.length cy],.slice A3 (i+1) c3,by go_num,by omega,hall1,heap_setCell_here HX8.out _,(heap_set_ne (by omega) _).trans hR8,(heap_set_ne (by omega) _).trans hK8,own_setOther hown1 (by omega) _,RepN.mono hP8 (fun b _ hb=>⟨hb,heap_set_ne (by have:=hb.1;omega) _⟩),hB8.setCell (p:=⟨X,2,none⟩) (by simp;omega) _⟩
    case measure=>simp [intOf];omega
  ·obtain rfl:i=fs.length:=by omega
   have hOKt:OK=true:=by rw [hOKi.out];exact hall.out
   have r0:wr.cell? ⟨w.heap.size+1,0,none⟩=some (.bool false):=rc0 hR
   have r1:wr.cell? ⟨w.heap.size+1,1,none⟩=some (.string ⟨#[]⟩):=rc1 hR
   have r2:wr.cell? ⟨w.heap.size+1,2,none⟩=some (.slice none 0 0):=rc2 hR
   have f0:=rf hR 0
   have f1:=rf hR 1
   have f2:=rf hR 2
   have x0:wr.cell? ⟨X,0,none⟩=some (.bool true):=rc0 hX
   have x1:wr.cell? ⟨X,1,none⟩=some (.string (bs [])):=rc1 hX
   have x2:wr.cell? ⟨X,2,none⟩=some (.slice A' fs.length c'):=rc2 hX
   have HNO:=Lib.hid hOKt
   have HR:=Lib.hid hR
   have HW:=Lib.hid hown
   have HP:=Lib.hid hrep
   have HB:=Lib.hid hB
   clear hOKt hR hown hrep hB hX hKd hall
   go_wp2_with fail
   have hfin:=heap_setCell_here (heap_setCell_here (heap_setCell_here HR.out (i:=0) (.bool true)) (i:=1) (.string (bs []))) (i:=2) (.slice A' fs.length c')
   refine bodyPost_ret (v:=.tuple #[.agg #[.bool true,.string (bs []),.slice A' fs.length c'],.bool true]) (results_row_tmp rfl _ _ (w.heap.size+1) _ _ _ _ rfl hfin _ rfl Tryz.underlying86 rfl infoI) rfl ?_
   rw [HNO.out]
   have hO:=own_setOther (g:=w.heap.size+1) (i:=2) (own_setOther (g:=w.heap.size+1) (i:=1) (own_setOther (g:=w.heap.size+1) (i:=0) HW.out (by omega) (.bool true)) (by omega) (.string (bs []))) (by omega) (.slice A' fs.length c')
   have hkl:((List.range fs.length).map it).length=fs.length:=by simp
   have hq:ItemV (From w.heap.size) (((wr.setCell ⟨w.heap.size+1,0,none⟩ (.bool true)).setCell ⟨w.heap.size+1,1,none⟩ (.string (bs []))).setCell ⟨w.heap.size+1,2,none⟩ (.slice A' fs.length c')) (listIt ((List.range fs.length).map it)) A' c':=by
    refine itemV_mk ?_
    show Rep _ _ (.sl 3 (itemsD ((List.range fs.length).map it))) [.slice A' ((List.range fs.length).map it).length c']
    rw [hkl]
    refine rep_own hO (RepN.mono HP.out fun b _ hb=>⟨?_,?_⟩) (by rw [itemsD_len,hkl]) (fun b h1 _=>?_)
    ·have:=hb.1;show w.heap.size≤b;omega
    ·have:=hb.1;rw [heap_set_ne (by omega),heap_set_ne (by omega),heap_set_ne (by omega)]
    ·show w.heap.size≤b;omega
   refine ⟨listIt ((List.range fs.length).map it),A',c',?_,hq,fun _=>rfl,((HB.out.setCell (p:=⟨w.heap.size+1,_,_⟩) (Nat.le_succ _) _).setCell (p:=⟨w.heap.size+1,_,_⟩) (Nat.le_succ _) _).setCell (p:=⟨w.heap.size+1,_,_⟩) (Nat.le_succ _) _⟩
   rw [show (listIt ((List.range fs.length).map it)).ks.length=fs.length from hkl]
   rfl
/- The walk of frame.item at a list of plain kinds; items of any kind. -/
theorem item_l000 (n:Int) (b:Bytes) (A:Option Addr) (m c:Nat) (Ak:Option Addr) (ck:Nat) (x:Item) (ok:Bool) (hok:ok=false) (w:World) (hn:(n == 0)=false)
  (hC:Calls Tryz.prog 41 #[.agg #[.int .u8 42,.slice Ak 1 ck],.slice A m c] (((w.alloc (.cells #[.int .u8 42,.slice Ak 1 ck] 90)).alloc (.cells #[.int .u64 n,.string (bs b),.slice A m c] 56)).alloc (.cells #[.bool false,.string ⟨#[]⟩,.slice none 0 0] 86)) (FitPost x ok (((w.alloc (.cells #[.int .u8 42,.slice Ak 1 ck] 90)).alloc (.cells #[.int .u64 n,.string (bs b),.slice A m c] 56)).alloc (.cells #[.bool false,.string ⟨#[]⟩,.slice none 0 0] 86)))) :
  Calls Tryz.prog 75 #[.agg #[.int .u8 42,.slice Ak 1 ck],.agg #[.int .u64 n,.string (bs b),.slice A m c]] w (FitPost x false w):=by
 subst hok
 have hB:Below w.heap.size w (((w.alloc (.cells #[.int .u8 42,.slice Ak 1 ck] 90)).alloc (.cells #[.int .u64 n,.string (bs b),.slice A m c] 56)).alloc (.cells #[.bool false,.string ⟨#[]⟩,.slice none 0 0] 86)):=(((Below.refl _ _).alloc (Nat.le_refl _) _).alloc (by simp) _).alloc (by simp;omega) _
 have hI:=heap_alloc_new ((w.alloc (.cells #[.int .u8 42,.slice Ak 1 ck] 90)).alloc (.cells #[.int .u64 n,.string (bs b),.slice A m c] 56)) (.cells #[.bool false,.string ⟨#[]⟩,.slice none 0 0] 86)
 have hF:=(heap_alloc_old ((w.alloc (.cells #[.int .u8 42,.slice Ak 1 ck] 90)).alloc (.cells #[.int .u64 n,.string (bs b),.slice A m c] 56)) (.cells #[.bool false,.string ⟨#[]⟩,.slice none 0 0] 86) (by simp)).trans (heap_alloc_new (w.alloc (.cells #[.int .u8 42,.slice Ak 1 ck] 90)) (.cells #[.int .u64 n,.string (bs b),.slice A m c] 56))
 have hsz:(((w.alloc (.cells #[.int .u8 42,.slice Ak 1 ck] 90)).alloc (.cells #[.int .u64 n,.string (bs b),.slice A m c] 56)).alloc (.cells #[.bool false,.string ⟨#[]⟩,.slice none 0 0] 86)).heap.size=w.heap.size+3:=by simp
 simp only [World.size_alloc] at hI hF
 have HB:=Lib.hid hB
 have HI:=Lib.hid hI
 have HF:=Lib.hid hF
 have HSZ:=Lib.hid hsz
 have HC:=Lib.hid hC
 clear hB hI hF hsz hC
 go_enter Tryz.func75,Tryz.ntmps75
 go_wp2_with fail
 refine HC.out.mono ?_
 clear HC
 rintro e w1 ⟨y,Ay,cy,rfl,hy1,hyx,hb1⟩
 have HYX:=Lib.hid hyx
 have hy0:ItemV (From (w.heap.size+3)) w1 y Ay cy:=by rw [← HSZ.out];exact hy1
 have hba:Below w1.heap.size w1 (w1.alloc (.cells #[.bool y.l,.string (bs y.b),.slice Ay y.ks.length cy] 86)):=(Below.refl _ _).alloc (Nat.le_refl _) _
 have hw1:w.heap.size+3≤w1.heap.size:=by rw [← HSZ.out];exact hb1.size
 have HF1:=Lib.hid ((hba.block (w.heap.size+1) (by omega)).trans ((hb1.block (w.heap.size+1) (by rw [HSZ.out];omega)).trans HF.out))
 have HI1:=Lib.hid ((hba.block (w.heap.size+1+1) (by omega)).trans ((hb1.block (w.heap.size+1+1) (by rw [HSZ.out];omega)).trans HI.out))
 have HB1:=Lib.hid (below_call (below_call HB.out HB.out.size hb1) (by omega) hba)
 have HY1:=Lib.hid (hy0.keep hba)
 have HV1:=Lib.hid (heap_alloc_new w1 (.cells #[.bool y.l,.string (bs y.b),.slice Ay y.ks.length cy] 86))
 clear hy1 hy0 hyx hb1 hba HB HI HF HSZ
 go_wp2_with fail
 have hbd:Below (w1.alloc (.cells #[.bool y.l,.string (bs y.b),.slice Ay y.ks.length cy] 86)).heap.size (w1.alloc (.cells #[.bool y.l,.string (bs y.b),.slice Ay y.ks.length cy] 86)) (w1.alloc (.cells #[.bool y.l,.string (bs y.b),.slice Ay y.ks.length cy] 86)).drew:=(Below.refl _ _).drew
 have hF:=(hbd.block _ (Array.getElem?_eq_some_iff.1 HF1.out).1).trans HF1.out
 have hI:=(hbd.block _ (Array.getElem?_eq_some_iff.1 HI1.out).1).trans HI1.out
 have hV:=(hbd.block _ (Array.getElem?_eq_some_iff.1 HV1.out).1).trans HV1.out
 have hB:=below_call HB1.out HB1.out.size hbd
 have hy:=HY1.out.keep hbd
 obtain ⟨V,hVe⟩:∃ V,w1.heap.size=V:=⟨_,rfl⟩
 rw [hVe] at hV hw1 ⊢
 refine wp_region_R [(99,fun w'=>w'.heap[w.heap.size+1]? = some (.cells #[.int .u64 n,.string (bs b),.slice A m c] 56 (0,0))∧w'.heap[V]? = some (.cells #[.bool y.l,.string (bs y.b),.slice Ay y.ks.length cy] 86 (0,0)))] (by kernel_rfl) ?_
 generalize (w1.alloc (.cells #[.bool y.l,.string (bs y.b),.slice Ay y.ks.length cy] 86)).drew=w3 at hF hI hV hB hy ⊢
 clear hbd HF1 HI1 HV1 HB1 HY1
 refine R_l (i:=0) (v:=.agg #[.bool y.l,.string (bs y.b),.slice Ay y.ks.length cy]) 99 _ List.mem_cons_self rfl (yieldsIf_load_row rfl rfl rfl (fun w' hS=>hS.2) Tryz.underlying86 rfl infoI) (Meets.here ⟨hF,hV⟩ Meets.nil) ?_
 refine R_p (i:=1) (v:=.bool false) (Meets.here ⟨hF,hV⟩ Meets.nil) ?_
 refine R_p (i:=2) (v:=.bool false) (Meets.here ⟨hF,hV⟩ Meets.nil) ?_
 refine R_s (i:=3) (Meets.here ⟨hF,hV⟩ Meets.nil) ?_
 refine R_s (i:=4) (Meets.here ⟨hF,hV⟩ Meets.nil) ?_
 refine R_s (i:=5) (Meets.here ⟨hF,hV⟩ Meets.nil) ?_
 refine R_p (i:=6) (v:=.bool false) (Meets.here ⟨hF,hV⟩ Meets.nil) ?_
 refine R_p (i:=7) (v:=.bool false) (Meets.here ⟨hF,hV⟩ Meets.nil) ?_
 refine R_s (i:=8) (Meets.here ⟨hF,hV⟩ Meets.nil) ?_
 refine R_s (i:=9) (Meets.here ⟨hF,hV⟩ Meets.nil) ?_
 refine R_s (i:=10) (Meets.here ⟨hF,hV⟩ Meets.nil) ?_
 refine R_p (i:=11) (v:=.bool false) (Meets.here ⟨hF,hV⟩ Meets.nil) ?_
 have d0:w3.cell? ⟨w.heap.size+1+1,0,none⟩=some (.bool false):=rc0 hI
 have d1:w3.cell? ⟨w.heap.size+1+1,1,none⟩=some (.string ⟨#[]⟩):=rc1 hI
 have d2:w3.cell? ⟨w.heap.size+1+1,2,none⟩=some (.slice none 0 0):=rc2 hI
 have f0:=rf hI 0
 have f1:=rf hI 1
 have f2:=rf hI 2
 refine R_now 12 fun K hK=>?_
 obtain ⟨W9,hW9⟩:∃ W9,W9=(((w3.setCell ⟨w.heap.size+1+1,0,none⟩ (.bool y.l)).setCell ⟨w.heap.size+1+1,1,none⟩ (.string (bs y.b))).setCell ⟨w.heap.size+1+1,2,none⟩ (.slice Ay y.ks.length cy)):=⟨_,rfl⟩
 have hI9:W9.heap[w.heap.size+1+1]? = some (.cells #[.bool y.l,.string (bs y.b),.slice Ay y.ks.length cy] 86 (0,0)):=by rw [hW9];exact heap_setCell_here (heap_setCell_here (heap_setCell_here hI _) _) _
 have hF9:W9.heap[w.heap.size+1]? = some (.cells #[.int .u64 n,.string (bs b),.slice A m c] 56 (0,0)):=by rw [hW9];exact (heap_set_ne (by omega) _).trans ((heap_set_ne (by omega) _).trans ((heap_set_ne (by omega) _).trans hF))
 have hV9:W9.heap[V]? = some (.cells #[.bool y.l,.string (bs y.b),.slice Ay y.ks.length cy] 86 (0,0)):=by rw [hW9];exact (heap_set_ne (by omega) _).trans ((heap_set_ne (by omega) _).trans ((heap_set_ne (by omega) _).trans hV))
 have hB9:Below w.heap.size w W9:=by rw [hW9];exact ((hB.setCell (p:=⟨w.heap.size+1+1,_,_⟩) (by simp;omega) _).setCell (p:=⟨w.heap.size+1+1,_,_⟩) (by simp;omega) _).setCell (p:=⟨w.heap.size+1+1,_,_⟩) (by simp;omega) _
 have hy9:ItemV (From w.heap.size) W9 y Ay cy:=by rw [hW9];exact hy.mono fun k _ hk=>⟨by have:w.heap.size+3≤k:=hk;show w.heap.size≤k;omega,by have:w.heap.size+3≤k:=hk;rw [heap_set_ne (by omega),heap_set_ne (by omega),heap_set_ne (by omega)]⟩
 have HI9:=Lib.hid hI9
 have HB9:=Lib.hid hB9
 have HY9:=Lib.hid hy9
 clear hI9 hB9 hy9 hy
 go_simp
 rw [← hW9]
 clear hW9 d0 d1 d2 f0 f1 f2
 refine hK.out _ _ (Meets.here ⟨hF9,hV9⟩ Meets.nil) (fun hMeets=>?_)
 clear hK K hMeets
 refine lay_R ?_
 refine R_p (i:=13) (v:=.bool false) (Meets.here ⟨hF9,hV9⟩ Meets.nil) ?_
 refine R_done (by kernel_rfl) ?_ _
 go_wp2_with fail
 refine bodyPost_ret (v:=.tuple #[.agg #[.bool y.l,.string (bs y.b),.slice Ay y.ks.length cy],.bool false]) (results_row_tmp rfl _ _ (w.heap.size+1+1) _ _ _ _ rfl HI9.out _ rfl Tryz.underlying86 rfl infoI) rfl ?_
 exact ⟨y,Ay,cy,rfl,HY9.out,(fun h=>by cases h),HB9.out⟩
theorem item_l010 (n:Int) (b:Bytes) (A:Option Addr) (m c:Nat) (Ak:Option Addr) (ck:Nat) (x:Item) (ok:Bool) (hok:ok=true) (w:World) (hn:(n == 0)=false)
  (hC:Calls Tryz.prog 41 #[.agg #[.int .u8 42,.slice Ak 1 ck],.slice A m c] (((w.alloc (.cells #[.int .u8 42,.slice Ak 1 ck] 90)).alloc (.cells #[.int .u64 n,.string (bs b),.slice A m c] 56)).alloc (.cells #[.bool false,.string ⟨#[]⟩,.slice none 0 0] 86)) (FitPost x ok (((w.alloc (.cells #[.int .u8 42,.slice Ak 1 ck] 90)).alloc (.cells #[.int .u64 n,.string (bs b),.slice A m c] 56)).alloc (.cells #[.bool false,.string ⟨#[]⟩,.slice none 0 0] 86)))) :
  Calls Tryz.prog 75 #[.agg #[.int .u8 42,.slice Ak 1 ck],.agg #[.int .u64 n,.string (bs b),.slice A m c]] w (FitPost x false w):=by
 subst hok
 have hB:Below w.heap.size w (((w.alloc (.cells #[.int .u8 42,.slice Ak 1 ck] 90)).alloc (.cells #[.int .u64 n,.string (bs b),.slice A m c] 56)).alloc (.cells #[.bool false,.string ⟨#[]⟩,.slice none 0 0] 86)):=(((Below.refl _ _).alloc (Nat.le_refl _) _).alloc (by simp) _).alloc (by simp;omega) _
 have hI:=heap_alloc_new ((w.alloc (.cells #[.int .u8 42,.slice Ak 1 ck] 90)).alloc (.cells #[.int .u64 n,.string (bs b),.slice A m c] 56)) (.cells #[.bool false,.string ⟨#[]⟩,.slice none 0 0] 86)
 have hF:=(heap_alloc_old ((w.alloc (.cells #[.int .u8 42,.slice Ak 1 ck] 90)).alloc (.cells #[.int .u64 n,.string (bs b),.slice A m c] 56)) (.cells #[.bool false,.string ⟨#[]⟩,.slice none 0 0] 86) (by simp)).trans (heap_alloc_new (w.alloc (.cells #[.int .u8 42,.slice Ak 1 ck] 90)) (.cells #[.int .u64 n,.string (bs b),.slice A m c] 56))
 have hsz:(((w.alloc (.cells #[.int .u8 42,.slice Ak 1 ck] 90)).alloc (.cells #[.int .u64 n,.string (bs b),.slice A m c] 56)).alloc (.cells #[.bool false,.string ⟨#[]⟩,.slice none 0 0] 86)).heap.size=w.heap.size+3:=by simp
 simp only [World.size_alloc] at hI hF
 have HB:=Lib.hid hB
 have HI:=Lib.hid hI
 have HF:=Lib.hid hF
 have HSZ:=Lib.hid hsz
 have HC:=Lib.hid hC
 clear hB hI hF hsz hC
 go_enter Tryz.func75,Tryz.ntmps75
 go_wp2_with fail
 refine HC.out.mono ?_
 clear HC
 rintro e w1 ⟨y,Ay,cy,rfl,hy1,hyx,hb1⟩
 have HYX:=Lib.hid hyx
 have hy0:ItemV (From (w.heap.size+3)) w1 y Ay cy:=by rw [← HSZ.out];exact hy1
 have hba:Below w1.heap.size w1 (w1.alloc (.cells #[.bool y.l,.string (bs y.b),.slice Ay y.ks.length cy] 86)):=(Below.refl _ _).alloc (Nat.le_refl _) _
 have hw1:w.heap.size+3≤w1.heap.size:=by rw [← HSZ.out];exact hb1.size
 have HF1:=Lib.hid ((hba.block (w.heap.size+1) (by omega)).trans ((hb1.block (w.heap.size+1) (by rw [HSZ.out];omega)).trans HF.out))
 have HI1:=Lib.hid ((hba.block (w.heap.size+1+1) (by omega)).trans ((hb1.block (w.heap.size+1+1) (by rw [HSZ.out];omega)).trans HI.out))
 have HB1:=Lib.hid (below_call (below_call HB.out HB.out.size hb1) (by omega) hba)
 have HY1:=Lib.hid (hy0.keep hba)
 have HV1:=Lib.hid (heap_alloc_new w1 (.cells #[.bool y.l,.string (bs y.b),.slice Ay y.ks.length cy] 86))
 clear hy1 hy0 hyx hb1 hba HB HI HF HSZ
 go_wp2_with fail
 have hbd:Below (w1.alloc (.cells #[.bool y.l,.string (bs y.b),.slice Ay y.ks.length cy] 86)).heap.size (w1.alloc (.cells #[.bool y.l,.string (bs y.b),.slice Ay y.ks.length cy] 86)) (w1.alloc (.cells #[.bool y.l,.string (bs y.b),.slice Ay y.ks.length cy] 86)).drew:=(Below.refl _ _).drew
 have hF:=(hbd.block _ (Array.getElem?_eq_some_iff.1 HF1.out).1).trans HF1.out
 have hI:=(hbd.block _ (Array.getElem?_eq_some_iff.1 HI1.out).1).trans HI1.out
 have hV:=(hbd.block _ (Array.getElem?_eq_some_iff.1 HV1.out).1).trans HV1.out
 have hB:=below_call HB1.out HB1.out.size hbd
 have hy:=HY1.out.keep hbd
 obtain ⟨V,hVe⟩:∃ V,w1.heap.size=V:=⟨_,rfl⟩
 rw [hVe] at hV hw1 ⊢
 refine wp_region_R [(99,fun w'=>w'.heap[w.heap.size+1]? = some (.cells #[.int .u64 n,.string (bs b),.slice A m c] 56 (0,0))∧w'.heap[V]? = some (.cells #[.bool y.l,.string (bs y.b),.slice Ay y.ks.length cy] 86 (0,0)))] (by kernel_rfl) ?_
 generalize (w1.alloc (.cells #[.bool y.l,.string (bs y.b),.slice Ay y.ks.length cy] 86)).drew=w3 at hF hI hV hB hy ⊢
 clear hbd HF1 HI1 HV1 HB1 HY1
 refine R_l (i:=0) (v:=.agg #[.bool y.l,.string (bs y.b),.slice Ay y.ks.length cy]) 99 _ List.mem_cons_self rfl (yieldsIf_load_row rfl rfl rfl (fun w' hS=>hS.2) Tryz.underlying86 rfl infoI) (Meets.here ⟨hF,hV⟩ Meets.nil) ?_
 refine R_p (i:=1) (v:=.bool true) (Meets.here ⟨hF,hV⟩ Meets.nil) ?_
 refine R_p (i:=2) (v:=.bool true) (Meets.here ⟨hF,hV⟩ Meets.nil) ?_
 refine R_p (i:=3) (v:=.pointer (some ⟨w.heap.size+1,0,none⟩)) (Meets.here ⟨hF,hV⟩ Meets.nil) ?_
 refine R_l (i:=4) (v:=.int .u64 n) 99 _ List.mem_cons_self rfl (yieldsIf_load_cell rfl rfl rfl (fun w' hS=>rc hS.1 0 rfl) Tryz.underlying22 rfl) (Meets.here ⟨hF,hV⟩ Meets.nil) ?_
 refine R_p (i:=5) (v:=.bool false) (Meets.here ⟨hF,hV⟩ Meets.nil) ?_
 refine R_p (i:=6) (v:=.bool false) (Meets.here ⟨hF,hV⟩ Meets.nil) ?_
 refine R_p (i:=7) (v:=.bool false) (Meets.here ⟨hF,hV⟩ Meets.nil) ?_
 refine R_s (i:=8) (Meets.here ⟨hF,hV⟩ Meets.nil) ?_
 refine R_s (i:=9) (Meets.here ⟨hF,hV⟩ Meets.nil) ?_
 refine R_s (i:=10) (Meets.here ⟨hF,hV⟩ Meets.nil) ?_
 refine R_p (i:=11) (v:=.bool false) (Meets.here ⟨hF,hV⟩ Meets.nil) ?_
 have d0:w3.cell? ⟨w.heap.size+1+1,0,none⟩=some (.bool false):=rc0 hI
 have d1:w3.cell? ⟨w.heap.size+1+1,1,none⟩=some (.string ⟨#[]⟩):=rc1 hI
 have d2:w3.cell? ⟨w.heap.size+1+1,2,none⟩=some (.slice none 0 0):=rc2 hI
 have f0:=rf hI 0
 have f1:=rf hI 1
 have f2:=rf hI 2
 refine R_now 12 fun K hK=>?_
 obtain ⟨W9,hW9⟩:∃ W9,W9=(((w3.setCell ⟨w.heap.size+1+1,0,none⟩ (.bool y.l)).setCell ⟨w.heap.size+1+1,1,none⟩ (.string (bs y.b))).setCell ⟨w.heap.size+1+1,2,none⟩ (.slice Ay y.ks.length cy)):=⟨_,rfl⟩
 have hI9:W9.heap[w.heap.size+1+1]? = some (.cells #[.bool y.l,.string (bs y.b),.slice Ay y.ks.length cy] 86 (0,0)):=by rw [hW9];exact heap_setCell_here (heap_setCell_here (heap_setCell_here hI _) _) _
 have hF9:W9.heap[w.heap.size+1]? = some (.cells #[.int .u64 n,.string (bs b),.slice A m c] 56 (0,0)):=by rw [hW9];exact (heap_set_ne (by omega) _).trans ((heap_set_ne (by omega) _).trans ((heap_set_ne (by omega) _).trans hF))
 have hV9:W9.heap[V]? = some (.cells #[.bool y.l,.string (bs y.b),.slice Ay y.ks.length cy] 86 (0,0)):=by rw [hW9];exact (heap_set_ne (by omega) _).trans ((heap_set_ne (by omega) _).trans ((heap_set_ne (by omega) _).trans hV))
 have hB9:Below w.heap.size w W9:=by rw [hW9];exact ((hB.setCell (p:=⟨w.heap.size+1+1,_,_⟩) (by simp;omega) _).setCell (p:=⟨w.heap.size+1+1,_,_⟩) (by simp;omega) _).setCell (p:=⟨w.heap.size+1+1,_,_⟩) (by simp;omega) _
 have hy9:ItemV (From w.heap.size) W9 y Ay cy:=by rw [hW9];exact hy.mono fun k _ hk=>⟨by have:w.heap.size+3≤k:=hk;show w.heap.size≤k;omega,by have:w.heap.size+3≤k:=hk;rw [heap_set_ne (by omega),heap_set_ne (by omega),heap_set_ne (by omega)]⟩
 have HI9:=Lib.hid hI9
 have HB9:=Lib.hid hB9
 have HY9:=Lib.hid hy9
 clear hI9 hB9 hy9 hy
 go_simp
 rw [← hW9]
 clear hW9 d0 d1 d2 f0 f1 f2
 refine hK.out _ _ (Meets.here ⟨hF9,hV9⟩ Meets.nil) (fun hMeets=>?_)
 clear hK K hMeets
 refine lay_R ?_
 refine R_p (i:=13) (v:=.bool false) (Meets.here ⟨hF9,hV9⟩ Meets.nil) ?_
 refine R_done (by kernel_rfl) ?_ _
 go_wp2_with fail
 refine bodyPost_ret (v:=.tuple #[.agg #[.bool y.l,.string (bs y.b),.slice Ay y.ks.length cy],.bool false]) (results_row_tmp rfl _ _ (w.heap.size+1+1) _ _ _ _ rfl HI9.out _ rfl Tryz.underlying86 rfl infoI) rfl ?_
 exact ⟨y,Ay,cy,rfl,HY9.out,(fun h=>by cases h),HB9.out⟩
theorem item_l100 (n:Int) (b:Bytes) (A:Option Addr) (m c:Nat) (Ak:Option Addr) (ck:Nat) (x:Item) (ok:Bool) (hok:ok=false) (w:World) (hn:(n == 0)=true)
  (hC:Calls Tryz.prog 41 #[.agg #[.int .u8 42,.slice Ak 1 ck],.slice A m c] (((w.alloc (.cells #[.int .u8 42,.slice Ak 1 ck] 90)).alloc (.cells #[.int .u64 n,.string (bs b),.slice A m c] 56)).alloc (.cells #[.bool false,.string ⟨#[]⟩,.slice none 0 0] 86)) (FitPost x ok (((w.alloc (.cells #[.int .u8 42,.slice Ak 1 ck] 90)).alloc (.cells #[.int .u64 n,.string (bs b),.slice A m c] 56)).alloc (.cells #[.bool false,.string ⟨#[]⟩,.slice none 0 0] 86)))) :
  Calls Tryz.prog 75 #[.agg #[.int .u8 42,.slice Ak 1 ck],.agg #[.int .u64 n,.string (bs b),.slice A m c]] w (FitPost x false w):=by
 subst hok
 have hB:Below w.heap.size w (((w.alloc (.cells #[.int .u8 42,.slice Ak 1 ck] 90)).alloc (.cells #[.int .u64 n,.string (bs b),.slice A m c] 56)).alloc (.cells #[.bool false,.string ⟨#[]⟩,.slice none 0 0] 86)):=(((Below.refl _ _).alloc (Nat.le_refl _) _).alloc (by simp) _).alloc (by simp;omega) _
 have hI:=heap_alloc_new ((w.alloc (.cells #[.int .u8 42,.slice Ak 1 ck] 90)).alloc (.cells #[.int .u64 n,.string (bs b),.slice A m c] 56)) (.cells #[.bool false,.string ⟨#[]⟩,.slice none 0 0] 86)
 have hF:=(heap_alloc_old ((w.alloc (.cells #[.int .u8 42,.slice Ak 1 ck] 90)).alloc (.cells #[.int .u64 n,.string (bs b),.slice A m c] 56)) (.cells #[.bool false,.string ⟨#[]⟩,.slice none 0 0] 86) (by simp)).trans (heap_alloc_new (w.alloc (.cells #[.int .u8 42,.slice Ak 1 ck] 90)) (.cells #[.int .u64 n,.string (bs b),.slice A m c] 56))
 have hsz:(((w.alloc (.cells #[.int .u8 42,.slice Ak 1 ck] 90)).alloc (.cells #[.int .u64 n,.string (bs b),.slice A m c] 56)).alloc (.cells #[.bool false,.string ⟨#[]⟩,.slice none 0 0] 86)).heap.size=w.heap.size+3:=by simp
 simp only [World.size_alloc] at hI hF
 have HB:=Lib.hid hB
 have HI:=Lib.hid hI
 have HF:=Lib.hid hF
 have HSZ:=Lib.hid hsz
 have HC:=Lib.hid hC
 clear hB hI hF hsz hC
 go_enter Tryz.func75,Tryz.ntmps75
 go_wp2_with fail
 refine HC.out.mono ?_
 clear HC
 rintro e w1 ⟨y,Ay,cy,rfl,hy1,hyx,hb1⟩
 have HYX:=Lib.hid hyx
 have hy0:ItemV (From (w.heap.size+3)) w1 y Ay cy:=by rw [← HSZ.out];exact hy1
 have hba:Below w1.heap.size w1 (w1.alloc (.cells #[.bool y.l,.string (bs y.b),.slice Ay y.ks.length cy] 86)):=(Below.refl _ _).alloc (Nat.le_refl _) _
 have hw1:w.heap.size+3≤w1.heap.size:=by rw [← HSZ.out];exact hb1.size
 have HF1:=Lib.hid ((hba.block (w.heap.size+1) (by omega)).trans ((hb1.block (w.heap.size+1) (by rw [HSZ.out];omega)).trans HF.out))
 have HI1:=Lib.hid ((hba.block (w.heap.size+1+1) (by omega)).trans ((hb1.block (w.heap.size+1+1) (by rw [HSZ.out];omega)).trans HI.out))
 have HB1:=Lib.hid (below_call (below_call HB.out HB.out.size hb1) (by omega) hba)
 have HY1:=Lib.hid (hy0.keep hba)
 have HV1:=Lib.hid (heap_alloc_new w1 (.cells #[.bool y.l,.string (bs y.b),.slice Ay y.ks.length cy] 86))
 clear hy1 hy0 hyx hb1 hba HB HI HF HSZ
 go_wp2_with fail
 have hbd:Below (w1.alloc (.cells #[.bool y.l,.string (bs y.b),.slice Ay y.ks.length cy] 86)).heap.size (w1.alloc (.cells #[.bool y.l,.string (bs y.b),.slice Ay y.ks.length cy] 86)) (w1.alloc (.cells #[.bool y.l,.string (bs y.b),.slice Ay y.ks.length cy] 86)).drew:=(Below.refl _ _).drew
 have hF:=(hbd.block _ (Array.getElem?_eq_some_iff.1 HF1.out).1).trans HF1.out
 have hI:=(hbd.block _ (Array.getElem?_eq_some_iff.1 HI1.out).1).trans HI1.out
 have hV:=(hbd.block _ (Array.getElem?_eq_some_iff.1 HV1.out).1).trans HV1.out
 have hB:=below_call HB1.out HB1.out.size hbd
 have hy:=HY1.out.keep hbd
 obtain ⟨V,hVe⟩:∃ V,w1.heap.size=V:=⟨_,rfl⟩
 rw [hVe] at hV hw1 ⊢
 refine wp_region_R [(99,fun w'=>w'.heap[w.heap.size+1]? = some (.cells #[.int .u64 n,.string (bs b),.slice A m c] 56 (0,0))∧w'.heap[V]? = some (.cells #[.bool y.l,.string (bs y.b),.slice Ay y.ks.length cy] 86 (0,0)))] (by kernel_rfl) ?_
 generalize (w1.alloc (.cells #[.bool y.l,.string (bs y.b),.slice Ay y.ks.length cy] 86)).drew=w3 at hF hI hV hB hy ⊢
 clear hbd HF1 HI1 HV1 HB1 HY1
 refine R_l (i:=0) (v:=.agg #[.bool y.l,.string (bs y.b),.slice Ay y.ks.length cy]) 99 _ List.mem_cons_self rfl (yieldsIf_load_row rfl rfl rfl (fun w' hS=>hS.2) Tryz.underlying86 rfl infoI) (Meets.here ⟨hF,hV⟩ Meets.nil) ?_
 refine R_p (i:=1) (v:=.bool false) (Meets.here ⟨hF,hV⟩ Meets.nil) ?_
 refine R_p (i:=2) (v:=.bool false) (Meets.here ⟨hF,hV⟩ Meets.nil) ?_
 refine R_s (i:=3) (Meets.here ⟨hF,hV⟩ Meets.nil) ?_
 refine R_s (i:=4) (Meets.here ⟨hF,hV⟩ Meets.nil) ?_
 refine R_s (i:=5) (Meets.here ⟨hF,hV⟩ Meets.nil) ?_
 refine R_p (i:=6) (v:=.bool false) (Meets.here ⟨hF,hV⟩ Meets.nil) ?_
 refine R_p (i:=7) (v:=.bool false) (Meets.here ⟨hF,hV⟩ Meets.nil) ?_
 refine R_s (i:=8) (Meets.here ⟨hF,hV⟩ Meets.nil) ?_
 refine R_s (i:=9) (Meets.here ⟨hF,hV⟩ Meets.nil) ?_
 refine R_s (i:=10) (Meets.here ⟨hF,hV⟩ Meets.nil) ?_
 refine R_p (i:=11) (v:=.bool false) (Meets.here ⟨hF,hV⟩ Meets.nil) ?_
 have d0:w3.cell? ⟨w.heap.size+1+1,0,none⟩=some (.bool false):=rc0 hI
 have d1:w3.cell? ⟨w.heap.size+1+1,1,none⟩=some (.string ⟨#[]⟩):=rc1 hI
 have d2:w3.cell? ⟨w.heap.size+1+1,2,none⟩=some (.slice none 0 0):=rc2 hI
 have f0:=rf hI 0
 have f1:=rf hI 1
 have f2:=rf hI 2
 refine R_now 12 fun K hK=>?_
 obtain ⟨W9,hW9⟩:∃ W9,W9=(((w3.setCell ⟨w.heap.size+1+1,0,none⟩ (.bool y.l)).setCell ⟨w.heap.size+1+1,1,none⟩ (.string (bs y.b))).setCell ⟨w.heap.size+1+1,2,none⟩ (.slice Ay y.ks.length cy)):=⟨_,rfl⟩
 have hI9:W9.heap[w.heap.size+1+1]? = some (.cells #[.bool y.l,.string (bs y.b),.slice Ay y.ks.length cy] 86 (0,0)):=by rw [hW9];exact heap_setCell_here (heap_setCell_here (heap_setCell_here hI _) _) _
 have hF9:W9.heap[w.heap.size+1]? = some (.cells #[.int .u64 n,.string (bs b),.slice A m c] 56 (0,0)):=by rw [hW9];exact (heap_set_ne (by omega) _).trans ((heap_set_ne (by omega) _).trans ((heap_set_ne (by omega) _).trans hF))
 have hV9:W9.heap[V]? = some (.cells #[.bool y.l,.string (bs y.b),.slice Ay y.ks.length cy] 86 (0,0)):=by rw [hW9];exact (heap_set_ne (by omega) _).trans ((heap_set_ne (by omega) _).trans ((heap_set_ne (by omega) _).trans hV))
 have hB9:Below w.heap.size w W9:=by rw [hW9];exact ((hB.setCell (p:=⟨w.heap.size+1+1,_,_⟩) (by simp;omega) _).setCell (p:=⟨w.heap.size+1+1,_,_⟩) (by simp;omega) _).setCell (p:=⟨w.heap.size+1+1,_,_⟩) (by simp;omega) _
 have hy9:ItemV (From w.heap.size) W9 y Ay cy:=by rw [hW9];exact hy.mono fun k _ hk=>⟨by have:w.heap.size+3≤k:=hk;show w.heap.size≤k;omega,by have:w.heap.size+3≤k:=hk;rw [heap_set_ne (by omega),heap_set_ne (by omega),heap_set_ne (by omega)]⟩
 have HI9:=Lib.hid hI9
 have HB9:=Lib.hid hB9
 have HY9:=Lib.hid hy9
 clear hI9 hB9 hy9 hy
 go_simp
 rw [← hW9]
 clear hW9 d0 d1 d2 f0 f1 f2
 refine hK.out _ _ (Meets.here ⟨hF9,hV9⟩ Meets.nil) (fun hMeets=>?_)
 clear hK K hMeets
 refine lay_R ?_
 refine R_p (i:=13) (v:=.bool false) (Meets.here ⟨hF9,hV9⟩ Meets.nil) ?_
 refine R_done (by kernel_rfl) ?_ _
 go_wp2_with fail
 refine bodyPost_ret (v:=.tuple #[.agg #[.bool y.l,.string (bs y.b),.slice Ay y.ks.length cy],.bool false]) (results_row_tmp rfl _ _ (w.heap.size+1+1) _ _ _ _ rfl HI9.out _ rfl Tryz.underlying86 rfl infoI) rfl ?_
 exact ⟨y,Ay,cy,rfl,HY9.out,(fun h=>by cases h),HB9.out⟩
theorem item_l110 (n:Int) (b:Bytes) (A:Option Addr) (m c:Nat) (Ak:Option Addr) (ck:Nat) (x:Item) (ok:Bool) (hok:ok=true) (w:World) (hn:(n == 0)=true) (hb:(b == [])=false)
  (hC:Calls Tryz.prog 41 #[.agg #[.int .u8 42,.slice Ak 1 ck],.slice A m c] (((w.alloc (.cells #[.int .u8 42,.slice Ak 1 ck] 90)).alloc (.cells #[.int .u64 n,.string (bs b),.slice A m c] 56)).alloc (.cells #[.bool false,.string ⟨#[]⟩,.slice none 0 0] 86)) (FitPost x ok (((w.alloc (.cells #[.int .u8 42,.slice Ak 1 ck] 90)).alloc (.cells #[.int .u64 n,.string (bs b),.slice A m c] 56)).alloc (.cells #[.bool false,.string ⟨#[]⟩,.slice none 0 0] 86)))) :
  Calls Tryz.prog 75 #[.agg #[.int .u8 42,.slice Ak 1 ck],.agg #[.int .u64 n,.string (bs b),.slice A m c]] w (FitPost x false w):=by
 subst hok
 have hB:Below w.heap.size w (((w.alloc (.cells #[.int .u8 42,.slice Ak 1 ck] 90)).alloc (.cells #[.int .u64 n,.string (bs b),.slice A m c] 56)).alloc (.cells #[.bool false,.string ⟨#[]⟩,.slice none 0 0] 86)):=(((Below.refl _ _).alloc (Nat.le_refl _) _).alloc (by simp) _).alloc (by simp;omega) _
 have hI:=heap_alloc_new ((w.alloc (.cells #[.int .u8 42,.slice Ak 1 ck] 90)).alloc (.cells #[.int .u64 n,.string (bs b),.slice A m c] 56)) (.cells #[.bool false,.string ⟨#[]⟩,.slice none 0 0] 86)
 have hF:=(heap_alloc_old ((w.alloc (.cells #[.int .u8 42,.slice Ak 1 ck] 90)).alloc (.cells #[.int .u64 n,.string (bs b),.slice A m c] 56)) (.cells #[.bool false,.string ⟨#[]⟩,.slice none 0 0] 86) (by simp)).trans (heap_alloc_new (w.alloc (.cells #[.int .u8 42,.slice Ak 1 ck] 90)) (.cells #[.int .u64 n,.string (bs b),.slice A m c] 56))
 have hsz:(((w.alloc (.cells #[.int .u8 42,.slice Ak 1 ck] 90)).alloc (.cells #[.int .u64 n,.string (bs b),.slice A m c] 56)).alloc (.cells #[.bool false,.string ⟨#[]⟩,.slice none 0 0] 86)).heap.size=w.heap.size+3:=by simp
 simp only [World.size_alloc] at hI hF
 have HB:=Lib.hid hB
 have HI:=Lib.hid hI
 have HF:=Lib.hid hF
 have HSZ:=Lib.hid hsz
 have HC:=Lib.hid hC
 clear hB hI hF hsz hC
 go_enter Tryz.func75,Tryz.ntmps75
 go_wp2_with fail
 refine HC.out.mono ?_
 clear HC
 rintro e w1 ⟨y,Ay,cy,rfl,hy1,hyx,hb1⟩
 have HYX:=Lib.hid hyx
 have hy0:ItemV (From (w.heap.size+3)) w1 y Ay cy:=by rw [← HSZ.out];exact hy1
 have hba:Below w1.heap.size w1 (w1.alloc (.cells #[.bool y.l,.string (bs y.b),.slice Ay y.ks.length cy] 86)):=(Below.refl _ _).alloc (Nat.le_refl _) _
 have hw1:w.heap.size+3≤w1.heap.size:=by rw [← HSZ.out];exact hb1.size
 have HF1:=Lib.hid ((hba.block (w.heap.size+1) (by omega)).trans ((hb1.block (w.heap.size+1) (by rw [HSZ.out];omega)).trans HF.out))
 have HI1:=Lib.hid ((hba.block (w.heap.size+1+1) (by omega)).trans ((hb1.block (w.heap.size+1+1) (by rw [HSZ.out];omega)).trans HI.out))
 have HB1:=Lib.hid (below_call (below_call HB.out HB.out.size hb1) (by omega) hba)
 have HY1:=Lib.hid (hy0.keep hba)
 have HV1:=Lib.hid (heap_alloc_new w1 (.cells #[.bool y.l,.string (bs y.b),.slice Ay y.ks.length cy] 86))
 clear hy1 hy0 hyx hb1 hba HB HI HF HSZ
 go_wp2_with fail
 have hbd:Below (w1.alloc (.cells #[.bool y.l,.string (bs y.b),.slice Ay y.ks.length cy] 86)).heap.size (w1.alloc (.cells #[.bool y.l,.string (bs y.b),.slice Ay y.ks.length cy] 86)) (w1.alloc (.cells #[.bool y.l,.string (bs y.b),.slice Ay y.ks.length cy] 86)).drew:=(Below.refl _ _).drew
 have hF:=(hbd.block _ (Array.getElem?_eq_some_iff.1 HF1.out).1).trans HF1.out
 have hI:=(hbd.block _ (Array.getElem?_eq_some_iff.1 HI1.out).1).trans HI1.out
 have hV:=(hbd.block _ (Array.getElem?_eq_some_iff.1 HV1.out).1).trans HV1.out
 have hB:=below_call HB1.out HB1.out.size hbd
 have hy:=HY1.out.keep hbd
 obtain ⟨V,hVe⟩:∃ V,w1.heap.size=V:=⟨_,rfl⟩
 rw [hVe] at hV hw1 ⊢
 refine wp_region_R [(99,fun w'=>w'.heap[w.heap.size+1]? = some (.cells #[.int .u64 n,.string (bs b),.slice A m c] 56 (0,0))∧w'.heap[V]? = some (.cells #[.bool y.l,.string (bs y.b),.slice Ay y.ks.length cy] 86 (0,0)))] (by kernel_rfl) ?_
 generalize (w1.alloc (.cells #[.bool y.l,.string (bs y.b),.slice Ay y.ks.length cy] 86)).drew=w3 at hF hI hV hB hy ⊢
 clear hbd HF1 HI1 HV1 HB1 HY1
 refine R_l (i:=0) (v:=.agg #[.bool y.l,.string (bs y.b),.slice Ay y.ks.length cy]) 99 _ List.mem_cons_self rfl (yieldsIf_load_row rfl rfl rfl (fun w' hS=>hS.2) Tryz.underlying86 rfl infoI) (Meets.here ⟨hF,hV⟩ Meets.nil) ?_
 refine R_p (i:=1) (v:=.bool true) (Meets.here ⟨hF,hV⟩ Meets.nil) ?_
 refine R_p (i:=2) (v:=.bool true) (Meets.here ⟨hF,hV⟩ Meets.nil) ?_
 refine R_p (i:=3) (v:=.pointer (some ⟨w.heap.size+1,0,none⟩)) (Meets.here ⟨hF,hV⟩ Meets.nil) ?_
 refine R_l (i:=4) (v:=.int .u64 n) 99 _ List.mem_cons_self rfl (yieldsIf_load_cell rfl rfl rfl (fun w' hS=>rc hS.1 0 rfl) Tryz.underlying22 rfl) (Meets.here ⟨hF,hV⟩ Meets.nil) ?_
 refine R_p (i:=5) (v:=.bool true) (Meets.here ⟨hF,hV⟩ Meets.nil) ?_
 refine R_p (i:=6) (v:=.bool true) (Meets.here ⟨hF,hV⟩ Meets.nil) ?_
 refine R_p (i:=7) (v:=.bool true) (Meets.here ⟨hF,hV⟩ Meets.nil) ?_
 refine R_p (i:=8) (v:=.pointer (some ⟨w.heap.size+1,1,none⟩)) (Meets.here ⟨hF,hV⟩ Meets.nil) ?_
 refine R_l (i:=9) (v:=.string (bs b)) 99 _ List.mem_cons_self rfl (yieldsIf_load_cell rfl rfl rfl (fun w' hS=>rc hS.1 1 rfl) Tryz.underlying9 rfl) (Meets.here ⟨hF,hV⟩ Meets.nil) ?_
 refine R_p (i:=10) (v:=.bool false) (Meets.here ⟨hF,hV⟩ Meets.nil) ?_
 refine R_p (i:=11) (v:=.bool false) (Meets.here ⟨hF,hV⟩ Meets.nil) ?_
 have d0:w3.cell? ⟨w.heap.size+1+1,0,none⟩=some (.bool false):=rc0 hI
 have d1:w3.cell? ⟨w.heap.size+1+1,1,none⟩=some (.string ⟨#[]⟩):=rc1 hI
 have d2:w3.cell? ⟨w.heap.size+1+1,2,none⟩=some (.slice none 0 0):=rc2 hI
 have f0:=rf hI 0
 have f1:=rf hI 1
 have f2:=rf hI 2
 refine R_now 12 fun K hK=>?_
 obtain ⟨W9,hW9⟩:∃ W9,W9=(((w3.setCell ⟨w.heap.size+1+1,0,none⟩ (.bool y.l)).setCell ⟨w.heap.size+1+1,1,none⟩ (.string (bs y.b))).setCell ⟨w.heap.size+1+1,2,none⟩ (.slice Ay y.ks.length cy)):=⟨_,rfl⟩
 have hI9:W9.heap[w.heap.size+1+1]? = some (.cells #[.bool y.l,.string (bs y.b),.slice Ay y.ks.length cy] 86 (0,0)):=by rw [hW9];exact heap_setCell_here (heap_setCell_here (heap_setCell_here hI _) _) _
 have hF9:W9.heap[w.heap.size+1]? = some (.cells #[.int .u64 n,.string (bs b),.slice A m c] 56 (0,0)):=by rw [hW9];exact (heap_set_ne (by omega) _).trans ((heap_set_ne (by omega) _).trans ((heap_set_ne (by omega) _).trans hF))
 have hV9:W9.heap[V]? = some (.cells #[.bool y.l,.string (bs y.b),.slice Ay y.ks.length cy] 86 (0,0)):=by rw [hW9];exact (heap_set_ne (by omega) _).trans ((heap_set_ne (by omega) _).trans ((heap_set_ne (by omega) _).trans hV))
 have hB9:Below w.heap.size w W9:=by rw [hW9];exact ((hB.setCell (p:=⟨w.heap.size+1+1,_,_⟩) (by simp;omega) _).setCell (p:=⟨w.heap.size+1+1,_,_⟩) (by simp;omega) _).setCell (p:=⟨w.heap.size+1+1,_,_⟩) (by simp;omega) _
 have hy9:ItemV (From w.heap.size) W9 y Ay cy:=by rw [hW9];exact hy.mono fun k _ hk=>⟨by have:w.heap.size+3≤k:=hk;show w.heap.size≤k;omega,by have:w.heap.size+3≤k:=hk;rw [heap_set_ne (by omega),heap_set_ne (by omega),heap_set_ne (by omega)]⟩
 have HI9:=Lib.hid hI9
 have HB9:=Lib.hid hB9
 have HY9:=Lib.hid hy9
 clear hI9 hB9 hy9 hy
 go_simp
 rw [← hW9]
 clear hW9 d0 d1 d2 f0 f1 f2
 refine hK.out _ _ (Meets.here ⟨hF9,hV9⟩ Meets.nil) (fun hMeets=>?_)
 clear hK K hMeets
 refine lay_R ?_
 refine R_p (i:=13) (v:=.bool false) (Meets.here ⟨hF9,hV9⟩ Meets.nil) ?_
 refine R_done (by kernel_rfl) ?_ _
 go_wp2_with fail
 refine bodyPost_ret (v:=.tuple #[.agg #[.bool y.l,.string (bs y.b),.slice Ay y.ks.length cy],.bool false]) (results_row_tmp rfl _ _ (w.heap.size+1+1) _ _ _ _ rfl HI9.out _ rfl Tryz.underlying86 rfl infoI) rfl ?_
 exact ⟨y,Ay,cy,rfl,HY9.out,(fun h=>by cases h),HB9.out⟩
theorem item_l111 (n:Int) (b:Bytes) (A:Option Addr) (m c:Nat) (Ak:Option Addr) (ck:Nat) (x:Item) (ok:Bool) (hok:ok=true) (w:World) (hn:(n == 0)=true) (hb:(b == [])=true)
  (hC:Calls Tryz.prog 41 #[.agg #[.int .u8 42,.slice Ak 1 ck],.slice A m c] (((w.alloc (.cells #[.int .u8 42,.slice Ak 1 ck] 90)).alloc (.cells #[.int .u64 n,.string (bs b),.slice A m c] 56)).alloc (.cells #[.bool false,.string ⟨#[]⟩,.slice none 0 0] 86)) (FitPost x ok (((w.alloc (.cells #[.int .u8 42,.slice Ak 1 ck] 90)).alloc (.cells #[.int .u64 n,.string (bs b),.slice A m c] 56)).alloc (.cells #[.bool false,.string ⟨#[]⟩,.slice none 0 0] 86)))) :
  Calls Tryz.prog 75 #[.agg #[.int .u8 42,.slice Ak 1 ck],.agg #[.int .u64 n,.string (bs b),.slice A m c]] w (FitPost x true w):=by
 subst hok
 have hB:Below w.heap.size w (((w.alloc (.cells #[.int .u8 42,.slice Ak 1 ck] 90)).alloc (.cells #[.int .u64 n,.string (bs b),.slice A m c] 56)).alloc (.cells #[.bool false,.string ⟨#[]⟩,.slice none 0 0] 86)):=(((Below.refl _ _).alloc (Nat.le_refl _) _).alloc (by simp) _).alloc (by simp;omega) _
 have hI:=heap_alloc_new ((w.alloc (.cells #[.int .u8 42,.slice Ak 1 ck] 90)).alloc (.cells #[.int .u64 n,.string (bs b),.slice A m c] 56)) (.cells #[.bool false,.string ⟨#[]⟩,.slice none 0 0] 86)
 have hF:=(heap_alloc_old ((w.alloc (.cells #[.int .u8 42,.slice Ak 1 ck] 90)).alloc (.cells #[.int .u64 n,.string (bs b),.slice A m c] 56)) (.cells #[.bool false,.string ⟨#[]⟩,.slice none 0 0] 86) (by simp)).trans (heap_alloc_new (w.alloc (.cells #[.int .u8 42,.slice Ak 1 ck] 90)) (.cells #[.int .u64 n,.string (bs b),.slice A m c] 56))
 have hsz:(((w.alloc (.cells #[.int .u8 42,.slice Ak 1 ck] 90)).alloc (.cells #[.int .u64 n,.string (bs b),.slice A m c] 56)).alloc (.cells #[.bool false,.string ⟨#[]⟩,.slice none 0 0] 86)).heap.size=w.heap.size+3:=by simp
 simp only [World.size_alloc] at hI hF
 have HB:=Lib.hid hB
 have HI:=Lib.hid hI
 have HF:=Lib.hid hF
 have HSZ:=Lib.hid hsz
 have HC:=Lib.hid hC
 clear hB hI hF hsz hC
 go_enter Tryz.func75,Tryz.ntmps75
 go_wp2_with fail
 refine HC.out.mono ?_
 clear HC
 rintro e w1 ⟨y,Ay,cy,rfl,hy1,hyx,hb1⟩
 have HYX:=Lib.hid hyx
 have hy0:ItemV (From (w.heap.size+3)) w1 y Ay cy:=by rw [← HSZ.out];exact hy1
 have hba:Below w1.heap.size w1 (w1.alloc (.cells #[.bool y.l,.string (bs y.b),.slice Ay y.ks.length cy] 86)):=(Below.refl _ _).alloc (Nat.le_refl _) _
 have hw1:w.heap.size+3≤w1.heap.size:=by rw [← HSZ.out];exact hb1.size
 have HF1:=Lib.hid ((hba.block (w.heap.size+1) (by omega)).trans ((hb1.block (w.heap.size+1) (by rw [HSZ.out];omega)).trans HF.out))
 have HI1:=Lib.hid ((hba.block (w.heap.size+1+1) (by omega)).trans ((hb1.block (w.heap.size+1+1) (by rw [HSZ.out];omega)).trans HI.out))
 have HB1:=Lib.hid (below_call (below_call HB.out HB.out.size hb1) (by omega) hba)
 have HY1:=Lib.hid (hy0.keep hba)
 have HV1:=Lib.hid (heap_alloc_new w1 (.cells #[.bool y.l,.string (bs y.b),.slice Ay y.ks.length cy] 86))
 clear hy1 hy0 hyx hb1 hba HB HI HF HSZ
 go_wp2_with fail
 have hbd:Below (w1.alloc (.cells #[.bool y.l,.string (bs y.b),.slice Ay y.ks.length cy] 86)).heap.size (w1.alloc (.cells #[.bool y.l,.string (bs y.b),.slice Ay y.ks.length cy] 86)) (w1.alloc (.cells #[.bool y.l,.string (bs y.b),.slice Ay y.ks.length cy] 86)).drew:=(Below.refl _ _).drew
 have hF:=(hbd.block _ (Array.getElem?_eq_some_iff.1 HF1.out).1).trans HF1.out
 have hI:=(hbd.block _ (Array.getElem?_eq_some_iff.1 HI1.out).1).trans HI1.out
 have hV:=(hbd.block _ (Array.getElem?_eq_some_iff.1 HV1.out).1).trans HV1.out
 have hB:=below_call HB1.out HB1.out.size hbd
 have hy:=HY1.out.keep hbd
 obtain ⟨V,hVe⟩:∃ V,w1.heap.size=V:=⟨_,rfl⟩
 rw [hVe] at hV hw1 ⊢
 refine wp_region_R [(99,fun w'=>w'.heap[w.heap.size+1]? = some (.cells #[.int .u64 n,.string (bs b),.slice A m c] 56 (0,0))∧w'.heap[V]? = some (.cells #[.bool y.l,.string (bs y.b),.slice Ay y.ks.length cy] 86 (0,0)))] (by kernel_rfl) ?_
 generalize (w1.alloc (.cells #[.bool y.l,.string (bs y.b),.slice Ay y.ks.length cy] 86)).drew=w3 at hF hI hV hB hy ⊢
 clear hbd HF1 HI1 HV1 HB1 HY1
 refine R_l (i:=0) (v:=.agg #[.bool y.l,.string (bs y.b),.slice Ay y.ks.length cy]) 99 _ List.mem_cons_self rfl (yieldsIf_load_row rfl rfl rfl (fun w' hS=>hS.2) Tryz.underlying86 rfl infoI) (Meets.here ⟨hF,hV⟩ Meets.nil) ?_
 refine R_p (i:=1) (v:=.bool true) (Meets.here ⟨hF,hV⟩ Meets.nil) ?_
 refine R_p (i:=2) (v:=.bool true) (Meets.here ⟨hF,hV⟩ Meets.nil) ?_
 refine R_p (i:=3) (v:=.pointer (some ⟨w.heap.size+1,0,none⟩)) (Meets.here ⟨hF,hV⟩ Meets.nil) ?_
 refine R_l (i:=4) (v:=.int .u64 n) 99 _ List.mem_cons_self rfl (yieldsIf_load_cell rfl rfl rfl (fun w' hS=>rc hS.1 0 rfl) Tryz.underlying22 rfl) (Meets.here ⟨hF,hV⟩ Meets.nil) ?_
 refine R_p (i:=5) (v:=.bool true) (Meets.here ⟨hF,hV⟩ Meets.nil) ?_
 refine R_p (i:=6) (v:=.bool true) (Meets.here ⟨hF,hV⟩ Meets.nil) ?_
 refine R_p (i:=7) (v:=.bool true) (Meets.here ⟨hF,hV⟩ Meets.nil) ?_
 refine R_p (i:=8) (v:=.pointer (some ⟨w.heap.size+1,1,none⟩)) (Meets.here ⟨hF,hV⟩ Meets.nil) ?_
 refine R_l (i:=9) (v:=.string (bs b)) 99 _ List.mem_cons_self rfl (yieldsIf_load_cell rfl rfl rfl (fun w' hS=>rc hS.1 1 rfl) Tryz.underlying9 rfl) (Meets.here ⟨hF,hV⟩ Meets.nil) ?_
 refine R_p (i:=10) (v:=.bool true) (Meets.here ⟨hF,hV⟩ Meets.nil) ?_
 refine R_p (i:=11) (v:=.bool true) (Meets.here ⟨hF,hV⟩ Meets.nil) ?_
 have d0:w3.cell? ⟨w.heap.size+1+1,0,none⟩=some (.bool false):=rc0 hI
 have d1:w3.cell? ⟨w.heap.size+1+1,1,none⟩=some (.string ⟨#[]⟩):=rc1 hI
 have d2:w3.cell? ⟨w.heap.size+1+1,2,none⟩=some (.slice none 0 0):=rc2 hI
 have f0:=rf hI 0
 have f1:=rf hI 1
 have f2:=rf hI 2
 refine R_now 12 fun K hK=>?_
 obtain ⟨W9,hW9⟩:∃ W9,W9=(((w3.setCell ⟨w.heap.size+1+1,0,none⟩ (.bool y.l)).setCell ⟨w.heap.size+1+1,1,none⟩ (.string (bs y.b))).setCell ⟨w.heap.size+1+1,2,none⟩ (.slice Ay y.ks.length cy)):=⟨_,rfl⟩
 have hI9:W9.heap[w.heap.size+1+1]? = some (.cells #[.bool y.l,.string (bs y.b),.slice Ay y.ks.length cy] 86 (0,0)):=by rw [hW9];exact heap_setCell_here (heap_setCell_here (heap_setCell_here hI _) _) _
 have hF9:W9.heap[w.heap.size+1]? = some (.cells #[.int .u64 n,.string (bs b),.slice A m c] 56 (0,0)):=by rw [hW9];exact (heap_set_ne (by omega) _).trans ((heap_set_ne (by omega) _).trans ((heap_set_ne (by omega) _).trans hF))
 have hV9:W9.heap[V]? = some (.cells #[.bool y.l,.string (bs y.b),.slice Ay y.ks.length cy] 86 (0,0)):=by rw [hW9];exact (heap_set_ne (by omega) _).trans ((heap_set_ne (by omega) _).trans ((heap_set_ne (by omega) _).trans hV))
 have hB9:Below w.heap.size w W9:=by rw [hW9];exact ((hB.setCell (p:=⟨w.heap.size+1+1,_,_⟩) (by simp;omega) _).setCell (p:=⟨w.heap.size+1+1,_,_⟩) (by simp;omega) _).setCell (p:=⟨w.heap.size+1+1,_,_⟩) (by simp;omega) _
 have hy9:ItemV (From w.heap.size) W9 y Ay cy:=by rw [hW9];exact hy.mono fun k _ hk=>⟨by have:w.heap.size+3≤k:=hk;show w.heap.size≤k;omega,by have:w.heap.size+3≤k:=hk;rw [heap_set_ne (by omega),heap_set_ne (by omega),heap_set_ne (by omega)]⟩
 have HI9:=Lib.hid hI9
 have HB9:=Lib.hid hB9
 have HY9:=Lib.hid hy9
 clear hI9 hB9 hy9 hy
 go_simp
 rw [← hW9]
 clear hW9 d0 d1 d2 f0 f1 f2
 refine hK.out _ _ (Meets.here ⟨hF9,hV9⟩ Meets.nil) (fun hMeets=>?_)
 clear hK K hMeets
 refine lay_R ?_
 refine R_p (i:=13) (v:=.bool true) (Meets.here ⟨hF9,hV9⟩ Meets.nil) ?_
 refine R_done (by kernel_rfl) ?_ _
 go_wp2_with fail
 refine bodyPost_ret (v:=.tuple #[.agg #[.bool y.l,.string (bs y.b),.slice Ay y.ks.length cy],.bool true]) (results_row_tmp rfl _ _ (w.heap.size+1+1) _ _ _ _ rfl HI9.out _ rfl Tryz.underlying86 rfl infoI) rfl ?_
 exact ⟨y,Ay,cy,rfl,HY9.out,fun _=>HYX.out (by simp),HB9.out⟩
theorem range_map {α β:Type} (l:List α) (d:α) (f:α→β):(List.range l.length).map (fun i=>f (l.getD i d))=l.map f:=by
 apply List.ext_getElem?
 intro i
 by_cases h:i < l.length
 ·simp [h,List.getD_eq_getElem?_getD]
 ·simp [h]
theorem range_all {α:Type} (l:List α) (d:α) (f:α→Bool):(List.range l.length).all (fun i=>f (l.getD i d))=l.all f:=by
 rw [Bool.eq_iff_iff,List.all_eq_true,List.all_eq_true]
 constructor
 ·intro h x hx
  obtain ⟨i,hi⟩:=List.getElem?_of_mem hx
  have:=h i (List.mem_range.2 (List.getElem?_eq_some_iff.1 hi).1)
  rw [List.getD_eq_getElem?_getD,hi] at this
  exact this
 ·intro h i hi
  have hi:=List.mem_range.1 hi
  rw [List.getD_eq_getElem?_getD,List.getElem?_eq_getElem hi]
  exact h _ (List.getElem_mem hi)
theorem getD_some {α:Type} {l:List α} {i:Nat} {d x:α} (h:l[i]? = some x):l.getD i d=x:=by rw [List.getD_eq_getElem?_getD,h];rfl
theorem lfs_up {S:Nat→Prop} {w:World} {l:List Lf} {A:Option Addr} {c:Nat} (h:LfsV S w l A c):FdsV S w (l.map upF) A c:=by
 unfold FdsV;rw [fdsD_up,List.length_map];exact h
theorem rep_star_form {S:Nat→Prop} {w:World} {c:UInt8} {cs:List Value} (h:Rep S w (kdD ⟨c,true⟩) cs):∃ g o ck,cs = [.int .u8 42,.slice (some ⟨g,o,none⟩) 1 ck]∧w.cell? ⟨g,o,none⟩=some (.int .u8 c.toNat)∧w.cell? ⟨g,o+1,none⟩=some (.slice none 0 0):=by
 obtain ⟨a,b,rfl,h1,h2⟩:=h.st_form.cons_form
 obtain ⟨c0,d0,rfl,h3,h4⟩:=h2.cons_form
 obtain ⟨A,m,ck,rfl⟩:=h3.slice_form
 obtain ⟨g,o,ci,hA,_,r1,r2,r3⟩:=Rep.slice_at h3 (by omega) (i:=0) (d:=plainD c) rfl
 have hm:=h3.slice_len.1
 have hci:=rep_plain_form r1
 subst hA;subst hm;subst hci
 rw [h1.v_form,h4.nil_form]
 exact ⟨g,o,ck,rfl,by simpa using r3 0 _ rfl,by simpa using r3 1 _ rfl⟩
theorem item_star_any (kc:UInt8) (hkc:okC kc) (f:Fd) (hn:f.n < 18446744073709551616) (hs:∀ x∈f.l,x.1 < 18446744073709551616) (hl:f.l.length≤100000) (s:Int) (A1:Option Addr) (n1 c1:Nat) (A:Option Addr) (c:Nat) (w:World)
  (hk:Rep Any w (kdD ⟨kc,true⟩) [.int .u8 s,.slice A1 n1 c1]) (hv:LfsV Any w f.l A c) :
  Calls Tryz.prog 75 #[.agg #[.int .u8 s,.slice A1 n1 c1],.agg (fdC f A c).toArray] w (FitPost (itemF ⟨kc,true⟩ f) (fitF ⟨kc,true⟩ f) w):=by
 obtain ⟨g,o,ck,hcs,z0,z1⟩:=rep_star_form hk
 simp only [List.cons.injEq,Value.int.injEq,Value.slice.injEq,true_and,and_true] at hcs
 obtain ⟨rfl,rfl,rfl,rfl⟩:=hcs
 obtain ⟨n,b,l⟩:=f
 simp only [] at hn hs hl hv
 obtain ⟨W,hW⟩:∃ W,W=((w.alloc (.cells #[.int .u8 42,.slice (some ⟨g,o,none⟩) 1 c1] 90)).alloc (.cells #[.int .u64 (n:Int),.string (bs b),.slice A l.length c] 56)).alloc (.cells #[.bool false,.string ⟨#[]⟩,.slice none 0 0] 86):=⟨_,rfl⟩
 have hB:Below w.heap.size w W:=by rw [hW];exact (((Below.refl _ _).alloc (Nat.le_refl _) _).alloc (by simp) _).alloc (by simp;omega) _
 have hit:=items_star (l.map upF) (fun i=>lfI kc (l.getD i (0,[]))) (fun i=>fitC kc (l.getD i (0,[]))) kc (fun _=>⟨kc,false⟩) (fun _=>rfl) (some ⟨g,o,none⟩) c1 A c W
  (fun W' hb'=>⟨g,o,rfl,((hB.trans (hb'.mono hB.size)).cell (p:=⟨g,o,none⟩) (lt_of_cell z0)).trans z0,((hB.trans (hb'.mono hB.size)).cell (p:=⟨g,o+1,none⟩) (lt_of_cell z1)).trans z1⟩)
  (Rep.keep (lfs_up hv) hB) (fun i f s A1 n1 c1 A2 c2 W' hf hr hlv=>by
   rw [List.getElem?_map] at hf
   obtain ⟨x,hx,rfl⟩:=Option.map_eq_some_iff.1 hf
   have hcs:=rep_plain_form (c:=kc) hr
   simp only [cellK,List.cons.injEq,Value.int.injEq,Value.slice.injEq,true_and,and_true] at hcs
   obtain ⟨rfl,rfl,rfl,rfl⟩:=hcs
   rw [getD_some hx]
   exact item_plain_any kc hkc x.1 (hs x (List.mem_of_getElem? hx)) x.2 A2 0 c2 W')
 rw [List.length_map,range_map,range_all] at hit
 rw [hW] at hit
 have hx:itemF ⟨kc,true⟩ ⟨n,b,l⟩=listIt (l.map (lfI kc)):=rfl
 have hf:fitF ⟨kc,true⟩ ⟨n,b,l⟩=((n == 0) && b.isEmpty && (decide (l.length≤40) && l.all (fitC kc))):=by simp [fitF,Bool.and_assoc]
 have hnB:((n:Int) == 0)=(n == 0):=by rw [Bool.eq_iff_iff];simp only [beq_iff_eq];omega
 rw [hx,hf]
 obtain ⟨OK,hOK⟩:∃ OK,(decide (l.length≤40) && l.all (fitC kc))=OK:=⟨_,rfl⟩
 rw [hOK] at hit ⊢
 cases hA:(n == 0)
 ·cases OK
  ·exact item_l000 n b A l.length c (some ⟨g,o,none⟩) c1 _ _ rfl w (by rw [hnB,hA]) hit
  ·exact item_l010 n b A l.length c (some ⟨g,o,none⟩) c1 _ _ rfl w (by rw [hnB,hA]) hit
 ·cases OK
  ·rw [Bool.and_false];exact item_l100 n b A l.length c (some ⟨g,o,none⟩) c1 _ _ rfl w (by rw [hnB,hA]) hit
  ·cases hC:b.isEmpty
   ·exact item_l110 n b A l.length c (some ⟨g,o,none⟩) c1 _ _ rfl w (by rw [hnB,hA]) (by cases b <;> simp_all) hit
   ·exact item_l111 n b A l.length c (some ⟨g,o,none⟩) c1 _ _ rfl w (by rw [hnB,hA]) (by cases b <;> simp_all) hit
theorem fitem_any (k:Kd) (hkc:okC k.c) (f:Fd) (hn:f.n < 18446744073709551616) (hs:∀ x∈f.l,x.1 < 18446744073709551616) (hl:f.l.length≤100000) (s:Int) (A1:Option Addr) (n1 c1:Nat) (A:Option Addr) (c:Nat) (w:World)
  (hk:Rep Any w (kdD k) [.int .u8 s,.slice A1 n1 c1]) (hv:LfsV Any w f.l A c) :
  Calls Tryz.prog 75 #[.agg #[.int .u8 s,.slice A1 n1 c1],.agg (fdC f A c).toArray] w (FitPost (itemF k f) (fitF k f) w):=by
 obtain ⟨kc,st⟩:=k
 cases st with
 | true=>exact item_star_any kc hkc f hn hs hl s A1 n1 c1 A c w hk hv
 | false =>
  have hcs:=rep_plain_form (c:=kc) hk
  simp only [cellK,List.cons.injEq,Value.int.injEq,Value.slice.injEq,true_and,and_true] at hcs
  obtain ⟨rfl,rfl,rfl,rfl⟩:=hcs
  have:=item_plain_any kc hkc f.n hn f.b A f.l.length c w
  have hf:fitF ⟨kc,false⟩ f=((f.l.length == 0) && fitC kc (f.n,f.b)):=by
   unfold fitF;rw [if_neg (by simp)];cases f.l <;> simp
  rw [hf]
  exact this
/- The walk of frame.Write. -/
/-- what frame.Write answers -/
def fwP (ks:List Kd) (fs:List Fd):Bytes×Nat:=if fitsP ks fs=true then encR (recF ks fs) else ([],1)
def noF:Fd:=⟨0,[],[]⟩
def noK:Kd:=⟨0,false⟩
theorem fits_range:∀ (ks:List Kd) (fs:List Fd),(decide (fs.length=ks.length) && (List.range fs.length).all fun i=>fitF (ks.getD i noK) (fs.getD i noF))=fitsP ks fs
 | [],[]=>rfl
 | [],f :: fs=>by simp [fitsP]
 | k :: ks,[]=>by simp [fitsP]
 | k :: ks,f :: fs=>by
  rw [fitsP,← fits_range ks fs]
  have h:(List.range (f :: fs).length).all (fun i=>fitF ((k :: ks).getD i noK) ((f :: fs).getD i noF))=(fitF k f && (List.range fs.length).all fun i=>fitF (ks.getD i noK) (fs.getD i noF)):=by
   rw [List.length_cons,List.range_succ_eq_map,List.all_cons,List.all_map]
   rfl
  rw [h]
  have h2:decide ((f :: fs).length=(k :: ks).length)=decide (fs.length=ks.length):=by simp
  rw [h2]
  cases decide (fs.length=ks.length) <;> cases fitF k f <;> rfl
theorem items_range:∀ (ks:List Kd) (fs:List Fd),fs.length=ks.length→(List.range fs.length).map (fun i=>itemF (ks.getD i noK) (fs.getD i noF))=itemsF ks fs
 | [],[],_=>rfl
 | [],f :: fs,h=>by simp at h
 | k :: ks,[],h=>by simp at h
 | k :: ks,f :: fs,h=>by
  rw [itemsF,← items_range ks fs (by simpa using h),List.length_cons,List.range_succ_eq_map,List.map_cons,List.map_map]
  rfl
theorem fits_total:∀ (ks:List Kd) (fs:List Fd),fitsP ks fs=true→totF fs≤21 * (formP ks).length
 | [],[],_=>by simp [totF,sumL]
 | [],f :: fs,h=>by simp [fitsP] at h
 | k :: ks,[],h=>by simp [fitsP] at h
 | k :: ks,f :: fs,h=>by
  simp only [fitsP,Bool.and_eq_true] at h
  have ih:=fits_total ks fs h.2
  have h1:1+f.l.length≤21 * k.txt.length:=by
   have hf:=h.1
   unfold fitF at hf
   unfold Kd.txt
   cases hs:k.star with
   | true=>rw [hs] at hf;simp at hf;simp;omega
   | false=>rw [hs] at hf;simp at hf;simp [hf.1]
  simp only [totF,sumL,formP,List.length_cons,List.length_append] at ih ⊢
  omega
theorem small_at {fs:List Fd} (h:smallF fs) {i:Nat} {f:Fd} (hi:fs[i]? = some f):f.n < 18446744073709551616∧∀ x∈f.l,x.1 < 18446744073709551616:=h f (List.mem_of_getElem? hi)
theorem fWrite_any (ks:List Kd) (hf:OkForm ks) (hl:(formP ks).length≤40) (hk:ks.length≤20) (fs:List Fd) (hn:smallF fs) (hfl:fs.length≤1000) (hll:∀ f∈fs,f.l.length≤100000) (A:Option Addr) (c:Nat) (w:World) (hv:FdsV Any w fs A c) :
  Calls Tryz.prog 16 #[.string (bs (formP ks)),.slice A fs.length c] w fun e w'=>e=.returned (.tuple #[.string (bs (fwP ks fs).1),.int .i64 (fwP ks fs).2])∧Below w.heap.size w w':=by
 have hK:=kinds_any ks hf hl w
 have hno:¬ totF fs≤1000→fwP ks fs=([],1):=fun h=>by
  unfold fwP
  rw [if_neg]
  intro h1
  have:=fits_total ks fs h1
  omega
 have htop:∀ (Ak:Option Addr) (ck:Nat) (W:World),KindsV Any W ks Ak ck→Below w.heap.size w W→Calls Tryz.prog 41 #[.agg #[.int .u8 40,.slice Ak ks.length ck],.slice A fs.length c] W (FitPost (recF ks fs) (fitsP ks fs) W):=fun Ak ck W hkv hb=>by
  have:=items_top fs (fun i=>itemF (ks.getD i noK) (fs.getD i noF)) (fun i=>fitF (ks.getD i noK) (fs.getD i noF)) ks (fun i=>ks.getD i noK) (fun i k hi=>getD_some hi) (by omega) Ak ck A c W hkv (Rep.keep hv hb)
   (fun i f s A1 n1 c1 A2 c2 W' hi hks hr hlv=>by
    obtain ⟨k,hki⟩:=Option.isSome_iff_exists.1 hks
    rw [getD_some hi]
    rw [getD_some hki] at hr ⊢
    exact fitem_any k (hf k (List.mem_of_getElem? hki)) f (small_at hn hi).1 (small_at hn hi).2 (hll f (List.mem_of_getElem? hi)) s A1 n1 c1 A2 c2 W' hr hlv)
  rw [fits_range] at this
  refine this.mono fun e w' ⟨y,Ay,cy,h1,h2,h3,h4⟩=>⟨y,Ay,cy,h1,h2,fun h=>?_,h4⟩
  rw [h3 h]
  unfold recF
  rw [items_range ks fs (fitsP_len h).symm]
 have hfine:=fun (h:fitsP ks fs=true)=>rec_fine h hn hk
 obtain ⟨FW,hFW⟩:∃ FW,fwP ks fs=FW:=⟨_,rfl⟩
 have hyes:fitsP ks fs=true→encR (recF ks fs)=FW:=fun h=>by rw [← hFW];unfold fwP;rw [if_pos h]
 have hnot:fitsP ks fs=false→FW=([],1):=fun h=>by rw [← hFW];unfold fwP;rw [if_neg (by rw [h];decide)]
 rw [hFW] at hno ⊢
 obtain ⟨F,hF⟩:∃ F,formP ks=F:=⟨_,rfl⟩
 rw [hF] at hK ⊢
 have HK:=Lib.hid hK
 have HT:=Lib.hid htop
 have HV:=Lib.hid hv
 have HNO:=Lib.hid hno
 have HFINE:=Lib.hid hfine
 have HYES:=Lib.hid hyes
 have HNOT:=Lib.hid hnot
 clear hK hno htop hfine hFW hF hv hf hn hll hl hk hyes hnot
 go_enter Tryz.func16,Tryz.ntmps16
 go_wp2_with fail
 refine HK.out.mono ?_
 clear HK
 rintro e w1 ⟨Ak,ck,rfl,hkv1,hb1⟩
 have HKV:=Lib.hid hkv1
 have HB1:=Lib.hid hb1
 clear hkv1
 go_wp2_with fail
 refine (count_any fs hfl A c w1 (Rep.keep HV.out hb1)).mono ?_
 clear hb1
 rintro e w2 ⟨b2,rfl,hb2c,hb2⟩
 have HBC:=Lib.hid hb2c
 have HB2:=Lib.hid (below_call HB1.out HB1.out.size hb2)
 have HKV2:=Lib.hid (Rep.keep HKV.out hb2)
 clear hb2c hb2 HKV HB1
 cases b2 with
 | false =>
  have hno:FW=([],1):=HNO.out (fun h=>by have:=HBC.out h;cases this)
  have HN:=Lib.hid hno
  clear hno
  go_wp2_with fail
  go_ret2
  rw [HN.out]
  exact ⟨rfl,HB2.out⟩
 | true =>
  go_wp2_with fail
  refine (HT.out Ak ck w2 (Rep.any HKV2.out) HB2.out).mono ?_
  rintro e w3 ⟨y,Ay,cy,rfl,hy,hyx,hb3⟩
  have HB3:=Lib.hid (below_call HB2.out HB2.out.size hb3)
  have HY:=Lib.hid hy
  have HYX:=Lib.hid hyx
  obtain ⟨OK,hOK⟩:∃ OK,fitsP ks fs=OK:=⟨_,rfl⟩
  rw [hOK] at HYX HFINE HYES HNOT ⊢
  clear hb3 hy hyx HKV2 HB2 hOK HT HV
  cases OK with
  | false =>
   go_wp2_with fail
   go_ret2
   rw [HNOT.out (by simp)]
   exact ⟨rfl,HB3.out.alloc HB3.out.size _⟩
  | true =>
   have hyr:=HYX.out (by simp)
   have hf:=HFINE.out (by simp)
   rw [← hyr] at hf
   have hE:=Encode_any y Ay cy (w3.alloc (.cells #[.bool y.l,.string (bs y.b),.slice Ay y.ks.length cy] 86)) (by omega) (HY.out.alloc _).any
   rw [show encR y=FW from by rw [hyr];exact HYES.out (by simp)] at hE
   have HE:=Lib.hid hE
   clear hE hyr hf HYX
   go_wp2_with fail
   refine HE.out.mono ?_
   rintro e w4 ⟨rfl,hb4⟩
   go_wp2_with fail
   go_ret2
   exact ⟨rfl,below_call (HB3.out.alloc HB3.out.size _) (by have:=HB3.out.size;simp;omega) hb4⟩
/- Rows of texts in memory. -/
def strD (p:Bytes):D:=.v (.string (bs p))
def strsD (ps:List Bytes):List D:=ps.map strD
/-- a row of texts as it lies in memory -/
def StrV (S:Nat→Prop) (w:World) (ps:List Bytes) (A:Option Addr) (c:Nat):Prop:=Rep S w (.sl 1 (strsD ps)) [.slice A ps.length c]
section
variable {S S':Nat→Prop} {w w':World} {ps:List Bytes} {A:Option Addr} {c:Nat}
theorem StrV.keep (h:StrV S w ps A c) (hb:Below w.heap.size w w'):StrV S w' ps A c:=Rep.keep h hb
theorem StrV.any (h:StrV S w ps A c):StrV Any w ps A c:=Rep.any h
theorem StrV.at_ {i:Nat} {p:Bytes} (h:StrV S w ps A c) (hi:ps[i]? = some p):∃ g o,A=some ⟨g,o,none⟩∧S g∧w.cell? ⟨g,o+i,none⟩=some (.string (bs p)):=by
 obtain ⟨g,o,ci,hA,hs,hr,_,hc⟩:=h.slice_at (i:=i) (d:=strD p) (by omega) (by simp [strsD,hi])
 have:=hr.v_form
 subst this
 exact ⟨g,o,hA,hs,by simpa using hc 0 _ rfl⟩
theorem strs_snoc {ys:List Value} {q:Bytes} (h:RepN S w 1 (strsD ps) ys):RepN S w 1 (strsD (ps ++ [q])) (ys ++ [.string (bs q)]):=by
 unfold strsD;rw [List.map_append];exact RepN.snoc (.v _ rfl) rfl h
end
theorem elStr:ElemOk Tryz.prog 24 9 (.string (bs [])) 1 16:=⟨Tryz.underlying24,by kernel_rfl,rfl,by omega⟩
/- The walks of the reference's records: end, Kinds. -/
theorem end_plain (F:Bytes) (hF:F.length≤1000) (a:Nat) (c:UInt8) (hc:okC c) (ha:F[a]? = some c) (d:Int) (w:World) :
  Calls Tryz.prog 91 #[.string (bs F),.int .i64 (a:Int),.int .i64 d] w fun e w'=>e=.returned (.int .i64 ((a+1:Nat):Int))∧w=w':=by
 obtain ⟨hlt,hx⟩:=List.getElem?_eq_some_iff.1 ha
 have hlI:(a:Int) < F.length:=by omega
 have hFI:(F.length:Int)≤1000:=by omega
 clear ha
 rcases hc with rfl | rfl | rfl | rfl | rfl
 all_goals
  go_enter Tryz.func91,Tryz.ntmps91
  go_wp2_with fail
  go_ret
  exact ⟨by simp,rfl⟩
theorem end_any (F:Bytes) (hF:F.length≤1000) (a:Nat) (k:Kd) (hc:okC k.c) (t:Bytes) (ha:F.drop a=k.txt ++ t) (w:World) :
  Calls Tryz.prog 91 #[.string (bs F),.int .i64 (a:Int),.int .i64 0] w fun e w'=>e=.returned (.int .i64 ((a+k.txt.length:Nat):Int))∧w=w':=by
 obtain ⟨c,st⟩:=k
 cases st with
 | false =>
  have h0:F[a]? = some c:=by
   have:(F.drop a)[0]? = some c:=by rw [ha];rfl
   rwa [List.getElem?_drop,Nat.add_zero] at this
  exact end_plain F hF a c hc h0 0 w
 | true =>
  have h0:F[a]? = some 42:=by
   have:(F.drop a)[0]? = some 42:=by rw [ha];rfl
   rwa [List.getElem?_drop,Nat.add_zero] at this
  have h1:F[a+1]? = some c:=by
   have:(F.drop a)[1]? = some c:=by rw [ha];rfl
   rwa [List.getElem?_drop] at this
  obtain ⟨hlt,hx⟩:=List.getElem?_eq_some_iff.1 h0
  have hlI:(a:Int) < F.length:=by omega
  have hFI:(F.length:Int)≤1000:=by omega
  have HC:=Lib.hid (end_plain F hF (a+1) c hc h1 1 w)
  have hl2:(⟨c,true⟩:Kd).txt.length=2:=rfl
  rw [hl2]
  clear h0 h1 ha hc hl2
  go_enter Tryz.func91,Tryz.ntmps91
  go_wp2_with fail
  refine HC.out.mono ?_
  rintro e w1 ⟨rfl,rfl⟩
  go_wp2_with fail
  go_ret
  exact ⟨by simp only [Ending.returned.injEq,Value.int.injEq,true_and];simp;omega,rfl⟩
/-- behind a form's kinds -/
def RKindsPost (ks:List Kd) (w:World) (e:Ending) (w':World):Prop :=
 ∃ A c,e=.returned (.tuple #[.slice A ks.length c,.bool true])∧StrV (From w.heap.size) w' (ks.map Kd.txt) A c∧Below w.heap.size w w'
theorem refKinds_any (ks:List Kd) (hf:OkForm ks) (hl:(formP ks).length≤40) (w:World):Calls Tryz.prog 50 #[.string (bs (formP ks))] w (RKindsPost ks w):=by
 obtain ⟨F,hF⟩:∃ F,formP ks=F:=⟨_,rfl⟩
 have hksl:=(formP_len ks).1
 rw [hF] at hl hksl ⊢
 have HF:=Lib.hid hF
 have HOK:=Lib.hid hf
 have hlI:¬ (40:Int) < F.length:=by omega
 have hFI:(F.length:Int)≤40:=by omega
 clear hF hf
 go_enter Tryz.func50,Tryz.ntmps50
 go_wp2_with fail
 go_loopw [4,5] (fun o at' wr=>∃ (i a:Nat) (ys:List Value),at'=.int .i64 a∧i≤ks.length∧Hid (a=(formP (ks.take i)).length)∧a≤F.length∧wr.ownsRow w.heap.size 9 1 o i ys∧Hid (RepN (From w.heap.size) w 1 (strsD ((ks.take i).map Kd.txt)) ys)∧Below w.heap.size w wr) (fun _ at' _=>F.length - (intOf at').toNat)
 case atStart=>exact ⟨0,0,[],rfl,Nat.zero_le _,Lib.hid rfl,Nat.zero_le _,World.ownsRow_lit w _ 0 (Nat.le_refl _) (Nat.zero_le _) rfl,Lib.hid .nil,(Below.refl _ _).alloc (Nat.le_refl _) _⟩
 case round =>
  obtain ⟨i,a,ys,rfl,hi,ha,hal,hown,hrep,hB⟩:=hrel
  obtain ⟨A',c',rfl⟩:=own_form hown
  have hBs:=hB.size
  by_cases hlt:i < ks.length
  ·obtain ⟨k,hk⟩:=getElem_ex hlt
   have hd:List.drop a F=k.txt ++ formP (ks.drop (i+1)):=by rw [← HF.out,ha.out,form_drop hk]
   have hal2:(formP (ks.take (i+1))).length≤F.length:=by rw [← HF.out];exact form_take_le ks (i+1)
   rw [form_take_succ hk,← ha.out] at hal2
   have hkl:=txt_len k
   have HT1:=Lib.hid (form_take_succ hk)
   have hC:=end_any F (by omega) a k (HOK.out k (List.mem_of_getElem? hk)) _ hd wr
   have hsub:List.take (a+k.txt.length - a) (List.drop a F)=k.txt:=by rw [hd,Nat.add_sub_cancel_left];simp
   have HR1:Hid (RepN (From w.heap.size) w 1 (strsD ((ks.take (i+1)).map Kd.txt)) (ys ++ [.string (bs k.txt)])):=Lib.hid (by rw [take_snoc hk,List.map_append];exact strs_snoc hrep.out)
   obtain ⟨n,hn⟩:∃ n,k.txt.length=n:=⟨_,rfl⟩
   rw [hn] at hal2 hkl HT1 hC hsub
   obtain ⟨b,hb⟩:∃ b,a+n=b:=⟨_,rfl⟩
   rw [hb] at hal2 hC hsub
   have HA:Hid (b=(formP (ks.take (i+1))).length):=Lib.hid (by rw [HT1.out,← hb,ha.out])
   have habI:(a:Int)≤b:=by omega
   have hab:a < b:=by omega
   have hbI:(b:Int)≤F.length:=by omega
   have haltI:(a:Int) < F.length:=by omega
   have hsub':(bs F).extract a b=bs k.txt:=by rw [bs_extract,hsub]
   have HC:=Lib.hid hC
   have HW:=Lib.hid hown
   have HB:=Lib.hid hB
   clear hC hk hown hrep hB hn hb hd HT1
   go_wp2_with fail
   refine HC.out.mono ?_
   clear HC
   rintro e w1 ⟨rfl,rfl⟩
   go_wp2_with (at_builtin;refine wpl_append elStr rfl rfl w.heap.size (HW.out.alloc _) rfl (m:=1) [.string (bs k.txt)] rfl rfl ?_ ?_ ?_ ?_ ?_ ?_;exact (lies_new' _ _ rfl _ _);(intro u hu;simp at hu;rcases hu with rfl;rfl);(simp only [maxLen];omega);omega;(simp;omega);intro v1 w4 hown4 hg4 hat4;obtain ⟨A2,c2,rfl⟩:=own_form hown4)
   go_roundw
   case rel=>exact ⟨i+1,b,ys ++ [.string (bs k.txt)],rfl,by omega,HA,hal2,hown4,HR1,below_app (HB.out.alloc hBs _) (HW.out.alloc _) hg4 (by simp;omega) (Nat.le_refl _)⟩
   case measure=>simp [intOf];omega
  ·obtain rfl:i=ks.length:=by omega
   have haF:a=F.length:=by rw [ha.out,List.take_length,HF.out]
   subst haF
   have HR1:Hid (StrV (From w.heap.size) wr (ks.map Kd.txt) A' c'):=Lib.hid (by
    have hp:=hrep.out
    rw [List.take_length] at hp
    have:=rep_own hown (RepN.mono hp fun b hb hs=>⟨hs,hB.block b hb⟩) (by simp [strsD]) (fun g h1 _=>h1)
    unfold StrV
    rw [List.length_map]
    exact this)
   have HB:=Lib.hid hB
   clear hown hrep hB
   go_wp2_with fail
   go_ret2
   exact ⟨A',c',rfl,HR1.out,HB.out⟩
end Go.Proofs.YtdfmheademcbkaaGreat
