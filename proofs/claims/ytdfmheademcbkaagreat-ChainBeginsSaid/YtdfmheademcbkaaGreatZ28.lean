/- The walk of sums.add. -/
import Derived.Test.YtdfmheademcbkaaGreatZ22
import Derived.Test.YtdfmheademcbkaaGreatZ26
import Derived.Test.YtdfmheademcbkaaGreatZ27
import Derived.Test.YtdfmheademcbkaaGreatZ03
namespace Go.Proofs.YtdfmheademcbkaaGreat
set_option linter.unusedVariables false
set_option linter.unusedSimpArgs false
open Go.RowKit
set_option maxHeartbeats 4000000
set_option maxRecDepth 100000
/-- behind a node that is summed -/
def AddPost (g:Nat) (v:Value) (its:List Item) (n:TN) (w:World) (e:Ending) (w':World):Prop :=
 e=.returned (.tuple #[])∧∃ v' xs',SumV w' g v' (its ++ [tellP (nodeIt its n)]) (writeP (nodeIt its n)) xs'∧ArnTo g v w w' v'
theorem ItemV.any {S:Nat→Prop} {w:World} {x:Item} {A:Option Addr} {c:Nat} (h:ItemV S w x A c):ItemV Any w x A c:=h.mono fun _ _ _=>⟨trivial,rfl⟩
theorem SumV.set {w:World} {g:Nat} {v:Value} {its:List Item} {last:Bytes} {xs:List Value} (h:SumV w g v its last xs) (b:Bytes):SumV (w.setCell ⟨g,1,none⟩ (.string (bs b))) g v its b xs :=
 ⟨heap_setCell_here h.ptr _,own_setOther h.own (by omega) _,RepN.mono h.rep fun k _ hk=>⟨hk,heap_set_ne hk.1 _⟩⟩
theorem own_heap {w w':World} {base:Nat} {e:TypeId} {size:Nat} {v:Value} {n:Nat} {xs:List Value} (h:w.ownsRow base e size v n xs) (hk:∀ k,v.ownBlock=some k→w'.heap[k]? = w.heap[k]?):w'.ownsRow base e size v n xs :=
 ⟨h.1,h.2.imp id fun ⟨g,cap,cur,h1,h2,h3,r⟩=>⟨g,cap,cur,h1,h2,(hk g (by rw [h1];rfl)).trans h3,r⟩⟩
/-- sums in a later world that has but the last sum changed -/
theorem SumV.later {w W:World} {g:Nat} {v:Value} {its:List Item} {last L:Bytes} {xs:List Value} (h:SumV w g v its last xs) (hp:W.heap[g]? = some (.cells #[v,.string (bs L)] 127 (0,0))) (hk:∀ k,k < w.heap.size→k≠g→W.heap[k]? = w.heap[k]?):SumV W g v its L xs :=
 ⟨hp,own_heap h.own fun k e=>hk k (h.own.lt k e).2 (by have:=(h.own.lt k e).1;omega),RepN.mono h.rep fun k hl hs=>⟨hs,hk k hl hs.1⟩⟩
theorem ArnTo.setg {g:Nat} {v v':Value} {w w':World} (h:ArnTo g v w w' v') (i:Nat) (u:Value):ArnTo g v w (w'.setCell ⟨g,i,none⟩ u) v' :=
 ⟨h.os,h.tape,h.output,by simpa using h.size,fun k hk ha=>(heap_set_ne ha.1 u).trans (h.block k hk ha),h.row⟩
theorem set3 {xs:List Value} {n:Nat} (h:xs.length=n * 3) (a b c a' b' c':Value):(((xs ++ [a,b,c]).set (n * 3) a').set (n * 3+1) b').set (n * 3+2) c'=xs ++ [a',b',c']:=by
 rw [List.set_append_right _ _ (by omega),List.set_append_right _ _ (by omega),List.set_append_right _ _ (by omega),h]
 simp
/-- behind the append of an item that is stored then -/
theorem add_fin {g:Nat} {v v1:Value} {its:List Item} {xs:List Value} {L:Bytes} {y:Item} {A:Option Addr} {c:Nat} {w W7 W':World} (hS7:SumV W7 g v its L xs) (hY7:ItemV (Apart g v) W7 y A c) (hT7:ArnTo g v w W7 v)
  (hat1:v1.ownBlock=v.ownBlock∨v1.ownBlock=some W7.heap.size) (hpt:W'.heap[g]? = some (.cells #[v1,.string (bs L)] 127 (0,0)))
  (hown:W'.ownsRow (g+1) 86 3 v1 (its.length+1) (xs ++ [.bool y.l,.string (bs y.b),.slice A y.ks.length c]))
  (hg:W'.os=W7.os∧W'.tape=W7.tape∧W'.output=W7.output∧W7.heap.size≤W'.heap.size) (hk:∀ k,k < W7.heap.size→Apart g v k→W'.heap[k]? = W7.heap[k]?) :
  SumV W' g v1 (its ++ [y]) L (xs ++ [.bool y.l,.string (bs y.b),.slice A y.ks.length c])∧ArnTo g v w W' v1:=by
 have hap:∀ k,k < W7.heap.size→Apart g v k→Apart g v1 k∧W'.heap[k]? = W7.heap[k]?:=fun k h1 h2=>by
  refine ⟨⟨h2.1,fun e=>?_⟩,hk k h1 h2⟩
  rcases hat1 with h | h
  ·exact h2.2 (h ▸ e)
  ·rw [h] at e;injection e with e;omega
 refine ⟨⟨hpt,by rw [List.length_append];exact hown,?_⟩,?_⟩
 ·rw [itemsD_append]
  exact RepN.snoc (hY7.mono hap) rfl (RepN.mono hS7.rep hap)
 ·have:ArnTo g v W7 W' v1:=⟨hg.1,hg.2.1,hg.2.2.1,hg.2.2.2,hk,fun k e=>by
   rcases hat1 with h | h
   ·exact .inl (h ▸ e)
   ·rw [h] at e;injection e with e;exact .inr (by omega)⟩
  exact hT7.trans this
theorem itemV_row {S:Nat→Prop} {w:World} {ks:List Item} {cs:List Value} {g:Nat} {t:TypeId} {c:Nat} (hr:RepN S w 3 (itemsD ks) cs) (h:w.heap[g]? = some (.cells cs.toArray t (0,0))) (hS:S g) (h1:ks.length≤c) (h2:c≤maxLen):ItemV S w (listIt ks) (some ⟨g,0,none⟩) c :=
 itemV_mk (.sl hr (itemsD_len ks).symm (fun _=>⟨g,0,rfl,hS,fun j u hj=>by rw [Nat.zero_add,cell_of_row _ _ _ _ _ _ h];simpa using hj⟩) h1 h2)
theorem enc_fine {its:List Item} {n:TN} (h:NodeOk its n):encR (nodeIt its n)=(writeP (nodeIt its n),0):=by
 have h1:=h.pure
 have h2:=h.len
 have h3:=h.depth
 have h4:=pure_count _ h1
 have hw:wellP (nodeIt its n)=true:=by unfold wellP;rw [h1];simp;omega
 unfold encR
 rw [if_neg (by rw [hw];decide),if_neg (by omega),if_neg (by omega)]
theorem add_leaf (n:TN) (hk:n.k=1) (its:List Item) (hN:NodeOk its n) (hl:its.length≤10000) (g:Nat) (v:Value) (last:Bytes) (xs:List Value) (w:World) (hs:SumV w g v its last xs) :
  Calls Tryz.prog 72 #[.pointer (some ⟨g,0,none⟩),.agg (nodeC n).toArray] w (AddPost g v its n w):=by
 obtain ⟨A0,c0,rfl⟩:=own_form hs.own
 obtain ⟨v,hv⟩:∃ v,v=Value.slice A0 its.length c0:=⟨_,rfl⟩
 rw [← hv] at hs ⊢
 have HVV:=Lib.hid hv
 clear hv
 have hb:Below w.heap.size w (w.alloc (.cells (nodeC n).toArray 130)):=(Below.refl _ _).alloc (Nat.le_refl _) _
 have hn:=NRow.new w n
 have h0:(nodeC n)[0]? = some (.int .i64 n.k):=rfl
 have h1:(nodeC n)[1]? = some (.string (bs n.part)):=rfl
 have h2:(nodeC n)[2]? = some (.string (bs n.value)):=rfl
 have d0:=hn.cell h0
 have d1:=hn.cell h1
 have d2:=hn.cell h2
 rw [hk] at d0
 have hpl:=hN.part
 have HN:=Lib.hid hN
 have HB:=Lib.hid hb
 have HR:=Lib.hid hn
 have HS:=Lib.hid hs
 clear hN hb hn hs h0 h1 h2
 go_enter Tryz.func72,Tryz.ntmps72
 go_wp2_with fail
 refine (Pack_any n.part (by omega) HN.out.half true _).mono ?_
 rintro e w1 ⟨rfl,hb1⟩
 have hB1:=below_call HB.out HB.out.size hb1
 have hr1:=HR.out.keep hb1
 have e0:w1.cell? ⟨w.heap.size,0,none⟩=some (.int .i64 1):=by rw [(bcell hb1).1 _ _ HR.out.lt];exact d0
 have e2:w1.cell? ⟨w.heap.size,2,none⟩=some (.string (bs n.value)):=by rw [(bcell hb1).1 _ _ HR.out.lt];exact d2
 clear d0 d1 d2 HB HR hb1
 have HB:=Lib.hid hB1
 have HR:=Lib.hid hr1
 clear hB1 hr1
 go_wp2_with fail
 refine (List_any _ 2 2 _).mono ?_
 rintro e w2 ⟨rfl,hb2⟩
 have hBR:Below w.heap.size w (w1.alloc (.cells #[.bool false,.string (bs (packP n.part true)),.slice none 0 0,.bool false,.string (bs n.value),.slice none 0 0] 86)):=HB.out.alloc HB.out.size _
 have hB2:=below_call hBR hBR.size hb2
 have hrow:w2.heap[w1.heap.size]? = some (.cells #[.bool false,.string (bs (packP n.part true)),.slice none 0 0,.bool false,.string (bs n.value),.slice none 0 0] 86 (0,0)):=(hb2.block _ (by simp)).trans (heap_alloc_new w1 _)
 have hS2:=HS.out.keep hB2
 have hwg:=HS.out.lt
 have hApR:Apart g v w1.heap.size:=⟨by have:=HB.out.size;omega,fun e=>by have:=(HS.out.own.lt _ e).2;have:=HB.out.size;omega⟩
 have hnx:nodeIt its n=listIt [leafIt (packP n.part true),leafIt n.value]:=by simp [nodeIt,hk]
 have hxv:ItemV (Apart g v) w2 (nodeIt its n) (some ⟨w1.heap.size,0,none⟩) 2:=by
  rw [hnx]
  refine itemV_row (ks:=[leafIt (packP n.part true),leafIt n.value]) (.cons (ItemV.leaf (packP n.part true) false) rfl (.cons (ItemV.leaf n.value false) rfl .nil)) hrow hApR (by simp) (by simp [maxLen])
 have HXV:=Lib.hid hxv
 have HNX:=Lib.hid hnx
 have HS2:=Lib.hid hS2
 have HB2:=Lib.hid hB2
 have hw2:=hB2.size
 have hR2:=HR.out.keep ((Below.refl w1.heap.size w1).alloc (Nat.le_refl _) (.cells #[.bool false,.string (bs (packP n.part true)),.slice none 0 0,.bool false,.string (bs n.value),.slice none 0 0] 86))
 replace hR2:=hR2.keep hb2
 replace e0:w2.cell? ⟨w.heap.size,0,none⟩=some (.int .i64 1):=by have h:=hR2.cell (j:=0) (u:=.int .i64 n.k) rfl;rw [hk] at h;exact h
 have hba:Below w2.heap.size w2 (w2.alloc (.cells #[.bool true,.string (bs []),.slice (some ⟨w1.heap.size,0,none⟩) 2 2] 86)):=(Below.refl _ _).alloc (Nat.le_refl _) _
 have hE:=Encode_any (nodeIt its n) (some ⟨w1.heap.size,0,none⟩) 2 _ (by have:=HN.out.len;omega) (hxv.keep hba).any
 rw [enc_fine HN.out,show (nodeIt its n).l=true by rw [hnx];rfl,show (nodeIt its n).b = [] by rw [hnx];rfl,show (nodeIt its n).ks.length=2 by rw [hnx];rfl] at hE
 have HE:=Lib.hid hE
 have HX3:=Lib.hid (hxv.keep hba)
 have HS3:=Lib.hid (hS2.keep hba)
 have HB3:=Lib.hid (below_call hB2 hB2.size hba)
 have hX3:=heap_alloc_new w2 (.cells #[.bool true,.string (bs []),.slice (some ⟨w1.heap.size,0,none⟩) 2 2] 86)
 have HXR:=Lib.hid hX3
 have e00:=ca e0 (.cells #[.bool true,.string (bs []),.slice (some ⟨w1.heap.size,0,none⟩) 2 2] 86)
 clear hxv hnx hS2 hB2 hrow hApR hBR hb2 e2 hba hE hX3 hR2
 go_wp2_with fail
 refine HE.out.mono ?_
 rintro e w4 ⟨rfl,hb4⟩
 have hS4:=HS3.out.keep hb4
 have hX4:=HX3.out.keep hb4
 have hXR4:=(hb4.block _ (Array.getElem?_eq_some_iff.1 HXR.out).1).trans HXR.out
 have hB4:=below_call HB3.out HB3.out.size hb4
 have z1:=hS4.cell1
 have z2:=hS4.free 1
 clear HE HX3 HS3 HB3 HXR hb4
 try clear HS2 HB2 HXV HB HR e0 e00
 have HS4:=Lib.hid hS4
 have HX4:=Lib.hid hX4
 have HR4:=Lib.hid hXR4
 have HB4:=Lib.hid hB4
 clear hS4 hX4 hXR4 hB4
 go_wp2_with fail
 ·refine (sum_any (writeP (nodeIt its n)) (by have:=HN.out.len;omega) _).mono ?_
  rintro e w5 ⟨rfl,hb5⟩
  obtain ⟨y,hy⟩:∃ y,y=leafIt (sumK (writeP (nodeIt its n))):=⟨_,rfl⟩
  have hty:tellP (nodeIt its n)=y:=by unfold tellP;rw [if_pos (by omega),hy]
  have hXw:w.heap.size≤w2.heap.size:=hw2
  have hS5:=(HS4.out.set (writeP (nodeIt its n))).keep hb5
  have hT5:=((ArnTo.of_below (g:=g) (v:=v) HB4.out).setg 1 (.string (bs (writeP (nodeIt its n))))).trans (ArnTo.of_below hb5)
  have hX4:(w4.setCell ⟨g,1,none⟩ (.string (bs (writeP (nodeIt its n))))).heap[w2.heap.size]? = _:=(heap_set_ne (by omega) _).trans HR4.out
  have hX5:=(hb5.block _ (Array.getElem?_eq_some_iff.1 hX4).1).trans hX4
  have hkk:∀ k,k < w.heap.size→k≠g→w5.heap[k]? = w.heap[k]?:=fun k h1 h2 =>
   (hb5.block k (by have:=HB4.out.size;simp;omega)).trans ((heap_set_ne h2 _).trans (HB4.out.block k h1))
  clear hb5 hX4 HS4 HX4 HR4 HB4 z1 z2
  have d0:w5.cell? ⟨w2.heap.size,0,none⟩=some (.bool true):=by rw [cell_of_row _ _ _ _ _ _ hX5];rfl
  have d1:w5.cell? ⟨w2.heap.size,1,none⟩=some (.string (bs [])):=by rw [cell_of_row _ _ _ _ _ _ hX5];rfl
  have d2:w5.cell? ⟨w2.heap.size,2,none⟩=some (.slice (some ⟨w1.heap.size,0,none⟩) 2 2):=by rw [cell_of_row _ _ _ _ _ _ hX5];rfl
  have f0:w5.frozen? ⟨w2.heap.size,0,none⟩=false:=by simp [World.frozen?,hX5]
  have f1:w5.frozen? ⟨w2.heap.size,1,none⟩=false:=by simp [World.frozen?,hX5]
  have f2:w5.frozen? ⟨w2.heap.size,2,none⟩=false:=by simp [World.frozen?,hX5]
  have z5:=hS5.cell1
  have HP5:=Lib.hid hS5.ptr
  have HT5':=Lib.hid hT5
  have HX5':=Lib.hid hX5
  have HKK:=Lib.hid hkk
  clear hS5 hT5 hX5 hkk
  go_wp2_with fail
  obtain ⟨X,hX⟩:∃ X,X=w2.heap.size:=⟨_,rfl⟩
  rw [← hX] at HX5' hXw ⊢
  obtain ⟨W,hW⟩:∃ W,W=((w5.setCell ⟨X,0,none⟩ (.bool false)).setCell ⟨X,1,none⟩ (.string (bs (sumK (writeP (nodeIt its n)))))).setCell ⟨X,2,none⟩ (.slice none 0 0):=⟨_,rfl⟩
  obtain ⟨A,hA⟩:∃ A,A=(none:Option Addr):=⟨_,rfl⟩
  obtain ⟨c,hc⟩:∃ c,c=0:=⟨_,rfl⟩
  have HS5:Hid (SumV W g v its (writeP (nodeIt its n)) xs):=Lib.hid (by
   rw [hW]
   refine HS.out.later ?_ (fun k h1 h2=>?_)
   ·rw [heap_set_ne (by omega),heap_set_ne (by omega),heap_set_ne (by omega)];exact HP5.out
   ·rw [heap_set_ne (by omega),heap_set_ne (by omega),heap_set_ne (by omega)];exact HKK.out k h1 h2)
  have HY:Hid (ItemV (Apart g v) W y A c):=Lib.hid (by rw [hy,hA,hc];exact ItemV.leaf _ _)
  have HXR:Hid (W.heap[X]? = some (.cells #[.bool y.l,.string (bs y.b),.slice A y.ks.length c] 86 (0,0))):=Lib.hid (by
   rw [hW,hA,hc,hy]
   exact heap_setCell_here (heap_setCell_here (heap_setCell_here HX5'.out _) _) _)
  have HT5:Hid (ArnTo g v w W v):=Lib.hid (by rw [hW];exact ((HT5'.out.set hXw _).set hXw _).set hXw _)
  rw [← hW]
  clear hW hA hc hy HT5' HX5' d0 d1 d2 f0 f1 f2 hX HP5 HKK z5
  refine wp_region_held_drew (S:=fun w'=>w'.heap[X]? = some (.cells #[.bool y.l,.string (bs y.b),.slice A y.ks.length c] 86 (0,0))) (by kernel_rfl) HXR.out (fun hHeld=>?_)
  refine H_t (i:=0) (v:=.pointer (some ⟨g,0,none⟩)) rfl (Or.inl ⟨by rfl,fun w' hS=>by go_simp⟩) hHeld ?_
  refine H_t (i:=1) (v:=.pointer (some ⟨g,0,none⟩)) rfl (Or.inl ⟨by rfl,fun w' hS=>by go_simp⟩) hHeld ?_
  refine H_t (i:=2) (v:=.pointer (some ⟨g,0,none⟩)) rfl (Or.inl ⟨by rfl,fun w' hS=>by go_simp⟩) hHeld ?_
  refine H_t (i:=4) (v:=.agg #[.bool y.l,.string (bs y.b),.slice A y.ks.length c]) rfl (yieldsIf_load_row rfl rfl rfl (fun w' hS=>hS) Tryz.underlying86 rfl infoI) hHeld ?_
  have hbd:Below W.heap.size W W.drew:=(Below.refl _ _).drew
  have hS6:=HS5.out.keep hbd
  have hY6:=HY.out.keep hbd
  have hT6:=HT5.out.trans (ArnTo.of_below hbd)
  have hXR6:W.drew.heap[X]? = _:=HXR.out
  generalize W.drew=W6 at hS6 hY6 hT6 hXR6 ⊢
  have z0:=hS6.cell0
  rw [HVV.out] at z0
  refine wpAnyH_ready (rs:=[3,6]) (by kernel_rfl) (by simp) ?_
  refine AllReadyH.cons rfl (fun K hK=>?_) (AllReadyH.cons rfl (fun K hK=>?_) AllReadyH.nil)
  ·go_simp
   refine hK.out _ _ hXR6 (fun hHeld=>?_)
   clear hK K
   refine lay_H ?_
   refine H_t (i:=5) (v:=.int .i64 (its.length:Int)) rfl (Or.inl ⟨by rfl,fun w' hS=>by go_simp⟩) hHeld ?_
   refine H_now 6 fun K hK=>?_
   have hba:Below W6.heap.size W6 (W6.alloc (.cells #[.bool false,.string ⟨#[]⟩,.slice none 0 0] 86)):=(Below.refl _ _).alloc (Nat.le_refl _) _
   have hS7:=hS6.keep hba
   have hY7:=hY6.keep hba
   have hT7:=hT6.trans (ArnTo.of_below hba)
   have hXR7:=(hba.block _ (Array.getElem?_eq_some_iff.1 hXR6).1).trans hXR6
   have hL7:=lies_new W6 #[.bool false,.string ⟨#[]⟩,.slice none 0 0] 86
   go_simp
   refine hK.out _ _ hXR7 (fun hHeld=>?_)
   clear hK K
   refine lay_H ?_
   refine H_now 7 fun K hK=>?_
   have hown7:(W6.alloc (.cells #[.bool false,.string ⟨#[]⟩,.slice none 0 0] 86)).ownsRow (g+1) 86 3 (.slice A0 its.length c0) its.length xs:=by rw [← HVV.out];exact hS7.own
   have hgl7:=hS7.lt
   refine stl_append elItem rfl rfl (g+1) hown7 rfl (m:=1) [.bool false,.string ⟨#[]⟩,.slice none 0 0] rfl rfl hL7 (by intro u hu;simp at hu;rcases hu with rfl | rfl | rfl <;> rfl) (by simp only [maxLen];omega) (by omega) (by omega) ?_
   intro v1 w8 hown1 hg1 hat1
   rw [← HVV.out] at hg1 hat1
   have hxl:xs.length=its.length * 3:=hS7.own.1
   have hne:some g≠v.ownBlock:=fun e=>by have:=(hS7.own.lt _ e.symm).1;omega
   obtain ⟨g1,k1,cur1,rfl,hg1b,_,hk1,hk2,_,_⟩:=hown1.2.resolve_left (fun h=>by omega)
   have hc0:=hown1.cellAt (its.length * 3) (by omega)
   have hc1:=hown1.cellAt (its.length * 3+1) (by omega)
   have hc2:=hown1.cellAt (its.length * 3+2) (by omega)
   rw [List.getElem?_append_right (by omega),hxl] at hc0 hc1 hc2
   simp only [Nat.sub_self,Nat.add_sub_cancel_left,List.getElem?_cons_zero,List.getElem?_cons_succ] at hc0 hc1 hc2
   have hf0:=hown1.frozenAt (its.length * 3)
   have hf1:=hown1.frozenAt (its.length * 3+1)
   have hf2:=hown1.frozenAt (its.length * 3+2)
   have z8:w8.cell? ⟨g,0,none⟩=some v:=hg1.cell hS7.cell0 hne
   have f8:w8.frozen? ⟨g,0,none⟩=false:=(World.frozen?_of_block (hg1.block g hgl7 hne)).trans (hS7.free 0)
   rw [HVV.out] at z8
   have hXne:some X≠v.ownBlock:=fun e=>by have:=(HS.out.own.lt _ e.symm).2;omega
   have hXl:=(Array.getElem?_eq_some_iff.1 hXR7).1
   have hXR8:=(hg1.block X hXl hXne).trans hXR7
   have hg1g:g1≠g:=by omega
   have hXg1:X≠g1:=fun e=>by
    rcases hat1 with h | h
    ·exact hXne (by rw [← h,e];rfl)
    ·injection h with h;simp only [] at h;omega
   try simp only [Act.put,List.setIfInBounds_toArray,List.set_cons_zero,List.set_cons_succ,List.getElem_toArray,List.getElem_cons_zero,List.getElem_cons_succ]
   refine hK.out _ _ hXR8 (fun hHeld=>?_)
   clear hK K
   refine lay_H ?_
   have hlI:(its.length:Int) < (its.length:Int)+1:=by omega
   refine H_t (i:=8) (v:=.pointer (some ⟨g1,its.length * 3,none⟩)) rfl (Or.inl ⟨by rfl,fun w' hS=>by go_simp⟩) hHeld ?_
   refine H_t (i:=10) (v:=.pointer (some ⟨g,0,none⟩)) rfl (Or.inl ⟨by rfl,fun w' hS=>by go_simp⟩) hHeld ?_
   refine H_t (i:=11) (v:=.pointer (some ⟨g,0,none⟩)) rfl (Or.inl ⟨by rfl,fun w' hS=>by go_simp⟩) hHeld ?_
   have hKg:∀ k,k < (W6.alloc (.cells #[.bool false,.string ⟨#[]⟩,.slice none 0 0] 86)).heap.size→Apart g v k→k≠g1:=fun k h1 h2 e=>by
    rcases hat1 with h | h
    ·exact h2.2 (by rw [← h,e];rfl)
    ·injection h with h;simp only [] at h;omega
   have hp8:=(hg1.block g hgl7 hne).trans hS7.ptr
   refine wpAnyH_ready (rs:=[9,12]) (by kernel_rfl) (by simp) ?_
   refine AllReadyH.cons rfl (fun K hK=>?_) (AllReadyH.cons rfl (fun K hK=>?_) AllReadyH.nil)
   ·have z9:(((w8.setCell ⟨g1,its.length * 3,none⟩ (.bool y.l)).setCell ⟨g1,its.length * 3+1,none⟩ (.string (bs y.b))).setCell ⟨g1,its.length * 3+2,none⟩ (.slice A y.ks.length c)).cell? ⟨g,0,none⟩=some (.slice A0 its.length c0):=by rw [World.cell?_setCell_far _ _ _ _ (by simpa using hg1g),World.cell?_setCell_far _ _ _ _ (by simpa using hg1g),World.cell?_setCell_far _ _ _ _ (by simpa using hg1g)];exact z8
    have hX9:(((w8.setCell ⟨g1,its.length * 3,none⟩ (.bool y.l)).setCell ⟨g1,its.length * 3+1,none⟩ (.string (bs y.b))).setCell ⟨g1,its.length * 3+2,none⟩ (.slice A y.ks.length c)).heap[X]? = _:=(heap_set_ne hXg1 _).trans ((heap_set_ne hXg1 _).trans ((heap_set_ne hXg1 _).trans hXR8))
    have hp9:(((w8.setCell ⟨g1,its.length * 3,none⟩ (.bool y.l)).setCell ⟨g1,its.length * 3+1,none⟩ (.string (bs y.b))).setCell ⟨g1,its.length * 3+2,none⟩ (.slice A y.ks.length c)).heap[g]? = _:=(heap_set_ne hg1g.symm _).trans ((heap_set_ne hg1g.symm _).trans ((heap_set_ne hg1g.symm _).trans hp8))
    have st1:=(World.ownsRow.stored hown1 (its.length * 3) (.bool y.l)).1
    have st2:=(st1.stored (its.length * 3+1) (.string (bs y.b))).1
    have st3:=(st2.stored (its.length * 3+2) (.slice A y.ks.length c)).1
    rw [set3 hxl] at st3
    have hfin:=add_fin (W':=((((w8.setCell ⟨g1,its.length * 3,none⟩ (.bool y.l)).setCell ⟨g1,its.length * 3+1,none⟩ (.string (bs y.b))).setCell ⟨g1,its.length * 3+2,none⟩ (.slice A y.ks.length c)).setCell ⟨g,0,none⟩ (.slice (some ⟨g1,0,none⟩) (its.length+1) k1))) hS7 hY7 hT7 hat1 (heap_setCell_here hp9 _) (own_setOther st3 (by omega) _) ⟨hg1.os,hg1.tape,hg1.output,by simpa using hg1.size⟩ (fun k h1 h2=>(heap_set_ne h2.1 _).trans ((heap_set_ne (hKg k h1 h2) _).trans ((heap_set_ne (hKg k h1 h2) _).trans ((heap_set_ne (hKg k h1 h2) _).trans (hg1.block k h1 (fun e=>h2.2 e.symm))))))
    have HFIN:=Lib.hid hfin
    clear hfin st1 st2 st3 hp9
    go_simp
    refine hK.out _ _ hX9 (fun hHeld=>?_)
    clear hK K
    refine lay_H ?_
    refine H_now 12 fun K hK=>?_
    go_simp
    refine hK.out _ _ ((heap_set_ne (by omega) _).trans hX9) (fun hHeld=>?_)
    clear hK K
    refine lay_H ?_
    refine wpAnyH_done (by kernel_rfl) ?_ _
    go_wp2_with fail
    go_end0
    exact ⟨rfl,_,_,by rw [hty];exact HFIN.out.1,HFIN.out.2⟩
   ·have hX9:(w8.setCell ⟨g,0,none⟩ (.slice (some ⟨g1,0,none⟩) (its.length+1) k1)).heap[X]? = _:=(heap_set_ne (by omega) _).trans hXR8
    have hp9:(w8.setCell ⟨g,0,none⟩ (.slice (some ⟨g1,0,none⟩) (its.length+1) k1)).heap[g]? = some (.cells #[(.slice (some ⟨g1,0,none⟩) (its.length+1) k1),.string (bs (writeP (nodeIt its n)))] 127 (0,0)):=heap_setCell_here hp8 _
    have ho9:(w8.setCell ⟨g,0,none⟩ (.slice (some ⟨g1,0,none⟩) (its.length+1) k1)).ownsRow (g+1) 86 3 (.slice (some ⟨g1,0,none⟩) (its.length+1) k1) (its.length+1) (xs ++ [.bool false,.string ⟨#[]⟩,.slice none 0 0]):=own_setOther hown1 (by omega) _
    have st1:=(World.ownsRow.stored ho9 (its.length * 3) (.bool y.l)).1
    have st2:=(st1.stored (its.length * 3+1) (.string (bs y.b))).1
    have st3:=(st2.stored (its.length * 3+2) (.slice A y.ks.length c)).1
    rw [set3 hxl] at st3
    have hfin:=add_fin (W':=((((w8.setCell ⟨g,0,none⟩ (.slice (some ⟨g1,0,none⟩) (its.length+1) k1)).setCell ⟨g1,its.length * 3,none⟩ (.bool y.l)).setCell ⟨g1,its.length * 3+1,none⟩ (.string (bs y.b))).setCell ⟨g1,its.length * 3+2,none⟩ (.slice A y.ks.length c))) hS7 hY7 hT7 hat1 ((heap_set_ne hg1g.symm _).trans ((heap_set_ne hg1g.symm _).trans ((heap_set_ne hg1g.symm _).trans hp9))) st3 ⟨hg1.os,hg1.tape,hg1.output,by simpa using hg1.size⟩ (fun k h1 h2=>(heap_set_ne (hKg k h1 h2) _).trans ((heap_set_ne (hKg k h1 h2) _).trans ((heap_set_ne (hKg k h1 h2) _).trans ((heap_set_ne h2.1 _).trans (hg1.block k h1 (fun e=>h2.2 e.symm))))))
    have HFIN:=Lib.hid hfin
    have hd0:(w8.setCell ⟨g,0,none⟩ (.slice (some ⟨g1,0,none⟩) (its.length+1) k1)).cell? ⟨g1,its.length * 3,none⟩=some (.bool false):=by rw [World.cell?_setCell_far _ _ _ _ (by simpa using hg1g.symm)];exact hc0
    have hd1:(w8.setCell ⟨g,0,none⟩ (.slice (some ⟨g1,0,none⟩) (its.length+1) k1)).cell? ⟨g1,its.length * 3+1,none⟩=some (.string ⟨#[]⟩):=by rw [World.cell?_setCell_far _ _ _ _ (by simpa using hg1g.symm)];exact hc1
    have hd2:(w8.setCell ⟨g,0,none⟩ (.slice (some ⟨g1,0,none⟩) (its.length+1) k1)).cell? ⟨g1,its.length * 3+2,none⟩=some (.slice none 0 0):=by rw [World.cell?_setCell_far _ _ _ _ (by simpa using hg1g.symm)];exact hc2
    clear hfin st1 st2 st3 hp9 ho9
    go_simp
    refine hK.out _ _ hX9 (fun hHeld=>?_)
    clear hK K
    refine lay_H ?_
    refine H_now 9 fun K hK=>?_
    go_simp
    refine hK.out _ _ ((heap_set_ne hXg1 _).trans ((heap_set_ne hXg1 _).trans ((heap_set_ne hXg1 _).trans hX9))) (fun hHeld=>?_)
    clear hK K
    refine lay_H ?_
    refine wpAnyH_done (by kernel_rfl) ?_ _
    go_wp2_with fail
    go_end0
    exact ⟨rfl,_,_,by rw [hty];exact HFIN.out.1,HFIN.out.2⟩
  ·go_simp
   have hba:Below W6.heap.size W6 (W6.alloc (.cells #[.bool false,.string ⟨#[]⟩,.slice none 0 0] 86)):=(Below.refl _ _).alloc (Nat.le_refl _) _
   have hS7:=hS6.keep hba
   have hY7:=hY6.keep hba
   have hT7:=hT6.trans (ArnTo.of_below hba)
   have hXR7:=(hba.block _ (Array.getElem?_eq_some_iff.1 hXR6).1).trans hXR6
   have hL7:=lies_new W6 #[.bool false,.string ⟨#[]⟩,.slice none 0 0] 86
   have z7:=hS7.cell0
   rw [HVV.out] at z7
   refine hK.out _ _ hXR7 (fun hHeld=>?_)
   clear hK K
   refine lay_H ?_
   refine H_now 3 fun K hK=>?_
   go_simp
   refine hK.out _ _ hXR7 (fun hHeld=>?_)
   clear hK K
   refine lay_H ?_
   refine H_t (i:=5) (v:=.int .i64 (its.length:Int)) rfl (Or.inl ⟨by rfl,fun w' hS=>by go_simp⟩) hHeld ?_
   refine H_now 7 fun K hK=>?_
   have hown7:(W6.alloc (.cells #[.bool false,.string ⟨#[]⟩,.slice none 0 0] 86)).ownsRow (g+1) 86 3 (.slice A0 its.length c0) its.length xs:=by rw [← HVV.out];exact hS7.own
   have hgl7:=hS7.lt
   refine stl_append elItem rfl rfl (g+1) hown7 rfl (m:=1) [.bool false,.string ⟨#[]⟩,.slice none 0 0] rfl rfl hL7 (by intro u hu;simp at hu;rcases hu with rfl | rfl | rfl <;> rfl) (by simp only [maxLen];omega) (by omega) (by omega) ?_
   intro v1 w8 hown1 hg1 hat1
   rw [← HVV.out] at hg1 hat1
   have hxl:xs.length=its.length * 3:=hS7.own.1
   have hne:some g≠v.ownBlock:=fun e=>by have:=(hS7.own.lt _ e.symm).1;omega
   obtain ⟨g1,k1,cur1,rfl,hg1b,_,hk1,hk2,_,_⟩:=hown1.2.resolve_left (fun h=>by omega)
   have hc0:=hown1.cellAt (its.length * 3) (by omega)
   have hc1:=hown1.cellAt (its.length * 3+1) (by omega)
   have hc2:=hown1.cellAt (its.length * 3+2) (by omega)
   rw [List.getElem?_append_right (by omega),hxl] at hc0 hc1 hc2
   simp only [Nat.sub_self,Nat.add_sub_cancel_left,List.getElem?_cons_zero,List.getElem?_cons_succ] at hc0 hc1 hc2
   have hf0:=hown1.frozenAt (its.length * 3)
   have hf1:=hown1.frozenAt (its.length * 3+1)
   have hf2:=hown1.frozenAt (its.length * 3+2)
   have z8:w8.cell? ⟨g,0,none⟩=some v:=hg1.cell hS7.cell0 hne
   have f8:w8.frozen? ⟨g,0,none⟩=false:=(World.frozen?_of_block (hg1.block g hgl7 hne)).trans (hS7.free 0)
   rw [HVV.out] at z8
   have hXne:some X≠v.ownBlock:=fun e=>by have:=(HS.out.own.lt _ e.symm).2;omega
   have hXl:=(Array.getElem?_eq_some_iff.1 hXR7).1
   have hXR8:=(hg1.block X hXl hXne).trans hXR7
   have hg1g:g1≠g:=by omega
   have hXg1:X≠g1:=fun e=>by
    rcases hat1 with h | h
    ·exact hXne (by rw [← h,e];rfl)
    ·injection h with h;simp only [] at h;omega
   try simp only [Act.put,List.setIfInBounds_toArray,List.set_cons_zero,List.set_cons_succ,List.getElem_toArray,List.getElem_cons_zero,List.getElem_cons_succ]
   refine hK.out _ _ hXR8 (fun hHeld=>?_)
   clear hK K
   refine lay_H ?_
   have hlI:(its.length:Int) < (its.length:Int)+1:=by omega
   refine H_t (i:=8) (v:=.pointer (some ⟨g1,its.length * 3,none⟩)) rfl (Or.inl ⟨by rfl,fun w' hS=>by go_simp⟩) hHeld ?_
   refine H_t (i:=10) (v:=.pointer (some ⟨g,0,none⟩)) rfl (Or.inl ⟨by rfl,fun w' hS=>by go_simp⟩) hHeld ?_
   refine H_t (i:=11) (v:=.pointer (some ⟨g,0,none⟩)) rfl (Or.inl ⟨by rfl,fun w' hS=>by go_simp⟩) hHeld ?_
   have hKg:∀ k,k < (W6.alloc (.cells #[.bool false,.string ⟨#[]⟩,.slice none 0 0] 86)).heap.size→Apart g v k→k≠g1:=fun k h1 h2 e=>by
    rcases hat1 with h | h
    ·exact h2.2 (by rw [← h,e];rfl)
    ·injection h with h;simp only [] at h;omega
   have hp8:=(hg1.block g hgl7 hne).trans hS7.ptr
   refine wpAnyH_ready (rs:=[9,12]) (by kernel_rfl) (by simp) ?_
   refine AllReadyH.cons rfl (fun K hK=>?_) (AllReadyH.cons rfl (fun K hK=>?_) AllReadyH.nil)
   ·have z9:(((w8.setCell ⟨g1,its.length * 3,none⟩ (.bool y.l)).setCell ⟨g1,its.length * 3+1,none⟩ (.string (bs y.b))).setCell ⟨g1,its.length * 3+2,none⟩ (.slice A y.ks.length c)).cell? ⟨g,0,none⟩=some (.slice A0 its.length c0):=by rw [World.cell?_setCell_far _ _ _ _ (by simpa using hg1g),World.cell?_setCell_far _ _ _ _ (by simpa using hg1g),World.cell?_setCell_far _ _ _ _ (by simpa using hg1g)];exact z8
    have hX9:(((w8.setCell ⟨g1,its.length * 3,none⟩ (.bool y.l)).setCell ⟨g1,its.length * 3+1,none⟩ (.string (bs y.b))).setCell ⟨g1,its.length * 3+2,none⟩ (.slice A y.ks.length c)).heap[X]? = _:=(heap_set_ne hXg1 _).trans ((heap_set_ne hXg1 _).trans ((heap_set_ne hXg1 _).trans hXR8))
    have hp9:(((w8.setCell ⟨g1,its.length * 3,none⟩ (.bool y.l)).setCell ⟨g1,its.length * 3+1,none⟩ (.string (bs y.b))).setCell ⟨g1,its.length * 3+2,none⟩ (.slice A y.ks.length c)).heap[g]? = _:=(heap_set_ne hg1g.symm _).trans ((heap_set_ne hg1g.symm _).trans ((heap_set_ne hg1g.symm _).trans hp8))
    have st1:=(World.ownsRow.stored hown1 (its.length * 3) (.bool y.l)).1
    have st2:=(st1.stored (its.length * 3+1) (.string (bs y.b))).1
    have st3:=(st2.stored (its.length * 3+2) (.slice A y.ks.length c)).1
    rw [set3 hxl] at st3
    have hfin:=add_fin (W':=((((w8.setCell ⟨g1,its.length * 3,none⟩ (.bool y.l)).setCell ⟨g1,its.length * 3+1,none⟩ (.string (bs y.b))).setCell ⟨g1,its.length * 3+2,none⟩ (.slice A y.ks.length c)).setCell ⟨g,0,none⟩ (.slice (some ⟨g1,0,none⟩) (its.length+1) k1))) hS7 hY7 hT7 hat1 (heap_setCell_here hp9 _) (own_setOther st3 (by omega) _) ⟨hg1.os,hg1.tape,hg1.output,by simpa using hg1.size⟩ (fun k h1 h2=>(heap_set_ne h2.1 _).trans ((heap_set_ne (hKg k h1 h2) _).trans ((heap_set_ne (hKg k h1 h2) _).trans ((heap_set_ne (hKg k h1 h2) _).trans (hg1.block k h1 (fun e=>h2.2 e.symm))))))
    have HFIN:=Lib.hid hfin
    clear hfin st1 st2 st3 hp9
    go_simp
    refine hK.out _ _ hX9 (fun hHeld=>?_)
    clear hK K
    refine lay_H ?_
    refine H_now 12 fun K hK=>?_
    go_simp
    refine hK.out _ _ ((heap_set_ne (by omega) _).trans hX9) (fun hHeld=>?_)
    clear hK K
    refine lay_H ?_
    refine wpAnyH_done (by kernel_rfl) ?_ _
    go_wp2_with fail
    go_end0
    exact ⟨rfl,_,_,by rw [hty];exact HFIN.out.1,HFIN.out.2⟩
   ·have hX9:(w8.setCell ⟨g,0,none⟩ (.slice (some ⟨g1,0,none⟩) (its.length+1) k1)).heap[X]? = _:=(heap_set_ne (by omega) _).trans hXR8
    have hp9:(w8.setCell ⟨g,0,none⟩ (.slice (some ⟨g1,0,none⟩) (its.length+1) k1)).heap[g]? = some (.cells #[(.slice (some ⟨g1,0,none⟩) (its.length+1) k1),.string (bs (writeP (nodeIt its n)))] 127 (0,0)):=heap_setCell_here hp8 _
    have ho9:(w8.setCell ⟨g,0,none⟩ (.slice (some ⟨g1,0,none⟩) (its.length+1) k1)).ownsRow (g+1) 86 3 (.slice (some ⟨g1,0,none⟩) (its.length+1) k1) (its.length+1) (xs ++ [.bool false,.string ⟨#[]⟩,.slice none 0 0]):=own_setOther hown1 (by omega) _
    have st1:=(World.ownsRow.stored ho9 (its.length * 3) (.bool y.l)).1
    have st2:=(st1.stored (its.length * 3+1) (.string (bs y.b))).1
    have st3:=(st2.stored (its.length * 3+2) (.slice A y.ks.length c)).1
    rw [set3 hxl] at st3
    have hfin:=add_fin (W':=((((w8.setCell ⟨g,0,none⟩ (.slice (some ⟨g1,0,none⟩) (its.length+1) k1)).setCell ⟨g1,its.length * 3,none⟩ (.bool y.l)).setCell ⟨g1,its.length * 3+1,none⟩ (.string (bs y.b))).setCell ⟨g1,its.length * 3+2,none⟩ (.slice A y.ks.length c))) hS7 hY7 hT7 hat1 ((heap_set_ne hg1g.symm _).trans ((heap_set_ne hg1g.symm _).trans ((heap_set_ne hg1g.symm _).trans hp9))) st3 ⟨hg1.os,hg1.tape,hg1.output,by simpa using hg1.size⟩ (fun k h1 h2=>(heap_set_ne (hKg k h1 h2) _).trans ((heap_set_ne (hKg k h1 h2) _).trans ((heap_set_ne (hKg k h1 h2) _).trans ((heap_set_ne h2.1 _).trans (hg1.block k h1 (fun e=>h2.2 e.symm))))))
    have HFIN:=Lib.hid hfin
    have hd0:(w8.setCell ⟨g,0,none⟩ (.slice (some ⟨g1,0,none⟩) (its.length+1) k1)).cell? ⟨g1,its.length * 3,none⟩=some (.bool false):=by rw [World.cell?_setCell_far _ _ _ _ (by simpa using hg1g.symm)];exact hc0
    have hd1:(w8.setCell ⟨g,0,none⟩ (.slice (some ⟨g1,0,none⟩) (its.length+1) k1)).cell? ⟨g1,its.length * 3+1,none⟩=some (.string ⟨#[]⟩):=by rw [World.cell?_setCell_far _ _ _ _ (by simpa using hg1g.symm)];exact hc1
    have hd2:(w8.setCell ⟨g,0,none⟩ (.slice (some ⟨g1,0,none⟩) (its.length+1) k1)).cell? ⟨g1,its.length * 3+2,none⟩=some (.slice none 0 0):=by rw [World.cell?_setCell_far _ _ _ _ (by simpa using hg1g.symm)];exact hc2
    clear hfin st1 st2 st3 hp9 ho9
    go_simp
    refine hK.out _ _ hX9 (fun hHeld=>?_)
    clear hK K
    refine lay_H ?_
    refine H_now 9 fun K hK=>?_
    go_simp
    refine hK.out _ _ ((heap_set_ne hXg1 _).trans ((heap_set_ne hXg1 _).trans ((heap_set_ne hXg1 _).trans hX9))) (fun hHeld=>?_)
    clear hK K
    refine lay_H ?_
    refine wpAnyH_done (by kernel_rfl) ?_ _
    go_wp2_with fail
    go_end0
    exact ⟨rfl,_,_,by rw [hty];exact HFIN.out.1,HFIN.out.2⟩
 ·obtain ⟨y,hy⟩:∃ y,y=nodeIt its n:=⟨_,rfl⟩
  have hty:tellP (nodeIt its n)=y:=by unfold tellP;rw [if_neg (by omega),hy]
  obtain ⟨X,hX⟩:∃ X,X=w2.heap.size:=⟨_,rfl⟩
  obtain ⟨W,hW⟩:∃ W,W=w4.setCell ⟨g,1,none⟩ (.string (bs (writeP (nodeIt its n)))):=⟨_,rfl⟩
  obtain ⟨A,hA⟩:∃ A,A=(some ⟨w1.heap.size,0,none⟩:Option Addr):=⟨_,rfl⟩
  obtain ⟨c,hc⟩:∃ c,c=2:=⟨_,rfl⟩
  have HS5:Hid (SumV W g v its (writeP (nodeIt its n)) xs):=Lib.hid (by rw [hW];exact HS4.out.set _)
  have HY:Hid (ItemV (Apart g v) W y A c):=Lib.hid (by rw [hW,hy,hA,hc];exact HX4.out.mono fun b _ hb=>⟨hb,heap_set_ne hb.1 _⟩)
  have HXR:Hid (W.heap[X]? = some (.cells #[.bool y.l,.string (bs y.b),.slice A y.ks.length c] 86 (0,0))):=Lib.hid (by
   rw [hW,hX,hA,hc,hy,HNX.out]
   exact (heap_set_ne (by have:=HB4.out.size;omega) _).trans HR4.out)
  have HT5:Hid (ArnTo g v w W v):=Lib.hid (by rw [hW];exact (ArnTo.of_below HB4.out).setg _ _)
  have hXw:w.heap.size≤X:=by rw [hX];exact hw2
  rw [← hX,← hW]
  clear hW hX hA hc hy HS4 HX4 HR4 HB4 z1 z2
  refine wp_region_held_drew (S:=fun w'=>w'.heap[X]? = some (.cells #[.bool y.l,.string (bs y.b),.slice A y.ks.length c] 86 (0,0))) (by kernel_rfl) HXR.out (fun hHeld=>?_)
  refine H_t (i:=0) (v:=.pointer (some ⟨g,0,none⟩)) rfl (Or.inl ⟨by rfl,fun w' hS=>by go_simp⟩) hHeld ?_
  refine H_t (i:=1) (v:=.pointer (some ⟨g,0,none⟩)) rfl (Or.inl ⟨by rfl,fun w' hS=>by go_simp⟩) hHeld ?_
  refine H_t (i:=2) (v:=.pointer (some ⟨g,0,none⟩)) rfl (Or.inl ⟨by rfl,fun w' hS=>by go_simp⟩) hHeld ?_
  refine H_t (i:=4) (v:=.agg #[.bool y.l,.string (bs y.b),.slice A y.ks.length c]) rfl (yieldsIf_load_row rfl rfl rfl (fun w' hS=>hS) Tryz.underlying86 rfl infoI) hHeld ?_
  have hbd:Below W.heap.size W W.drew:=(Below.refl _ _).drew
  have hS6:=HS5.out.keep hbd
  have hY6:=HY.out.keep hbd
  have hT6:=HT5.out.trans (ArnTo.of_below hbd)
  have hXR6:W.drew.heap[X]? = _:=HXR.out
  generalize W.drew=W6 at hS6 hY6 hT6 hXR6 ⊢
  have z0:=hS6.cell0
  rw [HVV.out] at z0
  refine wpAnyH_ready (rs:=[3,6]) (by kernel_rfl) (by simp) ?_
  refine AllReadyH.cons rfl (fun K hK=>?_) (AllReadyH.cons rfl (fun K hK=>?_) AllReadyH.nil)
  ·go_simp
   refine hK.out _ _ hXR6 (fun hHeld=>?_)
   clear hK K
   refine lay_H ?_
   refine H_t (i:=5) (v:=.int .i64 (its.length:Int)) rfl (Or.inl ⟨by rfl,fun w' hS=>by go_simp⟩) hHeld ?_
   refine H_now 6 fun K hK=>?_
   have hba:Below W6.heap.size W6 (W6.alloc (.cells #[.bool false,.string ⟨#[]⟩,.slice none 0 0] 86)):=(Below.refl _ _).alloc (Nat.le_refl _) _
   have hS7:=hS6.keep hba
   have hY7:=hY6.keep hba
   have hT7:=hT6.trans (ArnTo.of_below hba)
   have hXR7:=(hba.block _ (Array.getElem?_eq_some_iff.1 hXR6).1).trans hXR6
   have hL7:=lies_new W6 #[.bool false,.string ⟨#[]⟩,.slice none 0 0] 86
   go_simp
   refine hK.out _ _ hXR7 (fun hHeld=>?_)
   clear hK K
   refine lay_H ?_
   refine H_now 7 fun K hK=>?_
   have hown7:(W6.alloc (.cells #[.bool false,.string ⟨#[]⟩,.slice none 0 0] 86)).ownsRow (g+1) 86 3 (.slice A0 its.length c0) its.length xs:=by rw [← HVV.out];exact hS7.own
   have hgl7:=hS7.lt
   refine stl_append elItem rfl rfl (g+1) hown7 rfl (m:=1) [.bool false,.string ⟨#[]⟩,.slice none 0 0] rfl rfl hL7 (by intro u hu;simp at hu;rcases hu with rfl | rfl | rfl <;> rfl) (by simp only [maxLen];omega) (by omega) (by omega) ?_
   intro v1 w8 hown1 hg1 hat1
   rw [← HVV.out] at hg1 hat1
   have hxl:xs.length=its.length * 3:=hS7.own.1
   have hne:some g≠v.ownBlock:=fun e=>by have:=(hS7.own.lt _ e.symm).1;omega
   obtain ⟨g1,k1,cur1,rfl,hg1b,_,hk1,hk2,_,_⟩:=hown1.2.resolve_left (fun h=>by omega)
   have hc0:=hown1.cellAt (its.length * 3) (by omega)
   have hc1:=hown1.cellAt (its.length * 3+1) (by omega)
   have hc2:=hown1.cellAt (its.length * 3+2) (by omega)
   rw [List.getElem?_append_right (by omega),hxl] at hc0 hc1 hc2
   simp only [Nat.sub_self,Nat.add_sub_cancel_left,List.getElem?_cons_zero,List.getElem?_cons_succ] at hc0 hc1 hc2
   have hf0:=hown1.frozenAt (its.length * 3)
   have hf1:=hown1.frozenAt (its.length * 3+1)
   have hf2:=hown1.frozenAt (its.length * 3+2)
   have z8:w8.cell? ⟨g,0,none⟩=some v:=hg1.cell hS7.cell0 hne
   have f8:w8.frozen? ⟨g,0,none⟩=false:=(World.frozen?_of_block (hg1.block g hgl7 hne)).trans (hS7.free 0)
   rw [HVV.out] at z8
   have hXne:some X≠v.ownBlock:=fun e=>by have:=(HS.out.own.lt _ e.symm).2;omega
   have hXl:=(Array.getElem?_eq_some_iff.1 hXR7).1
   have hXR8:=(hg1.block X hXl hXne).trans hXR7
   have hg1g:g1≠g:=by omega
   have hXg1:X≠g1:=fun e=>by
    rcases hat1 with h | h
    ·exact hXne (by rw [← h,e];rfl)
    ·injection h with h;simp only [] at h;omega
   try simp only [Act.put,List.setIfInBounds_toArray,List.set_cons_zero,List.set_cons_succ,List.getElem_toArray,List.getElem_cons_zero,List.getElem_cons_succ]
   refine hK.out _ _ hXR8 (fun hHeld=>?_)
   clear hK K
   refine lay_H ?_
   have hlI:(its.length:Int) < (its.length:Int)+1:=by omega
   refine H_t (i:=8) (v:=.pointer (some ⟨g1,its.length * 3,none⟩)) rfl (Or.inl ⟨by rfl,fun w' hS=>by go_simp⟩) hHeld ?_
   refine H_t (i:=10) (v:=.pointer (some ⟨g,0,none⟩)) rfl (Or.inl ⟨by rfl,fun w' hS=>by go_simp⟩) hHeld ?_
   refine H_t (i:=11) (v:=.pointer (some ⟨g,0,none⟩)) rfl (Or.inl ⟨by rfl,fun w' hS=>by go_simp⟩) hHeld ?_
   have hKg:∀ k,k < (W6.alloc (.cells #[.bool false,.string ⟨#[]⟩,.slice none 0 0] 86)).heap.size→Apart g v k→k≠g1:=fun k h1 h2 e=>by
    rcases hat1 with h | h
    ·exact h2.2 (by rw [← h,e];rfl)
    ·injection h with h;simp only [] at h;omega
   have hp8:=(hg1.block g hgl7 hne).trans hS7.ptr
   refine wpAnyH_ready (rs:=[9,12]) (by kernel_rfl) (by simp) ?_
   refine AllReadyH.cons rfl (fun K hK=>?_) (AllReadyH.cons rfl (fun K hK=>?_) AllReadyH.nil)
   ·have z9:(((w8.setCell ⟨g1,its.length * 3,none⟩ (.bool y.l)).setCell ⟨g1,its.length * 3+1,none⟩ (.string (bs y.b))).setCell ⟨g1,its.length * 3+2,none⟩ (.slice A y.ks.length c)).cell? ⟨g,0,none⟩=some (.slice A0 its.length c0):=by rw [World.cell?_setCell_far _ _ _ _ (by simpa using hg1g),World.cell?_setCell_far _ _ _ _ (by simpa using hg1g),World.cell?_setCell_far _ _ _ _ (by simpa using hg1g)];exact z8
    have hX9:(((w8.setCell ⟨g1,its.length * 3,none⟩ (.bool y.l)).setCell ⟨g1,its.length * 3+1,none⟩ (.string (bs y.b))).setCell ⟨g1,its.length * 3+2,none⟩ (.slice A y.ks.length c)).heap[X]? = _:=(heap_set_ne hXg1 _).trans ((heap_set_ne hXg1 _).trans ((heap_set_ne hXg1 _).trans hXR8))
    have hp9:(((w8.setCell ⟨g1,its.length * 3,none⟩ (.bool y.l)).setCell ⟨g1,its.length * 3+1,none⟩ (.string (bs y.b))).setCell ⟨g1,its.length * 3+2,none⟩ (.slice A y.ks.length c)).heap[g]? = _:=(heap_set_ne hg1g.symm _).trans ((heap_set_ne hg1g.symm _).trans ((heap_set_ne hg1g.symm _).trans hp8))
    have st1:=(World.ownsRow.stored hown1 (its.length * 3) (.bool y.l)).1
    have st2:=(st1.stored (its.length * 3+1) (.string (bs y.b))).1
    have st3:=(st2.stored (its.length * 3+2) (.slice A y.ks.length c)).1
    rw [set3 hxl] at st3
    have hfin:=add_fin (W':=((((w8.setCell ⟨g1,its.length * 3,none⟩ (.bool y.l)).setCell ⟨g1,its.length * 3+1,none⟩ (.string (bs y.b))).setCell ⟨g1,its.length * 3+2,none⟩ (.slice A y.ks.length c)).setCell ⟨g,0,none⟩ (.slice (some ⟨g1,0,none⟩) (its.length+1) k1))) hS7 hY7 hT7 hat1 (heap_setCell_here hp9 _) (own_setOther st3 (by omega) _) ⟨hg1.os,hg1.tape,hg1.output,by simpa using hg1.size⟩ (fun k h1 h2=>(heap_set_ne h2.1 _).trans ((heap_set_ne (hKg k h1 h2) _).trans ((heap_set_ne (hKg k h1 h2) _).trans ((heap_set_ne (hKg k h1 h2) _).trans (hg1.block k h1 (fun e=>h2.2 e.symm))))))
    have HFIN:=Lib.hid hfin
    clear hfin st1 st2 st3 hp9
    go_simp
    refine hK.out _ _ hX9 (fun hHeld=>?_)
    clear hK K
    refine lay_H ?_
    refine H_now 12 fun K hK=>?_
    go_simp
    refine hK.out _ _ ((heap_set_ne (by omega) _).trans hX9) (fun hHeld=>?_)
    clear hK K
    refine lay_H ?_
    refine wpAnyH_done (by kernel_rfl) ?_ _
    go_wp2_with fail
    go_end0
    exact ⟨rfl,_,_,by rw [hty];exact HFIN.out.1,HFIN.out.2⟩
   ·have hX9:(w8.setCell ⟨g,0,none⟩ (.slice (some ⟨g1,0,none⟩) (its.length+1) k1)).heap[X]? = _:=(heap_set_ne (by omega) _).trans hXR8
    have hp9:(w8.setCell ⟨g,0,none⟩ (.slice (some ⟨g1,0,none⟩) (its.length+1) k1)).heap[g]? = some (.cells #[(.slice (some ⟨g1,0,none⟩) (its.length+1) k1),.string (bs (writeP (nodeIt its n)))] 127 (0,0)):=heap_setCell_here hp8 _
    have ho9:(w8.setCell ⟨g,0,none⟩ (.slice (some ⟨g1,0,none⟩) (its.length+1) k1)).ownsRow (g+1) 86 3 (.slice (some ⟨g1,0,none⟩) (its.length+1) k1) (its.length+1) (xs ++ [.bool false,.string ⟨#[]⟩,.slice none 0 0]):=own_setOther hown1 (by omega) _
    have st1:=(World.ownsRow.stored ho9 (its.length * 3) (.bool y.l)).1
    have st2:=(st1.stored (its.length * 3+1) (.string (bs y.b))).1
    have st3:=(st2.stored (its.length * 3+2) (.slice A y.ks.length c)).1
    rw [set3 hxl] at st3
    have hfin:=add_fin (W':=((((w8.setCell ⟨g,0,none⟩ (.slice (some ⟨g1,0,none⟩) (its.length+1) k1)).setCell ⟨g1,its.length * 3,none⟩ (.bool y.l)).setCell ⟨g1,its.length * 3+1,none⟩ (.string (bs y.b))).setCell ⟨g1,its.length * 3+2,none⟩ (.slice A y.ks.length c))) hS7 hY7 hT7 hat1 ((heap_set_ne hg1g.symm _).trans ((heap_set_ne hg1g.symm _).trans ((heap_set_ne hg1g.symm _).trans hp9))) st3 ⟨hg1.os,hg1.tape,hg1.output,by simpa using hg1.size⟩ (fun k h1 h2=>(heap_set_ne (hKg k h1 h2) _).trans ((heap_set_ne (hKg k h1 h2) _).trans ((heap_set_ne (hKg k h1 h2) _).trans ((heap_set_ne h2.1 _).trans (hg1.block k h1 (fun e=>h2.2 e.symm))))))
    have HFIN:=Lib.hid hfin
    have hd0:(w8.setCell ⟨g,0,none⟩ (.slice (some ⟨g1,0,none⟩) (its.length+1) k1)).cell? ⟨g1,its.length * 3,none⟩=some (.bool false):=by rw [World.cell?_setCell_far _ _ _ _ (by simpa using hg1g.symm)];exact hc0
    have hd1:(w8.setCell ⟨g,0,none⟩ (.slice (some ⟨g1,0,none⟩) (its.length+1) k1)).cell? ⟨g1,its.length * 3+1,none⟩=some (.string ⟨#[]⟩):=by rw [World.cell?_setCell_far _ _ _ _ (by simpa using hg1g.symm)];exact hc1
    have hd2:(w8.setCell ⟨g,0,none⟩ (.slice (some ⟨g1,0,none⟩) (its.length+1) k1)).cell? ⟨g1,its.length * 3+2,none⟩=some (.slice none 0 0):=by rw [World.cell?_setCell_far _ _ _ _ (by simpa using hg1g.symm)];exact hc2
    clear hfin st1 st2 st3 hp9 ho9
    go_simp
    refine hK.out _ _ hX9 (fun hHeld=>?_)
    clear hK K
    refine lay_H ?_
    refine H_now 9 fun K hK=>?_
    go_simp
    refine hK.out _ _ ((heap_set_ne hXg1 _).trans ((heap_set_ne hXg1 _).trans ((heap_set_ne hXg1 _).trans hX9))) (fun hHeld=>?_)
    clear hK K
    refine lay_H ?_
    refine wpAnyH_done (by kernel_rfl) ?_ _
    go_wp2_with fail
    go_end0
    exact ⟨rfl,_,_,by rw [hty];exact HFIN.out.1,HFIN.out.2⟩
  ·go_simp
   have hba:Below W6.heap.size W6 (W6.alloc (.cells #[.bool false,.string ⟨#[]⟩,.slice none 0 0] 86)):=(Below.refl _ _).alloc (Nat.le_refl _) _
   have hS7:=hS6.keep hba
   have hY7:=hY6.keep hba
   have hT7:=hT6.trans (ArnTo.of_below hba)
   have hXR7:=(hba.block _ (Array.getElem?_eq_some_iff.1 hXR6).1).trans hXR6
   have hL7:=lies_new W6 #[.bool false,.string ⟨#[]⟩,.slice none 0 0] 86
   have z7:=hS7.cell0
   rw [HVV.out] at z7
   refine hK.out _ _ hXR7 (fun hHeld=>?_)
   clear hK K
   refine lay_H ?_
   refine H_now 3 fun K hK=>?_
   go_simp
   refine hK.out _ _ hXR7 (fun hHeld=>?_)
   clear hK K
   refine lay_H ?_
   refine H_t (i:=5) (v:=.int .i64 (its.length:Int)) rfl (Or.inl ⟨by rfl,fun w' hS=>by go_simp⟩) hHeld ?_
   refine H_now 7 fun K hK=>?_
   have hown7:(W6.alloc (.cells #[.bool false,.string ⟨#[]⟩,.slice none 0 0] 86)).ownsRow (g+1) 86 3 (.slice A0 its.length c0) its.length xs:=by rw [← HVV.out];exact hS7.own
   have hgl7:=hS7.lt
   refine stl_append elItem rfl rfl (g+1) hown7 rfl (m:=1) [.bool false,.string ⟨#[]⟩,.slice none 0 0] rfl rfl hL7 (by intro u hu;simp at hu;rcases hu with rfl | rfl | rfl <;> rfl) (by simp only [maxLen];omega) (by omega) (by omega) ?_
   intro v1 w8 hown1 hg1 hat1
   rw [← HVV.out] at hg1 hat1
   have hxl:xs.length=its.length * 3:=hS7.own.1
   have hne:some g≠v.ownBlock:=fun e=>by have:=(hS7.own.lt _ e.symm).1;omega
   obtain ⟨g1,k1,cur1,rfl,hg1b,_,hk1,hk2,_,_⟩:=hown1.2.resolve_left (fun h=>by omega)
   have hc0:=hown1.cellAt (its.length * 3) (by omega)
   have hc1:=hown1.cellAt (its.length * 3+1) (by omega)
   have hc2:=hown1.cellAt (its.length * 3+2) (by omega)
   rw [List.getElem?_append_right (by omega),hxl] at hc0 hc1 hc2
   simp only [Nat.sub_self,Nat.add_sub_cancel_left,List.getElem?_cons_zero,List.getElem?_cons_succ] at hc0 hc1 hc2
   have hf0:=hown1.frozenAt (its.length * 3)
   have hf1:=hown1.frozenAt (its.length * 3+1)
   have hf2:=hown1.frozenAt (its.length * 3+2)
   have z8:w8.cell? ⟨g,0,none⟩=some v:=hg1.cell hS7.cell0 hne
   have f8:w8.frozen? ⟨g,0,none⟩=false:=(World.frozen?_of_block (hg1.block g hgl7 hne)).trans (hS7.free 0)
   rw [HVV.out] at z8
   have hXne:some X≠v.ownBlock:=fun e=>by have:=(HS.out.own.lt _ e.symm).2;omega
   have hXl:=(Array.getElem?_eq_some_iff.1 hXR7).1
   have hXR8:=(hg1.block X hXl hXne).trans hXR7
   have hg1g:g1≠g:=by omega
   have hXg1:X≠g1:=fun e=>by
    rcases hat1 with h | h
    ·exact hXne (by rw [← h,e];rfl)
    ·injection h with h;simp only [] at h;omega
   try simp only [Act.put,List.setIfInBounds_toArray,List.set_cons_zero,List.set_cons_succ,List.getElem_toArray,List.getElem_cons_zero,List.getElem_cons_succ]
   refine hK.out _ _ hXR8 (fun hHeld=>?_)
   clear hK K
   refine lay_H ?_
   have hlI:(its.length:Int) < (its.length:Int)+1:=by omega
   refine H_t (i:=8) (v:=.pointer (some ⟨g1,its.length * 3,none⟩)) rfl (Or.inl ⟨by rfl,fun w' hS=>by go_simp⟩) hHeld ?_
   refine H_t (i:=10) (v:=.pointer (some ⟨g,0,none⟩)) rfl (Or.inl ⟨by rfl,fun w' hS=>by go_simp⟩) hHeld ?_
   refine H_t (i:=11) (v:=.pointer (some ⟨g,0,none⟩)) rfl (Or.inl ⟨by rfl,fun w' hS=>by go_simp⟩) hHeld ?_
   have hKg:∀ k,k < (W6.alloc (.cells #[.bool false,.string ⟨#[]⟩,.slice none 0 0] 86)).heap.size→Apart g v k→k≠g1:=fun k h1 h2 e=>by
    rcases hat1 with h | h
    ·exact h2.2 (by rw [← h,e];rfl)
    ·injection h with h;simp only [] at h;omega
   have hp8:=(hg1.block g hgl7 hne).trans hS7.ptr
   refine wpAnyH_ready (rs:=[9,12]) (by kernel_rfl) (by simp) ?_
   refine AllReadyH.cons rfl (fun K hK=>?_) (AllReadyH.cons rfl (fun K hK=>?_) AllReadyH.nil)
   ·have z9:(((w8.setCell ⟨g1,its.length * 3,none⟩ (.bool y.l)).setCell ⟨g1,its.length * 3+1,none⟩ (.string (bs y.b))).setCell ⟨g1,its.length * 3+2,none⟩ (.slice A y.ks.length c)).cell? ⟨g,0,none⟩=some (.slice A0 its.length c0):=by rw [World.cell?_setCell_far _ _ _ _ (by simpa using hg1g),World.cell?_setCell_far _ _ _ _ (by simpa using hg1g),World.cell?_setCell_far _ _ _ _ (by simpa using hg1g)];exact z8
    have hX9:(((w8.setCell ⟨g1,its.length * 3,none⟩ (.bool y.l)).setCell ⟨g1,its.length * 3+1,none⟩ (.string (bs y.b))).setCell ⟨g1,its.length * 3+2,none⟩ (.slice A y.ks.length c)).heap[X]? = _:=(heap_set_ne hXg1 _).trans ((heap_set_ne hXg1 _).trans ((heap_set_ne hXg1 _).trans hXR8))
    have hp9:(((w8.setCell ⟨g1,its.length * 3,none⟩ (.bool y.l)).setCell ⟨g1,its.length * 3+1,none⟩ (.string (bs y.b))).setCell ⟨g1,its.length * 3+2,none⟩ (.slice A y.ks.length c)).heap[g]? = _:=(heap_set_ne hg1g.symm _).trans ((heap_set_ne hg1g.symm _).trans ((heap_set_ne hg1g.symm _).trans hp8))
    have st1:=(World.ownsRow.stored hown1 (its.length * 3) (.bool y.l)).1
    have st2:=(st1.stored (its.length * 3+1) (.string (bs y.b))).1
    have st3:=(st2.stored (its.length * 3+2) (.slice A y.ks.length c)).1
    rw [set3 hxl] at st3
    have hfin:=add_fin (W':=((((w8.setCell ⟨g1,its.length * 3,none⟩ (.bool y.l)).setCell ⟨g1,its.length * 3+1,none⟩ (.string (bs y.b))).setCell ⟨g1,its.length * 3+2,none⟩ (.slice A y.ks.length c)).setCell ⟨g,0,none⟩ (.slice (some ⟨g1,0,none⟩) (its.length+1) k1))) hS7 hY7 hT7 hat1 (heap_setCell_here hp9 _) (own_setOther st3 (by omega) _) ⟨hg1.os,hg1.tape,hg1.output,by simpa using hg1.size⟩ (fun k h1 h2=>(heap_set_ne h2.1 _).trans ((heap_set_ne (hKg k h1 h2) _).trans ((heap_set_ne (hKg k h1 h2) _).trans ((heap_set_ne (hKg k h1 h2) _).trans (hg1.block k h1 (fun e=>h2.2 e.symm))))))
    have HFIN:=Lib.hid hfin
    clear hfin st1 st2 st3 hp9
    go_simp
    refine hK.out _ _ hX9 (fun hHeld=>?_)
    clear hK K
    refine lay_H ?_
    refine H_now 12 fun K hK=>?_
    go_simp
    refine hK.out _ _ ((heap_set_ne (by omega) _).trans hX9) (fun hHeld=>?_)
    clear hK K
    refine lay_H ?_
    refine wpAnyH_done (by kernel_rfl) ?_ _
    go_wp2_with fail
    go_end0
    exact ⟨rfl,_,_,by rw [hty];exact HFIN.out.1,HFIN.out.2⟩
   ·have hX9:(w8.setCell ⟨g,0,none⟩ (.slice (some ⟨g1,0,none⟩) (its.length+1) k1)).heap[X]? = _:=(heap_set_ne (by omega) _).trans hXR8
    have hp9:(w8.setCell ⟨g,0,none⟩ (.slice (some ⟨g1,0,none⟩) (its.length+1) k1)).heap[g]? = some (.cells #[(.slice (some ⟨g1,0,none⟩) (its.length+1) k1),.string (bs (writeP (nodeIt its n)))] 127 (0,0)):=heap_setCell_here hp8 _
    have ho9:(w8.setCell ⟨g,0,none⟩ (.slice (some ⟨g1,0,none⟩) (its.length+1) k1)).ownsRow (g+1) 86 3 (.slice (some ⟨g1,0,none⟩) (its.length+1) k1) (its.length+1) (xs ++ [.bool false,.string ⟨#[]⟩,.slice none 0 0]):=own_setOther hown1 (by omega) _
    have st1:=(World.ownsRow.stored ho9 (its.length * 3) (.bool y.l)).1
    have st2:=(st1.stored (its.length * 3+1) (.string (bs y.b))).1
    have st3:=(st2.stored (its.length * 3+2) (.slice A y.ks.length c)).1
    rw [set3 hxl] at st3
    have hfin:=add_fin (W':=((((w8.setCell ⟨g,0,none⟩ (.slice (some ⟨g1,0,none⟩) (its.length+1) k1)).setCell ⟨g1,its.length * 3,none⟩ (.bool y.l)).setCell ⟨g1,its.length * 3+1,none⟩ (.string (bs y.b))).setCell ⟨g1,its.length * 3+2,none⟩ (.slice A y.ks.length c))) hS7 hY7 hT7 hat1 ((heap_set_ne hg1g.symm _).trans ((heap_set_ne hg1g.symm _).trans ((heap_set_ne hg1g.symm _).trans hp9))) st3 ⟨hg1.os,hg1.tape,hg1.output,by simpa using hg1.size⟩ (fun k h1 h2=>(heap_set_ne (hKg k h1 h2) _).trans ((heap_set_ne (hKg k h1 h2) _).trans ((heap_set_ne (hKg k h1 h2) _).trans ((heap_set_ne h2.1 _).trans (hg1.block k h1 (fun e=>h2.2 e.symm))))))
    have HFIN:=Lib.hid hfin
    have hd0:(w8.setCell ⟨g,0,none⟩ (.slice (some ⟨g1,0,none⟩) (its.length+1) k1)).cell? ⟨g1,its.length * 3,none⟩=some (.bool false):=by rw [World.cell?_setCell_far _ _ _ _ (by simpa using hg1g.symm)];exact hc0
    have hd1:(w8.setCell ⟨g,0,none⟩ (.slice (some ⟨g1,0,none⟩) (its.length+1) k1)).cell? ⟨g1,its.length * 3+1,none⟩=some (.string ⟨#[]⟩):=by rw [World.cell?_setCell_far _ _ _ _ (by simpa using hg1g.symm)];exact hc1
    have hd2:(w8.setCell ⟨g,0,none⟩ (.slice (some ⟨g1,0,none⟩) (its.length+1) k1)).cell? ⟨g1,its.length * 3+2,none⟩=some (.slice none 0 0):=by rw [World.cell?_setCell_far _ _ _ _ (by simpa using hg1g.symm)];exact hc2
    clear hfin st1 st2 st3 hp9 ho9
    go_simp
    refine hK.out _ _ hX9 (fun hHeld=>?_)
    clear hK K
    refine lay_H ?_
    refine H_now 9 fun K hK=>?_
    go_simp
    refine hK.out _ _ ((heap_set_ne hXg1 _).trans ((heap_set_ne hXg1 _).trans ((heap_set_ne hXg1 _).trans hX9))) (fun hHeld=>?_)
    clear hK K
    refine lay_H ?_
    refine wpAnyH_done (by kernel_rfl) ?_ _
    go_wp2_with fail
    go_end0
    exact ⟨rfl,_,_,by rw [hty];exact HFIN.out.1,HFIN.out.2⟩
/- The walk of sums.add at a joint. -/
theorem add_joint (n:TN) (hk:n.k=2) (its:List Item) (hN:NodeOk its n) (hl:its.length≤10000) (g:Nat) (v:Value) (last:Bytes) (xs:List Value) (w:World) (hs:SumV w g v its last xs) :
  Calls Tryz.prog 72 #[.pointer (some ⟨g,0,none⟩),.agg (nodeC n).toArray] w (AddPost g v its n w):=by
 obtain ⟨A0,c0,rfl⟩:=own_form hs.own
 obtain ⟨v,hv⟩:∃ v,v=Value.slice A0 its.length c0:=⟨_,rfl⟩
 rw [← hv] at hs ⊢
 have HVV:=Lib.hid hv
 clear hv
 have hb:Below w.heap.size w (w.alloc (.cells (nodeC n).toArray 130)):=(Below.refl _ _).alloc (Nat.le_refl _) _
 have hn:=NRow.new w n
 have h0:(nodeC n)[0]? = some (.int .i64 n.k):=rfl
 have h1:(nodeC n)[1]? = some (.string (bs n.part)):=rfl
 have h2:(nodeC n)[2]? = some (.string (bs n.value)):=rfl
 have d0:=hn.cell h0
 have d1:=hn.cell h1
 have d2:=hn.cell h2
 rw [hk] at d0
 have hpl:=hN.part
 have HN:=Lib.hid hN
 have HB:=Lib.hid hb
 have HR:=Lib.hid hn
 have HS:=Lib.hid hs
 clear hN hb hn hs h0 h1 h2
 go_enter Tryz.func72,Tryz.ntmps72
 go_wp2_with fail
 refine (Pack_any n.part (by omega) HN.out.half false _).mono ?_
 rintro e w1 ⟨rfl,hb1⟩
 have hB1:=below_call HB.out HB.out.size hb1
 have hr1:=HR.out.keep hb1
 have e0:w1.cell? ⟨w.heap.size,0,none⟩=some (.int .i64 2):=by rw [(bcell hb1).1 _ _ HR.out.lt];exact d0
 have e2:w1.cell? ⟨w.heap.size,2,none⟩=some (.string (bs n.value)):=by rw [(bcell hb1).1 _ _ HR.out.lt];exact d2
 clear d0 d1 d2 HB HR hb1
 have HB:=Lib.hid hB1
 have HR:=Lib.hid hr1
 clear hB1 hr1
 go_wp2_with fail
 refine (List_any _ 2 2 _).mono ?_
 rintro e w2 ⟨rfl,hb2⟩
 have hBR:Below w.heap.size w (w1.alloc (.cells #[.bool false,.string (bs (packP n.part false)),.slice none 0 0,.bool false,.string (bs n.value),.slice none 0 0] 86)):=HB.out.alloc HB.out.size _
 have hB2:=below_call hBR hBR.size hb2
 have hrow:w2.heap[w1.heap.size]? = some (.cells #[.bool false,.string (bs (packP n.part false)),.slice none 0 0,.bool false,.string (bs n.value),.slice none 0 0] 86 (0,0)):=(hb2.block _ (by simp)).trans (heap_alloc_new w1 _)
 have hS2:=HS.out.keep hB2
 have hwg:=HS.out.lt
 have hApR:Apart g v w1.heap.size:=⟨by have:=HB.out.size;omega,fun e=>by have:=(HS.out.own.lt _ e).2;have:=HB.out.size;omega⟩
 obtain ⟨k0,hk0⟩:∃ k0,n.kids[0]? = some k0:=getElem_ex (by rw [HN.out.wide];omega)
 have hnx:nodeIt its n=listIt [leafIt (packP n.part false),tellAt its k0]:=by
  have:n.kids.getD 0 0=k0:=by rw [List.getD_eq_getElem?_getD,hk0];rfl
  simp [nodeIt,hk,hk0]
 have hw2:=hB2.size
 have hR2:=HR.out.keep ((Below.refl w1.heap.size w1).alloc (Nat.le_refl _) (.cells #[.bool false,.string (bs (packP n.part false)),.slice none 0 0,.bool false,.string (bs n.value),.slice none 0 0] 86))
 replace hR2:=hR2.keep hb2
 replace e0:w2.cell? ⟨w.heap.size,0,none⟩=some (.int .i64 2):=by have h:=hR2.cell (j:=0) (u:=.int .i64 n.k) rfl;rw [hk] at h;exact h
 have e3:w2.cell? ⟨w.heap.size,3,none⟩=some (.int .i64 k0):=hR2.cell (nodeC_kid_at (i:=0) hk0)
 have e00:=ca e0 (.cells #[.bool true,.string (bs []),.slice (some ⟨w1.heap.size,0,none⟩) 2 2] 86)
 have HNX:=Lib.hid hnx
 have HKR:=Lib.hid (HN.out.kid k0 (List.mem_of_getElem? hk0))
 have hba:Below w2.heap.size w2 (w2.alloc (.cells #[.bool true,.string (bs []),.slice (some ⟨w1.heap.size,0,none⟩) 2 2] 86)):=(Below.refl _ _).alloc (Nat.le_refl _) _
 have hX3:=heap_alloc_new w2 (.cells #[.bool true,.string (bs []),.slice (some ⟨w1.heap.size,0,none⟩) 2 2] 86)
 have hS3:=hS2.keep hba
 have hB3:=below_call hB2 hB2.size hba
 have hrow3:=(hba.block _ (Array.getElem?_eq_some_iff.1 hrow).1).trans hrow
 have e33:=ca e3 (.cells #[.bool true,.string (bs []),.slice (some ⟨w1.heap.size,0,none⟩) 2 2] 86)
 have hRl:=(Array.getElem?_eq_some_iff.1 hrow).1
 have hw1:=HB.out.size
 clear hnx hBR hk0 e2 hS2 hB2 hrow hba hR2 e3 hb2
 go_wp2_with fail
 have hx2:(w2.alloc (.cells #[.bool true,.string (bs []),.slice (some ⟨w1.heap.size,0,none⟩) 2 2] 86)).cell? ⟨w2.heap.size,2,none⟩=some (.slice (some ⟨w1.heap.size,0,none⟩) 2 2):=by simp
 obtain ⟨X,hX⟩:∃ X,X=w2.heap.size:=⟨_,rfl⟩
 generalize w2.alloc (.cells #[.bool true,.string (bs []),.slice (some ⟨w1.heap.size,0,none⟩) 2 2] 86)=W3 at hX3 hS3 hB3 hrow3 e33 hx2 ⊢
 clear e00 e0
 refine wp_region_held_drew (S:=fun w'=>w'.cell? ⟨w2.heap.size,2,none⟩=some (.slice (some ⟨w1.heap.size,0,none⟩) 2 2)∧w'.cell? ⟨w.heap.size,3,none⟩=some (.int .i64 k0)) (by kernel_rfl) ⟨hx2,e33⟩ (fun hHeld=>?_)
 refine H_t (i:=0) (v:=.pointer (some ⟨w2.heap.size,2,none⟩)) rfl (Or.inl ⟨by rfl,fun w' hS=>by go_simp⟩) hHeld ?_
 refine H_t (i:=1) (v:=.slice (some ⟨w1.heap.size,0,none⟩) 2 2) rfl (yieldsIf_load_cell rfl rfl rfl (fun w' hS=>hS.1) Tryz.underlying84 rfl) hHeld ?_
 refine H_t (i:=2) (v:=.func (.func 123) #[.pointer (some ⟨g,0,none⟩)] #[]) rfl (Or.inl ⟨by rfl,fun w' hS=>by go_simp⟩) hHeld ?_
 refine H_t (i:=3) (v:=.pointer (some ⟨w.heap.size,3,none⟩)) rfl (Or.inl ⟨by rfl,fun w' hS=>by go_simp⟩) hHeld ?_
 refine H_t (i:=4) (v:=.pointer (some ⟨w.heap.size,3,none⟩)) rfl (Or.inl ⟨by rfl,fun w' hS=>by go_simp⟩) hHeld ?_
 refine H_t (i:=5) (v:=.int .i64 k0) rfl (yieldsIf_load_cell rfl rfl rfl (fun w' hS=>hS.2) Tryz.underlying3 rfl) hHeld ?_
 have hbd:Below W3.heap.size W3 W3.drew:=(Below.refl _ _).drew
 replace hX3:W3.drew.heap[w2.heap.size]? = _:=hX3
 replace hS3:=hS3.keep hbd
 replace hB3:=below_call hB3 hB3.size hbd
 replace hrow3:W3.drew.heap[w1.heap.size]? = _:=hrow3
 clear hbd e33 hx2
 generalize W3.drew=W3 at hX3 hS3 hB3 hrow3 hHeld ⊢
 refine H_now 6 fun K hK=>?_
 go_simp
 have hrep:RepN (fun b=>Apart g v b∧b < w.heap.size) W3 3 (itemsD its) xs:=RepN.mono HS.out.rep fun b h1 h2=>⟨⟨h2,h1⟩,hB3.block b h1⟩
 refine (told_any W3 g v its last xs hS3 _ hrep k0 HKR.out).mono ?_
 rintro e w5 ⟨A,c,rfl,hy5,hb5⟩
 obtain ⟨y,hyy⟩:∃ y,tellAt its k0=y:=⟨_,rfl⟩
 rw [hyy] at hy5 ⊢
 replace HNX:=Lib.hid ((HNX.out).trans (by rw [hyy]))
 have hS5:=hS3.keep hb5
 have hX5:=(hb5.block _ (Array.getElem?_eq_some_iff.1 hX3).1).trans hX3
 have hrow5:=(hb5.block _ (Array.getElem?_eq_some_iff.1 hrow3).1).trans hrow3
 have hB5:=below_call hB3 hB3.size hb5
 have hq:w5.cell? ⟨w2.heap.size,2,none⟩=some (.slice (some ⟨w1.heap.size,0,none⟩) 2 2)∧w5.cell? ⟨w.heap.size,3,none⟩=some (.int .i64 k0):=⟨((bcell hb5).1 _ _ (lt_of_cell hHeld.1)).trans hHeld.1,((bcell hb5).1 _ _ (lt_of_cell hHeld.2)).trans hHeld.2⟩
 have c3:w5.cell? ⟨w1.heap.size,3,none⟩=some (.bool false):=by rw [cell_of_row _ _ _ _ _ _ hrow5];rfl
 have c4:w5.cell? ⟨w1.heap.size,4,none⟩=some (.string (bs n.value)):=by rw [cell_of_row _ _ _ _ _ _ hrow5];rfl
 have c5:w5.cell? ⟨w1.heap.size,5,none⟩=some (.slice none 0 0):=by rw [cell_of_row _ _ _ _ _ _ hrow5];rfl
 have f3:w5.frozen? ⟨w1.heap.size,3,none⟩=false:=by simp [World.frozen?,hrow5]
 have f4:w5.frozen? ⟨w1.heap.size,4,none⟩=false:=by simp [World.frozen?,hrow5]
 have f5:w5.frozen? ⟨w1.heap.size,5,none⟩=false:=by simp [World.frozen?,hrow5]
 clear hrep hb5 hS3 hX3 hrow3 hB3 hyy
 refine hK.out _ _ hq (fun hHeld=>?_)
 clear hK K
 refine lay_H ?_
 refine H_t (i:=7) (v:=.pointer (some ⟨w1.heap.size,3,none⟩)) rfl (Or.inl ⟨by rfl,fun w' hS=>by go_simp⟩) hHeld ?_
 have HS5:=Lib.hid hS5
 have HX5:=Lib.hid hX5
 have HR5:=Lib.hid hrow5
 have HB5:=Lib.hid hB5
 have HY5:=Lib.hid hy5
 have HQ:=Lib.hid hq
 clear hS5 hX5 hrow5 hB5 hy5 hq
 refine H_now 8 fun K hK=>?_
 go_simp
 obtain ⟨W6,hW6⟩:∃ W6,W6=(((w5.setCell ⟨w1.heap.size,3,none⟩ (.bool y.l)).setCell ⟨w1.heap.size,4,none⟩ (.string (bs y.b))).setCell ⟨w1.heap.size,5,none⟩ (.slice A y.ks.length c)):=⟨_,rfl⟩
 have hw1':=HR.out.lt
 have hk6:∀ k,k≠w1.heap.size→W6.heap[k]? = w5.heap[k]?:=fun k h=>by rw [hW6];exact (heap_set_ne h _).trans ((heap_set_ne h _).trans (heap_set_ne h _))
 have hX6:=(hk6 w2.heap.size (by omega)).trans HX5.out
 have hR6:W6.heap[w1.heap.size]? = some (.cells #[.bool false,.string (bs (packP n.part false)),.slice none 0 0,.bool y.l,.string (bs y.b),.slice A y.ks.length c] 86 (0,0)):=by
  rw [hW6]
  exact heap_setCell_here (heap_setCell_here (heap_setCell_here HR5.out _) _) _
 have hB6:Below w.heap.size w W6:=by
  rw [hW6]
  exact ((HB5.out.setCell (p:=⟨w1.heap.size,_,_⟩) hw1 _).setCell (p:=⟨w1.heap.size,_,_⟩) hw1 _).setCell (p:=⟨w1.heap.size,_,_⟩) hw1 _
 have hxv:ItemV (Apart g v) W6 (nodeIt its n) (some ⟨w1.heap.size,0,none⟩) 2:=by
  rw [HNX.out]
  refine itemV_row (ks:=[leafIt (packP n.part false),y]) (.cons (ItemV.leaf (packP n.part false) false) rfl (.cons (HY5.out.mono fun b _ hb=>⟨hb.1,hk6 b (by have:=hb.2;omega)⟩) rfl .nil)) hR6 hApR (by simp) (by simp [maxLen])
 have hS6:=HS.out.keep hB6
 have hq6:W6.cell? ⟨w2.heap.size,2,none⟩=some (.slice (some ⟨w1.heap.size,0,none⟩) 2 2)∧W6.cell? ⟨w.heap.size,3,none⟩=some (.int .i64 k0):=⟨by rw [cell_of_row _ _ _ _ _ _ hX6];rfl,(World.cell?_of_block (a:=⟨w.heap.size,3,none⟩) (hk6 w.heap.size (by omega))).trans HQ.out.2⟩
 rw [← hW6]
 refine hK.out _ _ hq6 (fun hHeld=>?_)
 clear hK K
 refine lay_H ?_
 refine wpAnyH_done (by kernel_rfl) ?_ _
 have a0:W6.cell? ⟨w2.heap.size,0,none⟩=some (.bool true):=by rw [cell_of_row _ _ _ _ _ _ hX6];rfl
 have a1:W6.cell? ⟨w2.heap.size,1,none⟩=some (.string (bs [])):=by rw [cell_of_row _ _ _ _ _ _ hX6];rfl
 have a2:=hq6.1
 clear c3 c4 c5 f3 f4 f5 hW6 HS5 HX5 HR5 HB5 HY5 HQ hHeld hq6 hw1'
 have hE:=Encode_any (nodeIt its n) (some ⟨w1.heap.size,0,none⟩) 2 W6 (by have:=HN.out.len;omega) hxv.any
 rw [enc_fine HN.out,show (nodeIt its n).l=true by rw [HNX.out];rfl,show (nodeIt its n).b = [] by rw [HNX.out];rfl,show (nodeIt its n).ks.length=2 by rw [HNX.out];rfl] at hE
 have HE:=Lib.hid hE
 have HX3:=Lib.hid hxv
 have HS3:=Lib.hid hS6
 have HB3:=Lib.hid hB6
 have HXR:=Lib.hid hX6
 clear hE hxv hS6 hB6 hX6 hR6 hk6
 go_wp2_with fail
 refine HE.out.mono ?_
 rintro e w4 ⟨rfl,hb4⟩
 have hS4:=HS3.out.keep hb4
 have hX4:=HX3.out.keep hb4
 have hXR4:=(hb4.block _ (Array.getElem?_eq_some_iff.1 HXR.out).1).trans HXR.out
 have hB4:=below_call HB3.out HB3.out.size hb4
 have z1:=hS4.cell1
 have z2:=hS4.free 1
 clear HE HX3 HS3 HB3 HXR hb4
 try clear HS2 HB2 HXV HB HR e0 e00
 have HS4:=Lib.hid hS4
 have HX4:=Lib.hid hX4
 have HR4:=Lib.hid hXR4
 have HB4:=Lib.hid hB4
 clear hS4 hX4 hXR4 hB4
 go_wp2_with fail
 ·refine (sum_any (writeP (nodeIt its n)) (by have:=HN.out.len;omega) _).mono ?_
  rintro e w5 ⟨rfl,hb5⟩
  obtain ⟨y,hy⟩:∃ y,y=leafIt (sumK (writeP (nodeIt its n))):=⟨_,rfl⟩
  have hty:tellP (nodeIt its n)=y:=by unfold tellP;rw [if_pos (by omega),hy]
  have hXw:w.heap.size≤w2.heap.size:=hw2
  have hS5:=(HS4.out.set (writeP (nodeIt its n))).keep hb5
  have hT5:=((ArnTo.of_below (g:=g) (v:=v) HB4.out).setg 1 (.string (bs (writeP (nodeIt its n))))).trans (ArnTo.of_below hb5)
  have hX4:(w4.setCell ⟨g,1,none⟩ (.string (bs (writeP (nodeIt its n))))).heap[w2.heap.size]? = _:=(heap_set_ne (by omega) _).trans HR4.out
  have hX5:=(hb5.block _ (Array.getElem?_eq_some_iff.1 hX4).1).trans hX4
  have hkk:∀ k,k < w.heap.size→k≠g→w5.heap[k]? = w.heap[k]?:=fun k h1 h2 =>
   (hb5.block k (by have:=HB4.out.size;simp;omega)).trans ((heap_set_ne h2 _).trans (HB4.out.block k h1))
  clear hb5 hX4 HS4 HX4 HR4 HB4 z1 z2
  have d0:w5.cell? ⟨w2.heap.size,0,none⟩=some (.bool true):=by rw [cell_of_row _ _ _ _ _ _ hX5];rfl
  have d1:w5.cell? ⟨w2.heap.size,1,none⟩=some (.string (bs [])):=by rw [cell_of_row _ _ _ _ _ _ hX5];rfl
  have d2:w5.cell? ⟨w2.heap.size,2,none⟩=some (.slice (some ⟨w1.heap.size,0,none⟩) 2 2):=by rw [cell_of_row _ _ _ _ _ _ hX5];rfl
  have f0:w5.frozen? ⟨w2.heap.size,0,none⟩=false:=by simp [World.frozen?,hX5]
  have f1:w5.frozen? ⟨w2.heap.size,1,none⟩=false:=by simp [World.frozen?,hX5]
  have f2:w5.frozen? ⟨w2.heap.size,2,none⟩=false:=by simp [World.frozen?,hX5]
  have z5:=hS5.cell1
  have HP5:=Lib.hid hS5.ptr
  have HT5':=Lib.hid hT5
  have HX5':=Lib.hid hX5
  have HKK:=Lib.hid hkk
  clear hS5 hT5 hX5 hkk
  go_wp2_with fail
  obtain ⟨X,hX⟩:∃ X,X=w2.heap.size:=⟨_,rfl⟩
  rw [← hX] at HX5' hXw ⊢
  obtain ⟨W,hW⟩:∃ W,W=((w5.setCell ⟨X,0,none⟩ (.bool false)).setCell ⟨X,1,none⟩ (.string (bs (sumK (writeP (nodeIt its n)))))).setCell ⟨X,2,none⟩ (.slice none 0 0):=⟨_,rfl⟩
  obtain ⟨A,hA⟩:∃ A,A=(none:Option Addr):=⟨_,rfl⟩
  obtain ⟨c,hc⟩:∃ c,c=0:=⟨_,rfl⟩
  have HS5:Hid (SumV W g v its (writeP (nodeIt its n)) xs):=Lib.hid (by
   rw [hW]
   refine HS.out.later ?_ (fun k h1 h2=>?_)
   ·rw [heap_set_ne (by omega),heap_set_ne (by omega),heap_set_ne (by omega)];exact HP5.out
   ·rw [heap_set_ne (by omega),heap_set_ne (by omega),heap_set_ne (by omega)];exact HKK.out k h1 h2)
  have HY:Hid (ItemV (Apart g v) W y A c):=Lib.hid (by rw [hy,hA,hc];exact ItemV.leaf _ _)
  have HXR:Hid (W.heap[X]? = some (.cells #[.bool y.l,.string (bs y.b),.slice A y.ks.length c] 86 (0,0))):=Lib.hid (by
   rw [hW,hA,hc,hy]
   exact heap_setCell_here (heap_setCell_here (heap_setCell_here HX5'.out _) _) _)
  have HT5:Hid (ArnTo g v w W v):=Lib.hid (by rw [hW];exact ((HT5'.out.set hXw _).set hXw _).set hXw _)
  rw [← hW]
  clear hW hA hc hy HT5' HX5' d0 d1 d2 f0 f1 f2 hX HP5 HKK z5
  refine wp_region_held_drew (S:=fun w'=>w'.heap[X]? = some (.cells #[.bool y.l,.string (bs y.b),.slice A y.ks.length c] 86 (0,0))) (by kernel_rfl) HXR.out (fun hHeld=>?_)
  refine H_t (i:=0) (v:=.pointer (some ⟨g,0,none⟩)) rfl (Or.inl ⟨by rfl,fun w' hS=>by go_simp⟩) hHeld ?_
  refine H_t (i:=1) (v:=.pointer (some ⟨g,0,none⟩)) rfl (Or.inl ⟨by rfl,fun w' hS=>by go_simp⟩) hHeld ?_
  refine H_t (i:=2) (v:=.pointer (some ⟨g,0,none⟩)) rfl (Or.inl ⟨by rfl,fun w' hS=>by go_simp⟩) hHeld ?_
  refine H_t (i:=4) (v:=.agg #[.bool y.l,.string (bs y.b),.slice A y.ks.length c]) rfl (yieldsIf_load_row rfl rfl rfl (fun w' hS=>hS) Tryz.underlying86 rfl infoI) hHeld ?_
  have hbd:Below W.heap.size W W.drew:=(Below.refl _ _).drew
  have hS6:=HS5.out.keep hbd
  have hY6:=HY.out.keep hbd
  have hT6:=HT5.out.trans (ArnTo.of_below hbd)
  have hXR6:W.drew.heap[X]? = _:=HXR.out
  generalize W.drew=W6 at hS6 hY6 hT6 hXR6 ⊢
  have z0:=hS6.cell0
  rw [HVV.out] at z0
  refine wpAnyH_ready (rs:=[3,6]) (by kernel_rfl) (by simp) ?_
  refine AllReadyH.cons rfl (fun K hK=>?_) (AllReadyH.cons rfl (fun K hK=>?_) AllReadyH.nil)
  ·go_simp
   refine hK.out _ _ hXR6 (fun hHeld=>?_)
   clear hK K
   refine lay_H ?_
   refine H_t (i:=5) (v:=.int .i64 (its.length:Int)) rfl (Or.inl ⟨by rfl,fun w' hS=>by go_simp⟩) hHeld ?_
   refine H_now 6 fun K hK=>?_
   have hba:Below W6.heap.size W6 (W6.alloc (.cells #[.bool false,.string ⟨#[]⟩,.slice none 0 0] 86)):=(Below.refl _ _).alloc (Nat.le_refl _) _
   have hS7:=hS6.keep hba
   have hY7:=hY6.keep hba
   have hT7:=hT6.trans (ArnTo.of_below hba)
   have hXR7:=(hba.block _ (Array.getElem?_eq_some_iff.1 hXR6).1).trans hXR6
   have hL7:=lies_new W6 #[.bool false,.string ⟨#[]⟩,.slice none 0 0] 86
   go_simp
   refine hK.out _ _ hXR7 (fun hHeld=>?_)
   clear hK K
   refine lay_H ?_
   refine H_now 7 fun K hK=>?_
   have hown7:(W6.alloc (.cells #[.bool false,.string ⟨#[]⟩,.slice none 0 0] 86)).ownsRow (g+1) 86 3 (.slice A0 its.length c0) its.length xs:=by rw [← HVV.out];exact hS7.own
   have hgl7:=hS7.lt
   refine stl_append elItem rfl rfl (g+1) hown7 rfl (m:=1) [.bool false,.string ⟨#[]⟩,.slice none 0 0] rfl rfl hL7 (by intro u hu;simp at hu;rcases hu with rfl | rfl | rfl <;> rfl) (by simp only [maxLen];omega) (by omega) (by omega) ?_
   intro v1 w8 hown1 hg1 hat1
   rw [← HVV.out] at hg1 hat1
   have hxl:xs.length=its.length * 3:=hS7.own.1
   have hne:some g≠v.ownBlock:=fun e=>by have:=(hS7.own.lt _ e.symm).1;omega
   obtain ⟨g1,k1,cur1,rfl,hg1b,_,hk1,hk2,_,_⟩:=hown1.2.resolve_left (fun h=>by omega)
   have hc0:=hown1.cellAt (its.length * 3) (by omega)
   have hc1:=hown1.cellAt (its.length * 3+1) (by omega)
   have hc2:=hown1.cellAt (its.length * 3+2) (by omega)
   rw [List.getElem?_append_right (by omega),hxl] at hc0 hc1 hc2
   simp only [Nat.sub_self,Nat.add_sub_cancel_left,List.getElem?_cons_zero,List.getElem?_cons_succ] at hc0 hc1 hc2
   have hf0:=hown1.frozenAt (its.length * 3)
   have hf1:=hown1.frozenAt (its.length * 3+1)
   have hf2:=hown1.frozenAt (its.length * 3+2)
   have z8:w8.cell? ⟨g,0,none⟩=some v:=hg1.cell hS7.cell0 hne
   have f8:w8.frozen? ⟨g,0,none⟩=false:=(World.frozen?_of_block (hg1.block g hgl7 hne)).trans (hS7.free 0)
   rw [HVV.out] at z8
   have hXne:some X≠v.ownBlock:=fun e=>by have:=(HS.out.own.lt _ e.symm).2;omega
   have hXl:=(Array.getElem?_eq_some_iff.1 hXR7).1
   have hXR8:=(hg1.block X hXl hXne).trans hXR7
   have hg1g:g1≠g:=by omega
   have hXg1:X≠g1:=fun e=>by
    rcases hat1 with h | h
    ·exact hXne (by rw [← h,e];rfl)
    ·injection h with h;simp only [] at h;omega
   try simp only [Act.put,List.setIfInBounds_toArray,List.set_cons_zero,List.set_cons_succ,List.getElem_toArray,List.getElem_cons_zero,List.getElem_cons_succ]
   refine hK.out _ _ hXR8 (fun hHeld=>?_)
   clear hK K
   refine lay_H ?_
   have hlI:(its.length:Int) < (its.length:Int)+1:=by omega
   refine H_t (i:=8) (v:=.pointer (some ⟨g1,its.length * 3,none⟩)) rfl (Or.inl ⟨by rfl,fun w' hS=>by go_simp⟩) hHeld ?_
   refine H_t (i:=10) (v:=.pointer (some ⟨g,0,none⟩)) rfl (Or.inl ⟨by rfl,fun w' hS=>by go_simp⟩) hHeld ?_
   refine H_t (i:=11) (v:=.pointer (some ⟨g,0,none⟩)) rfl (Or.inl ⟨by rfl,fun w' hS=>by go_simp⟩) hHeld ?_
   have hKg:∀ k,k < (W6.alloc (.cells #[.bool false,.string ⟨#[]⟩,.slice none 0 0] 86)).heap.size→Apart g v k→k≠g1:=fun k h1 h2 e=>by
    rcases hat1 with h | h
    ·exact h2.2 (by rw [← h,e];rfl)
    ·injection h with h;simp only [] at h;omega
   have hp8:=(hg1.block g hgl7 hne).trans hS7.ptr
   refine wpAnyH_ready (rs:=[9,12]) (by kernel_rfl) (by simp) ?_
   refine AllReadyH.cons rfl (fun K hK=>?_) (AllReadyH.cons rfl (fun K hK=>?_) AllReadyH.nil)
   ·have z9:(((w8.setCell ⟨g1,its.length * 3,none⟩ (.bool y.l)).setCell ⟨g1,its.length * 3+1,none⟩ (.string (bs y.b))).setCell ⟨g1,its.length * 3+2,none⟩ (.slice A y.ks.length c)).cell? ⟨g,0,none⟩=some (.slice A0 its.length c0):=by rw [World.cell?_setCell_far _ _ _ _ (by simpa using hg1g),World.cell?_setCell_far _ _ _ _ (by simpa using hg1g),World.cell?_setCell_far _ _ _ _ (by simpa using hg1g)];exact z8
    have hX9:(((w8.setCell ⟨g1,its.length * 3,none⟩ (.bool y.l)).setCell ⟨g1,its.length * 3+1,none⟩ (.string (bs y.b))).setCell ⟨g1,its.length * 3+2,none⟩ (.slice A y.ks.length c)).heap[X]? = _:=(heap_set_ne hXg1 _).trans ((heap_set_ne hXg1 _).trans ((heap_set_ne hXg1 _).trans hXR8))
    have hp9:(((w8.setCell ⟨g1,its.length * 3,none⟩ (.bool y.l)).setCell ⟨g1,its.length * 3+1,none⟩ (.string (bs y.b))).setCell ⟨g1,its.length * 3+2,none⟩ (.slice A y.ks.length c)).heap[g]? = _:=(heap_set_ne hg1g.symm _).trans ((heap_set_ne hg1g.symm _).trans ((heap_set_ne hg1g.symm _).trans hp8))
    have st1:=(World.ownsRow.stored hown1 (its.length * 3) (.bool y.l)).1
    have st2:=(st1.stored (its.length * 3+1) (.string (bs y.b))).1
    have st3:=(st2.stored (its.length * 3+2) (.slice A y.ks.length c)).1
    rw [set3 hxl] at st3
    have hfin:=add_fin (W':=((((w8.setCell ⟨g1,its.length * 3,none⟩ (.bool y.l)).setCell ⟨g1,its.length * 3+1,none⟩ (.string (bs y.b))).setCell ⟨g1,its.length * 3+2,none⟩ (.slice A y.ks.length c)).setCell ⟨g,0,none⟩ (.slice (some ⟨g1,0,none⟩) (its.length+1) k1))) hS7 hY7 hT7 hat1 (heap_setCell_here hp9 _) (own_setOther st3 (by omega) _) ⟨hg1.os,hg1.tape,hg1.output,by simpa using hg1.size⟩ (fun k h1 h2=>(heap_set_ne h2.1 _).trans ((heap_set_ne (hKg k h1 h2) _).trans ((heap_set_ne (hKg k h1 h2) _).trans ((heap_set_ne (hKg k h1 h2) _).trans (hg1.block k h1 (fun e=>h2.2 e.symm))))))
    have HFIN:=Lib.hid hfin
    clear hfin st1 st2 st3 hp9
    go_simp
    refine hK.out _ _ hX9 (fun hHeld=>?_)
    clear hK K
    refine lay_H ?_
    refine H_now 12 fun K hK=>?_
    go_simp
    refine hK.out _ _ ((heap_set_ne (by omega) _).trans hX9) (fun hHeld=>?_)
    clear hK K
    refine lay_H ?_
    refine wpAnyH_done (by kernel_rfl) ?_ _
    go_wp2_with fail
    go_end0
    exact ⟨rfl,_,_,by rw [hty];exact HFIN.out.1,HFIN.out.2⟩
   ·have hX9:(w8.setCell ⟨g,0,none⟩ (.slice (some ⟨g1,0,none⟩) (its.length+1) k1)).heap[X]? = _:=(heap_set_ne (by omega) _).trans hXR8
    have hp9:(w8.setCell ⟨g,0,none⟩ (.slice (some ⟨g1,0,none⟩) (its.length+1) k1)).heap[g]? = some (.cells #[(.slice (some ⟨g1,0,none⟩) (its.length+1) k1),.string (bs (writeP (nodeIt its n)))] 127 (0,0)):=heap_setCell_here hp8 _
    have ho9:(w8.setCell ⟨g,0,none⟩ (.slice (some ⟨g1,0,none⟩) (its.length+1) k1)).ownsRow (g+1) 86 3 (.slice (some ⟨g1,0,none⟩) (its.length+1) k1) (its.length+1) (xs ++ [.bool false,.string ⟨#[]⟩,.slice none 0 0]):=own_setOther hown1 (by omega) _
    have st1:=(World.ownsRow.stored ho9 (its.length * 3) (.bool y.l)).1
    have st2:=(st1.stored (its.length * 3+1) (.string (bs y.b))).1
    have st3:=(st2.stored (its.length * 3+2) (.slice A y.ks.length c)).1
    rw [set3 hxl] at st3
    have hfin:=add_fin (W':=((((w8.setCell ⟨g,0,none⟩ (.slice (some ⟨g1,0,none⟩) (its.length+1) k1)).setCell ⟨g1,its.length * 3,none⟩ (.bool y.l)).setCell ⟨g1,its.length * 3+1,none⟩ (.string (bs y.b))).setCell ⟨g1,its.length * 3+2,none⟩ (.slice A y.ks.length c))) hS7 hY7 hT7 hat1 ((heap_set_ne hg1g.symm _).trans ((heap_set_ne hg1g.symm _).trans ((heap_set_ne hg1g.symm _).trans hp9))) st3 ⟨hg1.os,hg1.tape,hg1.output,by simpa using hg1.size⟩ (fun k h1 h2=>(heap_set_ne (hKg k h1 h2) _).trans ((heap_set_ne (hKg k h1 h2) _).trans ((heap_set_ne (hKg k h1 h2) _).trans ((heap_set_ne h2.1 _).trans (hg1.block k h1 (fun e=>h2.2 e.symm))))))
    have HFIN:=Lib.hid hfin
    have hd0:(w8.setCell ⟨g,0,none⟩ (.slice (some ⟨g1,0,none⟩) (its.length+1) k1)).cell? ⟨g1,its.length * 3,none⟩=some (.bool false):=by rw [World.cell?_setCell_far _ _ _ _ (by simpa using hg1g.symm)];exact hc0
    have hd1:(w8.setCell ⟨g,0,none⟩ (.slice (some ⟨g1,0,none⟩) (its.length+1) k1)).cell? ⟨g1,its.length * 3+1,none⟩=some (.string ⟨#[]⟩):=by rw [World.cell?_setCell_far _ _ _ _ (by simpa using hg1g.symm)];exact hc1
    have hd2:(w8.setCell ⟨g,0,none⟩ (.slice (some ⟨g1,0,none⟩) (its.length+1) k1)).cell? ⟨g1,its.length * 3+2,none⟩=some (.slice none 0 0):=by rw [World.cell?_setCell_far _ _ _ _ (by simpa using hg1g.symm)];exact hc2
    clear hfin st1 st2 st3 hp9 ho9
    go_simp
    refine hK.out _ _ hX9 (fun hHeld=>?_)
    clear hK K
    refine lay_H ?_
    refine H_now 9 fun K hK=>?_
    go_simp
    refine hK.out _ _ ((heap_set_ne hXg1 _).trans ((heap_set_ne hXg1 _).trans ((heap_set_ne hXg1 _).trans hX9))) (fun hHeld=>?_)
    clear hK K
    refine lay_H ?_
    refine wpAnyH_done (by kernel_rfl) ?_ _
    go_wp2_with fail
    go_end0
    exact ⟨rfl,_,_,by rw [hty];exact HFIN.out.1,HFIN.out.2⟩
  ·go_simp
   have hba:Below W6.heap.size W6 (W6.alloc (.cells #[.bool false,.string ⟨#[]⟩,.slice none 0 0] 86)):=(Below.refl _ _).alloc (Nat.le_refl _) _
   have hS7:=hS6.keep hba
   have hY7:=hY6.keep hba
   have hT7:=hT6.trans (ArnTo.of_below hba)
   have hXR7:=(hba.block _ (Array.getElem?_eq_some_iff.1 hXR6).1).trans hXR6
   have hL7:=lies_new W6 #[.bool false,.string ⟨#[]⟩,.slice none 0 0] 86
   have z7:=hS7.cell0
   rw [HVV.out] at z7
   refine hK.out _ _ hXR7 (fun hHeld=>?_)
   clear hK K
   refine lay_H ?_
   refine H_now 3 fun K hK=>?_
   go_simp
   refine hK.out _ _ hXR7 (fun hHeld=>?_)
   clear hK K
   refine lay_H ?_
   refine H_t (i:=5) (v:=.int .i64 (its.length:Int)) rfl (Or.inl ⟨by rfl,fun w' hS=>by go_simp⟩) hHeld ?_
   refine H_now 7 fun K hK=>?_
   have hown7:(W6.alloc (.cells #[.bool false,.string ⟨#[]⟩,.slice none 0 0] 86)).ownsRow (g+1) 86 3 (.slice A0 its.length c0) its.length xs:=by rw [← HVV.out];exact hS7.own
   have hgl7:=hS7.lt
   refine stl_append elItem rfl rfl (g+1) hown7 rfl (m:=1) [.bool false,.string ⟨#[]⟩,.slice none 0 0] rfl rfl hL7 (by intro u hu;simp at hu;rcases hu with rfl | rfl | rfl <;> rfl) (by simp only [maxLen];omega) (by omega) (by omega) ?_
   intro v1 w8 hown1 hg1 hat1
   rw [← HVV.out] at hg1 hat1
   have hxl:xs.length=its.length * 3:=hS7.own.1
   have hne:some g≠v.ownBlock:=fun e=>by have:=(hS7.own.lt _ e.symm).1;omega
   obtain ⟨g1,k1,cur1,rfl,hg1b,_,hk1,hk2,_,_⟩:=hown1.2.resolve_left (fun h=>by omega)
   have hc0:=hown1.cellAt (its.length * 3) (by omega)
   have hc1:=hown1.cellAt (its.length * 3+1) (by omega)
   have hc2:=hown1.cellAt (its.length * 3+2) (by omega)
   rw [List.getElem?_append_right (by omega),hxl] at hc0 hc1 hc2
   simp only [Nat.sub_self,Nat.add_sub_cancel_left,List.getElem?_cons_zero,List.getElem?_cons_succ] at hc0 hc1 hc2
   have hf0:=hown1.frozenAt (its.length * 3)
   have hf1:=hown1.frozenAt (its.length * 3+1)
   have hf2:=hown1.frozenAt (its.length * 3+2)
   have z8:w8.cell? ⟨g,0,none⟩=some v:=hg1.cell hS7.cell0 hne
   have f8:w8.frozen? ⟨g,0,none⟩=false:=(World.frozen?_of_block (hg1.block g hgl7 hne)).trans (hS7.free 0)
   rw [HVV.out] at z8
   have hXne:some X≠v.ownBlock:=fun e=>by have:=(HS.out.own.lt _ e.symm).2;omega
   have hXl:=(Array.getElem?_eq_some_iff.1 hXR7).1
   have hXR8:=(hg1.block X hXl hXne).trans hXR7
   have hg1g:g1≠g:=by omega
   have hXg1:X≠g1:=fun e=>by
    rcases hat1 with h | h
    ·exact hXne (by rw [← h,e];rfl)
    ·injection h with h;simp only [] at h;omega
   try simp only [Act.put,List.setIfInBounds_toArray,List.set_cons_zero,List.set_cons_succ,List.getElem_toArray,List.getElem_cons_zero,List.getElem_cons_succ]
   refine hK.out _ _ hXR8 (fun hHeld=>?_)
   clear hK K
   refine lay_H ?_
   have hlI:(its.length:Int) < (its.length:Int)+1:=by omega
   refine H_t (i:=8) (v:=.pointer (some ⟨g1,its.length * 3,none⟩)) rfl (Or.inl ⟨by rfl,fun w' hS=>by go_simp⟩) hHeld ?_
   refine H_t (i:=10) (v:=.pointer (some ⟨g,0,none⟩)) rfl (Or.inl ⟨by rfl,fun w' hS=>by go_simp⟩) hHeld ?_
   refine H_t (i:=11) (v:=.pointer (some ⟨g,0,none⟩)) rfl (Or.inl ⟨by rfl,fun w' hS=>by go_simp⟩) hHeld ?_
   have hKg:∀ k,k < (W6.alloc (.cells #[.bool false,.string ⟨#[]⟩,.slice none 0 0] 86)).heap.size→Apart g v k→k≠g1:=fun k h1 h2 e=>by
    rcases hat1 with h | h
    ·exact h2.2 (by rw [← h,e];rfl)
    ·injection h with h;simp only [] at h;omega
   have hp8:=(hg1.block g hgl7 hne).trans hS7.ptr
   refine wpAnyH_ready (rs:=[9,12]) (by kernel_rfl) (by simp) ?_
   refine AllReadyH.cons rfl (fun K hK=>?_) (AllReadyH.cons rfl (fun K hK=>?_) AllReadyH.nil)
   ·have z9:(((w8.setCell ⟨g1,its.length * 3,none⟩ (.bool y.l)).setCell ⟨g1,its.length * 3+1,none⟩ (.string (bs y.b))).setCell ⟨g1,its.length * 3+2,none⟩ (.slice A y.ks.length c)).cell? ⟨g,0,none⟩=some (.slice A0 its.length c0):=by rw [World.cell?_setCell_far _ _ _ _ (by simpa using hg1g),World.cell?_setCell_far _ _ _ _ (by simpa using hg1g),World.cell?_setCell_far _ _ _ _ (by simpa using hg1g)];exact z8
    have hX9:(((w8.setCell ⟨g1,its.length * 3,none⟩ (.bool y.l)).setCell ⟨g1,its.length * 3+1,none⟩ (.string (bs y.b))).setCell ⟨g1,its.length * 3+2,none⟩ (.slice A y.ks.length c)).heap[X]? = _:=(heap_set_ne hXg1 _).trans ((heap_set_ne hXg1 _).trans ((heap_set_ne hXg1 _).trans hXR8))
    have hp9:(((w8.setCell ⟨g1,its.length * 3,none⟩ (.bool y.l)).setCell ⟨g1,its.length * 3+1,none⟩ (.string (bs y.b))).setCell ⟨g1,its.length * 3+2,none⟩ (.slice A y.ks.length c)).heap[g]? = _:=(heap_set_ne hg1g.symm _).trans ((heap_set_ne hg1g.symm _).trans ((heap_set_ne hg1g.symm _).trans hp8))
    have st1:=(World.ownsRow.stored hown1 (its.length * 3) (.bool y.l)).1
    have st2:=(st1.stored (its.length * 3+1) (.string (bs y.b))).1
    have st3:=(st2.stored (its.length * 3+2) (.slice A y.ks.length c)).1
    rw [set3 hxl] at st3
    have hfin:=add_fin (W':=((((w8.setCell ⟨g1,its.length * 3,none⟩ (.bool y.l)).setCell ⟨g1,its.length * 3+1,none⟩ (.string (bs y.b))).setCell ⟨g1,its.length * 3+2,none⟩ (.slice A y.ks.length c)).setCell ⟨g,0,none⟩ (.slice (some ⟨g1,0,none⟩) (its.length+1) k1))) hS7 hY7 hT7 hat1 (heap_setCell_here hp9 _) (own_setOther st3 (by omega) _) ⟨hg1.os,hg1.tape,hg1.output,by simpa using hg1.size⟩ (fun k h1 h2=>(heap_set_ne h2.1 _).trans ((heap_set_ne (hKg k h1 h2) _).trans ((heap_set_ne (hKg k h1 h2) _).trans ((heap_set_ne (hKg k h1 h2) _).trans (hg1.block k h1 (fun e=>h2.2 e.symm))))))
    have HFIN:=Lib.hid hfin
    clear hfin st1 st2 st3 hp9
    go_simp
    refine hK.out _ _ hX9 (fun hHeld=>?_)
    clear hK K
    refine lay_H ?_
    refine H_now 12 fun K hK=>?_
    go_simp
    refine hK.out _ _ ((heap_set_ne (by omega) _).trans hX9) (fun hHeld=>?_)
    clear hK K
    refine lay_H ?_
    refine wpAnyH_done (by kernel_rfl) ?_ _
    go_wp2_with fail
    go_end0
    exact ⟨rfl,_,_,by rw [hty];exact HFIN.out.1,HFIN.out.2⟩
   ·have hX9:(w8.setCell ⟨g,0,none⟩ (.slice (some ⟨g1,0,none⟩) (its.length+1) k1)).heap[X]? = _:=(heap_set_ne (by omega) _).trans hXR8
    have hp9:(w8.setCell ⟨g,0,none⟩ (.slice (some ⟨g1,0,none⟩) (its.length+1) k1)).heap[g]? = some (.cells #[(.slice (some ⟨g1,0,none⟩) (its.length+1) k1),.string (bs (writeP (nodeIt its n)))] 127 (0,0)):=heap_setCell_here hp8 _
    have ho9:(w8.setCell ⟨g,0,none⟩ (.slice (some ⟨g1,0,none⟩) (its.length+1) k1)).ownsRow (g+1) 86 3 (.slice (some ⟨g1,0,none⟩) (its.length+1) k1) (its.length+1) (xs ++ [.bool false,.string ⟨#[]⟩,.slice none 0 0]):=own_setOther hown1 (by omega) _
    have st1:=(World.ownsRow.stored ho9 (its.length * 3) (.bool y.l)).1
    have st2:=(st1.stored (its.length * 3+1) (.string (bs y.b))).1
    have st3:=(st2.stored (its.length * 3+2) (.slice A y.ks.length c)).1
    rw [set3 hxl] at st3
    have hfin:=add_fin (W':=((((w8.setCell ⟨g,0,none⟩ (.slice (some ⟨g1,0,none⟩) (its.length+1) k1)).setCell ⟨g1,its.length * 3,none⟩ (.bool y.l)).setCell ⟨g1,its.length * 3+1,none⟩ (.string (bs y.b))).setCell ⟨g1,its.length * 3+2,none⟩ (.slice A y.ks.length c))) hS7 hY7 hT7 hat1 ((heap_set_ne hg1g.symm _).trans ((heap_set_ne hg1g.symm _).trans ((heap_set_ne hg1g.symm _).trans hp9))) st3 ⟨hg1.os,hg1.tape,hg1.output,by simpa using hg1.size⟩ (fun k h1 h2=>(heap_set_ne (hKg k h1 h2) _).trans ((heap_set_ne (hKg k h1 h2) _).trans ((heap_set_ne (hKg k h1 h2) _).trans ((heap_set_ne h2.1 _).trans (hg1.block k h1 (fun e=>h2.2 e.symm))))))
    have HFIN:=Lib.hid hfin
    have hd0:(w8.setCell ⟨g,0,none⟩ (.slice (some ⟨g1,0,none⟩) (its.length+1) k1)).cell? ⟨g1,its.length * 3,none⟩=some (.bool false):=by rw [World.cell?_setCell_far _ _ _ _ (by simpa using hg1g.symm)];exact hc0
    have hd1:(w8.setCell ⟨g,0,none⟩ (.slice (some ⟨g1,0,none⟩) (its.length+1) k1)).cell? ⟨g1,its.length * 3+1,none⟩=some (.string ⟨#[]⟩):=by rw [World.cell?_setCell_far _ _ _ _ (by simpa using hg1g.symm)];exact hc1
    have hd2:(w8.setCell ⟨g,0,none⟩ (.slice (some ⟨g1,0,none⟩) (its.length+1) k1)).cell? ⟨g1,its.length * 3+2,none⟩=some (.slice none 0 0):=by rw [World.cell?_setCell_far _ _ _ _ (by simpa using hg1g.symm)];exact hc2
    clear hfin st1 st2 st3 hp9 ho9
    go_simp
    refine hK.out _ _ hX9 (fun hHeld=>?_)
    clear hK K
    refine lay_H ?_
    refine H_now 9 fun K hK=>?_
    go_simp
    refine hK.out _ _ ((heap_set_ne hXg1 _).trans ((heap_set_ne hXg1 _).trans ((heap_set_ne hXg1 _).trans hX9))) (fun hHeld=>?_)
    clear hK K
    refine lay_H ?_
    refine wpAnyH_done (by kernel_rfl) ?_ _
    go_wp2_with fail
    go_end0
    exact ⟨rfl,_,_,by rw [hty];exact HFIN.out.1,HFIN.out.2⟩
 ·obtain ⟨y,hy⟩:∃ y,y=nodeIt its n:=⟨_,rfl⟩
  have hty:tellP (nodeIt its n)=y:=by unfold tellP;rw [if_neg (by omega),hy]
  obtain ⟨X,hX⟩:∃ X,X=w2.heap.size:=⟨_,rfl⟩
  obtain ⟨W,hW⟩:∃ W,W=w4.setCell ⟨g,1,none⟩ (.string (bs (writeP (nodeIt its n)))):=⟨_,rfl⟩
  obtain ⟨A,hA⟩:∃ A,A=(some ⟨w1.heap.size,0,none⟩:Option Addr):=⟨_,rfl⟩
  obtain ⟨c,hc⟩:∃ c,c=2:=⟨_,rfl⟩
  have HS5:Hid (SumV W g v its (writeP (nodeIt its n)) xs):=Lib.hid (by rw [hW];exact HS4.out.set _)
  have HY:Hid (ItemV (Apart g v) W y A c):=Lib.hid (by rw [hW,hy,hA,hc];exact HX4.out.mono fun b _ hb=>⟨hb,heap_set_ne hb.1 _⟩)
  have HXR:Hid (W.heap[X]? = some (.cells #[.bool y.l,.string (bs y.b),.slice A y.ks.length c] 86 (0,0))):=Lib.hid (by
   rw [hW,hX,hA,hc,hy,HNX.out]
   exact (heap_set_ne (by have:=HB4.out.size;omega) _).trans HR4.out)
  have HT5:Hid (ArnTo g v w W v):=Lib.hid (by rw [hW];exact (ArnTo.of_below HB4.out).setg _ _)
  have hXw:w.heap.size≤X:=by rw [hX];exact hw2
  rw [← hX,← hW]
  clear hW hX hA hc hy HS4 HX4 HR4 HB4 z1 z2
  refine wp_region_held_drew (S:=fun w'=>w'.heap[X]? = some (.cells #[.bool y.l,.string (bs y.b),.slice A y.ks.length c] 86 (0,0))) (by kernel_rfl) HXR.out (fun hHeld=>?_)
  refine H_t (i:=0) (v:=.pointer (some ⟨g,0,none⟩)) rfl (Or.inl ⟨by rfl,fun w' hS=>by go_simp⟩) hHeld ?_
  refine H_t (i:=1) (v:=.pointer (some ⟨g,0,none⟩)) rfl (Or.inl ⟨by rfl,fun w' hS=>by go_simp⟩) hHeld ?_
  refine H_t (i:=2) (v:=.pointer (some ⟨g,0,none⟩)) rfl (Or.inl ⟨by rfl,fun w' hS=>by go_simp⟩) hHeld ?_
  refine H_t (i:=4) (v:=.agg #[.bool y.l,.string (bs y.b),.slice A y.ks.length c]) rfl (yieldsIf_load_row rfl rfl rfl (fun w' hS=>hS) Tryz.underlying86 rfl infoI) hHeld ?_
  have hbd:Below W.heap.size W W.drew:=(Below.refl _ _).drew
  have hS6:=HS5.out.keep hbd
  have hY6:=HY.out.keep hbd
  have hT6:=HT5.out.trans (ArnTo.of_below hbd)
  have hXR6:W.drew.heap[X]? = _:=HXR.out
  generalize W.drew=W6 at hS6 hY6 hT6 hXR6 ⊢
  have z0:=hS6.cell0
  rw [HVV.out] at z0
  refine wpAnyH_ready (rs:=[3,6]) (by kernel_rfl) (by simp) ?_
  refine AllReadyH.cons rfl (fun K hK=>?_) (AllReadyH.cons rfl (fun K hK=>?_) AllReadyH.nil)
  ·go_simp
   refine hK.out _ _ hXR6 (fun hHeld=>?_)
   clear hK K
   refine lay_H ?_
   refine H_t (i:=5) (v:=.int .i64 (its.length:Int)) rfl (Or.inl ⟨by rfl,fun w' hS=>by go_simp⟩) hHeld ?_
   refine H_now 6 fun K hK=>?_
   have hba:Below W6.heap.size W6 (W6.alloc (.cells #[.bool false,.string ⟨#[]⟩,.slice none 0 0] 86)):=(Below.refl _ _).alloc (Nat.le_refl _) _
   have hS7:=hS6.keep hba
   have hY7:=hY6.keep hba
   have hT7:=hT6.trans (ArnTo.of_below hba)
   have hXR7:=(hba.block _ (Array.getElem?_eq_some_iff.1 hXR6).1).trans hXR6
   have hL7:=lies_new W6 #[.bool false,.string ⟨#[]⟩,.slice none 0 0] 86
   go_simp
   refine hK.out _ _ hXR7 (fun hHeld=>?_)
   clear hK K
   refine lay_H ?_
   refine H_now 7 fun K hK=>?_
   have hown7:(W6.alloc (.cells #[.bool false,.string ⟨#[]⟩,.slice none 0 0] 86)).ownsRow (g+1) 86 3 (.slice A0 its.length c0) its.length xs:=by rw [← HVV.out];exact hS7.own
   have hgl7:=hS7.lt
   refine stl_append elItem rfl rfl (g+1) hown7 rfl (m:=1) [.bool false,.string ⟨#[]⟩,.slice none 0 0] rfl rfl hL7 (by intro u hu;simp at hu;rcases hu with rfl | rfl | rfl <;> rfl) (by simp only [maxLen];omega) (by omega) (by omega) ?_
   intro v1 w8 hown1 hg1 hat1
   rw [← HVV.out] at hg1 hat1
   have hxl:xs.length=its.length * 3:=hS7.own.1
   have hne:some g≠v.ownBlock:=fun e=>by have:=(hS7.own.lt _ e.symm).1;omega
   obtain ⟨g1,k1,cur1,rfl,hg1b,_,hk1,hk2,_,_⟩:=hown1.2.resolve_left (fun h=>by omega)
   have hc0:=hown1.cellAt (its.length * 3) (by omega)
   have hc1:=hown1.cellAt (its.length * 3+1) (by omega)
   have hc2:=hown1.cellAt (its.length * 3+2) (by omega)
   rw [List.getElem?_append_right (by omega),hxl] at hc0 hc1 hc2
   simp only [Nat.sub_self,Nat.add_sub_cancel_left,List.getElem?_cons_zero,List.getElem?_cons_succ] at hc0 hc1 hc2
   have hf0:=hown1.frozenAt (its.length * 3)
   have hf1:=hown1.frozenAt (its.length * 3+1)
   have hf2:=hown1.frozenAt (its.length * 3+2)
   have z8:w8.cell? ⟨g,0,none⟩=some v:=hg1.cell hS7.cell0 hne
   have f8:w8.frozen? ⟨g,0,none⟩=false:=(World.frozen?_of_block (hg1.block g hgl7 hne)).trans (hS7.free 0)
   rw [HVV.out] at z8
   have hXne:some X≠v.ownBlock:=fun e=>by have:=(HS.out.own.lt _ e.symm).2;omega
   have hXl:=(Array.getElem?_eq_some_iff.1 hXR7).1
   have hXR8:=(hg1.block X hXl hXne).trans hXR7
   have hg1g:g1≠g:=by omega
   have hXg1:X≠g1:=fun e=>by
    rcases hat1 with h | h
    ·exact hXne (by rw [← h,e];rfl)
    ·injection h with h;simp only [] at h;omega
   try simp only [Act.put,List.setIfInBounds_toArray,List.set_cons_zero,List.set_cons_succ,List.getElem_toArray,List.getElem_cons_zero,List.getElem_cons_succ]
   refine hK.out _ _ hXR8 (fun hHeld=>?_)
   clear hK K
   refine lay_H ?_
   have hlI:(its.length:Int) < (its.length:Int)+1:=by omega
   refine H_t (i:=8) (v:=.pointer (some ⟨g1,its.length * 3,none⟩)) rfl (Or.inl ⟨by rfl,fun w' hS=>by go_simp⟩) hHeld ?_
   refine H_t (i:=10) (v:=.pointer (some ⟨g,0,none⟩)) rfl (Or.inl ⟨by rfl,fun w' hS=>by go_simp⟩) hHeld ?_
   refine H_t (i:=11) (v:=.pointer (some ⟨g,0,none⟩)) rfl (Or.inl ⟨by rfl,fun w' hS=>by go_simp⟩) hHeld ?_
   have hKg:∀ k,k < (W6.alloc (.cells #[.bool false,.string ⟨#[]⟩,.slice none 0 0] 86)).heap.size→Apart g v k→k≠g1:=fun k h1 h2 e=>by
    rcases hat1 with h | h
    ·exact h2.2 (by rw [← h,e];rfl)
    ·injection h with h;simp only [] at h;omega
   have hp8:=(hg1.block g hgl7 hne).trans hS7.ptr
   refine wpAnyH_ready (rs:=[9,12]) (by kernel_rfl) (by simp) ?_
   refine AllReadyH.cons rfl (fun K hK=>?_) (AllReadyH.cons rfl (fun K hK=>?_) AllReadyH.nil)
   ·have z9:(((w8.setCell ⟨g1,its.length * 3,none⟩ (.bool y.l)).setCell ⟨g1,its.length * 3+1,none⟩ (.string (bs y.b))).setCell ⟨g1,its.length * 3+2,none⟩ (.slice A y.ks.length c)).cell? ⟨g,0,none⟩=some (.slice A0 its.length c0):=by rw [World.cell?_setCell_far _ _ _ _ (by simpa using hg1g),World.cell?_setCell_far _ _ _ _ (by simpa using hg1g),World.cell?_setCell_far _ _ _ _ (by simpa using hg1g)];exact z8
    have hX9:(((w8.setCell ⟨g1,its.length * 3,none⟩ (.bool y.l)).setCell ⟨g1,its.length * 3+1,none⟩ (.string (bs y.b))).setCell ⟨g1,its.length * 3+2,none⟩ (.slice A y.ks.length c)).heap[X]? = _:=(heap_set_ne hXg1 _).trans ((heap_set_ne hXg1 _).trans ((heap_set_ne hXg1 _).trans hXR8))
    have hp9:(((w8.setCell ⟨g1,its.length * 3,none⟩ (.bool y.l)).setCell ⟨g1,its.length * 3+1,none⟩ (.string (bs y.b))).setCell ⟨g1,its.length * 3+2,none⟩ (.slice A y.ks.length c)).heap[g]? = _:=(heap_set_ne hg1g.symm _).trans ((heap_set_ne hg1g.symm _).trans ((heap_set_ne hg1g.symm _).trans hp8))
    have st1:=(World.ownsRow.stored hown1 (its.length * 3) (.bool y.l)).1
    have st2:=(st1.stored (its.length * 3+1) (.string (bs y.b))).1
    have st3:=(st2.stored (its.length * 3+2) (.slice A y.ks.length c)).1
    rw [set3 hxl] at st3
    have hfin:=add_fin (W':=((((w8.setCell ⟨g1,its.length * 3,none⟩ (.bool y.l)).setCell ⟨g1,its.length * 3+1,none⟩ (.string (bs y.b))).setCell ⟨g1,its.length * 3+2,none⟩ (.slice A y.ks.length c)).setCell ⟨g,0,none⟩ (.slice (some ⟨g1,0,none⟩) (its.length+1) k1))) hS7 hY7 hT7 hat1 (heap_setCell_here hp9 _) (own_setOther st3 (by omega) _) ⟨hg1.os,hg1.tape,hg1.output,by simpa using hg1.size⟩ (fun k h1 h2=>(heap_set_ne h2.1 _).trans ((heap_set_ne (hKg k h1 h2) _).trans ((heap_set_ne (hKg k h1 h2) _).trans ((heap_set_ne (hKg k h1 h2) _).trans (hg1.block k h1 (fun e=>h2.2 e.symm))))))
    have HFIN:=Lib.hid hfin
    clear hfin st1 st2 st3 hp9
    go_simp
    refine hK.out _ _ hX9 (fun hHeld=>?_)
    clear hK K
    refine lay_H ?_
    refine H_now 12 fun K hK=>?_
    go_simp
    refine hK.out _ _ ((heap_set_ne (by omega) _).trans hX9) (fun hHeld=>?_)
    clear hK K
    refine lay_H ?_
    refine wpAnyH_done (by kernel_rfl) ?_ _
    go_wp2_with fail
    go_end0
    exact ⟨rfl,_,_,by rw [hty];exact HFIN.out.1,HFIN.out.2⟩
   ·have hX9:(w8.setCell ⟨g,0,none⟩ (.slice (some ⟨g1,0,none⟩) (its.length+1) k1)).heap[X]? = _:=(heap_set_ne (by omega) _).trans hXR8
    have hp9:(w8.setCell ⟨g,0,none⟩ (.slice (some ⟨g1,0,none⟩) (its.length+1) k1)).heap[g]? = some (.cells #[(.slice (some ⟨g1,0,none⟩) (its.length+1) k1),.string (bs (writeP (nodeIt its n)))] 127 (0,0)):=heap_setCell_here hp8 _
    have ho9:(w8.setCell ⟨g,0,none⟩ (.slice (some ⟨g1,0,none⟩) (its.length+1) k1)).ownsRow (g+1) 86 3 (.slice (some ⟨g1,0,none⟩) (its.length+1) k1) (its.length+1) (xs ++ [.bool false,.string ⟨#[]⟩,.slice none 0 0]):=own_setOther hown1 (by omega) _
    have st1:=(World.ownsRow.stored ho9 (its.length * 3) (.bool y.l)).1
    have st2:=(st1.stored (its.length * 3+1) (.string (bs y.b))).1
    have st3:=(st2.stored (its.length * 3+2) (.slice A y.ks.length c)).1
    rw [set3 hxl] at st3
    have hfin:=add_fin (W':=((((w8.setCell ⟨g,0,none⟩ (.slice (some ⟨g1,0,none⟩) (its.length+1) k1)).setCell ⟨g1,its.length * 3,none⟩ (.bool y.l)).setCell ⟨g1,its.length * 3+1,none⟩ (.string (bs y.b))).setCell ⟨g1,its.length * 3+2,none⟩ (.slice A y.ks.length c))) hS7 hY7 hT7 hat1 ((heap_set_ne hg1g.symm _).trans ((heap_set_ne hg1g.symm _).trans ((heap_set_ne hg1g.symm _).trans hp9))) st3 ⟨hg1.os,hg1.tape,hg1.output,by simpa using hg1.size⟩ (fun k h1 h2=>(heap_set_ne (hKg k h1 h2) _).trans ((heap_set_ne (hKg k h1 h2) _).trans ((heap_set_ne (hKg k h1 h2) _).trans ((heap_set_ne h2.1 _).trans (hg1.block k h1 (fun e=>h2.2 e.symm))))))
    have HFIN:=Lib.hid hfin
    have hd0:(w8.setCell ⟨g,0,none⟩ (.slice (some ⟨g1,0,none⟩) (its.length+1) k1)).cell? ⟨g1,its.length * 3,none⟩=some (.bool false):=by rw [World.cell?_setCell_far _ _ _ _ (by simpa using hg1g.symm)];exact hc0
    have hd1:(w8.setCell ⟨g,0,none⟩ (.slice (some ⟨g1,0,none⟩) (its.length+1) k1)).cell? ⟨g1,its.length * 3+1,none⟩=some (.string ⟨#[]⟩):=by rw [World.cell?_setCell_far _ _ _ _ (by simpa using hg1g.symm)];exact hc1
    have hd2:(w8.setCell ⟨g,0,none⟩ (.slice (some ⟨g1,0,none⟩) (its.length+1) k1)).cell? ⟨g1,its.length * 3+2,none⟩=some (.slice none 0 0):=by rw [World.cell?_setCell_far _ _ _ _ (by simpa using hg1g.symm)];exact hc2
    clear hfin st1 st2 st3 hp9 ho9
    go_simp
    refine hK.out _ _ hX9 (fun hHeld=>?_)
    clear hK K
    refine lay_H ?_
    refine H_now 9 fun K hK=>?_
    go_simp
    refine hK.out _ _ ((heap_set_ne hXg1 _).trans ((heap_set_ne hXg1 _).trans ((heap_set_ne hXg1 _).trans hX9))) (fun hHeld=>?_)
    clear hK K
    refine lay_H ?_
    refine wpAnyH_done (by kernel_rfl) ?_ _
    go_wp2_with fail
    go_end0
    exact ⟨rfl,_,_,by rw [hty];exact HFIN.out.1,HFIN.out.2⟩
  ·go_simp
   have hba:Below W6.heap.size W6 (W6.alloc (.cells #[.bool false,.string ⟨#[]⟩,.slice none 0 0] 86)):=(Below.refl _ _).alloc (Nat.le_refl _) _
   have hS7:=hS6.keep hba
   have hY7:=hY6.keep hba
   have hT7:=hT6.trans (ArnTo.of_below hba)
   have hXR7:=(hba.block _ (Array.getElem?_eq_some_iff.1 hXR6).1).trans hXR6
   have hL7:=lies_new W6 #[.bool false,.string ⟨#[]⟩,.slice none 0 0] 86
   have z7:=hS7.cell0
   rw [HVV.out] at z7
   refine hK.out _ _ hXR7 (fun hHeld=>?_)
   clear hK K
   refine lay_H ?_
   refine H_now 3 fun K hK=>?_
   go_simp
   refine hK.out _ _ hXR7 (fun hHeld=>?_)
   clear hK K
   refine lay_H ?_
   refine H_t (i:=5) (v:=.int .i64 (its.length:Int)) rfl (Or.inl ⟨by rfl,fun w' hS=>by go_simp⟩) hHeld ?_
   refine H_now 7 fun K hK=>?_
   have hown7:(W6.alloc (.cells #[.bool false,.string ⟨#[]⟩,.slice none 0 0] 86)).ownsRow (g+1) 86 3 (.slice A0 its.length c0) its.length xs:=by rw [← HVV.out];exact hS7.own
   have hgl7:=hS7.lt
   refine stl_append elItem rfl rfl (g+1) hown7 rfl (m:=1) [.bool false,.string ⟨#[]⟩,.slice none 0 0] rfl rfl hL7 (by intro u hu;simp at hu;rcases hu with rfl | rfl | rfl <;> rfl) (by simp only [maxLen];omega) (by omega) (by omega) ?_
   intro v1 w8 hown1 hg1 hat1
   rw [← HVV.out] at hg1 hat1
   have hxl:xs.length=its.length * 3:=hS7.own.1
   have hne:some g≠v.ownBlock:=fun e=>by have:=(hS7.own.lt _ e.symm).1;omega
   obtain ⟨g1,k1,cur1,rfl,hg1b,_,hk1,hk2,_,_⟩:=hown1.2.resolve_left (fun h=>by omega)
   have hc0:=hown1.cellAt (its.length * 3) (by omega)
   have hc1:=hown1.cellAt (its.length * 3+1) (by omega)
   have hc2:=hown1.cellAt (its.length * 3+2) (by omega)
   rw [List.getElem?_append_right (by omega),hxl] at hc0 hc1 hc2
   simp only [Nat.sub_self,Nat.add_sub_cancel_left,List.getElem?_cons_zero,List.getElem?_cons_succ] at hc0 hc1 hc2
   have hf0:=hown1.frozenAt (its.length * 3)
   have hf1:=hown1.frozenAt (its.length * 3+1)
   have hf2:=hown1.frozenAt (its.length * 3+2)
   have z8:w8.cell? ⟨g,0,none⟩=some v:=hg1.cell hS7.cell0 hne
   have f8:w8.frozen? ⟨g,0,none⟩=false:=(World.frozen?_of_block (hg1.block g hgl7 hne)).trans (hS7.free 0)
   rw [HVV.out] at z8
   have hXne:some X≠v.ownBlock:=fun e=>by have:=(HS.out.own.lt _ e.symm).2;omega
   have hXl:=(Array.getElem?_eq_some_iff.1 hXR7).1
   have hXR8:=(hg1.block X hXl hXne).trans hXR7
   have hg1g:g1≠g:=by omega
   have hXg1:X≠g1:=fun e=>by
    rcases hat1 with h | h
    ·exact hXne (by rw [← h,e];rfl)
    ·injection h with h;simp only [] at h;omega
   try simp only [Act.put,List.setIfInBounds_toArray,List.set_cons_zero,List.set_cons_succ,List.getElem_toArray,List.getElem_cons_zero,List.getElem_cons_succ]
   refine hK.out _ _ hXR8 (fun hHeld=>?_)
   clear hK K
   refine lay_H ?_
   have hlI:(its.length:Int) < (its.length:Int)+1:=by omega
   refine H_t (i:=8) (v:=.pointer (some ⟨g1,its.length * 3,none⟩)) rfl (Or.inl ⟨by rfl,fun w' hS=>by go_simp⟩) hHeld ?_
   refine H_t (i:=10) (v:=.pointer (some ⟨g,0,none⟩)) rfl (Or.inl ⟨by rfl,fun w' hS=>by go_simp⟩) hHeld ?_
   refine H_t (i:=11) (v:=.pointer (some ⟨g,0,none⟩)) rfl (Or.inl ⟨by rfl,fun w' hS=>by go_simp⟩) hHeld ?_
   have hKg:∀ k,k < (W6.alloc (.cells #[.bool false,.string ⟨#[]⟩,.slice none 0 0] 86)).heap.size→Apart g v k→k≠g1:=fun k h1 h2 e=>by
    rcases hat1 with h | h
    ·exact h2.2 (by rw [← h,e];rfl)
    ·injection h with h;simp only [] at h;omega
   have hp8:=(hg1.block g hgl7 hne).trans hS7.ptr
   refine wpAnyH_ready (rs:=[9,12]) (by kernel_rfl) (by simp) ?_
   refine AllReadyH.cons rfl (fun K hK=>?_) (AllReadyH.cons rfl (fun K hK=>?_) AllReadyH.nil)
   ·have z9:(((w8.setCell ⟨g1,its.length * 3,none⟩ (.bool y.l)).setCell ⟨g1,its.length * 3+1,none⟩ (.string (bs y.b))).setCell ⟨g1,its.length * 3+2,none⟩ (.slice A y.ks.length c)).cell? ⟨g,0,none⟩=some (.slice A0 its.length c0):=by rw [World.cell?_setCell_far _ _ _ _ (by simpa using hg1g),World.cell?_setCell_far _ _ _ _ (by simpa using hg1g),World.cell?_setCell_far _ _ _ _ (by simpa using hg1g)];exact z8
    have hX9:(((w8.setCell ⟨g1,its.length * 3,none⟩ (.bool y.l)).setCell ⟨g1,its.length * 3+1,none⟩ (.string (bs y.b))).setCell ⟨g1,its.length * 3+2,none⟩ (.slice A y.ks.length c)).heap[X]? = _:=(heap_set_ne hXg1 _).trans ((heap_set_ne hXg1 _).trans ((heap_set_ne hXg1 _).trans hXR8))
    have hp9:(((w8.setCell ⟨g1,its.length * 3,none⟩ (.bool y.l)).setCell ⟨g1,its.length * 3+1,none⟩ (.string (bs y.b))).setCell ⟨g1,its.length * 3+2,none⟩ (.slice A y.ks.length c)).heap[g]? = _:=(heap_set_ne hg1g.symm _).trans ((heap_set_ne hg1g.symm _).trans ((heap_set_ne hg1g.symm _).trans hp8))
    have st1:=(World.ownsRow.stored hown1 (its.length * 3) (.bool y.l)).1
    have st2:=(st1.stored (its.length * 3+1) (.string (bs y.b))).1
    have st3:=(st2.stored (its.length * 3+2) (.slice A y.ks.length c)).1
    rw [set3 hxl] at st3
    have hfin:=add_fin (W':=((((w8.setCell ⟨g1,its.length * 3,none⟩ (.bool y.l)).setCell ⟨g1,its.length * 3+1,none⟩ (.string (bs y.b))).setCell ⟨g1,its.length * 3+2,none⟩ (.slice A y.ks.length c)).setCell ⟨g,0,none⟩ (.slice (some ⟨g1,0,none⟩) (its.length+1) k1))) hS7 hY7 hT7 hat1 (heap_setCell_here hp9 _) (own_setOther st3 (by omega) _) ⟨hg1.os,hg1.tape,hg1.output,by simpa using hg1.size⟩ (fun k h1 h2=>(heap_set_ne h2.1 _).trans ((heap_set_ne (hKg k h1 h2) _).trans ((heap_set_ne (hKg k h1 h2) _).trans ((heap_set_ne (hKg k h1 h2) _).trans (hg1.block k h1 (fun e=>h2.2 e.symm))))))
    have HFIN:=Lib.hid hfin
    clear hfin st1 st2 st3 hp9
    go_simp
    refine hK.out _ _ hX9 (fun hHeld=>?_)
    clear hK K
    refine lay_H ?_
    refine H_now 12 fun K hK=>?_
    go_simp
    refine hK.out _ _ ((heap_set_ne (by omega) _).trans hX9) (fun hHeld=>?_)
    clear hK K
    refine lay_H ?_
    refine wpAnyH_done (by kernel_rfl) ?_ _
    go_wp2_with fail
    go_end0
    exact ⟨rfl,_,_,by rw [hty];exact HFIN.out.1,HFIN.out.2⟩
   ·have hX9:(w8.setCell ⟨g,0,none⟩ (.slice (some ⟨g1,0,none⟩) (its.length+1) k1)).heap[X]? = _:=(heap_set_ne (by omega) _).trans hXR8
    have hp9:(w8.setCell ⟨g,0,none⟩ (.slice (some ⟨g1,0,none⟩) (its.length+1) k1)).heap[g]? = some (.cells #[(.slice (some ⟨g1,0,none⟩) (its.length+1) k1),.string (bs (writeP (nodeIt its n)))] 127 (0,0)):=heap_setCell_here hp8 _
    have ho9:(w8.setCell ⟨g,0,none⟩ (.slice (some ⟨g1,0,none⟩) (its.length+1) k1)).ownsRow (g+1) 86 3 (.slice (some ⟨g1,0,none⟩) (its.length+1) k1) (its.length+1) (xs ++ [.bool false,.string ⟨#[]⟩,.slice none 0 0]):=own_setOther hown1 (by omega) _
    have st1:=(World.ownsRow.stored ho9 (its.length * 3) (.bool y.l)).1
    have st2:=(st1.stored (its.length * 3+1) (.string (bs y.b))).1
    have st3:=(st2.stored (its.length * 3+2) (.slice A y.ks.length c)).1
    rw [set3 hxl] at st3
    have hfin:=add_fin (W':=((((w8.setCell ⟨g,0,none⟩ (.slice (some ⟨g1,0,none⟩) (its.length+1) k1)).setCell ⟨g1,its.length * 3,none⟩ (.bool y.l)).setCell ⟨g1,its.length * 3+1,none⟩ (.string (bs y.b))).setCell ⟨g1,its.length * 3+2,none⟩ (.slice A y.ks.length c))) hS7 hY7 hT7 hat1 ((heap_set_ne hg1g.symm _).trans ((heap_set_ne hg1g.symm _).trans ((heap_set_ne hg1g.symm _).trans hp9))) st3 ⟨hg1.os,hg1.tape,hg1.output,by simpa using hg1.size⟩ (fun k h1 h2=>(heap_set_ne (hKg k h1 h2) _).trans ((heap_set_ne (hKg k h1 h2) _).trans ((heap_set_ne (hKg k h1 h2) _).trans ((heap_set_ne h2.1 _).trans (hg1.block k h1 (fun e=>h2.2 e.symm))))))
    have HFIN:=Lib.hid hfin
    have hd0:(w8.setCell ⟨g,0,none⟩ (.slice (some ⟨g1,0,none⟩) (its.length+1) k1)).cell? ⟨g1,its.length * 3,none⟩=some (.bool false):=by rw [World.cell?_setCell_far _ _ _ _ (by simpa using hg1g.symm)];exact hc0
    have hd1:(w8.setCell ⟨g,0,none⟩ (.slice (some ⟨g1,0,none⟩) (its.length+1) k1)).cell? ⟨g1,its.length * 3+1,none⟩=some (.string ⟨#[]⟩):=by rw [World.cell?_setCell_far _ _ _ _ (by simpa using hg1g.symm)];exact hc1
    have hd2:(w8.setCell ⟨g,0,none⟩ (.slice (some ⟨g1,0,none⟩) (its.length+1) k1)).cell? ⟨g1,its.length * 3+2,none⟩=some (.slice none 0 0):=by rw [World.cell?_setCell_far _ _ _ _ (by simpa using hg1g.symm)];exact hc2
    clear hfin st1 st2 st3 hp9 ho9
    go_simp
    refine hK.out _ _ hX9 (fun hHeld=>?_)
    clear hK K
    refine lay_H ?_
    refine H_now 9 fun K hK=>?_
    go_simp
    refine hK.out _ _ ((heap_set_ne hXg1 _).trans ((heap_set_ne hXg1 _).trans ((heap_set_ne hXg1 _).trans hX9))) (fun hHeld=>?_)
    clear hK K
    refine lay_H ?_
    refine wpAnyH_done (by kernel_rfl) ?_ _
    go_wp2_with fail
    go_end0
    exact ⟨rfl,_,_,by rw [hty];exact HFIN.out.1,HFIN.out.2⟩
end Go.Proofs.YtdfmheademcbkaaGreat
