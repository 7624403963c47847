/- The walk of the reference's Read of a block. -/
import Derived.Test.YtjanaholcjkceaaGreatZ45
import Derived.Test.YtjanaholcjkceaaGreatZ53
import Derived.Test.YtjanaholcjkceaaGreatZ52
import Derived.Test.YtjanaholcjkceaaGreatZ41
import Derived.Test.YtjanaholcjkceaaGreatZ22
namespace Go.Proofs.YtjanaholcjkceaaGreat
set_option linter.unusedVariables false
set_option linter.unusedSimpArgs false
open Go.RowKit
set_option maxHeartbeats 4000000
set_option maxRecDepth 100000
/-- a whole block loaded by a guarded operation that is wanted -/
theorem wpl_load_w {P:Program} {ops:Array Oper} {rest:List Oper} {op:Oper} {a:Act} {w:World} {Q:Exit→Act→World→Prop} (hw:Region.wanted op (yielded ops a.tmps)=true) {ty:TypeId} {x:Operand} (ho:op.op=.load ty x)
  {g:Nat} (hx:a.eval x=.pointer (some ⟨g,0,none⟩)) {t:TypeId} {cs:Array Value} {fr:Nat×Nat} {d:TypeDesc} (hg:w.heap[g]? = some (.cells cs t fr))
  (hu:P.underlying ty=some d) (hd:(match d with | .struct _ | .array _ _=>true | _=>false)=true) (hi:(P.info? ty).map (·.size)=some cs.size)
  (h:wpList P ops Q rest (a.put op.dst (.agg cs)) w):wpList P ops Q (op :: rest) a w :=
 wpList_step fun _ hK=>by
  rw [if_pos hw]
  unfold Oper.wp execOp
  simp only [ho,hx,Instr.loadAt,Instr.sureAddr,Sem.run_bind,Sem.run_pure,Result.andThen_ok,run_loadVar_row w g t ty cs fr d hg hu hd hi]
  exact hK _ _ h
/-- an operation that yields this value -/
theorem wpl_yield {P:Program} {ops:Array Oper} {rest:List Oper} {op:Oper} {a:Act} {w:World} {Q:Exit→Act→World→Prop} (hgd:op.guard=none) {ty:TypeId} {x lo:Operand} (ho:op.op=.slice ty x (some lo) none none)
  (V:Value) (hy:∀ w,(execOp a.eval op).run P w=.ok (.value V) w) (h:wpList P ops Q rest (a.put op.dst V) w):wpList P ops Q (op :: rest) a w :=
 wpList_plain hgd fun _ hK=>by
  unfold Oper.wp
  simp only [hy]
  exact hK _ _ h
theorem rread18_any (s:Bytes) (w:World):Calls Tryz.prog 8 #[.string (bs s)] w (BkPost s w):=by
 have h0:=heap_alloc_new w (.cells zqB 29)
 have HR:=qh h0
 have HB:=qh ((Below.refl w.heap.size w).alloc qn (.cells zqB 29))
 clear h0
 go_enter Tryz.func8,Tryz.ntmps8
 go_wp2_with fail
 refine (refDecode_any s _).mono ?_
 rintro e w1 ⟨hb1,x,A,c,no,rfl,hxv,hsaid⟩
 have HR1:=qh ((hb1.block _ (qg HR.out)).trans HR.out)
 have HB1:=qh (below_call HB.out HB.out.size hb1)
 have hwl:=(qg HR1.out)
 have HRX:=qh ((heap_alloc_old w1 (.cells #[.bool x.l,.string (bs x.b),.slice A x.ks.length c] 49) hwl).trans HR1.out)
 have HBX:=qh (HB1.out.alloc HB1.out.size (.cells #[.bool x.l,.string (bs x.b),.slice A x.ks.length c] 49))
 have HXV:=qh (hxv.mono (S':=Any) fun b _ _=>⟨trivial,rfl⟩)
 have HS:=qh hsaid
 clear hb1 hxv hsaid HR HB
 by_cases hno:no=0
 case neg =>
  have h0I:((no:Int) == 0)=false:=by rw [beq_eq_false_iff_ne];omega
  have h0I2:((no:Int) != 0)=true:=by rw [bne,h0I];rfl
  have HT:Hid (BkSaid s zeroBk 4):=qh (.inr ⟨rfl,rfl,bk_dec HS.out (by omega)⟩)
  clear HS hno
  go_wp2_with (refine wpList_store_row rfl _ _ _ rfl w.heap.size zqB rfl rfl _ _ HRX.out infoBk rfl one12BZ ?_)
  exact bodyPost_ret (v:=.tuple #[.agg zqB,.int .i64 4]) (results_row_tmp rfl _ _ w.heap.size _ _ _ _ rfl (setRow_heap _ _ _ _ _ _ HRX.out) _ rfl Tryz.underlying29 rfl infoBk) rfl (bkPost_zero HT.out (below_setRow HBX.out qn _))
 subst hno
 obtain ⟨hs4,hp,he⟩:s.length≤4000∧pureP x=true∧s=writeP x:=by
  rcases HS.out with ⟨_,h,_⟩ | ⟨h1,_,h2,h3,_⟩ | ⟨_,h,_⟩ | ⟨_,h,_⟩
  ·omega
  ·exact ⟨h1,h2,h3⟩
  ·omega
  ·omega
 have hcx:=countP_le x hp
 rw [← he] at hcx
 have hkx:=countsP_ge x.ks
 have hcx1:countP x=1+countsP x.ks:=by cases x;rfl
 have HKX:Hid (x.ks.length≤4000):=qh (by omega)
 have HS4:=qh hs4
 have HP:=qh hp
 have HE:=qh he
 clear hs4 hp he hcx hkx hcx1 HS
 by_cases hk:x.ks.length=0
 ·have HT:=qh (bk_shape HP.out HE.out HS4.out (.inr hk))
  have hkI:((x.ks.length:Int) == 0)=true:=by rw [hk];rfl
  clear hk
  go_wp2_with (refine wpList_store_row rfl _ _ _ rfl w.heap.size zqB rfl rfl _ _ HRX.out infoBk rfl one12BZ ?_)
  exact bodyPost_ret (v:=.tuple #[.agg zqB,.int .i64 4]) (results_row_tmp rfl _ _ w.heap.size _ _ _ _ rfl (setRow_heap _ _ _ _ _ _ HRX.out) _ rfl Tryz.underlying29 rfl infoBk) rfl (bkPost_zero HT.out (below_setRow HBX.out qn _))
 have hkI:((x.ks.length:Int) == 0)=false:=by rw [beq_eq_false_iff_ne];omega
 obtain ⟨n,hn⟩:∃ n,x.ks.length=n+1:=⟨x.ks.length - 1,by omega⟩
 obtain ⟨k0,hk0⟩:=getElem_ex (show 0 < x.ks.length by omega)
 obtain ⟨g,o,A0,c0,rfl,_,hkv,q0,q1,q2⟩:=ItemV.at_ HXV.out hk0
 have q1a:=ca q1 (.cells #[.bool x.l,.string (bs x.b),.slice (some ⟨g,o,none⟩) x.ks.length c] 49)
 have hn4:n+1≤4000:=by have:=HKX.out;omega
 have HN:=qh hn
 have HK0:=qh hk0
 have hnI:(0:Int) < x.ks.length:=by omega
 simp only [Nat.zero_mul,Nat.add_zero] at q1a
 clear hk hkv q0 q1 q2 hn hk0
 go_wp2_with fail
 refine (rhread_any k0.b _).mono ?_
 rintro e w2 ⟨h,Av,As,cv,cs,hn,rfl,hv2,hsaid2,hb2⟩
 have hb12:Below w1.heap.size w1 w2:=below_box (hb2.mono (by simp))
 have hI2:=(hb2.block w1.heap.size (by simp)).trans (heap_alloc_new w1 (.cells #[.bool x.l,.string (bs x.b),.slice (some ⟨g,o,none⟩) x.ks.length c] 49))
 have hH2:=heap_alloc_new w2 (.cells zqH 26)
 have hH3:=setRow_heap (w2.alloc (.cells zqH 26)) w2.heap.size zqH (hdR h Av cv As cs) 26 (0,0) hH2
 have hb23:Below w2.heap.size w2 ((w2.alloc (.cells zqH 26)).setRow w2.heap.size (hdR h Av cv As cs)):=below_setRow ((Below.refl w2.heap.size w2).alloc qn (.cells zqH 26)) qn _
 have hlI:=(qg hI2)
 have hlX:w.heap.size < w2.heap.size:=Nat.lt_of_lt_of_le hwl hb12.size
 have HV2:=qh hv2
 have HSD0:=qh hsaid2
 have HW12:=qh hb12
 have HI2:=qh hI2
 have HH2:=qh hH2
 obtain ⟨o',ho'⟩:∃ o',(if c=1 then o else o+3)=o':=⟨_,rfl⟩
 clear hb2 hb12 hI2 hH2 hv2 hsaid2 q1a
 go_wp2_with (first | (refine wpList_store_row rfl _ _ _ rfl w2.heap.size (hdR h Av cv As cs) rfl rfl _ _ HH2.out infoHd rfl (one11 _ [] _ _ _ _ _ _ _ _ _ _ _ _ _ _) ?_;generalize (w2.alloc (.cells zqH 26)).setRow w2.heap.size (hdR h Av cv As cs)=W3 at hH3 hb23 ⊢;have HH3:=qh hH3;have HB23:=qh hb23;clear hH3 hb23) | (refine wpList_load_row rfl _ _ rfl w2.heap.size rfl _ _ _ _ HH3.out Tryz.underlying26 rfl infoHd ?_) | (have hY4:=heap_alloc_new W3 (.cells zqB 29);refine wpList_store_row rfl _ _ _ rfl W3.heap.size (hbR h Av cv As cs (.slice none 0 0)) rfl rfl _ _ hY4 infoBk rfl (one12B _ _ _ _ _ _ _ _ _ _ _ _ _ _ _ _ _ _) ?_;have hY5:=setRow_heap (W3.alloc (.cells zqB 29)) W3.heap.size zqB (hbR h Av cv As cs (.slice none 0 0)) 29 (0,0) hY4;have hb25:=below_setRow (HB23.out.alloc HB23.out.size (.cells zqB 29)) HB23.out.size (hbR h Av cv As cs (.slice none 0 0));generalize (W3.alloc (.cells zqB 29)).setRow W3.heap.size (hbR h Av cv As cs (.slice none 0 0))=W5 at hY5 hb25 ⊢;have hI5:=(hb25.block _ hlI).trans HI2.out;have i2:=rc (u:=.slice (some ⟨g,o,none⟩) x.ks.length c) hI5 2 rfl;have HY5:=qh hY5;have HB25:=qh hb25;clear hY4 hY5 hb25 hI5) | (refine wpl_yield rfl rfl (.slice (some ⟨g,o',none⟩) n (c - 1)) ?_ ?_;(intro w';go_simp;rw [if_pos (show (1:Int)≤x.ks.length by omega),show x.ks.length - 1=n by have:=HN.out;omega,← ho'];by_cases hc:c=1 <;> simp only [hc,if_true,if_false,↓reduceIte])))
 have HO':=qh ho'
 obtain ⟨Y,hYe⟩:∃ Y,W3.heap.size=Y:=⟨_,rfl⟩
 have hwY:w2.heap.size≤Y:=by rw [← hYe];exact HB23.out.size
 rw [hYe] at HY5 ⊢
 clear ho' i2 hYe HH3 HB23
 go_loopw [7,42] (fun a7 a wr=>∃ (i f:Nat) (ts:List Tr) (u:Value),a7=.int .i64 (f:Int)∧a=.int .i64 (i:Int)∧i≤n∧wr.heap[Y]? = some (.cells (hbR h Av cv As cs u) 29 (0,0))∧wr.ownsRow (Y+1) 55 12 u i (ts.map trL).flatten∧Hid (BrPre x k0 i h ts f)∧Below w2.heap.size w2 wr) (fun _ a _=>n - (intOf a).toNat)
 case atStart=>exact ⟨0,hn,[],_,rfl,rfl,Nat.zero_le _,HY5.out,World.ownsRow_nil _ _ _ _,qh (brPre_zero HSD0.out),HB25.out⟩
 case round =>
  clear HY5 HB25 HI2 HH2
  obtain ⟨i,f,ts,u,rfl,rfl,hi,hY,hown,hpre,hB⟩:=hrel
  obtain ⟨At,ct,rfl⟩:=own_form hown
  by_cases hlt:i < n
  ·obtain ⟨y,hy⟩:=getElem_ex (show i+1 < x.ks.length by have:=HN.out;omega)
   obtain ⟨g',o',A2,c2,hA,_,hyv,q0,q1,q2⟩:=ItemV.at_ (HXV.out.keep (below_call HW12.out HW12.out.size hB)) hy
   injection hA with hA
   injection hA with hg ho
   subst hg;subst ho
   have hoo:o+(i+1) * 3=o'+i * 3:=by have h1:=HO'.out;rw [if_neg (by have:=(Rep.slice_len HXV.out.kids).2.1;have:=HN.out;omega)] at h1;omega
   rw [hoo] at q0 q1 q2
   have hltI:(i:Int) < n:=by omega
   have HKY:=qh hy
   have HY:=qh hY
   have HO:=qh hown
   have HB:=qh hB
   have HP0:=hpre
   have hwy:Y < wr.heap.size:=(qg hY)
   clear hY hown hB hy hyv hpre hoo
   go_wp2_with fail
   refine (rtread_any y.b _).mono ?_
   rintro e w4 ⟨t,no',rfl,hsaid',hb4⟩
   have hbw:Below wr.heap.size wr w4:=below_box (hb4.mono (by simp))
   have hT4:=heap_alloc_new w4 (.cells zqT 55)
   have hT5:=setRow_heap (w4.alloc (.cells zqT 55)) w4.heap.size zqT (trR t) 55 (0,0) hT4
   have hba5:Below wr.heap.size wr ((w4.alloc (.cells zqT 55)).setRow w4.heap.size (trR t)):=below_setRow (hbw.alloc hbw.size (.cells zqT 55)) hbw.size _
   have hY5:=(hba5.block Y hwy).trans HY.out
   have HT4:=qh hT4
   have HSD:=qh hsaid'
   have hz5:True:=trivial
   clear hb4 hbw hT4 hsaid' q0 q1 q2
   by_cases hno':no'=0
   ·subst hno'
    have HPN:=qh (brPre_step HP0.out HKY.out HSD.out (.inl ⟨rfl,rfl⟩))
    go_wp2_with (first | (refine wpList_store_row rfl _ _ _ rfl w4.heap.size (trR t) rfl rfl _ _ HT4.out infoTr rfl (one12 _ _ _ _ _ _ _ _ _ _ _ _) ?_;generalize (w4.alloc (.cells zqT 55)).setRow w4.heap.size (trR t)=W5 at hT5 hY5 hba5 hz5 ⊢;have HT5:=qh hT5;have HY5:=qh hY5;have HB5:=qh (below_call HB.out HB.out.size hba5);have HO5:=qh (own_keep HO.out hba5);have y11:=rc (u:=.slice At i ct) hY5 11 rfl;have hYl5:=(qg hY5);have hTl5:=(qg hT5);clear hT5 hY5 hba5 HT4 HO HB) | (refine wpList_load_row rfl _ _ rfl w4.heap.size rfl _ _ _ _ HT5.out Tryz.underlying55 rfl infoTr ?_) | (at_builtin;refine wpl_append elTr rfl rfl (Y+1) (HO5.out.alloc _) rfl (m:=1) (trL t) rfl rfl ?_ ?_ ?_ ?_ ?_ ?_;exact (lies_new _ _ _);exact (trL_ok t).2;(simp only [maxLen];omega);omega;(simp;omega);intro v1 w8 hown1 hg1 hat1;obtain ⟨A3,c3,rfl⟩:=own_form hown1;have hg8:=qh hg1;have hY8:=(hg1.block Y (by simp;omega) (fun e=>by have:=(HO5.out.lt _ e.symm).1;omega)).trans ((heap_alloc_old _ _ hYl5).trans HY5.out);have d11:=rc (u:=.slice At i ct) hY8 11 rfl;have df:=rf hY8 11;have HY8:=qh hY8;have HO8:=qh hown1;clear hY8 hown1 hg1))
    have hba:Below W5.heap.size W5 (W5.alloc (.cells (trR t) 55)):=(Below.refl _ _).alloc qn _
    have HB8:=qh (below_app (below_call HB5.out HB5.out.size hba) (own_keep HO5.out hba) hg8.out (by simp;omega) (by omega))
    go_roundw
    case rel =>
     refine ⟨i+1,f,ts ++ [t],_,rfl,by go_num,hlt,heap_setCell_here HY8.out (i:=11) _,?_,HPN,HB8.out.setCell (p:=⟨Y,11,none⟩) hwY _⟩
     rw [show ((ts ++ [t]).map trL).flatten=(ts.map trL).flatten ++ trL t by simp]
     exact own_setOther HO8.out (Nat.lt_succ_self Y) _
    case measure=>simp [intOf];omega
   ·have hn4:no'=4:=by rcases HSD.out with ⟨h,_⟩ | ⟨h,_⟩ <;> omega
    subst hn4
    have HPN:=qh (brPre_step HP0.out HKY.out HSD.out (.inr ⟨by decide,rfl⟩))
    go_wp2_with (first | (refine wpList_store_row rfl _ _ _ rfl w4.heap.size (trR t) rfl rfl _ _ HT4.out infoTr rfl (one12 _ _ _ _ _ _ _ _ _ _ _ _) ?_;generalize (w4.alloc (.cells zqT 55)).setRow w4.heap.size (trR t)=W5 at hT5 hY5 hba5 hz5 ⊢;have HT5:=qh hT5;have HY5:=qh hY5;have HB5:=qh (below_call HB.out HB.out.size hba5);have HO5:=qh (own_keep HO.out hba5);have y11:=rc (u:=.slice At i ct) hY5 11 rfl;have hYl5:=(qg hY5);have hTl5:=(qg hT5);clear hT5 hY5 hba5 HT4 HO HB) | (refine wpList_load_row rfl _ _ rfl w4.heap.size rfl _ _ _ _ HT5.out Tryz.underlying55 rfl infoTr ?_) | (at_builtin;refine wpl_append elTr rfl rfl (Y+1) (HO5.out.alloc _) rfl (m:=1) (trL t) rfl rfl ?_ ?_ ?_ ?_ ?_ ?_;exact (lies_new _ _ _);exact (trL_ok t).2;(simp only [maxLen];omega);omega;(simp;omega);intro v1 w8 hown1 hg1 hat1;obtain ⟨A3,c3,rfl⟩:=own_form hown1;have hg8:=qh hg1;have hY8:=(hg1.block Y (by simp;omega) (fun e=>by have:=(HO5.out.lt _ e.symm).1;omega)).trans ((heap_alloc_old _ _ hYl5).trans HY5.out);have d11:=rc (u:=.slice At i ct) hY8 11 rfl;have df:=rf hY8 11;have HY8:=qh hY8;have HO8:=qh hown1;clear hY8 hown1 hg1))
    have hba:Below W5.heap.size W5 (W5.alloc (.cells (trR t) 55)):=(Below.refl _ _).alloc qn _
    have HB8:=qh (below_app (below_call HB5.out HB5.out.size hba) (own_keep HO5.out hba) hg8.out (by simp;omega) (by omega))
    go_roundw
    case rel =>
     refine ⟨i+1,4,ts ++ [t],_,rfl,by go_num,hlt,heap_setCell_here HY8.out (i:=11) _,?_,HPN,HB8.out.setCell (p:=⟨Y,11,none⟩) hwY _⟩
     rw [show ((ts ++ [t]).map trL).flatten=(ts.map trL).flatten ++ trL t by simp]
     exact own_setOther HO8.out (Nat.lt_succ_self Y) _
    case measure=>simp [intOf];omega
  ·obtain rfl:n=i:=by omega
   have hPre:=hpre.out
   have hXw:=(hB.block w.heap.size hlX).trans ((HW12.out.block w.heap.size hwl).trans HR1.out)
   have hBX:Below w.heap.size w wr:=HB1.out.trans ((below_call HW12.out HW12.out.size hB).mono HB1.out.size)
   have HXw:=qh hXw
   have HBX:=qh hBX
   have HYw:=qh hY
   clear hXw hBX
   by_cases hf:f=0
   case neg =>
    have hfI:((f:Int) == 0)=false:=by rw [beq_eq_false_iff_ne];omega
    have hfI2:((f:Int) != 0)=true:=by rw [bne,hfI];rfl
    have HT:=qh (br_bad HP.out HE.out HS4.out HK0.out hPre hf)
    clear hf hPre hpre hY hown hB
    go_wp2_with (refine wpList_store_row rfl _ _ _ rfl w.heap.size zqB rfl rfl _ _ HXw.out infoBk rfl one12BZ ?_)
    exact bodyPost_ret (v:=.tuple #[.agg zqB,.int .i64 4]) (results_row_tmp rfl _ _ w.heap.size _ _ _ _ rfl (setRow_heap _ _ _ _ _ _ HXw.out) _ rfl Tryz.underlying29 rfl infoBk) rfl (bkPost_zero HT.out (below_setRow HBX.out qn _))
   subst hf
   obtain ⟨hk,hw,hyes,hno⟩:=br_good HP.out HE.out HS4.out HK0.out HN.out hPre
   have hlen:=hPre.len
   have hfn:(⟨h,ts⟩:Bk).Fine:=⟨hd_fine HSD0.out,hPre.fine,by show ts.length≤10000;omega⟩
   have htv:∀ S:Nat→Prop,(∀ b,Y+1≤b→S b)→TrsV S wr ts At ct:=fun S hS=>PlV.own hown (by rw [List.length_map];exact hlen.symm) (fun l hl=>by obtain ⟨y,_,rfl⟩:=List.mem_map.1 hl;exact trL_ok y) (fun b h1 _=>hS b h1)
   have hm:∀ b,b < w2.heap.size→From (w1.alloc (.cells #[.bool x.l,.string (bs x.b),.slice (some ⟨g,o,none⟩) x.ks.length c] 49)).heap.size b→From (w.heap.size+1) b∧wr.heap[b]? = w2.heap[b]?:=fun b h1 h2=>⟨by have h2:(w1.alloc (.cells #[.bool x.l,.string (bs x.b),.slice (some ⟨g,o,none⟩) x.ks.length c] 49)).heap.size≤b:=h2;rw [show (w1.alloc (.cells #[.bool x.l,.string (bs x.b),.slice (some ⟨g,o,none⟩) x.ks.length c] 49)).heap.size=w1.heap.size+1 by simp] at h2;show w.heap.size+1≤b;omega,hB.block b h1⟩
   have hbf:BkV (From (w.heap.size+1)) wr ⟨h,ts⟩ Av cv As cs At ct:=⟨⟨Rep.mono HV2.out.vals hm,Rep.mono HV2.out.seals hm⟩,htv _ fun b hb=>by show w.heap.size+1≤b;omega⟩
   have hbv:BkV Any wr ⟨h,ts⟩ Av cv As cs At ct:=⟨⟨StrV.any hbf.hd.vals,PlV.any hbf.hd.seals⟩,htv Any fun _ _=>trivial⟩
   have hc:=rright18_any ⟨h,ts⟩ hfn Av As At cv cs ct wr hbv
   have hby:=fun (hk:OkBk ⟨h,ts⟩) (W:World) (hb:Below wr.heap.size wr W)=>rbytes18_any ⟨h,ts⟩ hfn hk Av As At cv cs ct W (hbv.keep hb)
   simp only [bkR,hlen] at hc hby
   obtain ⟨rb,hrb⟩:∃ rb,okBk ⟨h,ts⟩=rb:=⟨_,rfl⟩
   obtain ⟨tb,htb⟩:∃ tb,bkB ⟨h,ts⟩=tb:=⟨_,rfl⟩
   rw [hrb] at hc
   rw [htb] at hby
   have HC:=qh hc
   have HBY:=qh hby
   have HBF:=qh hbf
   have HYS:=qh hyes
   have HNS:=qh hno
   have HRB:=qh hrb
   have HTB:=qh htb
   have HLEN:=qh hlen
   clear hc hby hbf hbv hyes hno hk hw hY hown hB hpre hPre hfn htv hm hrb htb hlen
   rw [show ((0:Nat):Int)=0 from rfl]
   go_wp2_with (refine wpl_load_w (by rfl) rfl rfl HYw.out Tryz.underlying29 rfl infoBk ?_)
   refine HC.out.mono ?_
   rintro e w9 ⟨rfl,hb9⟩
   have HY9:=qh ((hb9.block _ (qg HYw.out)).trans HYw.out)
   have HX9:=qh ((hb9.block _ (qg HXw.out)).trans HXw.out)
   have HB9:=qh (below_call HBX.out HBX.out.size hb9)
   have HV9:=qh (HBF.out.keep hb9)
   have HW9:=qh hb9
   clear hb9 HYw HXw HBX HBF HC
   cases rb with
   | false =>
    have HT:=qh (HNS.out (fun hk=>by have h2:=HRB.out;rw [(okBk_iff _).2 hk.1] at h2;cases h2))
    go_wp2_with (refine wpList_store_row rfl _ _ _ rfl w.heap.size zqB rfl rfl _ _ HX9.out infoBk rfl one12BZ ?_)
    exact bodyPost_ret (v:=.tuple #[.agg zqB,.int .i64 4]) (results_row_tmp rfl _ _ w.heap.size _ _ _ _ rfl (setRow_heap _ _ _ _ _ _ HX9.out) _ rfl Tryz.underlying29 rfl infoBk) rfl (bkPost_zero HT.out (below_setRow HB9.out qn _))
   | true =>
    have HK:=qh ((okBk_iff _).1 HRB.out)
    obtain ⟨tq,htq⟩:∃ q,(tb == s)=q:=⟨_,rfl⟩
    have htqn:(tb != s) = !tq:=by rw [bne,htq]
    go_wp2_with (refine wpl_load_w (by rfl) rfl rfl HY9.out Tryz.underlying29 rfl infoBk ?_)
    refine (HBY.out HK.out _ HW9.out).mono ?_
    rintro e w10 ⟨rfl,hb10⟩
    have HY10:=qh ((hb10.block _ (qg HY9.out)).trans HY9.out)
    have HX10:=qh ((hb10.block _ (qg HX9.out)).trans HX9.out)
    have HB10:=qh (below_call HB9.out HB9.out.size hb10)
    have HV10:=qh (HV9.out.keep hb10)
    clear hb10 HY9 HX9 HB9 HV9 HW9 HBY
    cases tq with
    | false =>
     have htqn:(tb != s)=true:=htqn
     have HT:=qh (HNS.out (fun hk=>by have h2:=hk.2;rw [HTB.out] at h2;rw [h2,beq_self_eq_true] at htq;cases htq))
     go_wp2_with (refine wpList_store_row rfl _ _ _ rfl w.heap.size zqB rfl rfl _ _ HX10.out infoBk rfl one12BZ ?_)
     exact bodyPost_ret (v:=.tuple #[.agg zqB,.int .i64 4]) (results_row_tmp rfl _ _ w.heap.size _ _ _ _ rfl (setRow_heap _ _ _ _ _ _ HX10.out) _ rfl Tryz.underlying29 rfl infoBk) rfl (bkPost_zero HT.out (below_setRow HB10.out qn _))
    | true =>
     have htqn:(tb != s)=false:=htqn
     have HT:=qh (HYS.out HK.out ((eq_of_beq htq).symm.trans HTB.out.symm))
     go_wp2_with (first | (refine wpList_load_row rfl _ _ rfl Y rfl _ _ _ _ HY10.out Tryz.underlying29 rfl infoBk ?_) | (refine wpList_store_row rfl _ _ _ rfl w.heap.size (hbR h Av cv As cs (.slice At n ct)) rfl rfl _ _ HX10.out infoBk rfl (one12B _ _ _ _ _ _ _ _ _ _ _ _ _ _ _ _ _ _) ?_))
     refine bodyPost_ret (v:=.tuple #[.agg (hbR h Av cv As cs (.slice At n ct)),.int .i64 0]) (results_row_tmp rfl _ _ w.heap.size _ _ _ _ rfl (setRow_heap _ _ _ _ _ _ HX10.out) _ rfl Tryz.underlying29 rfl infoBk) rfl ?_
     refine ⟨⟨h,ts⟩,Av,As,At,cv,cs,ct,0,by simp only [bkR,HLEN.out];rfl,?_,HT.out,below_setRow HB10.out qn _⟩
     have hm:∀ b,b < w10.heap.size→From (w.heap.size+1) b→From w.heap.size b∧(w10.setRow w.heap.size (hbR h Av cv As cs (.slice At n ct))).heap[b]? = w10.heap[b]?:=fun b _ hb=>⟨Nat.le_of_succ_le hb,heap_setRow_ne _ (by have h1:w.heap.size+1≤b:=hb;omega) _⟩
     exact ⟨⟨Rep.mono HV10.out.hd.vals hm,Rep.mono HV10.out.hd.seals hm⟩,Rep.mono HV10.out.txs hm⟩
/- The walk of BlockBytes. -/
theorem cutBk_fine {b:Bk} (hh:b.hd.Fine) (ht:∀ t∈b.txs,t.Fine):(cutBk b).Fine:=by
 have hl:∀ (n:Nat) (s:Bytes),s.length≤9223372036854775807→(s.take n).length≤9223372036854775807:=fun n s h=>by rw [List.length_take];omega
 refine ⟨⟨⟨hh.wf.height,hh.wf.round,fun x hx=>hh.wf.seals x (List.mem_of_mem_take hx)⟩,hl _ _ hh.parent,hl _ _ hh.root,hl _ _ hh.txs,hl _ _ hh.prop,hl _ _ hh.van,hl _ _ hh.vote,fun a ha=>?_⟩,fun t h=>?_,?_⟩
 ·obtain ⟨y,hy,rfl⟩:=List.mem_map.1 (show a∈(b.hd.vals.take 20).map (·.take 50) from ha)
  exact hl _ _ (hh.vals y (List.mem_of_mem_take hy))
 ·obtain ⟨y,hy,rfl⟩:=List.mem_map.1 (show t∈(b.txs.take 8).map cutTr from h)
  have:=ht y (List.mem_of_mem_take hy)
  exact ⟨⟨this.wf.am,this.wf.no,this.wf.sg⟩,hl _ _ this.to⟩
 ·show ((b.txs.take 8).map cutTr).length≤10000
  rw [List.length_map,List.length_take];omega
def bbP (b:Bk):Bytes×Nat:=if okBk b=true then (bkB b,0) else ([],1)
theorem bbytes_any (b:Bk) (hf:b.Fine) (Av As At:Option Addr) (cv cs ct:Nat) (w:World) (hv:BkV Any w b Av cv As cs At ct) :
  Calls Tryz.prog 5 #[.agg (bkR b Av cv As cs At ct)] w fun e w'=>e=.returned (.tuple #[.string (bs (bbP b).1),.int .i64 (bbP b).2])∧Below w.heap.size w w':=by
 unfold bbP
 cases hk:okBk b with
 | true=>rw [if_pos rfl];exact bbytes_yes b hf ((okBk_iff b).1 hk) Av As At cv cs ct w hv
 | false=>rw [if_neg (by decide)];exact bbytes_no b hf hk Av As At cv cs ct w hv
theorem blockBytes_any (b:Bk) (hh:b.hd.Fine) (ht:∀ t∈b.txs,t.Fine) (Av As At:Option Addr) (cv cs ct:Nat) (s:Bytes) (hs:s.length≤9223372036854775807) (w:World) (hv:BkV Any w b Av cv As cs At ct) :
  Calls Tryz.prog 3 #[.agg (bkR b Av cv As cs At ct),.string (bs s)] w fun e w'=>e=.returned (.bool true)∧Below w.heap.size w w':=by
 obtain ⟨m,hm,hmm⟩:∃ m:Nat,min (s.length:Int) 4100=m∧m=min s.length 4100:=⟨min s.length 4100,by omega,rfl⟩
 have hm1:(m:Int)≤s.length:=by omega
 have hs63:(s.length:Int)≤9223372036854775807:=by omega
 obtain ⟨t,ht0⟩:∃ t,s.take m=t:=⟨_,rfl⟩
 obtain ⟨c,hc⟩:∃ c,cutBk b=c:=⟨_,rfl⟩
 have hfc:=cutBk_fine hh ht
 rw [hc] at hfc
 have HC:=qh hc
 have HFC:=qh hfc
 have HF:=qh hh
 have HT:=qh ht
 have hX0a:=heap_alloc_new w (.cells (bkR b Av cv As cs At ct) 29)
 have hB:=(Below.refl w.heap.size w).alloc qn (.cells (bkR b Av cv As cs At ct) 29)
 have hv0:BkV (fun g=>g < w.heap.size) (w.alloc (.cells (bkR b Av cv As cs At ct) 29)).drew b Av cv As cs At ct:=⟨⟨Rep.mono hv.hd.vals fun g hg _=>⟨hg,heap_alloc_old w (.cells (bkR b Av cv As cs At ct) 29) hg⟩,Rep.mono hv.hd.seals fun g hg _=>⟨hg,heap_alloc_old w (.cells (bkR b Av cv As cs At ct) 29) hg⟩⟩,Rep.mono hv.txs fun g hg _=>⟨hg,heap_alloc_old w (.cells (bkR b Av cv As cs At ct) 29) hg⟩⟩
 have hlX:w.heap.size < (w.alloc (.cells (bkR b Av cv As cs At ct) 29)).drew.heap.size:=(qg hX0a)
 clear hmm hc hfc hh ht hv
 have HXa:=qh hX0a
 have HV0:=qh hv0
 have HLX:=qh hlX
 have HB0:=qh hB
 clear hX0a hv0 hlX hB
 go_enter Tryz.func3,Tryz.ntmps3
 go_wp2_with fail
 have hX:=HXa.out
 have hv0:=HV0.out
 have hlX:=HLX.out
 have hB:=HB0.out
 obtain ⟨X0,hX0e⟩:∃ X0,w.heap.size=X0:=⟨_,rfl⟩
 rw [hX0e] at hX hlX hv0 ⊢
 have hX0:w.heap.size≤X0:=Nat.le_of_eq hX0e
 clear HXa HV0 HLX HB0 hX0e
 replace hX:=(show (w.alloc (.cells (bkR b Av cv As cs At ct) 29)).drew.heap[X0]? = (w.alloc (.cells (bkR b Av cv As cs At ct) 29)).heap[X0]? from rfl).trans hX
 replace hB:=hB.drew
 refine wp_region_R [(7,fun w'=>w'.heap[X0]? = some (.cells (bkR b Av cv As cs At ct) 29 (0,0)))] (by kernel_rfl) ?_
 generalize (w.alloc (.cells (bkR b Av cv As cs At ct) 29)).drew=WD at hX hB hv0 hlX ⊢
 have hlX0:=hlX
 refine R_l (i:=0) (v:=.agg (bkR b Av cv As cs At ct)) 7 _ List.mem_cons_self rfl (yieldsIf_load_row rfl rfl rfl (fun w' hS=>hS) Tryz.underlying29 rfl infoBk) (Meets.here hX Meets.nil) ?_
 refine R_p (i:=2) (v:=.string (bs s)) (Meets.here hX Meets.nil) ?_
 refine R_p (i:=3) (v:=.string (bs s)) (Meets.here hX Meets.nil) ?_
 refine R_p (i:=4) (v:=.int .i64 (s.length:Int)) (Meets.here hX Meets.nil) ?_
 refine R_p (i:=5) (v:=.int .i64 (m:Int)) (Meets.here hX Meets.nil) ?_
 refine R_p (i:=6) (v:=.string (bs t)) (Meets.here hX Meets.nil) ?_
 refine R_now 1 fun K hK=>?_
 go_simp
 refine (few18_any b HF.out HT.out Av As At cv cs ct _ (hv0.keep (Below.refl _ _))).mono ?_
 rintro e w1 ⟨Av1,As1,At1,cv1,cs1,ct1,rfl,hvc,hb1⟩
 replace hX:=(hb1.block _ (qg hX)).trans hX
 replace hB:=below_call hB hB.size hb1
 replace hlX:=Nat.lt_of_lt_of_le hlX hb1.size
 rw [HC.out] at hvc ⊢
 clear hb1
 refine hK.out _ _ (Meets.here hX Meets.nil) (fun hMeets=>?_)
 clear hK K hMeets
 refine lay_R ?_
 refine R_now 7 fun K hK=>?_
 refine ite_wanted (by rfl) ?_
 refine wp_store_row _ _ _ rfl X0 (bkR c Av1 cv1 As1 cs1 At1 ct1) rfl rfl _ (bkR b Av cv As cs At ct) hX infoBk rfl (one12B _ _ _ _ _ _ _ _ _ _ _ _ _ _ _ _ _ _) ?_
 have hXn:=setRow_heap w1 X0 _ (bkR c Av1 cv1 As1 cs1 At1 ct1) _ _ hX
 have hBn:=below_setRow hB hX0 (bkR c Av1 cv1 As1 cs1 At1 ct1)
 have hm:∀ g,g < w1.heap.size→(g < X0∨WD.heap.size≤g)→Any g∧(w1.setRow X0 (bkR c Av1 cv1 As1 cs1 At1 ct1)).heap[g]? = w1.heap[g]?:=fun g _ hb=>⟨trivial,heap_setRow_ne _ (by omega) _⟩
 have hvn:BkV Any (w1.setRow X0 (bkR c Av1 cv1 As1 cs1 At1 ct1)) c Av1 cv1 As1 cs1 At1 ct1:=⟨⟨Rep.mono hvc.hd.vals hm,Rep.mono hvc.hd.seals hm⟩,Rep.mono hvc.txs hm⟩
 clear hm
 generalize w1.setRow X0 (bkR c Av1 cv1 As1 cs1 At1 ct1)=W2 at hXn hBn hvn ⊢
 clear hX hB hvc
 have hX:=hXn
 have hB:=hBn
 have hvc:=hvn
 clear hXn hBn hvn
 refine hK.out _ _ (Meets.past (by kernel_rfl) Meets.nil) (fun hMeets=>?_)
 clear hK K hMeets
 refine lay_R ?_
 refine R_p (i:=8) (v:=.string (bs t)) (Meets.past (by kernel_rfl) Meets.nil) ?_
 refine R_done (by kernel_rfl) ?_ _
 clear hlX
 have HXX:=qh hX
 have HBX:=qh hB
 have hBB:=bbytes_any c HFC.out Av1 As1 At1 cv1 cs1 ct1 W2 hvc
 have hSM:=fun (W:World) (hb:Below W2.heap.size W2 W)=>bsum_any c.txs HFC.out.len HFC.out.txs At1 ct1 W (PlV.keep hvc.txs hb)
 have hBR:=fun (W:World) (hb:Below W2.heap.size W2 W)=>bright_any c HFC.out Av1 As1 At1 cv1 cs1 ct1 W (hvc.keep hb)
 have hRR:=fun (W:World) (hb:Below W2.heap.size W2 W)=>rright18_any c HFC.out Av1 As1 At1 cv1 cs1 ct1 W (hvc.keep hb)
 have hAL:=fun (W:World) (hb:Below W2.heap.size W2 W)=>rall_any c.txs HFC.out.len HFC.out.txs At1 ct1 W (PlV.keep hvc.txs hb)
 have HRS:=qh fun (hk:∀ t∈c.txs,okTr t=true) (W:World) (hb:Below W2.heap.size W2 W)=>rsum18_any c.txs HFC.out.len (fun t ht=>(HFC.out.txs t ht).wf) hk At1 ct1 W (PlV.keep hvc.txs hb)
 have HRB:=qh fun (hk:OkBk c) (W:World) (hb:Below W2.heap.size W2 W)=>rbytes18_any c HFC.out hk Av1 As1 At1 cv1 cs1 ct1 W (hvc.keep hb)
 obtain ⟨rb,hrb⟩:∃ rb,okBk c=rb:=⟨_,rfl⟩
 obtain ⟨ak,hak⟩:∃ ak,c.txs.all okTr=ak:=⟨_,rfl⟩
 obtain ⟨A,E,hAE⟩:∃ A E,bbP c=(A,E):=⟨_,_,rfl⟩
 obtain ⟨S,F,hSF⟩:∃ S F,bsumP c.txs=(S,F):=⟨_,_,rfl⟩
 rw [hAE] at hBB
 rw [hSF] at hSM
 rw [hrb] at hBR hRR
 rw [hak] at hAL
 have HBB:=qh hBB
 have HSM:=qh hSM
 have HBR:=qh hBR
 have HRR:=qh hRR
 have HAL:=qh hAL
 have HRBk:=qh hrb
 have HAK:=qh hak
 have HAE:=qh hAE
 have HSF:=qh hSF
 have hrr:(rb != rb)=false:=by cases rb <;> rfl
 clear hX hB hv0 hvc hBB hSM hBR hRR hAL hrb hak hAE hSF
 go_wp2_with (refine wpList_load_row rfl _ _ rfl X0 rfl _ _ _ _ HXX.out Tryz.underlying29 rfl infoBk ?_)
 refine HBB.out.mono ?_
 rintro e w3 ⟨rfl,hb3⟩
 have hX3:=(hb3.block _ (qg HXX.out)).trans HXX.out
 have HX3:=qh hX3
 have HB3:=qh (below_call HBX.out HBX.out.size hb3)
 have HW3:=qh hb3
 have x11:=rc (u:=.slice At1 c.txs.length ct1) hX3 11 rfl
 clear hb3 hX3 HXX HBX HBB
 go_wp2_with fail
 refine (HSM.out w3 HW3.out).mono ?_
 rintro e w4 ⟨rfl,hb4⟩
 have HX4:=qh ((hb4.block _ (qg HX3.out)).trans HX3.out)
 have HB4:=qh (below_call HB3.out HB3.out.size hb4)
 have HW4:=qh (below_call HW3.out HW3.out.size hb4)
 clear hb4 x11 HX3 HB3 HW3 HSM
 go_wp2_with fail
 refine (bread_any t _).mono ?_
 rintro e w5 ⟨x,Av3,As3,At3,cv3,cs3,ct3,no,rfl,hv3,hsaid,hb5⟩
 have hY5:=heap_alloc_new w5 (.cells zqB 29)
 have HY5:=qh hY5
 have hY6:=setRow_heap (w5.alloc (.cells zqB 29)) w5.heap.size _ (bkR x Av3 cv3 As3 cs3 At3 ct3) _ _ hY5
 have hba6:Below w4.heap.size w4 ((w5.alloc (.cells zqB 29)).setRow w5.heap.size (bkR x Av3 cv3 As3 cs3 At3 ct3)):=below_setRow (hb5.alloc hb5.size (.cells zqB 29)) hb5.size (bkR x Av3 cv3 As3 cs3 At3 ct3)
 have hm:∀ g,g < w5.heap.size→From w4.heap.size g→Any g∧((w5.alloc (.cells zqB 29)).setRow w5.heap.size (bkR x Av3 cv3 As3 cs3 At3 ct3)).heap[g]? = w5.heap[g]?:=fun g hb _=>⟨trivial,(heap_setRow_ne _ (by omega) _).trans (heap_alloc_old _ _ hb)⟩
 have hv6:BkV Any ((w5.alloc (.cells zqB 29)).setRow w5.heap.size (bkR x Av3 cv3 As3 cs3 At3 ct3)) x Av3 cv3 As3 cs3 At3 ct3:=⟨⟨Rep.mono hv3.hd.vals hm,Rep.mono hv3.hd.seals hm⟩,Rep.mono hv3.txs hm⟩
 have HSD:=qh hsaid
 clear hm hv3 hb5 hY5 hsaid
 go_wp2_with (refine wpList_store_row rfl _ _ _ rfl w5.heap.size (bkR x Av3 cv3 As3 cs3 At3 ct3) rfl rfl _ _ HY5.out infoBk rfl (one12B _ _ _ _ _ _ _ _ _ _ _ _ _ _ _ _ _ _) ?_;generalize (w5.alloc (.cells zqB 29)).setRow w5.heap.size (bkR x Av3 cv3 As3 cs3 At3 ct3)=W6 at hY6 hba6 hv6 ⊢;have HY6:=qh hY6;have HBA6:=qh hba6;have HV6:=qh hv6;clear hY6 hba6 hv6)
 have HX6:=qh ((HBA6.out.block _ (qg HX4.out)).trans HX4.out)
 have HB6:=qh (below_call HB4.out HB4.out.size HBA6.out)
 have HW6:=qh (below_call HW4.out HW4.out.size HBA6.out)
 obtain ⟨Y1,hY1e⟩:∃ Y1,w5.heap.size=Y1:=⟨_,rfl⟩
 rw [hY1e] at HY6 ⊢
 clear hY1e HX4 HB4 HW4 HY5 HBA6
 refine (rread18_any t _).mono ?_
 rintro e w7 ⟨y,Av7,As7,At7,cv7,cs7,ct7,no',rfl,hv7,hsaid7,hb7⟩
 obtain ⟨rfl,rfl⟩:=bkSaid_fun HSD.out hsaid7
 have hY7:=heap_alloc_new w7 (.cells zqB 29)
 have HY7:=qh hY7
 have hY8:=setRow_heap (w7.alloc (.cells zqB 29)) w7.heap.size _ (bkR x Av7 cv7 As7 cs7 At7 ct7) _ _ hY7
 have hba8:Below W6.heap.size W6 ((w7.alloc (.cells zqB 29)).setRow w7.heap.size (bkR x Av7 cv7 As7 cs7 At7 ct7)):=below_setRow (hb7.alloc hb7.size (.cells zqB 29)) hb7.size (bkR x Av7 cv7 As7 cs7 At7 ct7)
 have hm:∀ g,g < w7.heap.size→From W6.heap.size g→Any g∧((w7.alloc (.cells zqB 29)).setRow w7.heap.size (bkR x Av7 cv7 As7 cs7 At7 ct7)).heap[g]? = w7.heap[g]?:=fun g hb _=>⟨trivial,(heap_setRow_ne _ (by omega) _).trans (heap_alloc_old _ _ hb)⟩
 have hv8:BkV Any ((w7.alloc (.cells zqB 29)).setRow w7.heap.size (bkR x Av7 cv7 As7 cs7 At7 ct7)) x Av7 cv7 As7 cs7 At7 ct7:=⟨⟨Rep.mono hv7.hd.vals hm,Rep.mono hv7.hd.seals hm⟩,Rep.mono hv7.txs hm⟩
 clear hm hv7 hb7 hY7 hsaid7
 go_wp2_with (refine wpList_store_row rfl _ _ _ rfl w7.heap.size (bkR x Av7 cv7 As7 cs7 At7 ct7) rfl rfl _ _ HY7.out infoBk rfl (one12B _ _ _ _ _ _ _ _ _ _ _ _ _ _ _ _ _ _) ?_;generalize (w7.alloc (.cells zqB 29)).setRow w7.heap.size (bkR x Av7 cv7 As7 cs7 At7 ct7)=W8 at hY8 hba8 hv8 ⊢;have HY28:=qh hY8;have HBA8:=qh hba8;have HVY8:=qh hv8;clear hY8 hba8 hv8)
 have HX8:=qh ((HBA8.out.block _ (qg HX6.out)).trans HX6.out)
 have HY18:=qh ((HBA8.out.block _ (qg HY6.out)).trans HY6.out)
 have HB8:=qh (below_call HB6.out HB6.out.size HBA8.out)
 have HWB8:=qh (below_call HW6.out HW6.out.size HBA8.out)
 have HVX8:=qh (HV6.out.keep HBA8.out)
 obtain ⟨Y2,hY2e⟩:∃ Y2,w7.heap.size=Y2:=⟨_,rfl⟩
 rw [hY2e] at HY28 ⊢
 have hnn:((no:Int) != (no:Int))=false:=by rw [bne,beq_self_eq_true];rfl
 clear hY2e HX6 HY6 HB6 HW6 HV6 HY7 HBA8
 have hX:W8.drew.heap[X0]? = some (.cells (bkR c Av1 cv1 As1 cs1 At1 ct1) 29 (0,0)):=HX8.out
 have hY1:W8.drew.heap[Y1]? = some (.cells (bkR x Av3 cv3 As3 cs3 At3 ct3) 29 (0,0)):=HY18.out
 have hY2:W8.drew.heap[Y2]? = some (.cells (bkR x Av7 cv7 As7 cs7 At7 ct7) 29 (0,0)):=HY28.out
 have hB:=HB8.out.drew
 have hWB:=HWB8.out.drew
 have hvx:=HVX8.out.keep (Below.refl W8.heap.size W8).drew
 have hvy:=HVY8.out.keep (Below.refl W8.heap.size W8).drew
 clear HX8 HY18 HY28 HB8 HWB8 HVX8 HVY8
 refine wp_region_R [(99,fun w'=>w'.heap[X0]? = some (.cells (bkR c Av1 cv1 As1 cs1 At1 ct1) 29 (0,0))∧w'.heap[Y1]? = some (.cells (bkR x Av3 cv3 As3 cs3 At3 ct3) 29 (0,0))∧w'.heap[Y2]? = some (.cells (bkR x Av7 cv7 As7 cs7 At7 ct7) 29 (0,0)))] (by kernel_rfl) ?_
 generalize W8.drew=WE at hX hY1 hY2 hB hWB hvx hvy ⊢
 refine R_l (i:=0) (v:=.agg (bkR x Av3 cv3 As3 cs3 At3 ct3)) 99 _ List.mem_cons_self rfl (yieldsIf_load_row rfl rfl rfl (fun w' hS=>hS.2.1) Tryz.underlying29 rfl infoBk) (Meets.here ⟨hX,hY1,hY2⟩ Meets.nil) ?_
 refine R_l (i:=1) (v:=.agg (bkR x Av7 cv7 As7 cs7 At7 ct7)) 99 _ List.mem_cons_self rfl (yieldsIf_load_row rfl rfl rfl (fun w' hS=>hS.2.2) Tryz.underlying29 rfl infoBk) (Meets.here ⟨hX,hY1,hY2⟩ Meets.nil) ?_
 refine R_now 2 fun K hK=>?_
 go_simp
 refine (like18_any x Av3 As3 At3 Av7 As7 At7 cv3 cs3 ct3 cv7 cs7 ct7 _ hvx hvy).mono ?_
 rintro e w12 ⟨rfl,hb12⟩
 replace hX:=(hb12.block _ (qg hX)).trans hX
 replace hY1:=(hb12.block _ (qg hY1)).trans hY1
 replace hY2:=(hb12.block _ (qg hY2)).trans hY2
 replace hB:=below_call hB hB.size hb12
 replace hWB:=below_call hWB hWB.size hb12
 replace hvx:=hvx.keep hb12
 replace hvy:=hvy.keep hb12
 clear hvx hvy
 clear hb12
 refine hK.out _ _ (Meets.here ⟨hX,hY1,hY2⟩ Meets.nil) (fun hMeets=>?_)
 clear hK K hMeets
 refine lay_R ?_
 refine R_p (i:=3) (v:=.bool false) (Meets.here ⟨hX,hY1,hY2⟩ Meets.nil) ?_
 refine R_p (i:=4) (v:=.bool false) (Meets.here ⟨hX,hY1,hY2⟩ Meets.nil) ?_
 refine R_p (i:=5) (v:=.int .i64 (no:Int)) (Meets.here ⟨hX,hY1,hY2⟩ Meets.nil) ?_
 refine R_p (i:=6) (v:=.int .i64 (no:Int)) (Meets.here ⟨hX,hY1,hY2⟩ Meets.nil) ?_
 refine R_p (i:=7) (v:=.bool false) (Meets.here ⟨hX,hY1,hY2⟩ Meets.nil) ?_
 refine R_p (i:=8) (v:=.bool false) (Meets.here ⟨hX,hY1,hY2⟩ Meets.nil) ?_
 refine R_p (i:=9) (v:=.bool false) (Meets.here ⟨hX,hY1,hY2⟩ Meets.nil) ?_
 refine R_l (i:=10) (v:=.agg (bkR c Av1 cv1 As1 cs1 At1 ct1)) 99 _ List.mem_cons_self rfl (yieldsIf_load_row rfl rfl rfl (fun w' hS=>hS.1) Tryz.underlying29 rfl infoBk) (Meets.here ⟨hX,hY1,hY2⟩ Meets.nil) ?_
 refine R_l (i:=12) (v:=.agg (bkR c Av1 cv1 As1 cs1 At1 ct1)) 99 _ List.mem_cons_self rfl (yieldsIf_load_row rfl rfl rfl (fun w' hS=>hS.1) Tryz.underlying29 rfl infoBk) (Meets.here ⟨hX,hY1,hY2⟩ Meets.nil) ?_
 refine R_now 11 fun K hK=>?_
 go_simp
 refine (HBR.out _ hWB).mono ?_
 rintro e w14 ⟨rfl,hb14⟩
 replace hX:=(hb14.block _ (qg hX)).trans hX
 replace hY1:=(hb14.block _ (qg hY1)).trans hY1
 replace hY2:=(hb14.block _ (qg hY2)).trans hY2
 replace hB:=below_call hB hB.size hb14
 replace hWB:=below_call hWB hWB.size hb14
 clear hb14
 refine hK.out _ _ (Meets.here ⟨hX,hY1,hY2⟩ Meets.nil) (fun hMeets=>?_)
 clear hK K hMeets
 refine lay_R ?_
 refine R_now 13 fun K hK=>?_
 go_simp
 refine (HRR.out _ hWB).mono ?_
 rintro e w16 ⟨rfl,hb16⟩
 replace hX:=(hb16.block _ (qg hX)).trans hX
 replace hY1:=(hb16.block _ (qg hY1)).trans hY1
 replace hY2:=(hb16.block _ (qg hY2)).trans hY2
 replace hB:=below_call hB hB.size hb16
 replace hWB:=below_call hWB hWB.size hb16
 clear hb16
 refine hK.out _ _ (Meets.here ⟨hX,hY1,hY2⟩ Meets.nil) (fun hMeets=>?_)
 clear hK K hMeets
 refine lay_R ?_
 refine R_p (i:=14) (v:=.bool false) (Meets.here ⟨hX,hY1,hY2⟩ Meets.nil) ?_
 refine R_p (i:=15) (v:=.bool false) (Meets.here ⟨hX,hY1,hY2⟩ Meets.nil) ?_
 refine R_p (i:=16) (v:=.bool false) (Meets.here ⟨hX,hY1,hY2⟩ Meets.nil) ?_
 refine R_now 17 fun K hK=>?_
 go_simp
 refine (alive18_any _).mono ?_
 rintro e w18 ⟨rfl,hb18⟩
 replace hX:=(hb18.block _ (qg hX)).trans hX
 replace hY1:=(hb18.block _ (qg hY1)).trans hY1
 replace hY2:=(hb18.block _ (qg hY2)).trans hY2
 replace hB:=below_call hB hB.size hb18
 replace hWB:=below_call hWB hWB.size hb18
 clear hb18
 refine hK.out _ _ (Meets.here ⟨hX,hY1,hY2⟩ Meets.nil) (fun hMeets=>?_)
 clear hK K hMeets
 refine lay_R ?_
 refine R_p (i:=18) (v:=.bool false) (Meets.here ⟨hX,hY1,hY2⟩ Meets.nil) ?_
 refine R_p (i:=19) (v:=.bool false) (Meets.here ⟨hX,hY1,hY2⟩ Meets.nil) ?_
 refine R_done (by kernel_rfl) ?_ _
 clear hY1 hY2 hnn hrr
 have HX:=qh hX
 have HB:=qh hB
 have HWB:=qh hWB
 have y11:=rc (u:=.slice At1 c.txs.length ct1) hX 11 rfl
 clear hX hB hWB
 go_wp2_with fail
 refine (HAL.out _ HWB.out).mono ?_
 rintro e w20 ⟨rfl,hb20⟩
 have HX20:=qh ((hb20.block _ (qg HX.out)).trans HX.out)
 have HB20:=qh (below_call HB.out HB.out.size hb20)
 have HW20:=qh (below_call HWB.out HWB.out.size hb20)
 have y11:=rc (u:=.slice At1 c.txs.length ct1) HX20.out 11 rfl
 clear hb20 HX HB HWB HAL
 have hSF:=HSF.out
 have hAE:=HAE.out
 unfold bsumP at hSF
 unfold bbP at hAE
 rw [HAK.out] at hSF
 rw [HRBk.out] at hAE
 cases ak with
 | false =>
  have hrf:rb=false:=by
   rw [← HRBk.out]
   exact Bool.eq_false_iff.2 fun h=>by
    have h2:=HAK.out
    rw [List.all_eq_true.2 ((okBk_iff c).1 h).each] at h2
    cases h2
  subst hrf
  rw [if_neg (by decide)] at hSF hAE
  injection hSF with hS1 hF1
  injection hAE with hA1 hE1
  subst hS1;subst hF1;subst hA1;subst hE1
  rw [show ((1:Nat):Int)=1 from rfl]
  go_wp2_with (refine wpList_load_row rfl _ _ rfl X0 rfl _ _ _ _ HX20.out Tryz.underlying29 rfl infoBk ?_)
  refine (HRR.out _ HW20.out).mono ?_
  rintro e w21 ⟨rfl,hb21⟩
  have HB21:=qh (below_call HB20.out HB20.out.size hb21)
  clear hb21 y11
  go_wp2_with fail
  go_ret
  exact ⟨rfl,HB21.out⟩
 | true =>
  rw [if_pos rfl] at hSF
  injection hSF with hS1 hF1
  subst hF1
  have hall:=List.all_eq_true.1 HAK.out
  have hRS:=fun (W:World) (hb:Below W2.heap.size W2 W)=>HRS.out hall W hb
  rw [hS1] at hRS
  have HRS:=qh hRS
  clear hS1 hall hRS
  rw [show ((0:Nat):Int)=0 from rfl]
  go_wp2_with fail
  refine (HRS.out _ HW20.out).mono ?_
  rintro e w21 ⟨rfl,hb21⟩
  have HX21:=qh ((hb21.block _ (qg HX20.out)).trans HX20.out)
  have HB21:=qh (below_call HB20.out HB20.out.size hb21)
  have HW21:=qh (below_call HW20.out HW20.out.size hb21)
  clear hb21 y11 HX20 HB20 HW20
  cases rb with
  | false =>
   rw [if_neg (by decide)] at hAE
   injection hAE with hA1 hE1
   subst hA1;subst hE1
   rw [show ((1:Nat):Int)=1 from rfl]
   go_wp2_with (refine wpList_load_row rfl _ _ rfl X0 rfl _ _ _ _ HX21.out Tryz.underlying29 rfl infoBk ?_)
   refine (HRR.out _ HW21.out).mono ?_
   rintro e w22 ⟨rfl,hb22⟩
   have HB22:=qh (below_call HB21.out HB21.out.size hb22)
   clear hb22
   go_wp2_with fail
   go_ret
   exact ⟨rfl,HB22.out⟩
  | true =>
   rw [if_pos rfl] at hAE
   injection hAE with hA1 hE1
   subst hE1
   have hRB:=fun (W:World) (hb:Below W2.heap.size W2 W)=>HRB.out ((okBk_iff c).1 HRBk.out) W hb
   rw [hA1] at hRB
   have HRB:=qh hRB
   clear hA1 hRB
   go_wp2_with (refine wpList_load_row rfl _ _ rfl X0 rfl _ _ _ _ HX21.out Tryz.underlying29 rfl infoBk ?_)
   refine (HRR.out _ HW21.out).mono ?_
   rintro e w22 ⟨rfl,hb22⟩
   have HX22:=qh ((hb22.block _ (qg HX21.out)).trans HX21.out)
   have HB22:=qh (below_call HB21.out HB21.out.size hb22)
   have HW22:=qh (below_call HW21.out HW21.out.size hb22)
   clear hb22 HX21 HB21 HW21
   go_wp2_with (refine wpl_load_w (by rfl) rfl rfl HX22.out Tryz.underlying29 rfl infoBk ?_)
   refine (HRB.out _ HW22.out).mono ?_
   rintro e w23 ⟨rfl,hb23⟩
   have HB23:=qh (below_call HB22.out HB22.out.size hb23)
   clear hb23
   go_wp2_with fail
   go_ret
   exact ⟨rfl,HB23.out⟩
end Go.Proofs.YtjanaholcjkceaaGreat
