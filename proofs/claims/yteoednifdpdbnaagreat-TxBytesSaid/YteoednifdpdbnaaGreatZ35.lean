/- The walk of the reference's field. -/
import Derived.Test.YteoednifdpdbnaaGreatZ34
import Derived.Test.YteoednifdpdbnaaGreatZ33
import Derived.Test.YteoednifdpdbnaaGreatZ18
namespace Go.Proofs.YteoednifdpdbnaaGreat
set_option linter.unusedVariables false
set_option linter.unusedSimpArgs false
open Go.RowKit
set_option maxHeartbeats 4000000
set_option maxRecDepth 100000
/-- a field out of an item, as it stands -/
def leafP (c:UInt8) (x:Item):Lf:=if c=110 then ((valP x).1,[]) else (0,x.b)
def fieldP (k:Kd) (x:Item):Fd:=if k.star=true then ⟨0,[],x.ks.map (leafP k.c)⟩ else ⟨(leafP k.c x).1,(leafP k.c x).2,[]⟩
theorem okC_ne {c:UInt8} (h:okC c):((c.toNat:Int) == 40)=false∧((c.toNat:Int) == 42)=false:=by
 rcases h with rfl | rfl | rfl | rfl | rfl <;> exact ⟨rfl,rfl⟩
theorem qjf (c':UInt8) (hc:okC c') (x:Item) (A:Option Addr) (c:Nat) (w:World) :
  Calls Tryz.prog 100 #[.string (bs [c']),.agg #[.bool x.l,.string (bs x.b),.slice A x.ks.length c]] w fun e w'=>e=.returned (.agg #[.int .u64 ((leafP c' x).1:Int),.string (bs (leafP c' x).2),.slice none 0 0])∧Below w.heap.size w w':=by
 obtain ⟨h40,h42⟩:=okC_ne hc
 obtain ⟨q,hq⟩:∃ q,((c'.toNat:Int) == 110)=q:=⟨_,rfl⟩
 have hL:Hid (leafP c' x=if q=true then ((valP x).1,[]) else (0,x.b)):=qh (by
  unfold leafP
  by_cases h:c'=110
  ·subst h;rw [← hq];rfl
  ·rw [if_neg h,← hq,if_neg (by rw [beq_iff_eq];intro e;exact h (UInt8.toNat.inj (by show c'.toNat=110;omega)))])
 have hX:=heap_alloc_new w (.cells #[.bool x.l,.string (bs x.b),.slice A x.ks.length c] 53)
 have hb:Below w.heap.size w (w.alloc (.cells #[.bool x.l,.string (bs x.b),.slice A x.ks.length c] 53)):=(Below.refl _ _).alloc qn _
 have hR:=heap_alloc_new (w.alloc (.cells #[.bool x.l,.string (bs x.b),.slice A x.ks.length c] 53)) (.cells #[.int .u64 0,.string ⟨#[]⟩,.slice none 0 0] 81)
 rw [show (w.alloc (.cells #[.bool x.l,.string (bs x.b),.slice A x.ks.length c] 53)).heap.size=w.heap.size+1 by simp] at hR
 have hX1:=(heap_alloc_old (w.alloc (.cells #[.bool x.l,.string (bs x.b),.slice A x.ks.length c] 53)) (.cells #[.int .u64 0,.string ⟨#[]⟩,.slice none 0 0] 81) (by simp)).trans hX
 have x0:=rc (u:=.bool x.l) hX1 0 rfl
 have x1:=rc (u:=.string (bs x.b)) hX1 1 rfl
 have x2:=rc (u:=.slice A x.ks.length c) hX1 2 rfl
 have HX:=qh hX1
 have HR:=qh hR
 have HB:=qh (hb.alloc hb.size (.cells #[.int .u64 0,.string ⟨#[]⟩,.slice none 0 0] 81))
 have HV:=qh (fun W:World=>qgy x A c W)
 obtain ⟨n,hn⟩:∃ n,(valP x).1=n:=⟨_,rfl⟩
 have hv:=HV.out
 rw [hn] at hv hL
 have HV:=qh hv
 obtain ⟨p,hp⟩:∃ p,leafP c' x=p:=⟨_,rfl⟩
 rw [hp] at hL ⊢
 clear hX hb hR hX1 hc hv hn hp
 go_enter Tryz.func100,Tryz.ntmps100
 go_wp2_with fail
 refine (HV.out _).mono ?_
 rintro e w1 ⟨rfl,hb1⟩
 have hX1:=(hb1.block _ (qg HX.out)).trans HX.out
 have hR1:=(hb1.block _ (qg HR.out)).trans HR.out
 have HB1:=qh (qab HB.out HB.out.size hb1)
 have y0:=rc (u:=.bool x.l) hX1 0 rfl
 have y1:=rc (u:=.string (bs x.b)) hX1 1 rfl
 have y2:=rc (u:=.slice A x.ks.length c) hX1 2 rfl
 have hRl:=(qg hR1)
 have r0:=rc (u:=.int .u64 0) hR1 0 rfl
 have r1:=rc (u:=.string ⟨#[]⟩) hR1 1 rfl
 have r2:=rc (u:=.slice none 0 0) hR1 2 rfl
 have f0:=rf hR1 0
 have f1:=rf hR1 1
 have f2:=rf hR1 2
 have HR1:=qh hR1
 clear hb1 hX1 hR1 HX HR HB x0 x1 x2 HV
 cases q with
 | true =>
  go_wp2_with fail
  have hfin:=qaa (qaa (qaa HR1.out (i:=0) (.int .u64 (n:Int))) (i:=1) (.string ⟨#[]⟩)) (i:=2) (.slice none 0 0)
  exact bodyPost_ret (v:=.agg #[.int .u64 (n:Int),.string ⟨#[]⟩,.slice none 0 0]) (results_cell_row rfl _ _ (w.heap.size+1) _ _ _ _ rfl hfin Tryz.underlying81 rfl infoF) rfl ⟨by rw [hL.out];rfl,((HB1.out.setCell (p:=⟨w.heap.size+1,_,_⟩) (Nat.le_succ _) _).setCell (p:=⟨w.heap.size+1,_,_⟩) (Nat.le_succ _) _).setCell (p:=⟨w.heap.size+1,_,_⟩) (Nat.le_succ _) _⟩
 | false =>
  have O:=qh (show True from trivial)
  have a0:=ca r0 (.cells #[.int .u64 0,.string (bs x.b),.slice none 0 0] 81)
  have a1:=ca r1 (.cells #[.int .u64 0,.string (bs x.b),.slice none 0 0] 81)
  have a2:=ca r2 (.cells #[.int .u64 0,.string (bs x.b),.slice none 0 0] 81)
  have g0:=fa hRl f0 (.cells #[.int .u64 0,.string (bs x.b),.slice none 0 0] 81)
  have g1:=fa hRl f1 (.cells #[.int .u64 0,.string (bs x.b),.slice none 0 0] 81)
  have g2:=fa hRl f2 (.cells #[.int .u64 0,.string (bs x.b),.slice none 0 0] 81)
  go_wp2_with fail
  have hfin:=qaa (qaa (qaa HR1.out (i:=0) (.int .u64 0)) (i:=1) (.string (bs x.b))) (i:=2) (.slice none 0 0)
  have hfin2:=(heap_alloc_old _ (.cells #[.int .u64 0,.string (bs x.b),.slice none 0 0] 81) (by simp [World.setCell];omega)).trans hfin
  have hb5:=((HB1.out.setCell (p:=⟨w.heap.size+1,0,none⟩) (Nat.le_succ _) (.int .u64 0)).setCell (p:=⟨w.heap.size+1,1,none⟩) (Nat.le_succ _) (.string (bs x.b))).setCell (p:=⟨w.heap.size+1,2,none⟩) (Nat.le_succ _) (.slice none 0 0)
  exact bodyPost_ret (v:=.agg #[.int .u64 0,.string (bs x.b),.slice none 0 0]) (results_cell_row rfl _ _ (w.heap.size+1) _ _ _ _ rfl hfin2 Tryz.underlying81 rfl infoF) rfl ⟨by rw [hL.out];rfl,hb5.alloc hb5.size _⟩
/-- plain fields' cells -/
def lfsC (l:List Lf):List Value:=l.flatMap fun p=>[.int .u64 (p.1:Int),.string (bs p.2),.slice none 0 0]
theorem qr6 (l:List Lf) (p:Lf):lfsC (l ++ [p])=lfsC l ++ [.int .u64 (p.1:Int),.string (bs p.2),.slice none 0 0]:=by simp [lfsC]
theorem qlc {S:Nat→Prop} {w:World}:∀ l:List Lf,RepN S w 3 (l.map lfD) (lfsC l)
 | []=>.nil
 | p :: l=>.cons (cs:=[_,_,_]) (qcc p.1 p.2) rfl (qlc l)
theorem lfs_own {S:Nat→Prop} {w:World} {base n c:Nat} {e:TypeId} {A:Option Addr} {l:List Lf} (h:w.ownsRow base e 3 (.slice A n c) n (lfsC l)) (hn:n=l.length) (hS:∀ g,base≤g→g < w.heap.size→S g):LfsV S w l A c:=by
 subst hn
 exact qb2 h (qlc l) (by simp) hS
theorem qqr (k:UInt8) (hc:okC k) (x:Item) (hkl:x.ks.length≤100000) (A:Option Addr) (c:Nat) (w:World) (hv:ItemV Any w x A c) :
  Calls Tryz.prog 100 #[.string (bs [42,k]),.agg #[.bool x.l,.string (bs x.b),.slice A x.ks.length c]] w fun e w'=>∃ A' c',e=.returned (.agg #[.int .u64 0,.string ⟨#[]⟩,.slice A' x.ks.length c'])∧LfsV (From w.heap.size) w' (x.ks.map (leafP k)) A' c'∧Below w.heap.size w w':=by
 have hX:=heap_alloc_new w (.cells #[.bool x.l,.string (bs x.b),.slice A x.ks.length c] 53)
 have hb:Below w.heap.size w (w.alloc (.cells #[.bool x.l,.string (bs x.b),.slice A x.ks.length c] 53)):=(Below.refl _ _).alloc qn _
 have hR:=heap_alloc_new (w.alloc (.cells #[.bool x.l,.string (bs x.b),.slice A x.ks.length c] 53)) (.cells #[.int .u64 0,.string ⟨#[]⟩,.slice none 0 0] 81)
 rw [show (w.alloc (.cells #[.bool x.l,.string (bs x.b),.slice A x.ks.length c] 53)).heap.size=w.heap.size+1 by simp] at hR
 have hX1:=(heap_alloc_old (w.alloc (.cells #[.bool x.l,.string (bs x.b),.slice A x.ks.length c] 53)) (.cells #[.int .u64 0,.string ⟨#[]⟩,.slice none 0 0] 81) (by simp)).trans hX
 have x0:=rc (u:=.bool x.l) hX1 0 rfl
 have x1:=rc (u:=.string (bs x.b)) hX1 1 rfl
 have x2:=rc (u:=.slice A x.ks.length c) hX1 2 rfl
 have HX:=qh hX1
 have HR:=qh hR
 have HB:=qh (hb.alloc hb.size (.cells #[.int .u64 0,.string ⟨#[]⟩,.slice none 0 0] 81))
 have HV:=qh (fun W:World=>qgy x A c W)
 have HK:=qh hc
 have HIV:=qh hv
 have hkI:(x.ks.length:Int)≤100000:=by omega
 clear hX hb hR hX1 hc hv
 go_enter Tryz.func100,Tryz.ntmps100
 go_wp2_with fail
 refine (HV.out _).mono ?_
 rintro e w1 ⟨rfl,hb1⟩
 have hX1:=(hb1.block _ (qg HX.out)).trans HX.out
 have hR1:=(hb1.block _ (qg HR.out)).trans HR.out
 have HB1:=qh (qab HB.out HB.out.size hb1)
 have hRl:=(qg hR1)
 have hZ:=heap_alloc_new w1 (.cells #[.int .u64 0,.string ⟨#[]⟩,.slice none 0 0] 81)
 have hX2:=(heap_alloc_old w1 (.cells #[.int .u64 0,.string ⟨#[]⟩,.slice none 0 0] 81) (qg hX1)).trans hX1
 have hR2:=(heap_alloc_old w1 (.cells #[.int .u64 0,.string ⟨#[]⟩,.slice none 0 0] 81) hRl).trans hR1
 have hB2:=HB1.out.alloc HB1.out.size (.cells #[.int .u64 0,.string ⟨#[]⟩,.slice none 0 0] 81)
 have y1:=rc (u:=.string (bs x.b)) hX1 1 rfl
 have y2:=rc (u:=.slice A x.ks.length c) hX1 2 rfl
 have z2:=rc (u:=.slice A x.ks.length c) hX2 2 rfl
 have HZ2:=qh hZ
 have HR2:=qh hR2
 have HB2:=qh hB2
 clear hb1 hX1 hR1 HX HR HB x0 x1 x2 HV hZ hX2 hR2 hB2
 go_wp2_with fail
 clear y1 y2 z2
 generalize hW2:w1.alloc (.cells #[.int .u64 0,.string ⟨#[]⟩,.slice none 0 0] 81)=W2 at HZ2 HR2 HB2 ⊢
 obtain ⟨Z,hZe⟩:∃ Z,w1.heap.size=Z:=⟨_,rfl⟩
 have hZw:w.heap.size+1 < Z:=by omega
 have hW2s:W2.heap.size=Z+1:=by rw [← hW2,← hZe];simp
 rw [hZe] at HZ2 ⊢
 have HW2S:=qh hW2s
 clear hW2 hZe hW2s hRl HB1
 go_loopw [37] (fun v wr=>∃ (i:Nat) (u:Value),v=.int .i64 (i:Int)∧i≤x.ks.length∧wr.heap[Z]? = some (.cells #[.int .u64 0,.string ⟨#[]⟩,u] 81 (0,0))∧wr.ownsRow (Z+1) 81 3 u i (lfsC ((x.ks.take i).map (leafP k)))∧wr.heap[w.heap.size+1]? = some (.cells #[.int .u64 0,.string ⟨#[]⟩,.slice none 0 0] 81 (0,0))∧Below w.heap.size w wr) (fun v _=>x.ks.length - (intOf v).toNat)
 case atStart=>exact ⟨0,_,rfl,Nat.zero_le _,HZ2.out,World.ownsRow_nil _ _ _ _,HR2.out,HB2.out⟩
 case round =>
  clear HZ2 HR2 HB2 HW2S
  obtain ⟨i,u,rfl,hi,hZ,hown,hR,hB⟩:=hrel
  obtain ⟨A',c',rfl⟩:=qau hown
  by_cases hlt:i < x.ks.length
  ·have hltI:(i:Int) < x.ks.length:=by omega
   obtain ⟨y,hy⟩:=qal hlt
   obtain ⟨g,o,A2,c2,rfl,_,hyv,q0,q1,q2⟩:=ItemV.at_ (HIV.out.keep hB) hy
   have HT:=qh (qbe hy)
   have HZ:=qh hZ
   have HO:=qh hown
   have HR:=qh hR
   have HB:=qh hB
   clear hy hyv hZ hown hR hB
   go_wp2_with fail
   clear q0 q1 q2
   have hZ:(wr.alloc (.cells #[.bool y.l,.string (bs y.b),.slice A2 y.ks.length c2] 53)).drew.heap[Z]? = some (.cells #[.int .u64 0,.string ⟨#[]⟩,.slice A' i c'] 81 (0,0)):=(heap_alloc_old wr (.cells #[.bool y.l,.string (bs y.b),.slice A2 y.ks.length c2] 53) (qg HZ.out)).trans HZ.out
   have hY:(wr.alloc (.cells #[.bool y.l,.string (bs y.b),.slice A2 y.ks.length c2] 53)).drew.heap[wr.heap.size]? = some (.cells #[.bool y.l,.string (bs y.b),.slice A2 y.ks.length c2] 53 (0,0)):=heap_alloc_new wr (.cells #[.bool y.l,.string (bs y.b),.slice A2 y.ks.length c2] 53)
   have hR:(wr.alloc (.cells #[.bool y.l,.string (bs y.b),.slice A2 y.ks.length c2] 53)).drew.heap[w.heap.size+1]? = some (.cells #[.int .u64 0,.string ⟨#[]⟩,.slice none 0 0] 81 (0,0)):=(heap_alloc_old wr (.cells #[.bool y.l,.string (bs y.b),.slice A2 y.ks.length c2] 53) (qg HR.out)).trans HR.out
   have hB:Below w.heap.size w (wr.alloc (.cells #[.bool y.l,.string (bs y.b),.slice A2 y.ks.length c2] 53)).drew:=(HB.out.alloc HB.out.size (.cells #[.bool y.l,.string (bs y.b),.slice A2 y.ks.length c2] 53)).drew
   have hown:=qax HO.out ((Below.refl wr.heap.size wr).alloc qn (.cells #[.bool y.l,.string (bs y.b),.slice A2 y.ks.length c2] 53)).drew
   have hob:=fun k e=>(HO.out.lt k e).2
   clear HZ HR HB HO
   refine qao [(8,fun w'=>w'.heap[Z]? = some (.cells #[.int .u64 0,.string ⟨#[]⟩,.slice A' i c'] 81 (0,0))∧w'.heap[wr.heap.size]? = some (.cells #[.bool y.l,.string (bs y.b),.slice A2 y.ks.length c2] 53 (0,0)))] (by kernel_rfl) ?_
   generalize (wr.alloc (.cells #[.bool y.l,.string (bs y.b),.slice A2 y.ks.length c2] 53)).drew=W3 at hZ hY hR hB hown ⊢
   refine R_p (i:=0) (v:=.pointer (some ⟨Z,2,none⟩)) (Mh ⟨hZ,hY⟩ Mn) ?_
   refine R_p (i:=2) (v:=.string (bs [k])) (Mh ⟨hZ,hY⟩ Mn) ?_
   refine R_l (i:=3) (v:=.agg #[.bool y.l,.string (bs y.b),.slice A2 y.ks.length c2]) 8 _ List.mem_cons_self rfl (qa8 rfl rfl rfl (fun w' hS=>hS.2) Tryz.underlying53 rfl infoI) (Mh ⟨hZ,hY⟩ Mn) ?_
   refine R_l (i:=1) (v:=.slice A' i c') 8 _ List.mem_cons_self rfl (qae rfl rfl rfl (fun w' hS=>rc hS.1 2 rfl) Tryz.underlying78 rfl) (Mh ⟨hZ,hY⟩ Mn) ?_
   refine R_now 4 fun K hK=>?_
   go_simp
   refine (qjf k HK.out y A2 c2 _).mono ?_
   rintro e w4 ⟨rfl,hb4⟩
   replace hZ:=(hb4.block _ (qg hZ)).trans hZ
   replace hY:=(hb4.block _ (qg hY)).trans hY
   replace hR:=(hb4.block _ (qg hR)).trans hR
   replace hB:=qab hB hB.size hb4
   replace hown:=qax hown hb4
   generalize hp:leafP k y=p
   clear hb4
   refine hK.out _ _ (Mh ⟨hZ,hY⟩ Mn) (fun hMeets=>?_)
   clear hK K hMeets
   refine lay_R ?_
   refine R_now 5 fun K hK=>?_
   have hbb:Below w4.heap.size w4 (w4.alloc (.cells #[.int .u64 (p.1:Int),.string (bs p.2),.slice none 0 0] 81)):=(Below.refl _ _).alloc qn _
   have hlies:=qbi w4 #[.int .u64 (p.1:Int),.string (bs p.2),.slice none 0 0] 81
   replace hZ:=(hbb.block _ (qg hZ)).trans hZ
   replace hY:=(hbb.block _ (qg hY)).trans hY
   replace hR:=(hbb.block _ (qg hR)).trans hR
   replace hB:=qab hB hB.size hbb
   replace hown:=qax hown hbb
   go_simp
   obtain ⟨N,hN⟩:∃ N,w4.heap.size=N:=⟨_,rfl⟩
   rw [hN] at hlies ⊢
   generalize w4.alloc (.cells #[.int .u64 (p.1:Int),.string (bs p.2),.slice none 0 0] 81)=w5 at hlies hZ hY hB hR hown ⊢
   clear hbb hN
   refine hK.out _ _ (Mh ⟨hZ,hY⟩ Mn) (fun hMeets=>?_)
   clear hK K hMeets
   refine lay_R ?_
   refine R_now 6 fun K hK=>?_
   have hle:Z+1≤w5.heap.size:=(qg hZ)
   have hlY:=(qg hY)
   have hlR:=(qg hR)
   refine qe6 qck rfl rfl (Z+1) hown rfl (m:=1) [.int .u64 (p.1:Int),.string (bs p.2),.slice none 0 0] rfl rfl hlies ?_ ?_ ?_ hle ?_
   ·(intro u hu;simp at hu;rcases hu with rfl | rfl | rfl <;> rfl)
   ·simp only [maxLen];omega
   ·omega
   intro v1 w6 hown1 hg1 hat1
   obtain ⟨A3,c3,rfl⟩:=qau hown1
   have hbp:=qay (Below.refl (Z+1) _) hown hg1 hle qn
   replace hZ:=(hbp.block Z (Nat.lt_succ_self _)).trans hZ
   replace hR:=(hbp.block _ (by omega)).trans hR
   replace hB:=hB.trans (hbp.mono (by omega))
   replace hY:=(hg1.block wr.heap.size hlY (fun e=>by have:=hob _ e.symm;omega)).trans hY
   clear hown hlies hbp hg1 hat1
   have hown:=hown1
   clear hown1
   refine hK.out _ _ (Mh ⟨hZ,hY⟩ Mn) (fun hMeets=>?_)
   clear hK K hMeets
   refine lay_R ?_
   refine R_p (i:=7) (v:=.pointer (some ⟨Z,2,none⟩)) (Mh ⟨hZ,hY⟩ Mn) ?_
   refine R_now 8 fun K hK=>?_
   have d:=rc (u:=.slice A' i c') hZ 2 rfl
   have df:=rf hZ 2
   go_simp
   have hZn:(w6.setCell ⟨Z,2,none⟩ (.slice A3 (i+1) c3)).heap[Z]? = some (.cells #[.int .u64 0,.string ⟨#[]⟩,.slice A3 (i+1) c3] 81 (0,0)):=qaa hZ (i:=2) _
   replace hR:=(qac (w:=w6) (b:=Z) (i:=2) (show w.heap.size+1≠Z by omega) (.slice A3 (i+1) c3)).trans hR
   replace hB:=hB.setCell (p:=⟨Z,2,none⟩) (show w.heap.size≤Z by omega) (.slice A3 (i+1) c3)
   replace hown:=qba hown (Nat.lt_succ_self Z) (i:=2) (.slice A3 (i+1) c3)
   generalize w6.setCell ⟨Z,2,none⟩ (.slice A3 (i+1) c3)=w8 at hZn hR hB hown ⊢
   clear hZ d df
   refine hK.out _ _ (Meets.past (by kernel_rfl) Mn) (fun hMeets=>?_)
   clear hK K hMeets
   refine lay_R ?_
   refine qa7 (by kernel_rfl) ?_ _
   have HP:=qh hp
   have HZ:=qh hZn
   have HR:=qh hR
   have HB:=qh hB
   rw [show lfsC ((x.ks.take i).map (leafP k)) ++ [.int .u64 (p.1:Int),.string (bs p.2),.slice none 0 0]=lfsC ((x.ks.take (i+1)).map (leafP k)) by rw [HT.out,List.map_append,List.map_singleton,HP.out,qr6]] at hown
   have HO:=qh hown
   clear hp hZn hR hB hown
   go_wp2_with fail
   go_roundw
   case rel=>exact ⟨i+1,_,by go_num,hlt,HZ.out,HO.out,HR.out,HB.out⟩
   case measure=>simp [intOf];omega
  ·obtain rfl:i=x.ks.length:=by omega
   rw [List.take_of_length_le qn] at hown
   have hv:LfsV (fun g=>Z+1≤g) wr (x.ks.map (leafP k)) A' c':=lfs_own hown (by rw [List.length_map]) (fun g h1 _=>h1)
   have t0:=rc (u:=.int .u64 0) hZ 0 rfl
   have t1:=rc (u:=.string ⟨#[]⟩) hZ 1 rfl
   have t2:=rc (u:=.slice A' x.ks.length c') hZ 2 rfl
   have r0:=rc (u:=.int .u64 0) hR 0 rfl
   have r1:=rc (u:=.string ⟨#[]⟩) hR 1 rfl
   have r2:=rc (u:=.slice none 0 0) hR 2 rfl
   have f0:=rf hR 0
   have f1:=rf hR 1
   have f2:=rf hR 2
   have HR:=qh hR
   have HV:=qh hv
   have HB:=qh hB
   clear hZ hown hR hB hv
   go_wp2_with fail
   have hfin:=qaa (qaa (qaa HR.out (i:=0) (.int .u64 0)) (i:=1) (.string ⟨#[]⟩)) (i:=2) (.slice A' x.ks.length c')
   refine bodyPost_ret (v:=.agg #[.int .u64 0,.string ⟨#[]⟩,.slice A' x.ks.length c']) (results_cell_row rfl _ _ (w.heap.size+1) _ _ _ _ rfl hfin Tryz.underlying81 rfl infoF) rfl ⟨A',c',rfl,?_,((HB.out.setCell (p:=⟨w.heap.size+1,_,_⟩) (Nat.le_succ _) _).setCell (p:=⟨w.heap.size+1,_,_⟩) (Nat.le_succ _) _).setCell (p:=⟨w.heap.size+1,_,_⟩) (Nat.le_succ _) _⟩
   exact Rep.mono HV.out fun b _ hb=>⟨by show w.heap.size≤b;have hb:Z+1≤b:=hb;omega,by have hb:Z+1≤b:=hb;rw [qac (by omega),qac (by omega),qac (by omega)]⟩
theorem qlh (k:Kd) (hk:okC k.c) (x:Item) (hkl:x.ks.length≤100000) (A:Option Addr) (c:Nat) (w:World) (hv:ItemV Any w x A c) :
  Calls Tryz.prog 100 #[.string (bs k.txt),.agg #[.bool x.l,.string (bs x.b),.slice A x.ks.length c]] w fun e w'=>∃ A' c',e=.returned (.agg #[.int .u64 ((fieldP k x).n:Int),.string (bs (fieldP k x).b),.slice A' (fieldP k x).l.length c'])∧LfsV (From w.heap.size) w' (fieldP k x).l A' c'∧Below w.heap.size w w':=by
 obtain ⟨q,s⟩:=k
 cases s with
 | true =>
  refine (qqr q hk x hkl A c w hv).mono fun e w' ⟨A',c',h1,h2,h3⟩=>⟨A',c',?_,h2,h3⟩
  rw [h1]
  show _=Ending.returned (.agg #[.int .u64 0,.string (bs []),.slice A' (x.ks.map (leafP q)).length c'])
  rw [List.length_map]
  rfl
 | false =>
  exact (qjf q hk x A c w).mono fun e w' ⟨h1,h3⟩=>⟨none,0,h1,Rep.nil_slice 3,h3⟩
/- The walk of the reference's Read of a record. -/
def noKb:Kd:=⟨98,false⟩
/-- fields as they stand -/
def rdP (ks:List Kd) (xs:List Item):List Fd:=(List.range xs.length).map fun i=>fieldP (ks.getD i noKb) (xs.getD i zeroI)
theorem qsv (ks:List Kd) (xs:List Item):(rdP ks xs).length=xs.length:=by simp [rdP]
theorem rdP_get {ks:List Kd} {xs:List Item} {i:Nat} {y:Item} (h:xs[i]? = some y):(rdP ks xs)[i]? = some (fieldP (ks.getD i noKb) y):=by
 have hi:=(List.getElem?_eq_some_iff.1 h).1
 unfold rdP
 rw [List.getElem?_map,List.getElem?_range hi,Option.map_some,List.getD_eq_getElem?_getD (l:=xs),h]
 rfl
theorem qo9 {c:UInt8} {x:Item} {f:Lf} (h:unLf c x=some f):leafP c x=f:=by
 unfold unLf at h
 unfold leafP
 split at h
 ·rename_i hc
  rw [if_pos hc]
  unfold valQ at h
  unfold valP
  split at h
  ·cases h
  ·rename_i hn
   rw [if_neg hn]
   injection h
 ·rename_i hc
  rw [if_neg hc]
  split at h
  ·cases h
  ·injection h
theorem qlv {c:UInt8}:∀ {xs:List Item} {l:List Lf},unLfs c xs=some l→xs.map (leafP c)=l
 | [],l,h=>by simp [unLfs] at h;subst h;rfl
 | x :: xs,l,h=>by
  rw [unLfs] at h
  split at h
  ·rename_i f r hf hr
   injection h with h
   subst h
   rw [List.map_cons,qo9 hf,qlv hr]
  ·cases h
theorem qtf {k:Kd} {x:Item} {f:Fd} (h:unF k x=some f):fieldP k x=f:=by
 unfold unF at h
 unfold fieldP
 split at h
 ·rename_i hs
  rw [if_pos hs]
  split at h
  ·cases hu:unLfs k.c x.ks with
   | none=>rw [hu] at h;cases h
   | some l=>rw [hu] at h;injection h with h;subst h;rw [qlv hu]
  ·cases h
 ·rename_i hs
  rw [if_neg hs]
  cases hu:unLf k.c x with
  | none=>rw [hu] at h;cases h
  | some l=>rw [hu] at h;injection h with h;subst h;rw [qo9 hu]
theorem rdP_un:∀ {ks:List Kd} {xs:List Item} {l:List Fd},unFs ks xs=some l→rdP ks xs=l
 | [],[],l,h=>by simp [unFs] at h;subst h;rfl
 | [],x :: xs,l,h=>by simp [unFs] at h
 | k :: ks,[],l,h=>by simp [unFs] at h
 | k :: ks,x :: xs,l,h=>by
  rw [unFs] at h
  split at h
  ·rename_i f r hf hr
   injection h with h
   subst h
   rw [← rdP_un hr,← qtf hf]
   unfold rdP
   rw [List.length_cons,List.range_succ_eq_map,List.map_cons,List.map_map]
   rfl
  ·cases h
theorem qib (c:UInt8) (x:Item):(leafP c x).1 < 18446744073709551616:=by
 unfold leafP
 split
 ·unfold valP
  split
  ·exact qig
  ·rename_i hn
   simp only [not_or] at hn
   have:=qjz x.b
   have h5:(256:Nat) ^ x.b.length≤256 ^ 8:=Nat.pow_le_pow_right (by decide) (by omega)
   have h6:(256:Nat) ^ 8=18446744073709551616:=by decide
   show num x.b < _
   omega
 ·exact qig
theorem qlx (k:Kd) (x:Item):(fieldP k x).n < 18446744073709551616∧∀ y∈(fieldP k x).l,y.1 < 18446744073709551616:=by
 unfold fieldP
 split
 ·refine ⟨qig,fun y hy=>?_⟩
  obtain ⟨z,_,rfl⟩:=List.mem_map.1 hy
  exact qib _ _
 ·exact ⟨qib _ _,fun y hy=>by cases hy⟩
theorem qk2 (ks:List Kd) (xs:List Item):smallF (rdP ks xs):=fun f hf=>by
 obtain ⟨i,_,rfl⟩:=List.mem_map.1 hf
 exact qlx _ _
theorem qnq (k:Kd) (x:Item):(fieldP k x).l.length≤x.ks.length:=by
 unfold fieldP
 split
 ·show (x.ks.map _).length≤_;rw [List.length_map];exact Nat.le_refl _
 ·exact Nat.zero_le _
theorem rdP_kids (ks:List Kd) (xs:List Item):∀ f∈rdP ks xs,f.l.length≤countsP xs:=fun f hf=>by
 obtain ⟨i,hi,rfl⟩:=List.mem_map.1 hf
 have hi:=List.mem_range.1 hi
 have h1:=qnq (ks.getD i noKb) (xs.getD i zeroI)
 have hm:xs[i]? = some (xs.getD i zeroI):=by rw [List.getD_eq_getElem?_getD,List.getElem?_eq_getElem hi];rfl
 have h2:=qbg (x:=listIt xs) hm
 have h5:countP (listIt xs)=1+countsP xs:=rfl
 have h3:=qbn (xs.getD i zeroI).ks
 have h4:countP (xs.getD i zeroI)=1+countsP (xs.getD i zeroI).ks:=by cases xs.getD i zeroI;rfl
 omega
/-- what is written of them, and what that says -/
def rwP (ks:List Kd) (fs:List Fd):Bytes×Nat:=if fs.length≤1000 then fwP ks fs else ([],1)
theorem rd_said {ks:List Kd} {s:Bytes} {x:Item} (hk:ks.length≤20) (hp:pureP x=true) (e:s=writeP x) (hs:s.length≤4000) :
  (rwP ks (rdP ks x.ks)=(s,0)→FrSaid ks s (rdP ks x.ks) 0)∧(rwP ks (rdP ks x.ks)≠(s,0)→FrSaid ks s [] 4):=by
 refine ⟨fun h=>?_,fun h=>.inr ⟨by decide,rfl,fun hs m hm hn e2=>h ?_⟩⟩
 ·unfold rwP at h
  split at h
  ·unfold fwP at h
   split at h
   ·rename_i hf
    refine .inl ⟨rfl,hf,qk2 _ _,?_,hs⟩
    unfold encR at h
    split at h
    ·injection h with _ h2;cases h2
    ·split at h
     ·injection h with _ h2;cases h2
     ·split at h
      ·injection h with _ h2;cases h2
      ·injection h with h1 _;exact h1.symm
   ·injection h with _ h2;cases h2
  ·injection h with _ h2;cases h2
 ·have hu:=qfd hk hp e hs hm hn e2
  unfold unTop at hu
  split at hu
  ·have hr:=rdP_un hu
   rw [hr]
   have hl:=qen hm
   unfold rwP fwP
   rw [if_pos (by omega),if_pos hm,qel hk hm hn (by rw [← e2];exact hs),← e2]
  ·cases hu
theorem qpt (ks:List Kd) (hf:OkForm ks) (hl:(formP ks).length≤40) (hk:ks.length≤20) (fs:List Fd) (hn:smallF fs) (hfl:fs.length≤100000) (hll:∀ f∈fs,f.l.length≤100000) (A:Option Addr) (c:Nat) (w:World) (hv:FdsV Any w fs A c) :
  Calls Tryz.prog 51 #[.string (bs (formP ks)),.slice A fs.length c] w fun e w'=>e=.returned (.tuple #[.string (bs (rwP ks fs).1),.int .i64 (rwP ks fs).2])∧Below w.heap.size w w':=by
 unfold rwP
 by_cases h:fs.length≤1000
 ·rw [if_pos h];exact qgb ks hf hl hk fs hn h hll A c w hv
 ·rw [if_neg h];exact qqu ks hf hl fs (by omega) hfl A c w hv
theorem qve (ks:List Kd) (hf:OkForm ks) (hl:(formP ks).length≤40) (hk:ks.length≤20) (s:Bytes) (w:World) :
  Calls Tryz.prog 47 #[.string (bs (formP ks)),.string (bs s)] w (FrPost ks s w):=by
 have HK:=qh (qcw ks hf hl w)
 have HOF:=qh hf
 obtain ⟨F,hF⟩:∃ F,formP ks=F:=⟨_,rfl⟩
 have HWR:=qh (fun fs hn hfl hll A c W hv=>qpt ks hf hl hk fs hn hfl hll A c W hv)
 have hkk:=HK.out
 have hwr:=HWR.out
 rw [hF] at hkk hwr ⊢
 have HK:=qh hkk
 have HWR:=qh hwr
 have HKL:=qh hk
 have hkI:(ks.length:Int)≤20:=by omega
 clear hkk hwr hF hf hl
 go_enter Tryz.func47,Tryz.ntmps47
 go_wp2_with fail
 refine HK.out.mono ?_
 rintro e w1 ⟨Ak,ck,rfl,hkv,hb1⟩
 have HKV:=qh (Rep.any hkv)
 have HB1:=qh hb1
 clear hkv hb1 HK
 go_wp2_with fail
 refine (qj3 s _).mono ?_
 rintro e w2 ⟨hb2,x,A,c,no,rfl,hxv,hsaid⟩
 have HKV2:=qh (Rep.keep HKV.out hb2)
 have HB2:=qh (qab HB1.out HB1.out.size hb2)
 have HXV:=qh (hxv.mono (S':=Any) fun b _ _=>⟨trivial,rfl⟩)
 have HS:=qh hsaid
 clear hb2 hxv hsaid HKV HB1
 by_cases h0:no=0
 case neg =>
  have h0I:((no:Int) == 0)=false:=by rw [beq_eq_false_iff_ne];omega
  have h0I2:((no:Int) != 0)=true:=by rw [bne,h0I];rfl
  go_wp2_with fail
  go_ret2
  exact qdt no (by omega) (qjo hk HS.out (by omega)) (HB2.out.alloc HB2.out.size _)
 subst h0
 obtain ⟨hs4,hp,he⟩:s.length≤4000∧pureP x=true∧s=writeP x:=by
  rcases HS.out with ⟨_,h,_⟩ | ⟨h1,_,h2,h3,_⟩ | ⟨_,h,_⟩ | ⟨_,h,_⟩
  ·omega
  ·exact ⟨h1,h2,h3⟩
  ·omega
  ·omega
 have hcx:=qes x hp
 rw [← he] at hcx
 have hkx:=qbn x.ks
 have hcx1:countP x=1+countsP x.ks:=by cases x;rfl
 have HC:Hid (countsP x.ks≤4000∧countP x≤4001):=qh (by omega)
 have hxk:(x.ks.length:Int)≤4000:=by omega
 obtain ⟨hyes,hno⟩:=rd_said (ks:=ks) hk hp he hs4
 have HYES:=qh hyes
 have HNO:=qh hno
 have HX2:=qh (heap_alloc_new w2 (.cells #[.bool x.l,.string (bs x.b),.slice A x.ks.length c] 53))
 have hO:=World.ownsRow_lit (base:=w2.heap.size) (e:=81) (size:=3) (w2.alloc (.cells #[.bool x.l,.string (bs x.b),.slice A x.ks.length c] 53)) #[] 0 (by simp) (by simp [maxLen]) rfl
 rw [show (w2.alloc (.cells #[.bool x.l,.string (bs x.b),.slice A x.ks.length c] 53)).heap.size=w2.heap.size+1 by simp] at hO
 have HO:=qh hO
 have hBa:Below w2.heap.size w2 ((w2.alloc (.cells #[.bool x.l,.string (bs x.b),.slice A x.ks.length c] 53)).alloc (.cells #[] 81)):=((Below.refl _ _).alloc qn _).alloc (by simp) _
 have HBa:=qh hBa
 have hSz:w2.heap.size≤((w2.alloc (.cells #[.bool x.l,.string (bs x.b),.slice A x.ks.length c] 53)).alloc (.cells #[] 81)).heap.size:=hBa.size
 clear hp he hcx hkx hcx1 hs4 hyes hno hO hBa HS hk
 go_wp2_with fail
 generalize (w2.alloc (.cells #[.bool x.l,.string (bs x.b),.slice A x.ks.length c] 53)).alloc (.cells #[] 81)=W0 at HO HBa hSz ⊢
 go_loopw [10,35] (fun u v wr=>∃ (i:Nat) (ys:List Value),v=.int .i64 (i:Int)∧i≤x.ks.length∧wr.ownsRow w2.heap.size 81 3 u i ys∧RepN (RowS w2.heap.size u) wr 3 (fdsD ((rdP ks x.ks).take i)) ys∧Below w2.heap.size w2 wr∧w2.heap.size≤wr.heap.size) (fun _ v _=>x.ks.length - (intOf v).toNat)
 case atStart=>exact ⟨0,[],rfl,Nat.zero_le _,HO.out,.nil,HBa.out,hSz⟩
 case round =>
  clear HO HBa hSz HX2
  obtain ⟨i,ys,rfl,hi,hown,hrep,hB,hsz⟩:=hrel
  obtain ⟨A',c',rfl⟩:=qau hown
  by_cases hlt:i < x.ks.length
  ·have hltI:(i:Int) < x.ks.length:=by omega
   obtain ⟨y,hy⟩:=qal hlt
   obtain ⟨g,o,A2,c2,rfl,_,hyv,q0,q1,q2⟩:=ItemV.at_ (HXV.out.keep hB) hy
   have hyk:y.ks.length≤100000:=by
    have h1:=qbg hy
    have h2:=qbn y.ks
    have h3:countP y=1+countsP y.ks:=by cases y;rfl
    have:=HC.out
    omega
   have hfi:=rdP_get (ks:=ks) hy
   by_cases hkl:i < ks.length
   ·have hklI:(i:Int) < ks.length:=by omega
    obtain ⟨kd,hki⟩:=qal hkl
    have hkd:=HOF.out kd (List.mem_of_getElem? hki)
    have hgd:ks.getD i noKb=kd:=by rw [List.getD_eq_getElem?_getD,hki];rfl
    rw [hgd] at hfi
    obtain ⟨gk,ok,rfl,_,ck0⟩:=StrV.at_ (StrV.keep HKV2.out hB) (i:=i) (p:=kd.txt) (by rw [List.getElem?_map,hki];rfl)
    have ck1:=ca ck0 (.cells #[.bool y.l,.string (bs y.b),.slice A2 y.ks.length c2] 53)
    clear hki hgd
    have HIY:=qh (hyv.keep ((Below.refl wr.heap.size wr).alloc qn (.cells #[.bool y.l,.string (bs y.b),.slice A2 y.ks.length c2] 53)))
    have hC:=qlh kd hkd y hyk A2 c2 (wr.alloc (.cells #[.bool y.l,.string (bs y.b),.slice A2 y.ks.length c2] 53)) HIY.out
    obtain ⟨f,hf⟩:∃ f,fieldP kd y=f:=⟨_,rfl⟩
    rw [hf] at hC
    have HC:=qh hC
    have HT:Hid ((rdP ks x.ks).take (i+1)=(rdP ks x.ks).take i ++ [f]):=qh (by rw [← hf];exact qbe hfi)
    have HO:=qh hown
    have HP:=qh hrep
    have HB:=qh hB
    clear hyv hC hf hown hrep hB hfi hy
    go_wp2_with fail
    refine HC.out.mono ?_
    rintro e w4 ⟨Af,cf,rfl,hlf,hb4⟩
    have hba:Below wr.heap.size wr w4:=qab ((Below.refl _ _).alloc qn (.cells #[.bool y.l,.string (bs y.b),.slice A2 y.ks.length c2] 53)) (by simp) hb4
    have HB4:=qh (qab HB.out HB.out.size hba)
    have HO4:=qh (qax HO.out hba)
    have HP4:=qh (RepN.keep HP.out hba)
    have hw4:=Nat.le_trans hsz hba.size
    have hLF:LfsV (RowS w2.heap.size (.slice A' i c')) w4 f.l Af cf:=Rep.mono hlf fun b _ hb=>⟨⟨by have hb:(wr.alloc (.cells #[.bool y.l,.string (bs y.b),.slice A2 y.ks.length c2] 53)).heap.size≤b:=hb;simp at hb;omega,fun e=>by have hb:(wr.alloc (.cells #[.bool y.l,.string (bs y.b),.slice A2 y.ks.length c2] 53)).heap.size≤b:=hb;simp at hb;have:=(HO.out.lt _ e).2;omega⟩,rfl⟩
    have HR4:=qh (RepN.snoc (qix hLF) rfl HP4.out)
    clear hb4 hba HB HO HP hlf hLF HC
    go_wp2_with (at_builtin;refine qaw qck rfl rfl w2.heap.size (HO4.out.alloc _) rfl (m:=1) [.int .u64 (f.n:Int),.string (bs f.b),.slice Af f.l.length cf] rfl rfl (qbi _ _ _) ?_ ?_ ?_ ?_ ?_;(intro u hu;simp at hu;rcases hu with rfl | rfl | rfl <;> rfl);(simp only [maxLen];omega);omega;(simp;omega);intro v1 w8 hown1 hg1 hat1;obtain ⟨A3,c3,rfl⟩:=qau hown1)
    have hba:Below w4.heap.size w4 (w4.alloc (.cells #[.int .u64 (f.n:Int),.string (bs f.b),.slice Af f.l.length cf] 81)):=(Below.refl _ _).alloc qn _
    have hB8:=qay (qab HB4.out HB4.out.size hba) (qax HO4.out hba) hg1 (by simp;omega) qn
    have hR8:=qci (RepN.keep HR4.out hba) hg1 hat1
    have hs8:w2.heap.size≤w8.heap.size:=Nat.le_trans hw4 (Nat.le_trans hba.size hg1.size)
    have HR8:Hid (RepN (RowS w2.heap.size (.slice A3 (i+1) c3)) w8 3 (fdsD ((rdP ks x.ks).take (i+1))) (ys ++ [.int .u64 (f.n:Int),.string (bs f.b),.slice Af f.l.length cf])):=qh (by rw [HT.out,qca];exact hR8)
    go_roundw
    case rel=>exact ⟨i+1,_,by go_num,hlt,hown1,HR8.out,hB8,hs8⟩
    case measure=>simp [intOf];omega
   ·have hklI:¬ (i:Int) < ks.length:=by omega
    have hgd:ks.getD i noKb=noKb:=by rw [List.getD_eq_getElem?_getD,List.getElem?_eq_none (by omega)];rfl
    rw [hgd] at hfi
    have hkd:okC noKb.c:=.inr (.inr (.inr (.inr rfl)))
    clear hgd
    obtain ⟨kd,hkde⟩:∃ kd,noKb=kd:=⟨_,rfl⟩
    have htx:kd.txt = [98]:=by rw [← hkde];rfl
    rw [hkde] at hfi hkd
    clear hkde
    have HIY:=qh (hyv.keep ((Below.refl wr.heap.size wr).alloc qn (.cells #[.bool y.l,.string (bs y.b),.slice A2 y.ks.length c2] 53)))
    have hC:=qlh kd hkd y hyk A2 c2 (wr.alloc (.cells #[.bool y.l,.string (bs y.b),.slice A2 y.ks.length c2] 53)) HIY.out
    obtain ⟨f,hf⟩:∃ f,fieldP kd y=f:=⟨_,rfl⟩
    rw [hf,htx] at hC
    have HC:=qh hC
    have HT:Hid ((rdP ks x.ks).take (i+1)=(rdP ks x.ks).take i ++ [f]):=qh (by rw [← hf];exact qbe hfi)
    have HO:=qh hown
    have HP:=qh hrep
    have HB:=qh hB
    clear hyv hC hf hown hrep hB hfi hy
    go_wp2_with fail
    refine HC.out.mono ?_
    rintro e w4 ⟨Af,cf,rfl,hlf,hb4⟩
    have hba:Below wr.heap.size wr w4:=qab ((Below.refl _ _).alloc qn (.cells #[.bool y.l,.string (bs y.b),.slice A2 y.ks.length c2] 53)) (by simp) hb4
    have HB4:=qh (qab HB.out HB.out.size hba)
    have HO4:=qh (qax HO.out hba)
    have HP4:=qh (RepN.keep HP.out hba)
    have hw4:=Nat.le_trans hsz hba.size
    have hLF:LfsV (RowS w2.heap.size (.slice A' i c')) w4 f.l Af cf:=Rep.mono hlf fun b _ hb=>⟨⟨by have hb:(wr.alloc (.cells #[.bool y.l,.string (bs y.b),.slice A2 y.ks.length c2] 53)).heap.size≤b:=hb;simp at hb;omega,fun e=>by have hb:(wr.alloc (.cells #[.bool y.l,.string (bs y.b),.slice A2 y.ks.length c2] 53)).heap.size≤b:=hb;simp at hb;have:=(HO.out.lt _ e).2;omega⟩,rfl⟩
    have HR4:=qh (RepN.snoc (qix hLF) rfl HP4.out)
    clear hb4 hba HB HO HP hlf hLF HC
    go_wp2_with (at_builtin;refine qaw qck rfl rfl w2.heap.size (HO4.out.alloc _) rfl (m:=1) [.int .u64 (f.n:Int),.string (bs f.b),.slice Af f.l.length cf] rfl rfl (qbi _ _ _) ?_ ?_ ?_ ?_ ?_;(intro u hu;simp at hu;rcases hu with rfl | rfl | rfl <;> rfl);(simp only [maxLen];omega);omega;(simp;omega);intro v1 w8 hown1 hg1 hat1;obtain ⟨A3,c3,rfl⟩:=qau hown1)
    have hba:Below w4.heap.size w4 (w4.alloc (.cells #[.int .u64 (f.n:Int),.string (bs f.b),.slice Af f.l.length cf] 81)):=(Below.refl _ _).alloc qn _
    have hB8:=qay (qab HB4.out HB4.out.size hba) (qax HO4.out hba) hg1 (by simp;omega) qn
    have hR8:=qci (RepN.keep HR4.out hba) hg1 hat1
    have hs8:w2.heap.size≤w8.heap.size:=Nat.le_trans hw4 (Nat.le_trans hba.size hg1.size)
    have HR8:Hid (RepN (RowS w2.heap.size (.slice A3 (i+1) c3)) w8 3 (fdsD ((rdP ks x.ks).take (i+1))) (ys ++ [.int .u64 (f.n:Int),.string (bs f.b),.slice Af f.l.length cf])):=qh (by rw [HT.out,qca];exact hR8)
    go_roundw
    case rel=>exact ⟨i+1,_,by go_num,hlt,hown1,HR8.out,hB8,hs8⟩
    case measure=>simp [intOf];omega
  ·obtain rfl:i=x.ks.length:=by omega
   rw [List.take_of_length_le (by rw [qsv];omega)] at hrep
   obtain ⟨fs,hfs⟩:∃ fs,rdP ks x.ks=fs:=⟨_,rfl⟩
   have hsm:=qk2 ks x.ks
   have hkd:=rdP_kids ks x.ks
   have hln:=qsv ks x.ks
   have hyes:=HYES.out
   have hno:=HNO.out
   rw [hfs] at hsm hkd hln hrep hyes hno
   have hfv:FdsV (RowS w2.heap.size (.slice A' x.ks.length c')) wr fs A' c'∨True:=.inr trivial
   have hfv2:FdsV (From w2.heap.size) wr fs A' c':=by
    have:=qb2 (S:=From w2.heap.size) hown (hrep.mono fun b _ hb=>⟨hb.1,rfl⟩) (by rw [fdsD_len,hln]) (fun g h1 _=>h1)
    unfold FdsV
    rw [hln]
    exact this
   obtain ⟨t,m,htm⟩:∃ t m,rwP ks fs=(t,m):=⟨_,_,rfl⟩
   have hW:=HWR.out fs hsm (by omega) (fun f hf=>by have:=hkd f hf;have:=HC.out;omega) A' c' wr (Rep.any hfv2)
   rw [htm,hln] at hW
   rw [htm] at hyes hno
   have HW:=qh hW
   have HYS:=qh hyes
   have HNS:=qh hno
   have HFV:=qh hfv2
   have HB:=qh (HB2.out.trans (hB.mono HB2.out.size))
   have HLN:=qh hln
   clear hfs hsm hkd hyes hno hfv hfv2 hW htm hown hrep hB hln
   go_wp2_with fail
   refine HW.out.mono ?_
   rintro e w5 ⟨rfl,hb5⟩
   have HB5:=qh (qab HB.out HB.out.size hb5)
   have HFV5:=qh (Rep.keep HFV.out hb5)
   have hw2:w.heap.size≤w2.heap.size:=HB2.out.size
   clear hb5 HB HFV HW
   by_cases hm:m=0
   ·subst hm
    by_cases hts:t=s
    ·subst hts
     have HT:=qh (HYS.out rfl)
     clear HYS HNS
     go_wp2_with fail
     go_ret2
     exact ⟨fs,A',c',0,by rw [HLN.out];rfl,Rep.mono HFV5.out fun b _ hb=>⟨Nat.le_trans hw2 hb,rfl⟩,HT.out,HB5.out⟩
    ·skip
     have HT:=qh (HNS.out (fun h=>hts (by injection h)))
     have hts':(t == s)=false:=by rw [beq_eq_false_iff_ne];exact hts
     go_wp2_with fail
     go_ret2
     exact ⟨[],none,0,4,rfl,Rep.nil_slice 3,HT.out,HB5.out⟩
   ·have hmI:((m:Int) == 0)=false:=by rw [beq_eq_false_iff_ne];omega
    have hmI2:((m:Int) != 0)=true:=by rw [bne,hmI];rfl
    have HT:=qh (HNS.out (fun h=>hm (by injection h)))
    clear hm
    go_wp2_with fail
    go_ret2
    exact ⟨[],none,0,4,rfl,Rep.nil_slice 3,HT.out,HB5.out⟩
/- The walk of the reference's Read of a transfer. -/
theorem rread_tx (s:Bytes) (w:World):Calls Tryz.prog 47 #[.string ⟨#[97,110,110,115]⟩,.string (bs s)] w (FrPost trK s w):=qve trK qn9 (by decide) (by decide) s w
theorem qqv (s:Bytes) (w:World):Calls Tryz.prog 12 #[.string (bs s)] w (TrPost s w):=by
 have h0:=heap_alloc_new w (.cells zqT 28)
 have HR:=qh h0
 have HB:=qh ((Below.refl w.heap.size w).alloc qn (.cells zqT 28))
 clear h0
 go_enter Tryz.func12,Tryz.ntmps12
 go_wp2_with fail
 refine (rread_tx s _).mono ?_
 rintro e w1 ⟨l,A,c,no,rfl,hlv,hsaid,hb1⟩
 have HR1:=qh ((hb1.block _ (qg HR.out)).trans HR.out)
 have HB1:=qh (qab HB.out HB.out.size hb1)
 have HS:=qh hsaid
 have HL:=qh (Rep.any hlv)
 clear hb1 hlv hsaid HR HB
 by_cases hno:no=0
 case neg =>
  have h0I:((no:Int) == 0)=false:=by rw [beq_eq_false_iff_ne];omega
  have h0I2:((no:Int) != 0)=true:=by rw [bne,h0I];rfl
  have HT:=qh (qi1 HS.out (by omega))
  clear HS hno
  go_wp2_with (refine wpList_store_row rfl _ _ _ rfl w.heap.size zqT rfl rfl _ _ HR1.out qdc rfl qoi ?_)
  exact bodyPost_ret (v:=.tuple #[.agg zqT,.int .i64 4]) (qah rfl _ _ w.heap.size _ _ _ _ rfl (setRow_heap _ _ _ _ _ _ HR1.out) _ rfl Tryz.underlying28 rfl qdc) rfl (qdx HT.out (qak HB1.out qn _))
 subst hno
 obtain ⟨hl4,hg65,hyes,hnot⟩:=qh2 HS.out
 obtain ⟨f0,e0⟩:=qal (show 0 < l.length by omega)
 obtain ⟨f1,e1⟩:=qal (show 1 < l.length by omega)
 obtain ⟨f2,e2⟩:=qal (show 2 < l.length by omega)
 obtain ⟨f3,e3⟩:=qal (show 3 < l.length by omega)
 obtain ⟨g,o,A0,c0,rfl,_,_,k0⟩:=qdd HL.out e0
 obtain ⟨g',o',A1,c1,hA1,_,_,k1⟩:=qdd HL.out e1
 injection hA1 with hA1
 injection hA1 with hg1 ho1
 subst hg1;subst ho1
 obtain ⟨g',o',A2,c2,hA2,_,_,k2⟩:=qdd HL.out e2
 injection hA2 with hA2
 injection hA2 with hg2 ho2
 subst hg2;subst ho2
 obtain ⟨g',o',A3,c3,hA3,_,_,k3⟩:=qdd HL.out e3
 injection hA3 with hA3
 injection hA3 with hg3 ho3
 subst hg3;subst ho3
 have m0:=k0 1 (.string (bs f0.b)) rfl
 have m1:=k1 0 (.int .u64 (f1.n:Int)) rfl
 have m2:=k2 0 (.int .u64 (f2.n:Int)) rfl
 have m3:=k3 1 (.string (bs f3.b)) rfl
 simp only [Nat.zero_mul,Nat.add_zero,Nat.one_mul,Nat.reduceMul] at m0 m1 m2 m3
 have hd0:l.getD 0 ⟨0,[],[]⟩=f0:=qbc e0
 have hd1:l.getD 1 ⟨0,[],[]⟩=f1:=qbc e1
 have hd2:l.getD 2 ⟨0,[],[]⟩=f2:=qbc e2
 have hd3:l.getD 3 ⟨0,[],[]⟩=f3:=qbc e3
 have hof:trOf l=⟨f0.b,f1.n,f2.n,sgOf f3.b⟩:=by unfold trOf;rw [hd0,hd1,hd2,hd3]
 rw [hof,hd3] at hyes
 rw [hd3] at hnot hg65
 have HY:=qh hyes
 have HN:=qh hnot
 have HG:=qh hg65
 rw [hl4]
 have m3':w1.cell? ⟨g,o+10,none⟩=some (.string (bs f3.b)):=m3
 have hpp:sfromP f3.b=if okSg (sgOf f3.b)=true then (sgOf f3.b,0) else (zeroSg,4):=by
  unfold sfromP
  cases hk:okSg (sgOf f3.b) with
  | true=>rw [if_pos ⟨HG.out,rfl⟩,if_pos rfl]
  | false=>rw [if_neg (fun h=>by cases h.2),if_neg (by decide)]
 obtain ⟨z,nz,hz⟩:∃ z nz,sfromP f3.b=(z,nz):=⟨_,_,rfl⟩
 have hF:=fun W:World=>qqm f3.b W
 rw [hz] at hpp hF
 simp only [] at hF
 have HF:=qh hF
 have HPP:=qh hpp
 have hm0':w1.cell? ⟨g,o+1,none⟩=some (.string (bs f0.b)):=by simpa using m0
 have hgl:=qap m0
 clear hyes hnot hg65 e0 e1 e2 e3 k0 k1 k2 k3 hd0 hd1 hd2 hd3 hof HS HL hl4 hF hpp hz m0
 have HM0:=qh hm0'
 have HM1:=qh m1
 have HM2:=qh m2
 clear hm0' m1 m2
 go_wp2_with fail
 refine (HF.out _).mono ?_
 rintro e w3 ⟨rfl,hb3⟩
 have hY3:=heap_alloc_new w3 (.cells zqS 26)
 have hba:Below w1.heap.size w1 ((w3.alloc (.cells zqS 26)).setRow w3.heap.size (sgR z)):=qak (hb3.alloc hb3.size (.cells zqS 26)) hb3.size (sgR z)
 have hY4:=setRow_heap (w3.alloc (.cells zqS 26)) w3.heap.size _ (sgR z) _ _ hY3
 have hR4:=(hba.block _ (qg HR1.out)).trans HR1.out
 have hB4:=qab HB1.out HB1.out.size hba
 have hG4:=hba.block g hgl
 have HY3:=qh hY3
 have hY4l:=(qg HR1.out)
 have hs31:w1.heap.size≤w3.heap.size:=hb3.size
 clear hb3 hba hY3 m3 m3'
 cases hk:okSg (sgOf f3.b) with
 | false =>
  have hp:=HPP.out
  rw [hk,if_neg (by decide)] at hp
  injection hp with hp1 hp2
  subst hp2
  have HT:=qh (HN.out hk)
  have HP1:=qh hp1
  clear hk hp1
  go_wp2_with (first | (refine wpList_store_row rfl _ _ _ rfl w3.heap.size (sgR z) rfl rfl _ _ HY3.out qbv rfl (one9 _ _ _ _ _ _ _ _ _) ?_;generalize (w3.alloc (.cells zqS 26)).setRow w3.heap.size (sgR z)=W4 at hY4 hR4 hB4 hG4 ⊢;have HR4:=qh hR4;have HB4:=qh hB4;clear hY4 hR4 hB4 hG4) | (refine wpList_store_row rfl _ _ _ rfl w.heap.size zqT rfl rfl _ _ HR4.out qdc rfl qoi ?_))
  exact bodyPost_ret (v:=.tuple #[.agg zqT,.int .i64 4]) (qah rfl _ _ w.heap.size _ _ _ _ rfl (setRow_heap _ _ _ _ _ _ HR4.out) _ rfl Tryz.underlying28 rfl qdc) rfl (qdx HT.out (qak HB4.out qn _))
 | true =>
  have hp:=HPP.out
  rw [hk,if_pos rfl] at hp
  injection hp with hp1 hp2
  subst hp2
  have HT:=qh (HY.out hk)
  have HP1:=qh hp1
  clear hk hp1
  go_wp2_with (first | (refine wpList_store_row rfl _ _ _ rfl w3.heap.size (sgR z) rfl rfl _ _ HY3.out qbv rfl (one9 _ _ _ _ _ _ _ _ _) ?_;generalize (w3.alloc (.cells zqS 26)).setRow w3.heap.size (sgR z)=W4 at hY4 hR4 hB4 hG4 ⊢;have HY4:=qh hY4;have HR4:=qh hR4;have HB4:=qh hB4;have HG4:=qh hG4;clear hY4 hR4 hB4 hG4))
  obtain ⟨Y,hYe⟩:∃ Y,w3.heap.size=Y:=⟨_,rfl⟩
  have hY:=HY4.out
  rw [hYe] at hY ⊢
  have hY:W4.drew.heap[Y]? = some (.cells (sgR z) 26 (0,0)):=hY
  have hR:W4.drew.heap[w.heap.size]? = some (.cells zqT 28 (0,0)):=HR4.out
  have hG:W4.drew.heap[g]? = w1.heap[g]?:=HG4.out
  have hB:=HB4.out.drew
  have m0:=HM0.out
  have m1:=HM1.out
  have m2:=HM2.out
  clear HY4 HR4 HB4 HG4 HY3 hYe
  refine qao [(14,fun w'=>w'.heap[g]? = w1.heap[g]? ∧ w'.heap[Y]? = some (.cells (sgR z) 26 (0,0)))] (by kernel_rfl) ?_
  generalize W4.drew=WD at hG hY hR hB ⊢
  refine R_p (i:=0) (v:=.slice (some ⟨g,o,none⟩) 4 c) (Mh ⟨hG,hY⟩ Mn) ?_
  refine R_p (i:=4) (v:=.slice (some ⟨g,o,none⟩) 4 c) (Mh ⟨hG,hY⟩ Mn) ?_
  refine R_p (i:=8) (v:=.slice (some ⟨g,o,none⟩) 4 c) (Mh ⟨hG,hY⟩ Mn) ?_
  refine R_l (i:=12) (v:=.agg (sgR z)) 14 _ List.mem_cons_self rfl (qa8 rfl rfl rfl (fun w' hS=>hS.2) Tryz.underlying26 rfl qbv) (Mh ⟨hG,hY⟩ Mn) ?_
  refine R_p (i:=1) (v:=.pointer (some ⟨g,o,none⟩)) (Mh ⟨hG,hY⟩ Mn) ?_
  refine R_p (i:=5) (v:=.pointer (some ⟨g,o+3,none⟩)) (Mh ⟨hG,hY⟩ Mn) ?_
  refine R_p (i:=9) (v:=.pointer (some ⟨g,o+6,none⟩)) (Mh ⟨hG,hY⟩ Mn) ?_
  refine R_p (i:=2) (v:=.pointer (some ⟨g,o+1,none⟩)) (Mh ⟨hG,hY⟩ Mn) ?_
  refine R_p (i:=6) (v:=.pointer (some ⟨g,o+3,none⟩)) (Mh ⟨hG,hY⟩ Mn) ?_
  refine R_p (i:=10) (v:=.pointer (some ⟨g,o+6,none⟩)) (Mh ⟨hG,hY⟩ Mn) ?_
  refine R_l (i:=3) (v:=.string (bs f0.b)) 14 _ List.mem_cons_self rfl (qae rfl rfl rfl (fun w' hS=>(World.cell?_of_block (a:=⟨g,o+1,none⟩) hS.1).trans m0) Tryz.underlying9 rfl) (Mh ⟨hG,hY⟩ Mn) ?_
  refine R_l (i:=7) (v:=.int .u64 (f1.n:Int)) 14 _ List.mem_cons_self rfl (qae rfl rfl rfl (fun w' hS=>(World.cell?_of_block (a:=⟨g,o+3,none⟩) hS.1).trans m1) Tryz.underlying22 rfl) (Mh ⟨hG,hY⟩ Mn) ?_
  refine R_l (i:=11) (v:=.int .u64 (f2.n:Int)) 14 _ List.mem_cons_self rfl (qae rfl rfl rfl (fun w' hS=>(World.cell?_of_block (a:=⟨g,o+6,none⟩) hS.1).trans m2) Tryz.underlying22 rfl) (Mh ⟨hG,hY⟩ Mn) ?_
  refine R_p (i:=13) (v:=.agg #[.string (bs f0.b),.int .u64 (f1.n:Int),.int .u64 (f2.n:Int),.int .u64 (z.r.a:Int),.int .u64 (z.r.b:Int),.int .u64 (z.r.c:Int),.int .u64 (z.r.d:Int),.int .u64 (z.s.a:Int),.int .u64 (z.s.b:Int),.int .u64 (z.s.c:Int),.int .u64 (z.s.d:Int),.int .i64 z.v]) (Mh ⟨hG,hY⟩ Mn) ?_
  refine R_now 14 fun K hK=>?_
  refine qdo (by rfl) ?_
  refine wp_store_row _ _ _ rfl w.heap.size #[.string (bs f0.b),.int .u64 (f1.n:Int),.int .u64 (f2.n:Int),.int .u64 (z.r.a:Int),.int .u64 (z.r.b:Int),.int .u64 (z.r.c:Int),.int .u64 (z.r.d:Int),.int .u64 (z.s.a:Int),.int .u64 (z.s.b:Int),.int .u64 (z.s.c:Int),.int .u64 (z.s.d:Int),.int .i64 z.v] rfl rfl _ zqT hR qdc rfl (one12 _ _ _ _ _ _ _ _ _ _ _ _) ?_
  have hRn:=setRow_heap WD w.heap.size _ #[.string (bs f0.b),.int .u64 (f1.n:Int),.int .u64 (f2.n:Int),.int .u64 (z.r.a:Int),.int .u64 (z.r.b:Int),.int .u64 (z.r.c:Int),.int .u64 (z.r.d:Int),.int .u64 (z.s.a:Int),.int .u64 (z.s.b:Int),.int .u64 (z.s.c:Int),.int .u64 (z.s.d:Int),.int .i64 z.v] _ _ hR
  have hBn:=qak hB (Nat.le_refl w.heap.size) #[.string (bs f0.b),.int .u64 (f1.n:Int),.int .u64 (f2.n:Int),.int .u64 (z.r.a:Int),.int .u64 (z.r.b:Int),.int .u64 (z.r.c:Int),.int .u64 (z.r.d:Int),.int .u64 (z.s.a:Int),.int .u64 (z.s.b:Int),.int .u64 (z.s.c:Int),.int .u64 (z.s.d:Int),.int .i64 z.v]
  generalize WD.setRow w.heap.size #[.string (bs f0.b),.int .u64 (f1.n:Int),.int .u64 (f2.n:Int),.int .u64 (z.r.a:Int),.int .u64 (z.r.b:Int),.int .u64 (z.r.c:Int),.int .u64 (z.r.d:Int),.int .u64 (z.s.a:Int),.int .u64 (z.s.b:Int),.int .u64 (z.s.c:Int),.int .u64 (z.s.d:Int),.int .i64 z.v]=w14 at hRn hBn ⊢
  clear hR hB hG hY
  refine hK.out _ _ (Meets.past (by kernel_rfl) Mn) (fun hMeets=>?_)
  clear hK K hMeets
  refine lay_R ?_
  refine R_p (i:=15) (v:=.int .i64 0) (Meets.past (by kernel_rfl) Mn) ?_
  refine qa7 (by kernel_rfl) ?_ _
  have HR:=qh hRn
  have HB:=qh hBn
  clear hRn hBn m0 m1 m2
  go_wp2_with fail
  refine bodyPost_ret (v:=.tuple #[.agg #[.string (bs f0.b),.int .u64 (f1.n:Int),.int .u64 (f2.n:Int),.int .u64 (z.r.a:Int),.int .u64 (z.r.b:Int),.int .u64 (z.r.c:Int),.int .u64 (z.r.d:Int),.int .u64 (z.s.a:Int),.int .u64 (z.s.b:Int),.int .u64 (z.s.c:Int),.int .u64 (z.s.d:Int),.int .i64 z.v],.int .i64 0]) (qah rfl _ _ w.heap.size _ _ _ _ rfl HR.out _ rfl Tryz.underlying28 rfl qdc) rfl ?_
  exact ⟨⟨f0.b,f1.n,f2.n,z⟩,0,rfl,by rw [HP1.out];exact HT.out,HB.out⟩
end Go.Proofs.YteoednifdpdbnaaGreat
