/- The walk of the reference's item of a list of fields. -/
import Derived.Test.YteoednifdpdbnaaGreatZ28
import Derived.Test.YteoednifdpdbnaaGreatZ11
namespace Go.Proofs.YteoednifdpdbnaaGreat
set_option linter.unusedVariables false
set_option linter.unusedSimpArgs false
open Go.RowKit
set_option maxHeartbeats 4000000
set_option maxRecDepth 100000
theorem qpp (kc:UInt8) (hkc:okC kc) (f:Fd) (hs:∀ x∈f.l,x.1 < 18446744073709551616) (hl:f.l.length≤100000) (A:Option Addr) (c:Nat) (w:World) (hv:LfsV Any w f.l A c) :
  Calls Tryz.prog 106 #[.string (bs [42,kc]),.agg (fdC f A c).toArray] w (ItPost (itemF ⟨kc,true⟩ f) w):=by
 obtain ⟨n,b,l⟩:=f
 simp only [] at hs hl hv
 obtain ⟨ni,hni⟩:∃ ni:Int,(n:Int)=ni:=⟨_,rfl⟩
 have hfd:(fdC ⟨n,b,l⟩ A c).toArray=#[.int .u64 ni,.string (bs b),.slice A l.length c]:=by rw [← hni];rfl
 rw [hfd,show itemF ⟨kc,true⟩ ⟨n,b,l⟩=listIt (l.map (lfI kc)) from rfl]
 have hlI:(l.length:Int)≤100000:=by omega
 obtain ⟨W,hW⟩:∃ W,W=((w.alloc (.cells #[.int .u64 ni,.string (bs b),.slice A l.length c] 81)).alloc (.cells #[.bool false,.string ⟨#[]⟩,.slice none 0 0] 53)).alloc (.cells #[.bool true,.string ⟨#[]⟩,.slice none 0 0] 53):=⟨_,rfl⟩
 obtain ⟨X,hXe⟩:∃ X,X=w.heap.size+1+1:=⟨_,rfl⟩
 have hb:Below w.heap.size w W:=by rw [hW];exact (((Below.refl _ _).alloc qn _).alloc (by simp) _).alloc (by simp;omega) _
 have hX:W.heap[X]? = some (.cells #[.bool true,.string ⟨#[]⟩,.slice none 0 0] 53 (0,0)):=by
  rw [hW,hXe]
  have:=heap_alloc_new ((w.alloc (.cells #[.int .u64 ni,.string (bs b),.slice A l.length c] 81)).alloc (.cells #[.bool false,.string ⟨#[]⟩,.slice none 0 0] 53)) (.cells #[.bool true,.string ⟨#[]⟩,.slice none 0 0] 53)
  simpa only [World.size_alloc] using this
 have hR:W.heap[w.heap.size+1]? = some (.cells #[.bool false,.string ⟨#[]⟩,.slice none 0 0] 53 (0,0)):=by
  rw [hW,heap_alloc_old _ _ (by simp)]
  have:=heap_alloc_new (w.alloc (.cells #[.int .u64 ni,.string (bs b),.slice A l.length c] 81)) (.cells #[.bool false,.string ⟨#[]⟩,.slice none 0 0] 53)
  rwa [World.size_alloc] at this
 have hF:W.heap[w.heap.size]? = some (.cells #[.int .u64 ni,.string (bs b),.slice A l.length c] 81 (0,0)):=by
  rw [hW,heap_alloc_old _ _ (by simp;omega),heap_alloc_old _ _ (by simp)];exact heap_alloc_new w _
 have HW:=qh hW
 have HB:=qh hb
 have HX:=qh hX
 have HR:=qh hR
 have HF:=qh hF
 have HV:=qh (Rep.old hv)
 have HS:=qh hs
 have HXE:=qh hXe
 have hXw:w.heap.size+1 < X:=by omega
 clear hfd hni hW hb hX hR hF hv hs hXe
 go_enter Tryz.func106,Tryz.ntmps106
 go_wp2_with fail
 rw [← HW.out,← HXE.out]
 go_loopw [48] (fun a wr=>∃ (j:Nat) (ys:List Value) (u:Value),a=.int .i64 j∧j≤l.length∧wr.heap[X]? = some (.cells #[.bool true,.string ⟨#[]⟩,u] 53 (0,0))∧wr.heap[w.heap.size+1]? = some (.cells #[.bool false,.string ⟨#[]⟩,.slice none 0 0] 53 (0,0))∧wr.heap[w.heap.size]? = some (.cells #[.int .u64 ni,.string (bs b),.slice A l.length c] 81 (0,0)) ∧
   wr.ownsRow (X+1) 53 3 u j ys∧RepN (RowS (X+1) u) wr 3 (itemsD ((l.take j).map (lfI kc))) ys∧Below w.heap.size w wr) (fun a _=>l.length - (intOf a).toNat)
 case atStart=>exact ⟨0,[],_,rfl,Nat.zero_le _,HX.out,HR.out,HF.out,World.ownsRow_nil _ _ _ _,.nil,HB.out⟩
 case round =>
  clear HX HR HF HB HW HXE
  obtain ⟨j,ys,u,rfl,hj,hX,hR,hF,hown,hrep,hB⟩:=hrel
  obtain ⟨A',c',rfl⟩:=qau hown
  have hXl:=(qg hX)
  have hBs:=hB.size
  by_cases hlt:j < l.length
  ·have hjI:(j:Int) < l.length:=by omega
   obtain ⟨x,hx⟩:=qal hlt
   obtain ⟨gx,ox,A3,c3,rfl,hgx,hlx,hcx⟩:=qq3 HV.out hx
   have q0:=(hB.cell (p:=⟨gx,ox+j * 3+0,none⟩) hgx).trans (hcx 0 _ rfl)
   have q1:=(hB.cell (p:=⟨gx,ox+j * 3+1,none⟩) hgx).trans (hcx 1 _ rfl)
   have q2:=(hB.cell (p:=⟨gx,ox+j * 3+2,none⟩) hgx).trans (hcx 2 _ rfl)
   simp only [Nat.add_zero] at q0
   obtain ⟨y,hye⟩:∃ y,lfI kc x=y:=⟨_,rfl⟩
   have HC0:=fun w3:World=>qh1 kc hkc x.1 (HS.out x (List.mem_of_getElem? hx)) x.2 A3 0 c3 w3
   have hye':lfI kc (x.1,x.2)=y:=hye
   simp only [hye'] at HC0
   have HC:Hid (∀ w3:World,Calls Tryz.prog 106 #[.string (bs [kc]),.agg #[.int .u64 ((upF x).n:Int),.string (bs (upF x).b),.slice A3 (upF x).l.length c3]] w3 (ItPost y w3)):=qh HC0
   have HYE:=qh hye
   have HXX:=qh hx
   have HX:=qh hX
   have HR:=qh hR
   have HF:=qh hF
   have HO:=qh hown
   have HP:=qh hrep
   have HB:=qh hB
   clear hX hR hF hown hrep hB hye hye' hx HC0 hlx hcx
   go_wp2_with fail
   have hba:Below wr.heap.size wr (wr.alloc (.cells #[.int .u64 ((upF x).n:Int),.string (bs (upF x).b),.slice A3 (upF x).l.length c3] 81)).drew:=((Below.refl _ _).alloc qn _).drew
   have hV:(wr.alloc (.cells #[.int .u64 ((upF x).n:Int),.string (bs (upF x).b),.slice A3 (upF x).l.length c3] 81)).drew.heap[wr.heap.size]? = some (.cells #[.int .u64 ((upF x).n:Int),.string (bs (upF x).b),.slice A3 (upF x).l.length c3] 81 (0,0)):=heap_alloc_new wr _
   have hX:=(hba.block _ (qg HX.out)).trans HX.out
   have hR:=(hba.block _ (qg HR.out)).trans HR.out
   have hF:=(hba.block _ (qg HF.out)).trans HF.out
   have hown:=qax HO.out hba
   have hrep:=HP.out.keep hba
   have hB:=qab HB.out HB.out.size hba
   have hVl:wr.heap.size < (wr.alloc (.cells #[.int .u64 ((upF x).n:Int),.string (bs (upF x).b),.slice A3 (upF x).l.length c3] 81)).drew.heap.size:=by simp
   replace hXl:=Nat.lt_of_lt_of_le hXl hba.size
   obtain ⟨V,hVe⟩:∃ V,wr.heap.size=V:=⟨_,rfl⟩
   have HOL:Hid (∀ k,(Value.slice A' j c').ownBlock=some k→X+1≤k∧k < V):=qh (fun k e=>by rw [← hVe];exact HO.out.lt _ e)
   rw [hVe] at hV hVl ⊢
   have hXV:X < V:=by rw [← hVe];exact (qg HX.out)
   clear hba HX HR HF HO HP HB
   refine qao [(7,fun w'=>w'.cell? ⟨X,2,none⟩=some (.slice A' j c')),(99,fun w'=>w'.heap[V]? = some (.cells #[.int .u64 ((upF x).n:Int),.string (bs (upF x).b),.slice A3 (upF x).l.length c3] 81 (0,0)))] (by kernel_rfl) ?_
   generalize (wr.alloc (.cells #[.int .u64 ((upF x).n:Int),.string (bs (upF x).b),.slice A3 (upF x).l.length c3] 81)).drew=w3 at hX hR hF hV hown hrep hB hXl hVl ⊢
   refine R_p (i:=0) (v:=.pointer (some ⟨X,2,none⟩)) (Mh (rc2 hX) (Mh hV Mn)) ?_
   refine R_l (i:=1) (v:=.slice A' j c') 7 _ List.mem_cons_self rfl (qae rfl rfl rfl (fun w' hS=>hS) Tryz.underlying51 rfl) (Mh (rc2 hX) (Mh hV Mn)) ?_
   refine R_p (i:=2) (v:=.string (bs [42,kc])) (Mh (rc2 hX) (Mh hV Mn)) ?_
   refine R_p (i:=3) (v:=.string (bs [kc])) (Mh (rc2 hX) (Mh hV Mn)) ?_
   refine R_l (i:=4) (v:=.agg #[.int .u64 ((upF x).n:Int),.string (bs (upF x).b),.slice A3 (upF x).l.length c3]) 99 _ (List.mem_cons_of_mem _ List.mem_cons_self) rfl (qa8 rfl rfl rfl (fun w' hS=>hS) Tryz.underlying81 rfl infoF) (Mh (rc2 hX) (Mh hV Mn)) ?_
   have hX5:=hXl
   have ho5:=hown.lt
   refine R_now 5 fun K hK=>?_
   go_simp
   refine (HC.out w3).mono ?_
   rintro e w6 ⟨Ay,cy,rfl,hy6,hb6⟩
   have hY:ItemV (RowS (X+1) (.slice A' j c')) w6 y Ay cy:=hy6.mono fun b _ hb=>⟨⟨Nat.le_trans hX5 hb,fun e=>by have h1:=(ho5 _ e).2;have h2:w3.heap.size≤b:=hb;omega⟩,rfl⟩
   clear hy6 ho5
   replace hR:=(hb6.block _ (qg hR)).trans hR
   replace hX:=(hb6.block _ (qg hX)).trans hX
   replace hV:=(hb6.block _ (qg hV)).trans hV
   replace hF:=(hb6.block _ (qg hF)).trans hF
   replace hB:=qab hB hB.size hb6
   replace hown:=qax hown hb6
   replace hrep:=hrep.keep hb6
   replace hXl:=Nat.lt_of_lt_of_le hXl hb6.size
   replace hVl:=Nat.lt_of_lt_of_le hVl hb6.size
   clear hb6
   refine hK.out _ _ (Mh (rc2 hX) (Mh hV Mn)) (fun hMeets=>?_)
   clear hK K hMeets
   refine lay_R ?_
   refine R_now 6 fun K hK=>?_
   have hbb:Below w6.heap.size w6 (w6.alloc (.cells #[.bool y.l,.string (bs y.b),.slice Ay y.ks.length cy] 53)):=(Below.refl _ _).alloc qn _
   replace hR:=(hbb.block _ (qg hR)).trans hR
   replace hX:=(hbb.block _ (qg hX)).trans hX
   replace hV:=(hbb.block _ (qg hV)).trans hV
   replace hF:=(hbb.block _ (qg hF)).trans hF
   replace hB:=qab hB hB.size hbb
   replace hown:=qax hown hbb
   replace hrep:=hrep.keep hbb
   replace hXl:=Nat.lt_of_lt_of_le hXl hbb.size
   replace hVl:=Nat.lt_of_lt_of_le hVl hbb.size
   replace hY:=hY.keep hbb
   have hL:=qbi w6 #[.bool y.l,.string (bs y.b),.slice Ay y.ks.length cy] 53
   clear hbb
   go_simp
   refine hK.out _ _ (Mh (rc2 hX) (Mh hV Mn)) (fun hMeets=>?_)
   clear hK K hMeets
   refine lay_R ?_
   refine R_now 7 fun K hK=>?_
   refine qe6 qft rfl rfl (X+1) hown rfl (m:=1) [.bool y.l,.string (bs y.b),.slice Ay y.ks.length cy] rfl rfl hL (by intro u hu;simp at hu;rcases hu with rfl | rfl | rfl <;> rfl) (by simp only [maxLen];omega) (by omega) (by omega) ?_
   intro v1 w8 hown1 hg1 hat1
   obtain ⟨A2,c2,rfl⟩:=qau hown1
   have hrep8:RepN (RowS (X+1) (.slice A2 (j+1) c2)) w8 3 (itemsD ((l.take (j+1)).map (lfI kc))) (ys ++ [.bool y.l,.string (bs y.b),.slice Ay y.ks.length cy]):=by
    rw [qbe HXX.out,List.map_append,List.map_cons,List.map_nil,HYE.out,qbo]
    exact qci (RepN.snoc hY rfl hrep) hg1 hat1
   have hX8:=(hg1.block X (by omega) (fun e=>by have:=HOL.out _ e.symm;omega)).trans hX
   have hR8:=(hg1.block (w.heap.size+1) (by omega) (fun e=>by have:=HOL.out _ e.symm;omega)).trans hR
   have hF8:=(hg1.block w.heap.size (by omega) (fun e=>by have:=HOL.out _ e.symm;omega)).trans hF
   have hV8:=(hg1.block V (by omega) (fun e=>by have:=HOL.out _ e.symm;omega)).trans hV
   have hB8:=qay hB hown hg1 (by omega) (by omega)
   clear hX hR hF hV hB hown hrep hY hL hg1 hat1
   try simp only [Act.put,List.setIfInBounds_toArray,List.set_cons_zero,List.set_cons_succ,List.getElem_toArray,List.getElem_cons_zero,List.getElem_cons_succ]
   refine hK.out _ _ (Meets.past (by kernel_rfl) (Mh hV8 Mn)) (fun hMeets=>?_)
   clear hK K hMeets
   refine lay_R ?_
   refine R_p (i:=8) (v:=.pointer (some ⟨X,2,none⟩)) (Meets.past (by kernel_rfl) (Mh hV8 Mn)) ?_
   have d2:w8.cell? ⟨X,2,none⟩=some (.slice A' j c'):=rc2 hX8
   have df:=rf hX8 2
   refine R_now 9 fun K hK=>?_
   have HX9:Hid ((w8.setCell ⟨X,2,none⟩ (.slice A2 (j+1) c2)).heap[X]? = some (.cells #[.bool true,.string ⟨#[]⟩,.slice A2 (j+1) c2] 53 (0,0))):=qh (qaa hX8 _)
   have HR9:Hid ((w8.setCell ⟨X,2,none⟩ (.slice A2 (j+1) c2)).heap[w.heap.size+1]? = some (.cells #[.bool false,.string ⟨#[]⟩,.slice none 0 0] 53 (0,0))):=qh ((qac (by omega) _).trans hR8)
   have HF9:Hid ((w8.setCell ⟨X,2,none⟩ (.slice A2 (j+1) c2)).heap[w.heap.size]? = some (.cells #[.int .u64 ni,.string (bs b),.slice (some ⟨gx,ox,none⟩) l.length c] 81 (0,0))):=qh ((qac (by omega) _).trans hF8)
   have hV9:(w8.setCell ⟨X,2,none⟩ (.slice A2 (j+1) c2)).heap[V]? = some (.cells #[.int .u64 ((upF x).n:Int),.string (bs (upF x).b),.slice A3 (upF x).l.length c3] 81 (0,0)):=(qac (by omega) _).trans hV8
   have HB9:Hid (Below w.heap.size w (w8.setCell ⟨X,2,none⟩ (.slice A2 (j+1) c2))):=qh (hB8.setCell (p:=⟨X,2,none⟩) (by simp;omega) _)
   have HO9:=qh (qba (g:=X) (i:=2) hown1 (by omega) (.slice A2 (j+1) c2))
   have HP9:Hid (RepN (RowS (X+1) (.slice A2 (j+1) c2)) (w8.setCell ⟨X,2,none⟩ (.slice A2 (j+1) c2)) 3 (itemsD ((l.take (j+1)).map (lfI kc))) (ys ++ [.bool y.l,.string (bs y.b),.slice Ay y.ks.length cy])):=qh (RepN.mono hrep8 fun b _ hb=>⟨hb,qac (by have:=hb.1;omega) _⟩)
   clear hX8 hR8 hF8 hV8 hB8 hown1 hrep8
   go_simp
   refine hK.out _ _ (Meets.past (by kernel_rfl) (Mh hV9 Mn)) (fun hMeets=>?_)
   clear hK K hMeets
   refine lay_R ?_
   refine qa7 (by kernel_rfl) ?_ _
   go_wp2_with fail
   go_roundw
   case rel=>exact ⟨j+1,ys ++ [.bool y.l,.string (bs y.b),.slice Ay y.ks.length cy],.slice A2 (j+1) c2,by go_num,by omega,HX9.out,HR9.out,HF9.out,HO9.out,HP9.out,HB9.out⟩
   case measure=>simp [intOf];omega
  ·obtain rfl:j=l.length:=by omega
   rw [List.take_length] at hrep
   have r0:wr.cell? ⟨w.heap.size+1,0,none⟩=some (.bool false):=rc0 hR
   have r1:wr.cell? ⟨w.heap.size+1,1,none⟩=some (.string ⟨#[]⟩):=rc1 hR
   have r2:wr.cell? ⟨w.heap.size+1,2,none⟩=some (.slice none 0 0):=rc2 hR
   have f0:=rf hR 0
   have f1:=rf hR 1
   have f2:=rf hR 2
   have x0:wr.cell? ⟨X,0,none⟩=some (.bool true):=rc0 hX
   have x1:wr.cell? ⟨X,1,none⟩=some (.string ⟨#[]⟩):=rc1 hX
   have x2:wr.cell? ⟨X,2,none⟩=some (.slice A' l.length c'):=rc2 hX
   have HR:=qh hR
   have HO:=qh hown
   have HP:=qh hrep
   have HB:=qh hB
   clear hR hown hrep hB hX hF
   go_wp2_with fail
   have hfin:=qaa (qaa (qaa HR.out (i:=0) (.bool true)) (i:=1) (.string ⟨#[]⟩)) (i:=2) (.slice A' l.length c')
   refine bodyPost_ret (v:=.agg #[.bool true,.string ⟨#[]⟩,.slice A' l.length c']) (results_cell_row rfl _ _ (w.heap.size+1) _ _ _ _ rfl hfin Tryz.underlying53 rfl infoI) rfl ?_
   have hO:=qba (g:=w.heap.size+1) (i:=2) (qba (g:=w.heap.size+1) (i:=1) (qba (g:=w.heap.size+1) (i:=0) HO.out (by omega) (.bool true)) (by omega) (.string ⟨#[]⟩)) (by omega) (.slice A' l.length c')
   have hkl:(l.map (lfI kc)).length=l.length:=by simp
   have hq:ItemV (From w.heap.size) (((wr.setCell ⟨w.heap.size+1,0,none⟩ (.bool true)).setCell ⟨w.heap.size+1,1,none⟩ (.string ⟨#[]⟩)).setCell ⟨w.heap.size+1,2,none⟩ (.slice A' l.length c')) (listIt (l.map (lfI kc))) A' c':=by
    refine qd8 ?_
    show Rep _ _ (.sl 3 (itemsD (l.map (lfI kc)))) [.slice A' (l.map (lfI kc)).length c']
    rw [hkl]
    refine qb2 hO (RepN.mono HP.out fun b _ hb=>⟨?_,?_⟩) (by rw [qcp,hkl]) (fun b h1 _=>?_)
    ·have:=hb.1;show w.heap.size≤b;omega
    ·have:=hb.1;rw [qac (by omega),qac (by omega),qac (by omega)]
    ·show w.heap.size≤b;omega
   refine ⟨A',c',?_,hq,((HB.out.setCell (p:=⟨w.heap.size+1,_,_⟩) (Nat.le_succ _) _).setCell (p:=⟨w.heap.size+1,_,_⟩) (Nat.le_succ _) _).setCell (p:=⟨w.heap.size+1,_,_⟩) (Nat.le_succ _) _⟩
   rw [show (listIt (l.map (lfI kc))).ks.length=l.length from hkl]
   rfl
theorem qqf (k:Kd) (hk:okC k.c) (f:Fd) (hn:f.n < 18446744073709551616) (hs:∀ x∈f.l,x.1 < 18446744073709551616) (hl:f.l.length≤100000) (A:Option Addr) (c:Nat) (w:World) (hv:LfsV Any w f.l A c) :
  Calls Tryz.prog 106 #[.string (bs k.txt),.agg (fdC f A c).toArray] w (ItPost (itemF k f) w):=by
 obtain ⟨kc,st⟩:=k
 cases st with
 | true=>exact qpp kc hk f hs hl A c w hv
 | false=>exact qh1 kc hk f.n hn f.b A f.l.length c w
/- The walk of the reference's Write. -/
theorem qgb (ks:List Kd) (hf:OkForm ks) (hl:(formP ks).length≤40) (hk:ks.length≤20) (fs:List Fd) (hn:smallF fs) (hfl:fs.length≤1000) (hll:∀ f∈fs,f.l.length≤100000) (A:Option Addr) (c:Nat) (w:World) (hv:FdsV Any w fs A c) :
  Calls Tryz.prog 51 #[.string (bs (formP ks)),.slice A fs.length c] w fun e w'=>e=.returned (.tuple #[.string (bs (fwP ks fs).1),.int .i64 (fwP ks fs).2])∧Below w.heap.size w w':=by
 have hK:=qcw ks hf hl w
 have hF:=fun (W:World) (hb:Below w.heap.size w W)=>qm1 ks hf hl fs hfl hll A c W (Rep.keep hv hb)
 obtain ⟨it,hit⟩:∃ it:Nat→Item,it=fun i=>itemF (ks.getD i noK) (fs.getD i noF):=⟨_,rfl⟩
 have hI:=fun (i:Nat) (k:Kd) (f:Fd) (A3:Option Addr) (c3:Nat) (W:World) (hki:ks[i]? = some k) (hfi:fs[i]? = some f) (hlv:LfsV (Old w) w f.l A3 c3) (hb:Below w.heap.size w W) =>
  qqf k (hf k (List.mem_of_getElem? hki)) f (qhg hn hfi).1 (qhg hn hfi).2 (hll f (List.mem_of_getElem? hfi)) A3 c3 W (Rep.any (Rep.mono hlv (S':=Old w) fun b h1 h2=>⟨h2,hb.block b h1⟩))
 have hfine:=fun (h:fitsP ks fs=true)=>qd5 h hn hk
 have hrec:=fun (h:fitsP ks fs=true)=>(qfp ks fs (qen h).symm)
 have hflen:=fun (h:fitsP ks fs=true)=>(qen h).symm
 obtain ⟨FW,hFW⟩:∃ FW,fwP ks fs=FW:=⟨_,rfl⟩
 have hyes:fitsP ks fs=true→encR (recF ks fs)=FW:=fun h=>by rw [← hFW];unfold fwP;rw [if_pos h]
 have hnot:fitsP ks fs=false→FW=([],1):=fun h=>by rw [← hFW];unfold fwP;rw [if_neg (by rw [h];decide)]
 rw [hFW]
 obtain ⟨F,hFe⟩:∃ F,formP ks=F:=⟨_,rfl⟩
 obtain ⟨OK,hOK⟩:∃ OK,fitsP ks fs=OK:=⟨_,rfl⟩
 rw [hOK] at hF hfine hrec hflen hyes hnot
 rw [hFe] at hK hF ⊢
 have HK:=qh hK
 have HF:=qh hF
 have HI:=qh hI
 have HFINE:=qh hfine
 have HREC:=qh hrec
 have HFL:=qh hflen
 have HYES:=qh hyes
 have HNOT:=qh hnot
 have HIT:=qh hit
 have HV:=qh (Rep.old hv)
 clear hK hF hI hfine hrec hflen hyes hnot hit hv hFW hFe hOK hn hll hf hl
 go_enter Tryz.func51,Tryz.ntmps51
 go_wp2_with fail
 refine HK.out.mono ?_
 clear HK
 rintro e w1 ⟨Ak,ck,rfl,hs1,hb1⟩
 have HS1:=qh (Rep.old hs1)
 have HB1:=qh hb1
 clear hs1
 go_wp2_with fail
 refine (HF.out w1 hb1).mono ?_
 clear hb1 HF
 rintro e w2 ⟨rfl,hb2⟩
 have HB2:=qh (qab HB1.out HB1.out.size hb2)
 have HB12:=qh hb2
 clear hb2
 cases OK with
 | false =>
  go_wp2_with fail
  go_ret2
  rw [HNOT.out (by simp)]
  exact ⟨rfl,HB2.out⟩
 | true =>
  have hlen:=HFL.out (by simp)
  have HLEN:=qh hlen
  clear hlen
  have hw2:=HB2.out.size
  go_wp2_with fail
  obtain ⟨X,hXe⟩:∃ X,w2.heap.size=X:=⟨_,rfl⟩
  have hX0:=heap_alloc_new w2 (.cells #[.bool true,.string ⟨#[]⟩,.slice none 0 0] 53)
  have hb0:Below w2.heap.size w2 (w2.alloc (.cells #[.bool true,.string ⟨#[]⟩,.slice none 0 0] 53)):=(Below.refl _ _).alloc qn _
  have HB0:=qh (qab HB2.out HB2.out.size hb0)
  rw [hXe] at hX0 ⊢
  have HX0:=qh hX0
  clear hX0 hb0
  go_loopw [27] (fun a wr=>∃ (i:Nat) (ys:List Value) (u:Value),a=.int .i64 i∧i≤ks.length∧wr.heap[X]? = some (.cells #[.bool true,.string ⟨#[]⟩,u] 53 (0,0))∧wr.ownsRow (X+1) 53 3 u i ys∧RepN (RowS (X+1) u) wr 3 (itemsD ((List.range i).map it)) ys∧Below w.heap.size w wr∧Below w2.heap.size w2 wr) (fun a _=>ks.length - (intOf a).toNat)
  case atStart=>exact ⟨0,[],_,rfl,Nat.zero_le _,HX0.out,World.ownsRow_nil _ _ _ _,.nil,HB0.out,(Below.refl _ _).alloc qn _⟩
  case round =>
   clear HX0 HB0
   obtain ⟨i,ys,u,rfl,hi,hX,hown,hrep,hB,hB2w⟩:=hrel
   obtain ⟨A',c',rfl⟩:=qau hown
   have hXl:=(qg hX)
   by_cases hlt:i < ks.length
   ·have hiI:(i:Int) < ks.length:=by omega
    obtain ⟨k,hki⟩:=qal hlt
    obtain ⟨f,hfi⟩:∃ f,fs[i]? = some f:=qal (by have:=HLEN.out;omega)
    have hifI:(i:Int) < fs.length:=by have:=HLEN.out;omega
    obtain ⟨gx,ox,A3,c3,rfl,hgx,hlx,hcx⟩:=qdd HV.out hfi
    obtain ⟨gk,ok,rfl,hgk,hck⟩:=StrV.at_ (p:=k.txt) HS1.out (by rw [List.getElem?_map,hki];rfl)
    have z1:w2.cell? ⟨gk,ok+i,none⟩=some (.string (bs k.txt)):=(HB12.out.cell (p:=⟨gk,ok+i,none⟩) hgk).trans hck
    have z0:wr.cell? ⟨gk,ok+i,none⟩=some (.string (bs k.txt)):=(hB2w.cell (p:=⟨gk,ok+i,none⟩) (qap z1)).trans z1
    obtain ⟨y,hye⟩:∃ y,it i=y:=⟨_,rfl⟩
    have hye':itemF k f=y:=by rw [← hye,HIT.out];show _=itemF (ks.getD i noK) (fs.getD i noF);rw [qbc hki,qbc hfi]
    have HC:Hid (∀ w3:World,Below w.heap.size w w3→Calls Tryz.prog 106 #[.string (bs k.txt),.agg (fdC f A3 c3).toArray] w3 (ItPost y w3)):=qh (fun w3 hb3=>by rw [← hye'];exact HI.out i k f A3 c3 w3 hki hfi hlx hb3)
    have HYE:=qh hye
    have HX:=qh hX
    have HO:=qh hown
    have HP:=qh hrep
    have HB:=qh hB
    have HBW:=qh hB2w
    have HCX:=qh hcx
    have HOL:Hid (∀ k,(Value.slice A' i c').ownBlock=some k→X+1≤k∧k < wr.heap.size):=qh (fun k e=>hown.lt _ e)
    clear hX hown hrep hB hB2w hki hfi hlx hcx hck z1 hye hye'
    go_wp2_with fail
    have hbd:Below wr.heap.size wr wr.drew:=(Below.refl _ _).drew
    have hX:=(hbd.block _ (qg HX.out)).trans HX.out
    have hown:=qax HO.out hbd
    have hrep:=HP.out.keep hbd
    have hB:=qab HB.out HB.out.size hbd
    have hx:∀ j u,(fdC f A3 c3)[j]? = some u→wr.drew.cell? ⟨gx,ox+i * 3+j,none⟩=some u:=fun j u hj=>(hB.cell (p:=⟨gx,ox+i * 3+j,none⟩) hgx).trans (HCX.out j u hj)
    have hxs:wr.heap.size=wr.drew.heap.size:=rfl
    have hBW:=HBW.out.drew
    rw [hxs] at hXl
    clear hbd HX HO HP HB hxs
    refine qao [(9,fun w'=>w'.cell? ⟨X,2,none⟩=some (.slice A' i c')),(99,fun w'=>∀ j u,(fdC f A3 c3)[j]? = some u→w'.cell? ⟨gx,ox+i * 3+j,none⟩=some u)] (by kernel_rfl) ?_
    generalize wr.drew=w3 at hX hown hrep hB hXl hx hBW ⊢
    refine R_p (i:=0) (v:=.pointer (some ⟨X,2,none⟩)) (Mh (rc2 hX) (Mh hx Mn)) ?_
    refine R_l (i:=1) (v:=.slice A' i c') 9 _ List.mem_cons_self rfl (qae rfl rfl rfl (fun w' hS=>hS) Tryz.underlying51 rfl) (Mh (rc2 hX) (Mh hx Mn)) ?_
    refine R_p (i:=2) (v:=.string (bs k.txt)) (Mh (rc2 hX) (Mh hx Mn)) ?_
    refine R_p (i:=3) (v:=.slice (some ⟨gx,ox,none⟩) fs.length c) (Mh (rc2 hX) (Mh hx Mn)) ?_
    refine R_p (i:=4) (v:=.int .i64 (i:Int)) (Mh (rc2 hX) (Mh hx Mn)) ?_
    refine R_p (i:=5) (v:=.pointer (some ⟨gx,ox+i * 3,none⟩)) (Mh (rc2 hX) (Mh hx Mn)) ?_
    refine R_l (i:=6) (v:=.agg (fdC f A3 c3).toArray) 99 _ (List.mem_cons_of_mem _ List.mem_cons_self) rfl (qbm rfl rfl rfl (fdC f A3 c3) (fun w' hS=>hS) Tryz.underlying81 rfl infoF) (Mh (rc2 hX) (Mh hx Mn)) ?_
    have hX5:=hXl
    have ho5:=hown.lt
    refine R_now 7 fun K hK=>?_
    go_simp
    refine (HC.out w3 hB).mono ?_
    rintro e w6 ⟨Ay,cy,rfl,hy6,hb6⟩
    have hY:ItemV (RowS (X+1) (.slice A' i c')) w6 y Ay cy:=hy6.mono fun b _ hb=>⟨⟨Nat.le_trans hX5 hb,fun e=>by have h1:=(ho5 _ e).2;have h2:w3.heap.size≤b:=hb;omega⟩,rfl⟩
    clear hy6 ho5
    replace hX:=(hb6.block _ (qg hX)).trans hX
    replace hBW:=qab hBW hBW.size hb6
    replace hB:=qab hB hB.size hb6
    replace hown:=qax hown hb6
    replace hrep:=hrep.keep hb6
    replace hXl:=Nat.lt_of_lt_of_le hXl hb6.size
    replace hx:∀ j u,(fdC f A3 c3)[j]? = some u→_=some u:=fun j u hj=>(hb6.cell (p:=⟨gx,ox+i * 3+j,none⟩) (qap (hx j u hj))).trans (hx j u hj)
    clear hb6
    refine hK.out _ _ (Mh (rc2 hX) (Mh hx Mn)) (fun hMeets=>?_)
    clear hK K hMeets
    refine lay_R ?_
    refine R_now 8 fun K hK=>?_
    have hbb:Below w6.heap.size w6 (w6.alloc (.cells #[.bool y.l,.string (bs y.b),.slice Ay y.ks.length cy] 53)):=(Below.refl _ _).alloc qn _
    replace hX:=(hbb.block _ (qg hX)).trans hX
    replace hBW:=qab hBW hBW.size hbb
    replace hB:=qab hB hB.size hbb
    replace hown:=qax hown hbb
    replace hrep:=hrep.keep hbb
    replace hXl:=Nat.lt_of_lt_of_le hXl hbb.size
    replace hY:=hY.keep hbb
    replace hx:∀ j u,(fdC f A3 c3)[j]? = some u→_=some u:=fun j u hj=>(hbb.cell (p:=⟨gx,ox+i * 3+j,none⟩) (qap (hx j u hj))).trans (hx j u hj)
    have hL:=qbi w6 #[.bool y.l,.string (bs y.b),.slice Ay y.ks.length cy] 53
    clear hbb
    go_simp
    refine hK.out _ _ (Mh (rc2 hX) (Mh hx Mn)) (fun hMeets=>?_)
    clear hK K hMeets
    refine lay_R ?_
    refine R_now 9 fun K hK=>?_
    refine qe6 qft rfl rfl (X+1) hown rfl (m:=1) [.bool y.l,.string (bs y.b),.slice Ay y.ks.length cy] rfl rfl hL (by intro u hu;simp at hu;rcases hu with rfl | rfl | rfl <;> rfl) (by simp only [maxLen];omega) (by omega) (by omega) ?_
    intro v1 w8 hown1 hg1 hat1
    obtain ⟨A2,c2,rfl⟩:=qau hown1
    have hrep8:RepN (RowS (X+1) (.slice A2 (i+1) c2)) w8 3 (itemsD ((List.range (i+1)).map it)) (ys ++ [.bool y.l,.string (bs y.b),.slice Ay y.ks.length cy]):=by
     rw [List.range_succ,List.map_append,List.map_cons,List.map_nil,HYE.out,qbo]
     exact qci (RepN.snoc hY rfl hrep) hg1 hat1
    have hX8:=(hg1.block X (by omega) (fun e=>by have:=HOL.out _ e.symm;omega)).trans hX
    have hB8:=qay hB hown hg1 (by omega) (by omega)
    have hx8:∀ j u,(fdC f A3 c3)[j]? = some u→w8.cell? ⟨gx,ox+i * 3+j,none⟩=some u:=fun j u hj=>(hB8.cell (p:=⟨gx,ox+i * 3+j,none⟩) hgx).trans (HCX.out j u hj)
    have hBW8:=qay hBW hown hg1 (by omega) (by omega)
    clear hX hB hBW hown hrep hY hL hg1 hat1 hx
    try simp only [Act.put,List.setIfInBounds_toArray,List.set_cons_zero,List.set_cons_succ,List.getElem_toArray,List.getElem_cons_zero,List.getElem_cons_succ]
    refine hK.out _ _ (Meets.past (by kernel_rfl) (Mh hx8 Mn)) (fun hMeets=>?_)
    clear hK K hMeets
    refine lay_R ?_
    refine R_p (i:=10) (v:=.pointer (some ⟨X,2,none⟩)) (Meets.past (by kernel_rfl) (Mh hx8 Mn)) ?_
    have d2:w8.cell? ⟨X,2,none⟩=some (.slice A' i c'):=rc2 hX8
    have df:=rf hX8 2
    refine R_now 11 fun K hK=>?_
    have HX9:Hid ((w8.setCell ⟨X,2,none⟩ (.slice A2 (i+1) c2)).heap[X]? = some (.cells #[.bool true,.string ⟨#[]⟩,.slice A2 (i+1) c2] 53 (0,0))):=qh (qaa hX8 _)
    have hB9:Below w.heap.size w (w8.setCell ⟨X,2,none⟩ (.slice A2 (i+1) c2)):=hB8.setCell (p:=⟨X,2,none⟩) (by simp;omega) _
    have hx9:∀ j u,(fdC f A3 c3)[j]? = some u→(w8.setCell ⟨X,2,none⟩ (.slice A2 (i+1) c2)).cell? ⟨gx,ox+i * 3+j,none⟩=some u:=fun j u hj=>(hB9.cell (p:=⟨gx,ox+i * 3+j,none⟩) hgx).trans (HCX.out j u hj)
    have HB9:=qh hB9
    have HBW9:Hid (Below w2.heap.size w2 (w8.setCell ⟨X,2,none⟩ (.slice A2 (i+1) c2))):=qh (hBW8.setCell (p:=⟨X,2,none⟩) (by simp;omega) _)
    have HO9:=qh (qba (g:=X) (i:=2) hown1 (by omega) (.slice A2 (i+1) c2))
    have HP9:Hid (RepN (RowS (X+1) (.slice A2 (i+1) c2)) (w8.setCell ⟨X,2,none⟩ (.slice A2 (i+1) c2)) 3 (itemsD ((List.range (i+1)).map it)) (ys ++ [.bool y.l,.string (bs y.b),.slice Ay y.ks.length cy])):=qh (RepN.mono hrep8 fun b _ hb=>⟨hb,qac (by have:=hb.1;omega) _⟩)
    clear hX8 hB8 hown1 hrep8 hB9 hx8
    go_simp
    refine hK.out _ _ (Meets.past (by kernel_rfl) (Mh hx9 Mn)) (fun hMeets=>?_)
    clear hK K hMeets
    refine lay_R ?_
    refine qa7 (by kernel_rfl) ?_ _
    go_wp2_with fail
    go_roundw
    case rel=>exact ⟨i+1,ys ++ [.bool y.l,.string (bs y.b),.slice Ay y.ks.length cy],.slice A2 (i+1) c2,by go_num,by omega,HX9.out,HO9.out,HP9.out,HB9.out,HBW9.out⟩
    case measure=>simp [intOf];omega
   ·obtain rfl:i=ks.length:=by omega
    have x0:wr.cell? ⟨X,0,none⟩=some (.bool true):=rc0 hX
    have x1:wr.cell? ⟨X,1,none⟩=some (.string ⟨#[]⟩):=rc1 hX
    have x2:wr.cell? ⟨X,2,none⟩=some (.slice A' ks.length c'):=rc2 hX
    have hx:listIt ((List.range ks.length).map it)=recF ks fs:=by
     unfold recF;rw [← HREC.out (by simp),HIT.out,HLEN.out]
    have hkl:((List.range ks.length).map it).length=ks.length:=by simp
    have hq:ItemV Any wr (listIt ((List.range ks.length).map it)) A' c':=by
     refine qd8 ?_
     show Rep _ _ (.sl 3 (itemsD ((List.range ks.length).map it))) [.slice A' ((List.range ks.length).map it).length c']
     rw [hkl]
     exact qb2 hown (RepN.mono hrep fun b _ hb=>⟨trivial,rfl⟩) (by rw [qcp,hkl]) (fun _ _ _=>trivial)
    have hfn:=HFINE.out (by simp)
    have hE:=qkb (listIt ((List.range ks.length).map it)) A' c' wr (by rw [hx];omega) hq (by rw [hx];omega)
    rw [show encR (listIt ((List.range ks.length).map it))=FW from by rw [hx];exact HYES.out (by simp),show (listIt ((List.range ks.length).map it)).ks.length=ks.length from hkl] at hE
    have HE:=qh hE
    have HB:=qh hB
    clear hE hfn hq hkl hx hX hown hrep hB hB2w
    go_wp2_with fail
    refine HE.out.mono ?_
    rintro e w4 ⟨rfl,hb4⟩
    go_wp2_with fail
    go_ret2
    exact ⟨rfl,qab HB.out HB.out.size hb4⟩
/- The reference's Many, Fits, Write at more than 1000 fields. -/
theorem qpn (fs:List Fd) (hl:1000 < fs.length) (hl2:fs.length≤100000) (A:Option Addr) (c:Nat) (w:World) (hv:FdsV Any w fs A c) :
  Calls Tryz.prog 164 #[.slice A fs.length c,.int .i64 1000] w fun e w'=>e=.returned (.int .i64 1001)∧Below w.heap.size w w':=by
 have HV:=qh (Rep.old hv)
 have hl1:(fs.length:Int)≤100000:=by omega
 clear hv
 go_enter Tryz.func164,Tryz.ntmps164
 go_wp2_with fail
 go_loopw [5,14] (fun q a wr=>∃ (i n:Nat) (ys:List Value),a=.int .i64 i∧i≤fs.length∧Hid (n=min i 1001)∧wr.ownsRow w.heap.size 81 3 q n ys∧Below w.heap.size w wr) (fun _ a _=>fs.length - (intOf a).toNat)
 case atStart=>exact ⟨0,0,[],rfl,Nat.zero_le _,qh rfl,World.ownsRow_lit w _ 0 qn (Nat.zero_le _) rfl,(Below.refl _ _).alloc qn _⟩
 case round =>
  obtain ⟨i,n,ys,rfl,hi,hn,hown,hB⟩:=hrel
  obtain ⟨A',c',rfl⟩:=qau hown
  have hBs:=hB.size
  by_cases hlt:i < fs.length
  ·obtain ⟨f,hf⟩:=qal hlt
   obtain ⟨g,o,A2,c2,rfl,hgo,hlv,hcf⟩:=qdd HV.out hf
   have hlt':(i:Int) < fs.length:=by omega
   have q0:=(hB.cell (p:=⟨g,o+i * 3+0,none⟩) hgo).trans (hcf 0 _ rfl)
   have q1:=(hB.cell (p:=⟨g,o+i * 3+1,none⟩) hgo).trans (hcf 1 _ rfl)
   have q2:=(hB.cell (p:=⟨g,o+i * 3+2,none⟩) hgo).trans (hcf 2 _ rfl)
   simp only [Nat.add_zero] at q0
   have HW:=qh hown
   have HB:=qh hB
   clear hf hown hB hlv hcf
   by_cases hn1:n≤1000
   ·have hnI:(n:Int)≤1000:=by omega
    have hin:i=n:=by have:=hn.out;omega
    have hin1:i≤1000:=by omega
    have HIN:=qh hin
    clear hin
    go_wp2_with (at_builtin;refine qaw qck rfl rfl w.heap.size ((HW.out.alloc _).alloc _) rfl (m:=1) [.int .u64 (f.n:Int),.string (bs f.b),.slice A2 f.l.length c2] rfl rfl ?_ ?_ ?_ ?_ ?_ ?_;exact (qbw _ _ (by simp) _ _);(intro u hu;simp at hu;rcases hu with rfl | rfl | rfl <;> rfl);(simp only [maxLen];omega);omega;(simp;omega);intro v1 w8 hown4 hg4 hat4;obtain ⟨A3,c3,rfl⟩:=qau hown4)
    go_roundw
    case rel=>exact ⟨i+1,n+1,_,by go_num,by omega,qh (by have:=HIN.out;omega),hown4,qay ((HB.out.alloc hBs _).alloc (by simp;omega) _) ((HW.out.alloc _).alloc _) hg4 (by simp;omega) qn⟩
    case measure=>simp [intOf];omega
   ·have hnI:¬ (n:Int)≤1000:=by omega
    have HN:Hid (n=min (i+1) 1001):=qh (by have:=hn.out;omega)
    have hnb:(n:Int)≤1001:=by have:=hn.out;omega
    go_wp2_with fail
    go_roundw
    case rel=>exact ⟨i+1,n,ys,by go_num,by omega,HN,HW.out.alloc _,HB.out.alloc hBs _⟩
    case measure=>simp [intOf];omega
  ·obtain rfl:i=fs.length:=by omega
   have h1:n=1001:=by have:=hn.out;omega
   subst h1
   have HW0:=qh hown
   have HB0:=qh hB
   clear hown hn hB hlt hi
   go_wp2_with fail
   go_loopw [5,8] (fun q a wr=>a=.int .i64 0∧q=.slice A' 1001 c'∧Below w.heap.size w wr) (fun _ _ _=>0)
   case atStart=>exact ⟨rfl,rfl,HB0.out⟩
   case round =>
    obtain ⟨rfl,rfl,hB⟩:=hrel
    have HB:=qh hB
    clear hB
    go_wp2_with fail
    go_ret
    exact ⟨rfl,HB.out⟩
theorem qm2 (ks:List Kd) (hf:OkForm ks) (hl:(formP ks).length≤40) (fs:List Fd) (hfl:1000 < fs.length) (hfl2:fs.length≤100000) (A:Option Addr) (c:Nat) (w:World) (hv:FdsV Any w fs A c) :
  Calls Tryz.prog 105 #[.string (bs (formP ks)),.slice A fs.length c] w fun e w'=>e=.returned (.bool false)∧Below w.heap.size w w':=by
 have hK:=qcw ks hf hl w
 obtain ⟨F,hF⟩:∃ F,formP ks=F:=⟨_,rfl⟩
 rw [hF] at hK ⊢
 have HK:=qh hK
 have HV:=qh hv
 clear hK hF hv hf hl
 go_enter Tryz.func105,Tryz.ntmps105
 go_wp2_with fail
 refine HK.out.mono ?_
 clear HK
 rintro e w1 ⟨Ak,ck,rfl,hs1,hb1⟩
 have HB1:=qh hb1
 clear hs1
 go_wp2_with fail
 refine (qpn fs hfl hfl2 A c w1 (Rep.keep HV.out hb1)).mono ?_
 clear hb1
 rintro e w2 ⟨rfl,hb2⟩
 have HB2:=qh (qab HB1.out HB1.out.size hb2)
 clear hb2 HB1
 go_wp2_with fail
 go_ret
 exact ⟨rfl,HB2.out⟩
theorem qqu (ks:List Kd) (hf:OkForm ks) (hl:(formP ks).length≤40) (fs:List Fd) (hfl:1000 < fs.length) (hfl2:fs.length≤100000) (A:Option Addr) (c:Nat) (w:World) (hv:FdsV Any w fs A c) :
  Calls Tryz.prog 51 #[.string (bs (formP ks)),.slice A fs.length c] w fun e w'=>e=.returned (.tuple #[.string (bs []),.int .i64 1])∧Below w.heap.size w w':=by
 have hK:=qcw ks hf hl w
 have hF:=fun (W:World) (hb:Below w.heap.size w W)=>qm2 ks hf hl fs hfl hfl2 A c W (Rep.keep hv hb)
 obtain ⟨F,hFe⟩:∃ F,formP ks=F:=⟨_,rfl⟩
 rw [hFe] at hK hF ⊢
 have HK:=qh hK
 have HF:=qh hF
 clear hK hF hv hFe hf hl
 go_enter Tryz.func51,Tryz.ntmps51
 go_wp2_with fail
 refine HK.out.mono ?_
 clear HK
 rintro e w1 ⟨Ak,ck,rfl,hs1,hb1⟩
 have HB1:=qh hb1
 clear hs1
 go_wp2_with fail
 refine (HF.out w1 hb1).mono ?_
 clear hb1 HF
 rintro e w2 ⟨rfl,hb2⟩
 have HB2:=qh (qab HB1.out HB1.out.size hb2)
 clear hb2
 go_wp2_with fail
 go_ret2
 exact ⟨rfl,HB2.out⟩
end Go.Proofs.YteoednifdpdbnaaGreat
