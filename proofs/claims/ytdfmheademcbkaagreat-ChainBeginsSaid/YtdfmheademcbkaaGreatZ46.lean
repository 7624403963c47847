/- The walks of state.Root and of the reference's. -/
import Derived.Test.YtdfmheademcbkaaGreatZ42
import Derived.Test.YtdfmheademcbkaaGreatZ45
import Derived.Test.YtdfmheademcbkaaGreatZ03
namespace Go.Proofs.YtdfmheademcbkaaGreat
set_option linter.unusedVariables false
set_option linter.unusedSimpArgs false
open Go.RowKit
set_option maxHeartbeats 8000000
set_option maxRecDepth 100000
theorem tns_ne {w:World} {ns:List TN} {A:Option Addr} {c G:Nat} {x y:Value} {e:TypeId} {fr:Nat×Nat} (h:TNs Any w ns A c) (hG:w.heap[G]? = some (.cells #[x,y] e fr)):TNs (fun b=>b≠G) w ns A c :=
 ⟨fun hne=>by
  obtain ⟨g,o,hA,_,hc⟩:=h.lies hne
  refine ⟨g,o,hA,fun e=>?_,hc⟩
  subst e
  cases ns with
  | nil=>exact hne rfl
  | cons n ns =>
   have hl:(nodeC n).length=19:=by have:=h.wide n (List.mem_cons_self ..);simp [nodeC];omega
   obtain ⟨u,hu⟩:∃ u,(nodeC n)[18]? = some u:=⟨_,List.getElem?_eq_getElem (by omega)⟩
   have h0:=hc 18 u (by have h1:=nodesC_get h.wide (i:=0) rfl 18 u hu;rw [Nat.zero_mul,Nat.zero_add] at h1;exact h1)
   rw [cell_of_row _ _ _ _ _ _ hG] at h0
   have:=(Array.getElem?_eq_some_iff.1 h0).1
   simp at this
   omega,h.wide,h.le,h.cap⟩
theorem put_ref (l:List KV) (hO:OkL l) (hl:l.length < 64) (k v:Bytes) (hk:1≤k.length∧k.length≤32) (hv:1≤v.length∧v.length≤500) (A:Option Addr) (c:Nat) (w:World) (ht:TNs Any w (ofP l).1 A c) :
  Calls Tryz.prog 37 #[.agg #[.slice A (ofP l).1.length c,.int .i64 (ofP l).2],.string (bs k),.string (bs v)] w fun e w' =>
   ∃ A2 c2,e=.returned (.tuple #[.agg #[.slice A2 (ofP (refPutP l k v)).1.length c2,.int .i64 (ofP (refPutP l k v)).2],.int .i64 0])∧TNs Any w' (ofP (refPutP l k v)).1 A2 c2∧Below w.heap.size w w' :=
 (put_any l hO hl k v hk hv A c w ht).mono fun e w' ⟨i,is,A2,c2,hf,he,h2,hb⟩=>by
  rw [ref_put hO.rise hf]
  exact ⟨A2,c2,he,h2,hb⟩
theorem fds_new (w:World) (a:Ac):FdsV Any (w.alloc (.cells #[.int .u64 (a.bal:Int),.string ⟨#[]⟩,.slice none 0 0,.int .u64 (a.non:Int),.string ⟨#[]⟩,.slice none 0 0] 56)) (fsA a) (some ⟨w.heap.size,0,none⟩) 2 :=
 .sl (RepN.cons (fd_rep0 a.bal []) rfl (RepN.cons (fd_rep0 a.non []) rfl .nil)) rfl (lies_new w #[.int .u64 (a.bal:Int),.string ⟨#[]⟩,.slice none 0 0,.int .u64 (a.non:Int),.string ⟨#[]⟩,.slice none 0 0] 56) (Nat.le_refl _) (by simp only [maxLen];omega)
theorem write_ac (a:Ac) (h:a.bal < 18446744073709551616∧a.non < 18446744073709551616) (w:World) (g:Nat) (hv:FdsV Any w (fsA a) (some ⟨g,0,none⟩) 2) :
  Calls Tryz.prog 16 #[.string ⟨#[110,110]⟩,.slice (some ⟨g,0,none⟩) 2 2] w fun e w'=>e=.returned (.tuple #[.string (bs (rowA a)),.int .i64 0])∧Below w.heap.size w w':=by
 have:=fWrite_any ks2 ks2_ok (by decide) (by decide) (fsA a) (fsA_small h) (by simp [fsA]) (fun f hf=>fsA_l a f hf) _ _ w hv
 rw [fw_row h] at this
 exact this
theorem rwrite_ac (a:Ac) (h:a.bal < 18446744073709551616∧a.non < 18446744073709551616) (w:World) (g:Nat) (hv:FdsV Any w (fsA a) (some ⟨g,0,none⟩) 2) :
  Calls Tryz.prog 29 #[.string ⟨#[110,110]⟩,.slice (some ⟨g,0,none⟩) 2 2] w fun e w'=>e=.returned (.tuple #[.string (bs (rowA a)),.int .i64 0])∧Below w.heap.size w w':=by
 have:=rWrite_any ks2 ks2_ok (by decide) (by decide) (fsA a) (fsA_small h) (by simp [fsA]) (fun f hf=>fsA_l a f hf) _ _ w hv
 rw [fw_row h] at this
 exact this
theorem Root15_any (l:List Ac) (hl:l.length≤1000) (hs:smallA l) (hal:∀ a∈l,a.addr.length≤1000) (hr:rightS l=true) (A:Option Addr) (c:Nat) (w:World) (hv:AcsV Any w l A c) :
  Calls Tryz.prog 15 #[.slice A l.length c] w fun e w'=>e=.returned (.tuple #[.string (bs (rootP (pairsA l))),.int .i64 0])∧Below w.heap.size w w':=by
 have h24:l.length≤24:=by
  unfold rightS at hr
  have:=(Bool.and_eq_true_iff.1 hr).1
  simpa using this
 have hR:=Right15_any l hl hs A c w hv
 rw [hr] at hR
 have HOK:=Lib.hid (fun i (hi:i≤l.length)=>pairsA_ok l hs i hi (by omega))
 have HS:=Lib.hid hs
 have HAL:=Lib.hid hal
 have HV:=Lib.hid (Rep.old hv)
 have HR:=Lib.hid hR
 have hlI:(l.length:Int)≤24:=by omega
 clear hR hv hs hal hr
 go_enter Tryz.func15,Tryz.ntmps15
 go_wp2_with fail
 refine HR.out.mono ?_
 clear HR
 rintro e w1 ⟨rfl,hb1⟩
 have HB1:=Lib.hid hb1
 clear hb1
 go_wp2_with fail
 refine (New_any w1).mono ?_
 rintro e w2 ⟨rfl,hb2⟩
 have hB2:=below_call HB1.out HB1.out.size hb2
 obtain ⟨G,hG⟩:∃ G,w2.heap.size=G:=⟨_,rfl⟩
 have hG0:=heap_alloc_new w2 (.cells #[.slice none 0 0,.int .i64 (-1)] 75)
 rw [hG] at hG0
 have hGw:w.heap.size≤G:=by have:=hB2.size;omega
 have HG0:=Lib.hid hG0
 have HB2:=Lib.hid (hB2.alloc hB2.size (.cells #[.slice none 0 0,.int .i64 (-1)] 75))
 clear hb2 hB2 hG0 HB1
 go_wp2_with fail
 try rw [hG]
 clear hG
 go_loopw [16] (fun a wr=>∃ (i:Nat) (ns:List TN) (R:Int) (A1:Option Addr) (c1:Nat),a=.int .i64 i∧i≤l.length∧Hid (ofP (pairsA (l.take i))=(ns,R))∧wr.heap[G]? = some (.cells #[.slice A1 ns.length c1,.int .i64 R] 75 (0,0))∧TNs Any wr ns A1 c1∧Below w.heap.size w wr) (fun a _=>l.length - (intOf a).toNat)
 case atStart=>exact ⟨0,[],-1,none,0,rfl,Nat.zero_le _,Lib.hid ofP_nil,HG0.out,TNs.emp _ _,HB2.out⟩
 case round =>
  clear HG0 HB2
  obtain ⟨i,ns,R1,A1,c1,rfl,hi,hN,hG,ht,hB⟩:=hrel
  by_cases hlt:i < l.length
  ·obtain ⟨a,ha⟩:=getElem_ex hlt
   obtain ⟨g,o,rfl,hgo,hc⟩:=acs_at HV.out ha
   have hltI:(i:Int) < l.length:=by omega
   have hsm:=HS.out a (List.mem_of_getElem? ha)
   have hsl:=HAL.out a (List.mem_of_getElem? ha)
   have hrl:=rowA_len hsm
   obtain ⟨hok,hol⟩:=HOK.out i hi
   have hst:=pairsA_step ha
   have hwr:=fun W X hx=>write_ac a hsm W X hx
   have hfd:=fun W=>fds_new W a
   obtain ⟨ns2,R2,hN2⟩:∃ ns2 R2,ofP (pairsA (l.take (i+1)))=(ns2,R2):=⟨_,_,rfl⟩
   have hP:=fun (W:World) hT=>put_ref (pairsA (l.take i)) hok (by omega) (sumK a.addr) (rowA a) (by rw [sumK_len];omega) hrl A1 c1 W hT
   rw [← hst,hN2,hN.out] at hP
   simp only [] at hP
   have hsu:=fun (W:World)=>sum_any a.addr (by omega) W
   obtain ⟨rw,hrw⟩:∃ rw,rowA a=rw:=⟨_,rfl⟩
   rw [hrw] at hwr hP
   obtain ⟨sk,hsk⟩:∃ sk,sumK a.addr=sk:=⟨_,rfl⟩
   rw [hsk] at hP hsu
   obtain ⟨s,b,n⟩:=a
   simp only [] at hsm hsl hwr hfd hsu
   have q0:=(hB.cell (p:=⟨g,o+i * 3+0,none⟩) hgo).trans (hc 0 _ rfl)
   have q1:=(hB.cell (p:=⟨g,o+i * 3+1,none⟩) hgo).trans (hc 1 _ rfl)
   have q2:=(hB.cell (p:=⟨g,o+i * 3+2,none⟩) hgo).trans (hc 2 _ rfl)
   simp only [Nat.add_zero] at q0 q1 q2
   obtain ⟨X,hXe⟩:∃ X,wr.heap.size=X:=⟨_,rfl⟩
   have hX0:=heap_alloc_new wr (.cells #[.string (bs s),.int .u64 (b:Int),.int .u64 (n:Int)] 44)
   have hb0:Below wr.heap.size wr ((wr.alloc (.cells #[.string (bs s),.int .u64 (b:Int),.int .u64 (n:Int)] 44)).alloc (.cells #[.int .u64 (b:Int),.string ⟨#[]⟩,.slice none 0 0,.int .u64 (n:Int),.string ⟨#[]⟩,.slice none 0 0] 56)):=((Below.refl _ _).alloc (Nat.le_refl _) _).alloc (by simp) _
   have hX1:=(heap_alloc_old (wr.alloc (.cells #[.string (bs s),.int .u64 (b:Int),.int .u64 (n:Int)] 44)) (.cells #[.int .u64 (b:Int),.string ⟨#[]⟩,.slice none 0 0,.int .u64 (n:Int),.string ⟨#[]⟩,.slice none 0 0] 56) (r:=wr.heap.size) (by simp)).trans hX0
   have hF:=hfd (wr.alloc (.cells #[.string (bs s),.int .u64 (b:Int),.int .u64 (n:Int)] 44))
   have hWR:=hwr _ _ hF
   rw [World.size_alloc,hXe] at hWR
   rw [hXe] at hX1
   have HX:=Lib.hid hX1
   have HB0:=Lib.hid (below_call hB hB.size hb0)
   have HG0:=Lib.hid ((hb0.block _ (Array.getElem?_eq_some_iff.1 hG).1).trans hG)
   have HT0:=Lib.hid (ht.keep hb0)
   have HWR:=Lib.hid hWR
   have HP:=Lib.hid hP
   have HSU:=Lib.hid hsu
   have HN2:=Lib.hid hN2
   have hne:G≠X:=by have:=(Array.getElem?_eq_some_iff.1 hG).1;omega
   clear ha hc hgo hB hG ht hN hP hsu hwr hfd hrw hsk hst hok hol hrl hX0 hX1 hb0 hF hWR hN2
   go_wp2_with fail
   refine HWR.out.mono ?_
   clear HWR q0 q1 q2
   rintro e w4 ⟨rfl,hb4⟩
   have HX4:=Lib.hid ((hb4.block _ (Array.getElem?_eq_some_iff.1 HX.out).1).trans HX.out)
   have HB4:=Lib.hid (below_call HB0.out HB0.out.size hb4)
   have HG4:=Lib.hid ((hb4.block _ (Array.getElem?_eq_some_iff.1 HG0.out).1).trans HG0.out)
   have HT4:=Lib.hid (HT0.out.keep hb4)
   clear hb4 HX HB0 HG0 HT0
   go_wp2_with fail
   try rw [hXe]
   have hG:w4.drew.heap[G]? = _:=HG4.out
   have hX:w4.drew.heap[X]? = _:=HX4.out
   have hB:Below w.heap.size w w4.drew:=HB4.out.drew
   have ht:TNs Any w4.drew ns A1 c1:=HT4.out.mono fun b _ h=>⟨h,rfl⟩
   clear HG4 HX4 HB4 HT4
   refine wp_region_R [(9,fun w'=>w'.heap[G]? = some (.cells #[.slice A1 ns.length c1,.int .i64 R1] 75 (0,0))),(99,fun w'=>w'.heap[X]? = some (.cells #[.string (bs s),.int .u64 (b:Int),.int .u64 (n:Int)] 44 (0,0)))] (by kernel_rfl) ?_
   generalize w4.drew=W at hG hX hB ht ⊢
   refine R_l (i:=0) (v:=.agg #[.slice A1 ns.length c1,.int .i64 R1]) 9 _ List.mem_cons_self rfl (yieldsIf_load_row rfl rfl rfl (fun w' hS=>hS) Tryz.underlying75 rfl infoT) (Meets.here hG (Meets.here hX Meets.nil)) ?_
   refine R_p (i:=1) (v:=.pointer (some ⟨X,0,none⟩)) (Meets.here hG (Meets.here hX Meets.nil)) ?_
   refine R_l (i:=2) (v:=.string (bs s)) 99 _ (List.mem_cons_of_mem _ List.mem_cons_self) rfl (yieldsIf_load_cell rfl rfl rfl (fun w' hS=>rc0 hS) Tryz.underlying9 rfl) (Meets.here hG (Meets.here hX Meets.nil)) ?_
   refine R_p (i:=4) (v:=.string (bs rw)) (Meets.here hG (Meets.here hX Meets.nil)) ?_
   refine R_now 3 fun K hK=>?_
   go_simp
   refine (HSU.out _).mono ?_
   rintro e w5 ⟨rfl,hb5⟩
   replace hG:=(hb5.block _ (Array.getElem?_eq_some_iff.1 hG).1).trans hG
   replace hX:=(hb5.block _ (Array.getElem?_eq_some_iff.1 hX).1).trans hX
   replace hB:=below_call hB hB.size hb5
   replace ht:=ht.keep hb5
   clear hb5
   refine hK.out _ _ (Meets.here hG (Meets.here hX Meets.nil)) (fun hMeets=>?_)
   clear hK K hMeets
   refine lay_R ?_
   refine R_now 5 fun K hK=>?_
   go_simp
   refine (HP.out _ ht).mono ?_
   rintro e w6 ⟨A2,c2,rfl,ht2,hb6⟩
   clear ht
   replace hG:=(hb6.block _ (Array.getElem?_eq_some_iff.1 hG).1).trans hG
   replace hX:=(hb6.block _ (Array.getElem?_eq_some_iff.1 hX).1).trans hX
   replace hB:=below_call hB hB.size hb6
   clear hb6
   refine hK.out _ _ (Meets.here hG (Meets.here hX Meets.nil)) (fun hMeets=>?_)
   clear hK K hMeets
   refine lay_R ?_
   refine R_p (i:=6) (v:=.tuple #[.agg #[.slice A2 ns2.length c2,.int .i64 R2],.int .i64 0]) (Meets.here hG (Meets.here hX Meets.nil)) ?_
   refine R_p (i:=7) (v:=.agg #[.slice A2 ns2.length c2,.int .i64 R2]) (Meets.here hG (Meets.here hX Meets.nil)) ?_
   refine R_p (i:=8) (v:=.int .i64 0) (Meets.here hG (Meets.here hX Meets.nil)) ?_
   have d0:w6.cell? ⟨G,0,none⟩=some (.slice A1 ns.length c1):=rc hG 0 rfl
   have d1:w6.cell? ⟨G,1,none⟩=some (.int .i64 R1):=rc hG 1 rfl
   have f0:=rf hG 0
   have f1:=rf hG 1
   have hGl:=(Array.getElem?_eq_some_iff.1 hG).1
   refine R_now 9 fun K hK=>?_
   have HG9:Hid (((w6.setCell ⟨G,0,none⟩ (.slice A2 ns2.length c2)).setCell ⟨G,1,none⟩ (.int .i64 R2)).heap[G]? = some (.cells #[.slice A2 ns2.length c2,.int .i64 R2] 75 (0,0))):=Lib.hid (heap_setCell_here (heap_setCell_here hG _) _)
   have hX9:((w6.setCell ⟨G,0,none⟩ (.slice A2 ns2.length c2)).setCell ⟨G,1,none⟩ (.int .i64 R2)).heap[X]? = _:=(heap_set_ne (by omega) _).trans ((heap_set_ne (by omega) _).trans hX)
   have HT9:Hid (TNs Any ((w6.setCell ⟨G,0,none⟩ (.slice A2 ns2.length c2)).setCell ⟨G,1,none⟩ (.int .i64 R2)) ns2 A2 c2):=Lib.hid ((tns_ne ht2 hG).mono fun b _ (hs:b≠G)=>⟨trivial,by rw [heap_set_ne (by omega),heap_set_ne (by omega)]⟩)
   have HB9:Hid (Below w.heap.size w ((w6.setCell ⟨G,0,none⟩ (.slice A2 ns2.length c2)).setCell ⟨G,1,none⟩ (.int .i64 R2))):=Lib.hid ((hB.setCell (p:=⟨G,_,_⟩) (by simp;omega) _).setCell (p:=⟨G,_,_⟩) (by simp;omega) _)
   clear hG hX ht2 hB hGl
   go_simp
   refine hK.out _ _ (Meets.past (by kernel_rfl) (Meets.here hX9 Meets.nil)) (fun hMeets=>?_)
   clear hK K hMeets
   refine lay_R ?_
   refine R_p (i:=10) (v:=.int .i64 0) (Meets.past (by kernel_rfl) (Meets.here hX9 Meets.nil)) ?_
   refine R_done (by kernel_rfl) ?_ _
   go_wp2_with fail
   go_roundw
   case rel=>exact ⟨i+1,ns2,R2,A2,c2,by go_num,by omega,HN2,HG9.out,HT9.out,HB9.out⟩
   case measure=>simp [intOf];omega
  ·obtain rfl:i=l.length:=by omega
   have hN:=hN.out
   rw [List.take_length] at hN
   obtain ⟨hok,hol⟩:=HOK.out l.length (Nat.le_refl _)
   rw [List.take_length] at hok
   have hRT:=fun (W:World) hT=>Root_any (pairsA l) hok A1 c1 W hT
   rw [hN] at hRT
   simp only [] at hRT
   have d0:wr.cell? ⟨G,0,none⟩=some (.slice A1 ns.length c1):=rc hG 0 rfl
   have d1:wr.cell? ⟨G,1,none⟩=some (.int .i64 R1):=rc hG 1 rfl
   have HRT:=Lib.hid (hRT wr ht)
   have HB:=Lib.hid hB
   obtain ⟨Z,hZ⟩:∃ Z,rootP (pairsA l)=Z:=⟨_,rfl⟩
   rw [hZ] at HRT
   have HZ:=Lib.hid hZ
   clear hRT hN hok hol hG ht hB hZ
   go_wp2_with fail
   refine HRT.out.mono ?_
   rintro e w5 ⟨rfl,hb5⟩
   go_wp2_with fail
   go_ret2
   exact ⟨by rw [HZ.out];rfl,below_call HB.out HB.out.size hb5⟩
theorem refRoot15_any (l:List Ac) (hl:l.length≤24) (hs:smallA l) (hal:∀ a∈l,a.addr.length≤1000) (A:Option Addr) (c:Nat) (w:World) (hv:AcsV Any w l A c) :
  Calls Tryz.prog 30 #[.slice A l.length c] w fun e w'=>e=.returned (.string (bs (rootP (pairsA l))))∧Below w.heap.size w w':=by
 have HOK:=Lib.hid (fun i (hi:i≤l.length)=>pairsA_ok l hs i hi (by omega))
 have HS:=Lib.hid hs
 have HAL:=Lib.hid hal
 have HV:=Lib.hid (Rep.old hv)
 have hlI:(l.length:Int)≤24:=by omega
 have hb0:Below w.heap.size w (w.alloc (.cells #[] 121)):=(Below.refl _ _).alloc (Nat.le_refl _) _
 have HB0:=Lib.hid hb0
 clear hv hs hal hb0
 go_enter Tryz.func30,Tryz.ntmps30
 go_wp2_with fail
 go_loopw [3,11] (fun p a wr=>∃ (i:Nat) (A1:Option Addr) (c1:Nat),a=.int .i64 i∧i≤l.length∧p=.slice A1 (pairsA (l.take i)).length c1∧KVs Any wr (pairsA (l.take i)) A1 c1∧Below w.heap.size w wr) (fun _ a _=>l.length - (intOf a).toNat)
 case atStart=>exact ⟨0,_,_,rfl,Nat.zero_le _,rfl,⟨Lies.nil,Nat.le_refl _,Nat.zero_le _⟩,HB0.out⟩
 case round =>
  clear HB0
  obtain ⟨i,A1,c1,rfl,hi,rfl,hk,hB⟩:=hrel
  by_cases hlt:i < l.length
  ·obtain ⟨a,ha⟩:=getElem_ex hlt
   obtain ⟨g,o,rfl,hgo,hc⟩:=acs_at HV.out ha
   have hltI:(i:Int) < l.length:=by omega
   have hsm:=HS.out a (List.mem_of_getElem? ha)
   have hsl:=HAL.out a (List.mem_of_getElem? ha)
   obtain ⟨hok,hol⟩:=HOK.out i hi
   have hst:=pairsA_step ha
   have hwr:=fun W X hx=>rwrite_ac a hsm W X hx
   have hfd:=fun W=>fds_new W a
   have hP:=fun (W:World) hT=>refPut_any (pairsA (l.take i)) (by omega) (sumK a.addr) (rowA a) A1 c1 W hT
   rw [← hst] at hP
   obtain ⟨L1,hL1⟩:∃ L1,pairsA (l.take i)=L1:=⟨_,rfl⟩
   rw [hL1] at hP hk ⊢
   have hsu:=fun (W:World)=>refSum_any a.addr (by omega) W
   obtain ⟨rw,hrw⟩:∃ rw,rowA a=rw:=⟨_,rfl⟩
   rw [hrw] at hwr hP
   obtain ⟨sk,hsk⟩:∃ sk,sumK a.addr=sk:=⟨_,rfl⟩
   rw [hsk] at hP hsu
   obtain ⟨s,b,n⟩:=a
   simp only [] at hsm hsl hwr hfd hsu
   have q0:=(hB.cell (p:=⟨g,o+i * 3+0,none⟩) hgo).trans (hc 0 _ rfl)
   have q1:=(hB.cell (p:=⟨g,o+i * 3+1,none⟩) hgo).trans (hc 1 _ rfl)
   have q2:=(hB.cell (p:=⟨g,o+i * 3+2,none⟩) hgo).trans (hc 2 _ rfl)
   simp only [Nat.add_zero] at q0 q1 q2
   have hX0:=heap_alloc_new wr (.cells #[.string (bs s),.int .u64 (b:Int),.int .u64 (n:Int)] 44)
   have hb0:Below wr.heap.size wr ((wr.alloc (.cells #[.string (bs s),.int .u64 (b:Int),.int .u64 (n:Int)] 44)).alloc (.cells #[.int .u64 (b:Int),.string ⟨#[]⟩,.slice none 0 0,.int .u64 (n:Int),.string ⟨#[]⟩,.slice none 0 0] 56)):=((Below.refl _ _).alloc (Nat.le_refl _) _).alloc (by simp) _
   have hX1:=(heap_alloc_old (wr.alloc (.cells #[.string (bs s),.int .u64 (b:Int),.int .u64 (n:Int)] 44)) (.cells #[.int .u64 (b:Int),.string ⟨#[]⟩,.slice none 0 0,.int .u64 (n:Int),.string ⟨#[]⟩,.slice none 0 0] 56) (r:=wr.heap.size) (by simp)).trans hX0
   have hF:=hfd (wr.alloc (.cells #[.string (bs s),.int .u64 (b:Int),.int .u64 (n:Int)] 44))
   have hWR:=hwr _ _ hF
   rw [World.size_alloc] at hWR
   have HX:=Lib.hid hX1
   have HB0:=Lib.hid (below_call hB hB.size hb0)
   have HT0:=Lib.hid (hk.keep hb0)
   have HWR:=Lib.hid hWR
   have HP:=Lib.hid hP
   have HSU:=Lib.hid hsu
   clear ha hc hgo hB hk hP hsu hwr hfd hrw hsk hst hok hol hX0 hX1 hb0 hF hWR hL1
   go_wp2_with fail
   refine HWR.out.mono ?_
   clear HWR q0 q1 q2
   rintro e w4 ⟨rfl,hb4⟩
   have hX4:=(hb4.block _ (Array.getElem?_eq_some_iff.1 HX.out).1).trans HX.out
   have e0:w4.cell? ⟨wr.heap.size,0,none⟩=some (.string (bs s)):=rc0 hX4
   have HB4:=Lib.hid (below_call HB0.out HB0.out.size hb4)
   have HT4:=Lib.hid (HT0.out.keep hb4)
   clear hb4 HX HB0 HT0 hX4
   go_wp2_with fail
   refine (HSU.out _).mono ?_
   rintro e w5 ⟨rfl,hb5⟩
   have HB5:=Lib.hid (below_call HB4.out HB4.out.size hb5)
   have HT5:=Lib.hid (HT4.out.keep hb5)
   clear hb5 e0 HB4 HT4
   go_wp2_with fail
   refine (HP.out w5 HT5.out).mono ?_
   rintro e w6 ⟨A2,c2,rfl,hk6,hb6⟩
   have HB6:=Lib.hid (below_call HB5.out HB5.out.size hb6)
   clear hb6 HB5 HT5
   go_wp2_with fail
   go_roundw
   case rel=>exact ⟨i+1,A2,c2,by go_num,by omega,rfl,hk6,HB6.out⟩
   case measure=>simp [intOf];omega
  ·obtain rfl:i=l.length:=by omega
   obtain ⟨hok,hol⟩:=HOK.out l.length (Nat.le_refl _)
   rw [List.take_length] at hok hk
   rw [List.take_length]
   have HRT:=Lib.hid (refRoot_any (pairsA l) hok A1 c1 wr hk)
   have HB:=Lib.hid hB
   obtain ⟨Z,hZ⟩:∃ Z,rootP (pairsA l)=Z:=⟨_,rfl⟩
   rw [hZ] at HRT
   have HZ:=Lib.hid hZ
   obtain ⟨M,hM⟩:∃ M,(pairsA l).length=M:=⟨_,rfl⟩
   rw [hM] at HRT ⊢
   clear hok hol hk hB hZ hM
   go_wp2_with fail
   refine HRT.out.mono ?_
   rintro e w5 ⟨rfl,hb5⟩
   go_wp2_with fail
   go_ret
   exact ⟨by rw [HZ.out];rfl,below_call HB.out HB.out.size hb5⟩
end Go.Proofs.YtdfmheademcbkaaGreat
