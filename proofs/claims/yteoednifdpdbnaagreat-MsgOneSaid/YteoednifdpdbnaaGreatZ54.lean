/- The walks of msg.record and msg.records. -/
import Derived.Test.YteoednifdpdbnaaGreatZ52
import Derived.Test.YteoednifdpdbnaaGreatZ47
namespace Go.Proofs.YteoednifdpdbnaaGreat
set_option linter.unusedVariables false
set_option linter.unusedSimpArgs false
open Go.RowKit
set_option maxHeartbeats 4000000
set_option maxRecDepth 100000
theorem Mem.app {w0 w w':World} {L:List Blk} {v:Value} {base:Nat} {e:TypeId} {size n:Nat} {xs:List Value} (h:Mem w0 w L) (hown:w.ownsRow base e size v n xs) (hg:w.grownBy w' v.ownBlock) (hL:∀ p∈L,p.1 < base) (hb:w0.heap.size≤base):Mem w0 w' L :=
 ⟨qa7 h.below hown hg h.below.size hb,fun p hp=>⟨(hg.block p.1 (h.lt hp) (fun he=>by have:=(hown.lt p.1 he.symm).1;have:=hL p hp;omega)).trans (h.rows p hp).1,(h.rows p hp).2⟩,h.apart⟩
theorem tyItn:AggT Tryz.prog 53 3:=⟨⟨_,Tryz.underlying53,rfl⟩,by kernel_rfl⟩
theorem qle {o:Oper} (ho:o.op=.alloc 53) (ρ:Operand→Value) (w:World):(execOp ρ o).run Tryz.prog w=.ok (.value (.pointer (some ⟨w.heap.size,0,none⟩))) (w.alloc (.cells #[.bool false,.string (bs []),.slice none 0 0] 53)):=by
 unfold execOp
 simp only [ho]
 rw [show bs []=(⟨#[]⟩:ByteArray) from rfl]
 go_simp
theorem qtg (l:Bool) (s:ByteArray) (A:Option Addr) (n c:Nat):(#[.bool l,.string s,.slice A n c]:Array Value).all (·.oneCell')=true:=by simp [Value.oneCell']
theorem qti:Ent Tryz.prog 57:=⟨enters_of Tryz.func57 (by kernel_rfl) rfl⟩
theorem fwP_mn (n:Nt) (h:n.Wf) (h32:n.id.length≤32):fwP mnK (mnF n)=(mnB n,0):=by
 unfold fwP
 rw [if_pos (qha n (by omega)),qfo (by decide) (qha n (by omega)) (qf1 h) (by have:=qmo h32 h;unfold mnB at this;omega)]
 rfl
theorem mnwrite (n:Nt) (h:n.Wf) (h32:n.id.length≤32) (A:Option Addr) (c:Nat) (w:World) (hv:FdsV Any w (mnF n) A c) :
  Calls Tryz.prog 42 #[.string ⟨#[110,110,110,98,110,115]⟩,.slice A 6 c] w fun e w'=>e=.returned (.tuple #[.string (bs (mnB n)),.int .i64 0])∧Below w.heap.size w w':=by
 have h1:=qep mnK mnK_ok (by decide) (by decide) (mnF n) (qf1 h) (by show 6≤1000;decide) (fun f hf=>by simp only [mnF,List.mem_cons,List.not_mem_nil,or_false] at hf;rcases hf with rfl | rfl | rfl | rfl | rfl | rfl <;> exact Nat.zero_le _) A c w hv
 rw [fwP_mn n h h32] at h1
 exact h1
def mnC (n:Nt):List Value:=[.int .u64 (n.kd:Int),.string (bs []),.slice none 0 0,.int .u64 (n.ht:Int),.string (bs []),.slice none 0 0,.int .u64 (n.rd:Int),.string (bs []),.slice none 0 0,.int .u64 0,.string (bs n.id),.slice none 0 0,.int .u64 (n.pr:Int),.string (bs []),.slice none 0 0,.int .u64 0,.string (bs (sgB n.sg)),.slice none 0 0]
theorem mnC_rep {S:Nat→Prop} {w:World} (n:Nt):RepN S w 3 (fdsD (mnF n)) (mnC n) :=
 .cons (qby n.kd []) rfl (.cons (qby n.ht []) rfl (.cons (qby n.rd []) rfl (.cons (qby 0 n.id) rfl (.cons (qby n.pr []) rfl (.cons (cs':=[]) (qby 0 (sgB n.sg)) rfl .nil)))))
theorem qic (n:Nt) (h:n.Wf) (hk:okNt n=true) (w:World):Calls Tryz.prog 58 #[.agg (ntC n)] w fun e w'=>e=.returned (.agg #[.bool false,.string (bs (mnB n)),.slice none 0 0])∧Below w.heap.size w w':=by
 obtain ⟨h32,hs,_⟩:=qh7 hk
 have HF:Hid (∀ W:World,Calls Tryz.prog 113 #[.agg (ntC n)] W (NFieldsPost n W)):=qh (fun W=>qhp n W)
 have HW:=qh (fun A c (W:World) hv=>mnwrite n h h32 A c W hv)
 have c_s:∀ W:World,Calls Tryz.prog 41 #[.agg (sgCn n.sg)] W fun e w'=>e=.returned (.tuple #[.string (bs (sgB n.sg)),.int .i64 0])∧Below W.heap.size W w':=fun W=>qb2 n.sg h.sg hs W
 have HR:Hid (∀ (S:Nat→Prop) (W:World),RepN S W 3 (fdsD (mnF n)) (ndC5 n ++ [.int .u64 0,.string (bs (sgB n.sg)),.slice none 0 0])):=qh (fun (S:Nat→Prop) (W:World)=>mnC_rep (S:=S) (w:=W) n)
 obtain ⟨S5,hS5⟩:∃ s,sgB n.sg=s:=⟨_,rfl⟩
 have pa:PartAt (ntC n) 5 9 (sgCn n.sg):=pa_sg n
 obtain ⟨B,hB⟩:∃ b,mnB n=b:=⟨_,rfl⟩
 rw [hS5] at HR c_s
 simp only [hB] at HW ⊢
 have hM:=Mem.nil w
 clear h hk h32 hs hS5 hB
 go_enter Tryz.func58,Tryz.ntmps58
 go_wp2_with (first
  | (refine qam 1 rfl hM rfl rfl rfl (boxNt n _) ?_;clear hM;intro w' g1 hM)
  | (refine qaj 2 rfl hM rfl (qle rfl) ?_;clear hM;intro w' g2 hM)
  | (refine qav hM rfl rfl tySgn rfl (by exact hat) pa ?_)
  | (refine qai hM rfl rfl tyNt rfl (by exact hat) rfl ?_)
  | (refine qak 10 rfl hM rfl rfl qid (al:=[.agg (sgCn n.sg)]) (c_s _) rfl ?_;clear hM;intro w' hM))
 refine (HF.out _).mono ?_
 rintro e w3 ⟨g,rfl,hown,hb3⟩
 have hL:=fun (p:Blk) hp=>hM.lt (p:=p) hp
 have h0:=hM.below.size
 replace hM:=hM.call hb3
 have hsz:=hb3.size
 clear hb3
 go_wp2_with (at_builtin;refine qa0 qfc rfl rfl w'.heap.size (hown.alloc _) rfl (m:=1) [.int .u64 0,.string (bs S5),.slice none 0 0] rfl rfl (qca _ _ _) ?_ ?_ ?_ ?_ ?_;(intro u hu;simp at hu;rcases hu with rfl | rfl | rfl <;> rfl);(simp only [maxLen];omega);omega;(simp;omega);intro v1 w4 hown1 hg1 hat1;obtain ⟨A4,c4,rfl⟩:=qa4 hown1;replace hM:=(hM.alloc _ _).tail.app (hown.alloc _) hg1 hL h0)
 have hv:FdsV Any w4 (mnF n) A4 c4:=qck (S:=Any) hown1 (HR.out _ _) (by rfl) (fun _ _ _=>trivial)
 have c_w:=HW.out A4 c4 w4 hv
 clear hv hown1 hg1 hat1 hown hL h0 hsz HR HW HF
 refine c_w.mono ?_
 rintro e w5 ⟨rfl,hb⟩
 replace hM:=hM.call hb
 clear hb c_w
 go_wp2_with (first
  | (refine qae hM rfl rfl tyItn rfl rfl (by exact hau) rfl rfl (qtg _ _ _ _ _) ?_;clear hM;intro w' hM))
 refine res_c hM rfl tyItn rfl (by exact hat) rfl rfl ?_
 exact ⟨rfl,hM.below⟩
theorem own_nil (w:World) (base:Nat) (e:TypeId) (sz:Nat):w.ownsRow base e sz (.slice none 0 0) 0 []:=⟨by simp,.inl ⟨rfl,rfl⟩⟩
theorem y_sl {ops:Array Oper} {S:World→Prop} {oi:Oper} {a:Act} {x:Operand} {g:Nat} {v:Value} (hS:∀ w',S w'→w'.cell? ⟨g,2,none⟩=some v) (ho:oi.op=.load 51 x:=by rfl) (hx:a.eval x=.pointer (some ⟨g,2,none⟩):=by rfl) (hw:Region.wanted oi (yielded ops a.tmps)=true:=by rfl):YieldsIf Tryz.prog ops S oi v a :=
 qag hw ho hx hS Tryz.underlying51 rfl
theorem qgv (l:List Nt) (hl:l.length≤10000) (hf:∀ n∈l,n.Wf∧okNt n=true) (A:Option Addr) (c:Nat) (w:World) (hv:NtsV Any w l A c) :
  Calls Tryz.prog 59 #[.slice A l.length c] w fun e w'=>∃ A' c',e=.returned (.agg #[.bool true,.string (bs []),.slice A' l.length c'])∧ItemV (From w.heap.size) w' (listIt (l.map ntIt)) A' c'∧Below w.heap.size w w':=by
 have hlI:(l.length:Int)≤10000:=by omega
 have HF:=qh hf
 have HV:=qh hv
 have hM:=Mem.nil w
 clear hf hv
 go_enter Tryz.func59,Tryz.ntmps59
 go_wp2_with (first
  | (refine qaj 2 rfl hM rfl (qle rfl) ?_;clear hM;intro w' g2 hM)
  | (refine qaj 3 rfl hM rfl (qle rfl) ?_;clear hM;intro w' g3 hM)
  | (refine qak 6 rfl hM rfl rfl qti (al:=[.slice none 0 0]) (qg9 none 0 0 _) rfl ?_;clear hM;intro w' hM)
  | (refine qae hM rfl rfl tyItn rfl rfl (by exact hau) rfl rfl (qtg _ _ _ _ _) ?_;clear hM;intro w' hM))
 have hg3:g3 < w'.heap.size:=hM.lt (List.mem_of_getElem? at0)
 have hg2:g2 < w'.heap.size:=hM.lt (List.mem_of_getElem? at1)
 have h0:=hM.below.size
 obtain ⟨B,hB⟩:∃ B,w'.heap.size=B:=⟨_,rfl⟩
 have hBs:B≤w'.heap.size:=Nat.le_of_eq hB.symm
 rw [hB] at hg3 hg2 h0
 clear hB
 have hown0:=own_nil w' B 53 3
 go_loopw [9] (fun a wr=>∃ (i:Nat) (A':Option Addr) (c':Nat),a=.int .i64 (i:Int)∧i≤l.length∧wr.ownsRow B 53 3 (.slice A' i c') i (itsC ((l.take i).map mnB))∧Mem w wr [(g3,#[.bool true,.string (bs []),.slice A' i c'],53),(g2,#[.bool false,.string (bs []),.slice none 0 0],53)]∧B≤wr.heap.size) (fun a _=>l.length - (intOf a).toNat)
 case atStart=>exact ⟨0,none,0,rfl,Nat.zero_le _,hown0,hM,hBs⟩
 case round =>
  clear hM hown0 hBs
  obtain ⟨i,A',c',rfl,hi,hown,hM,hBs⟩:=hrel
  by_cases hlt:i < l.length
  ·obtain ⟨n,hn⟩:=qan hlt
   obtain ⟨⟨g,o,rfl⟩,hat⟩:=qnf HV.out hn
   have hltI:(i:Int) < l.length:=by omega
   obtain ⟨hnw,hnk⟩:=HF.out n (List.mem_of_getElem? hn)
   have c_m:=fun W:World=>qic n hnw hnk W
   have hv:PlV Any w 14 (l.map ntL) (some ⟨g,o,none⟩) c:=HV.out
   have HA:=qh hat
   have HT:Hid ((l.take (i+1)).map mnB=(l.take i).map mnB ++ [mnB n]):=qh (by rw [qbk hn,List.map_append];rfl)
   obtain ⟨s,hs⟩:∃ s,mnB n=s:=⟨_,rfl⟩
   rw [hs] at c_m HT
   have hN:=Mem.nil wr
   have HO:=qh hown
   have HM:=qh hM
   clear hat hn hnw hnk hs hown hM
   go_wp2_with (first
    | (refine qfv (hM:=(HM.out.call hN.below)) hv HA.out (by decide) rfl rfl tyNt rfl (ntC n) rfl ?_)
    | (refine qaj 5 rfl hN rfl (runNt rfl) ?_;clear hN;intro w' g5 hN)
    | (refine qae hN rfl rfl tyNt rfl rfl (by exact hau) rfl rfl (oneNt _) ?_;clear hN;intro w' hN))
   refine qat [(5,fun v'=>Mem wr v' [(g5,ntC n,40)]),(3,fun v'=>Mem wr v' [(g5,ntC n,40)])] (by kernel_rfl) ?_
   replace hN:=hN.drew
   generalize w'.drew=w1 at hN ⊢
   refine R_p (i:=0) (v:=.pointer (some ⟨g3,2,none⟩)) (Mh hN (Mh hN Mn)) ?_
   refine R_l (i:=1) 5 _ List.mem_cons_self rfl (y_sl (v:=.slice A' i c') (fun v' h=>rc (((Mem.below h).block g3 (HM.out.lt (List.mem_of_getElem? at0))).trans (HM.out.at_ at0)) 2 rfl)) (Mh hN (Mh hN Mn)) ?_
   refine R_l (i:=2) 3 _ (List.mem_cons_of_mem _ List.mem_cons_self) rfl (qfb tyNt (fun _ h=>Mem.at_ h at0)) (Mh hN (Mh hN Mn)) ?_
   refine R_now 3 fun K hK=>?_
   go_simp
   refine (c_m _).mono ?_
   rintro e w3 ⟨rfl,hb3⟩
   replace hN:=hN.call hb3
   clear hb3
   refine hK.out _ _ (Mh hN (Meets.past (by kernel_rfl) Mn)) (fun _=>lay_R ?_)
   clear hK K
   refine R_now 4 fun K hK=>?_
   have hlies:=qca w3 #[.bool false,.string (bs s),.slice none 0 0] 53
   replace hN:=(hN.alloc #[.bool false,.string (bs s),.slice none 0 0] 53).tail
   go_simp
   obtain ⟨N,hNe⟩:∃ N,w3.heap.size=N:=⟨_,rfl⟩
   rw [hNe] at hlies ⊢
   generalize w3.alloc (.cells #[.bool false,.string (bs s),.slice none 0 0] 53)=w5 at hlies hN ⊢
   clear hNe
   refine hK.out _ _ (Mh hN (Meets.past (by kernel_rfl) Mn)) (fun _=>lay_R ?_)
   clear hK K
   have hM:=HM.out.call hN.below
   have hown:=qa5 HO.out hN.below
   have hle:B≤w5.heap.size:=Nat.le_trans hBs hN.below.size
   refine R_now 5 fun K hK=>?_
   refine qpq qi6 rfl rfl B hown rfl (m:=1) [.bool false,.string (bs s),.slice none 0 0] rfl rfl hlies ?_ ?_ ?_ hle ?_
   ·intro u hu;simp at hu;rcases hu with rfl | rfl | rfl <;> rfl
   ·simp only [maxLen];omega
   ·omega
   intro v1 w6 hown1 hg1 hat1
   obtain ⟨A3,c3,rfl⟩:=qa4 hown1
   replace hM:=hM.app hown hg1 (fun p hp=>by simp only [List.mem_cons,List.not_mem_nil,or_false] at hp;rcases hp with rfl | rfl;exact hg3;exact hg2) h0
   have hne:(Value.slice A3 (i+1) c3).ownBlock≠some g3:=fun e=>by have:=(hown1.lt g3 e).1;omega
   have hs6:B≤w6.heap.size:=Nat.le_trans hle hg1.size
   clear hown hlies hg1 hat1 hN hle
   refine hK.out _ _ (Meets.past (by kernel_rfl) (Meets.past (by kernel_rfl) Mn)) (fun _=>lay_R ?_)
   clear hK K
   refine R_p (i:=6) (v:=.pointer (some ⟨g3,2,none⟩)) (Meets.past (by kernel_rfl) (Meets.past (by kernel_rfl) Mn)) ?_
   refine R_now 7 fun K hK=>?_
   have d:=rc (u:=.slice A' i c') (hM.at_ at0) 2 rfl
   have df:=rf (hM.at_ at0) 2
   go_simp
   replace hM:=hM.setCell at0 2 (.slice A3 (i+1) c3) rfl
   replace hown:=ownsRow_setCell_other hown1 (a:=⟨g3,2,none⟩) hne (.slice A3 (i+1) c3)
   have hs8:B≤(w6.setCell ⟨g3,2,none⟩ (.slice A3 (i+1) c3)).heap.size:=by rw [show (w6.setCell ⟨g3,2,none⟩ (.slice A3 (i+1) c3)).heap.size=w6.heap.size by simp [World.setCell]];exact hs6
   generalize w6.setCell ⟨g3,2,none⟩ (.slice A3 (i+1) c3)=w8 at hM hown hs8 ⊢
   clear d df hown1 hne hs6
   refine hK.out _ _ (Meets.past (by kernel_rfl) (Meets.past (by kernel_rfl) Mn)) (fun _=>lay_R ?_)
   clear hK K
   refine qbi (by kernel_rfl) ?_ _
   go_wp2_with fail
   go_roundw
   case rel =>
    refine ⟨i+1,A3,c3,by go_num,hlt,?_,hM,hs8⟩
    rw [HT.out,qq7];exact hown
   case measure=>simp [intOf];omega
  ·obtain rfl:i=l.length:=by omega
   rw [List.take_of_length_le qn] at hown
   have hiv:ItemV (From B) wr (listIt (l.map ntIt)) A' c':=by
    have h1:=qck (S:=From B) (es:=itemsD ((l.map mnB).map leafIt)) hown (qk4 _) (by rw [qdj,List.length_map,List.length_map]) (fun b h1 h2=>h1)
    rw [List.map_map] at h1
    refine qel ?_
    show Rep (From B) wr (.sl 3 (itemsD (l.map ntIt))) [.slice A' (l.map ntIt).length c']
    rw [List.length_map]
    exact h1
   have HIV:=qh hiv
   have HM:=qh hM
   clear hiv hown hM
   go_wp2_with (first
    | (refine qai HM.out rfl rfl tyItn rfl (by exact hat) rfl ?_)
    | (refine wpList_store_row rfl _ _ _ rfl g2 #[.bool true,.string (bs []),.slice A' l.length c'] rfl rfl _ _ (HM.out.at_ at1) tyItn.size rfl (qtg _ _ _ _ _) ?_))
   have hM2:Mem w (wr.setRow g2 #[.bool true,.string (bs []),.slice A' l.length c']) [(g3,#[.bool true,.string (bs []),.slice A' l.length c'],53),(g2,#[.bool true,.string (bs []),.slice A' l.length c'],53)]:=HM.out.set at1 _ rfl
   have hI2:ItemV (From w.heap.size) (wr.setRow g2 #[.bool true,.string (bs []),.slice A' l.length c']) (listIt (l.map ntIt)) A' c':=HIV.out.mono (fun b _ hb=>⟨Nat.le_trans h0 hb,qbe (by have:B≤b:=hb;omega)⟩)
   refine res_c hM2 rfl tyItn rfl (by exact hat) rfl rfl ?_
   exact ⟨A',c',rfl,hI2,hM2.below⟩
/- The walk of msg.Bytes. -/
theorem encR_ms {m:Ms} (hk:OkMs m) (hw:m.Wf):encR (msI m)=if 4000 < (msB m).length then ([],2) else (msB m,0):=by
 obtain ⟨h1,h2⟩:=qjx hk hw
 obtain ⟨h3,h4⟩:=qka m
 unfold msB at h1
 unfold encR wellP
 rw [h3]
 simp only [Bool.true_and]
 rw [if_neg (by simp;omega),if_neg (by omega)]
 rfl
theorem msItem {S:Nat→Prop} {w:World} {m:Ms} {A1 A2:Option Addr} {c1 c2:Nat} {p:Addr} (h1:ItemV S w (listIt (m.chs.map ntIt)) A1 c1) (h2:ItemV S w (listIt (m.pps.map ntIt)) A2 c2)
  (hl:Lies S w (some p) [.bool false,.string (bs (mnB m.nt)),.slice none 0 0,.bool false,.string (bs (seB m)),.slice none 0 0,.bool false,.string (bs m.block),.slice none 0 0,.bool true,.string (bs []),.slice A1 m.chs.length c1,.bool true,.string (bs []),.slice A2 m.pps.length c2]):ItemV S w (msI m) (some p) 5:=by
 have e1:itemC (listIt (m.chs.map ntIt)) A1 c1 = [.bool true,.string (bs []),.slice A1 m.chs.length c1]:=by
  show [Value.bool true,.string (bs []),.slice A1 (m.chs.map ntIt).length c1]=_
  rw [List.length_map]
 have e2:itemC (listIt (m.pps.map ntIt)) A2 c2 = [.bool true,.string (bs []),.slice A2 m.pps.length c2]:=by
  show [Value.bool true,.string (bs []),.slice A2 (m.pps.map ntIt).length c2]=_
  rw [List.length_map]
 unfold ItemV at h1 h2
 rw [e1] at h1
 rw [e2] at h2
 refine qel ?_
 show Rep S w (.sl 3 (itemsD (msL m))) [.slice (some p) 5 5]
 exact .sl (RepN.cons (cs:=itC (mnB m.nt)) (ItemV.leaf (S:=S) (w:=w) _ false) rfl (RepN.cons (cs:=itC (seB m)) (ItemV.leaf (S:=S) (w:=w) _ false) rfl (RepN.cons (cs:=itC m.block) (ItemV.leaf (S:=S) (w:=w) _ false) rfl (RepN.cons h1 rfl (RepN.cons (cs':=[]) h2 rfl .nil))))) rfl hl qn (by simp [maxLen])
theorem qjo:Ent Tryz.prog 25:=⟨enters_of Tryz.func25 (by kernel_rfl) rfl⟩
theorem qqg (m:Ms) (Ac Ap:Option Addr) (cc cp:Nat) (w:World) (c_w:∀ W,Below w.heap.size w W→Calls Tryz.prog 25 #[.agg (msC m Ac cc Ap cp)] W fun e w'=>e=.returned (.bool false)∧Below W.heap.size W w') :
  Calls Tryz.prog 20 #[.agg (msC m Ac cc Ap cp)] w fun e w'=>e=.returned (.tuple #[.string (bs []),.int .i64 1])∧Below w.heap.size w w':=by
 have hM:=Mem.nil w
 go_enter Tryz.func20,Tryz.ntmps20
 go_wp2_with (first
  | (refine qam 1 rfl hM rfl rfl rfl (boxMs m Ac cc Ap cp _) ?_;clear hM;intro w' g1 hM)
  | (refine qai hM rfl rfl tyMs rfl (by exact hat) rfl ?_)
  | (refine qak 6 rfl hM rfl rfl qjo (al:=[.agg (msC m Ac cc Ap cp)]) (c_w _ hM.below) rfl ?_;clear hM;intro w' hM))
 go_ret2
 exact ⟨rfl,hM.below⟩
theorem qop (m:Ms) (hw:m.Wf) (hk:OkMs m) (Ac Ap:Option Addr) (cc cp:Nat) (w:World) (hc:NtsV Any w m.chs Ac cc) (hp:NtsV Any w m.pps Ap cp) (c_w:∀ W,Below w.heap.size w W→Calls Tryz.prog 25 #[.agg (msC m Ac cc Ap cp)] W fun e w'=>e=.returned (.bool true)∧Below W.heap.size W w') :
  Calls Tryz.prog 20 #[.agg (msC m Ac cc Ap cp)] w fun e w'=>e=.returned (.tuple #[.string (bs (encR (msI m)).1),.int .i64 (encR (msI m)).2])∧Below w.heap.size w w':=by
 have hM:=Mem.nil w
 have h8:=(qjx hk hw).1
 have c_m:=fun W:World=>qic m.nt hw.nt hk.nt W
 have c_s:m.nt.kd=3→∀ W:World,Calls Tryz.prog 41 #[.agg (sgCn m.se)] W fun e w'=>e=.returned (.tuple #[.string (bs (seB m)),.int .i64 0])∧Below W.heap.size W w':=fun h W=>by
  have e:seB m=sgB m.se:=by unfold seB;rw [if_pos h]
  rw [e]
  exact qb2 m.se hw.se (hk.sl h) W
 have hS0:¬ m.nt.kd=3→seB m = []:=fun h=>by unfold seB;rw [if_neg h]
 have hl1:=(qcc hk.chs)
 have hl2:=(qcc hk.pps)
 have H9:=qh (fun (W:World) (hb:Below w.heap.size w W)=>qgv m.chs (by have:=hl1.2;omega) (fun n hn=>⟨hw.chs n hn,hl1.1 n hn⟩) Ac cc W (PlV.keep hc hb))
 have H12:=qh (fun (W:World) (hb:Below w.heap.size w W)=>qgv m.pps (by have:=hl2.2;omega) (fun n hn=>⟨hw.pps n hn,hl2.1 n hn⟩) Ap cp W (PlV.keep hp hb))
 have HI:=qh (fun (W:World) (A1 A2:Option Addr) (c1 c2:Nat) (p:Addr)=>msItem (S:=Any) (w:=W) (m:=m) (A1:=A1) (A2:=A2) (c1:=c1) (c2:=c2) (p:=p))
 have HE:=qh (fun (A:Option Addr) (c:Nat) (W:World) hv=>qi7 (msI m) A c W (by unfold msB at h8;omega) hv)
 obtain ⟨S,hS⟩:∃ s,seB m=s:=⟨_,rfl⟩
 obtain ⟨B0,hB0⟩:∃ s,mnB m.nt=s:=⟨_,rfl⟩
 obtain ⟨E1,hE1⟩:∃ s,(encR (msI m)).1=s:=⟨_,rfl⟩
 obtain ⟨E2,hE2⟩:∃ s,(encR (msI m)).2=s:=⟨_,rfl⟩
 rw [hS] at c_s hS0 HI
 rw [hB0] at c_m HI
 rw [hE1,hE2] at HE ⊢
 have pa:=qt7 m Ac cc Ap cp
 clear hw hk h8 hl1 hl2 hc hp hS hB0 hE1 hE2
 by_cases h3:m.nt.kd=3
 case' pos =>
  have e3:((m.nt.kd:Int) == 3)=true:=by rw [beq_iff_eq];omega
  replace c_s:=c_s h3
  clear hS0 h3
  go_enter Tryz.func20,Tryz.ntmps20
  go_wp2_with (first
   | (refine qam 1 rfl hM rfl rfl rfl (boxMs m Ac cc Ap cp _) ?_;clear hM;intro w' g1 hM)
   | (refine qai hM rfl rfl tyMs rfl (by exact hat) rfl ?_)
   | (refine qak 6 rfl hM rfl rfl qjo (al:=[.agg (msC m Ac cc Ap cp)]) (c_w _ hM.below) rfl ?_;clear hM;intro w' hM)
   | (refine qaj 4 rfl hM rfl (qle rfl) ?_;clear hM;intro w' g4 hM)
   | (refine qaf hM rfl rfl Tryz.isAgg22 rfl (by exact hat) (j:=0) (v:=.int .u64 (m.nt.kd:Int)) rfl ?_)
   | (refine qav hM rfl rfl tySgn rfl (by exact hat) pa ?_)
   | (refine qak 15 rfl hM rfl rfl qid (al:=[.agg (sgCn m.se)]) (c_s _) rfl ?_;clear hM;intro w' hM)
   | (refine qfk (v:=.string (bs S)) hM rfl rfl rfl rfl (by exact hau) (qrq hM at0 rfl _) ?_;clear hM;intro w' hM;change Mem _ _ [(g4,#[.bool false,.string (bs S),.slice none 0 0],53),(g1,msC m Ac cc Ap cp,43)] at hM))
 case' neg =>
  have e3:((m.nt.kd:Int) == 3)=false:=by rw [beq_eq_false_iff_ne];omega
  replace hS0:=hS0 h3
  clear c_s h3
  go_enter Tryz.func20,Tryz.ntmps20
  go_wp2_with (first
   | (refine qam 1 rfl hM rfl rfl rfl (boxMs m Ac cc Ap cp _) ?_;clear hM;intro w' g1 hM)
   | (refine qai hM rfl rfl tyMs rfl (by exact hat) rfl ?_)
   | (refine qak 6 rfl hM rfl rfl qjo (al:=[.agg (msC m Ac cc Ap cp)]) (c_w _ hM.below) rfl ?_;clear hM;intro w' hM)
   | (refine qaj 4 rfl hM rfl (qle rfl) ?_;clear hM;intro w' g4 hM)
   | (refine qaf hM rfl rfl Tryz.isAgg22 rfl (by exact hat) (j:=0) (v:=.int .u64 (m.nt.kd:Int)) rfl ?_))
  replace hM:Mem w w' [(g4,#[.bool false,.string (bs S),.slice none 0 0],53),(g1,msC m Ac cc Ap cp,43)]:=by rw [hS0];exact hM
  clear hS0
 all_goals
  refine wp_region_held_drew (S:=fun v'=>Mem w v' [(g4,#[.bool false,.string (bs S),.slice none 0 0],53),(g1,msC m Ac cc Ap cp,43)]) (by kernel_rfl) hM.drew (fun _=>?_)
  replace hM:=hM.drew
  refine H_t (i:=0) (v:=.pointer (some ⟨g1,0,none⟩)) rfl (Or.inl ⟨by rfl,fun w' hS=>by go_simp⟩) hM ?_
  refine H_t (i:=1) rfl (qax tyNt (fun _ h=>Mem.at_ h at1) (ntC m.nt)) hM ?_
  refine H_t (i:=3) rfl (qfb tyItn (fun _ h=>Mem.at_ h at0)) hM ?_
  refine H_t (i:=4) (v:=.pointer (some ⟨g1,23,none⟩)) rfl (Or.inl ⟨by rfl,fun w' hS=>by go_simp⟩) hM ?_
  refine H_t (i:=5) rfl (y_ce Tryz.isAgg9 (fun _ h=>rc (Mem.at_ h at1) 23 rfl) (v:=.string (bs m.block))) hM ?_
  refine H_t (i:=6) (v:=.agg #[.bool false,.string (bs m.block),.slice none 0 0]) rfl (Or.inl ⟨by rfl,fun w' hS=>by go_simp⟩) hM ?_
  refine H_t (i:=7) (v:=.pointer (some ⟨g1,24,none⟩)) rfl (Or.inl ⟨by rfl,fun w' hS=>by go_simp⟩) hM ?_
  refine H_t (i:=8) rfl (y_ce Tryz.isAgg41 (fun _ h=>rc (Mem.at_ h at1) 24 rfl) (v:=.slice Ac m.chs.length cc)) hM ?_
  refine H_t (i:=10) (v:=.pointer (some ⟨g1,25,none⟩)) rfl (Or.inl ⟨by rfl,fun w' hS=>by go_simp⟩) hM ?_
  refine H_t (i:=11) rfl (y_ce Tryz.isAgg41 (fun _ h=>rc (Mem.at_ h at1) 25 rfl) (v:=.slice Ap m.pps.length cp)) hM ?_
  refine H_now 2 fun K hK=>?_
  go_simp
  refine (c_m _).mono ?_
  rintro e w4 ⟨rfl,hb⟩
  replace hM:=hM.call hb
  clear hb
  refine hK.out _ _ hM (fun _=>lay_H ?_)
  clear hK K
  refine H_now 9 fun K hK=>?_
  go_simp
  refine (H9.out _ hM.below).mono ?_
  rintro e w5 ⟨A1,c1,rfl,hi,hb⟩
  replace hM:=hM.call hb
  have hI1:ItemV Any w5 (listIt (m.chs.map ntIt)) A1 c1:=hi.mono fun _ _ _=>⟨trivial,rfl⟩
  clear hb hi
  refine hK.out _ _ hM (fun _=>lay_H ?_)
  clear hK K
  refine H_now 12 fun K hK=>?_
  go_simp
  refine (H12.out _ hM.below).mono ?_
  rintro e w6 ⟨A2,c2,rfl,hi,hb⟩
  replace hM:=hM.call hb
  have hI2:ItemV Any w6 (listIt (m.pps.map ntIt)) A2 c2:=hi.mono fun _ _ _=>⟨trivial,rfl⟩
  replace hI1:=hI1.keep hb
  clear hb hi
  refine hK.out _ _ hM (fun _=>lay_H ?_)
  clear hK K
  refine H_now 13 fun K hK=>?_
  have hlies:=qca w6 #[.bool false,.string (bs B0),.slice none 0 0,.bool false,.string (bs S),.slice none 0 0,.bool false,.string (bs m.block),.slice none 0 0,.bool true,.string (bs []),.slice A1 m.chs.length c1,.bool true,.string (bs []),.slice A2 m.pps.length c2] 53
  replace hI1:=hI1.alloc (.cells #[.bool false,.string (bs B0),.slice none 0 0,.bool false,.string (bs S),.slice none 0 0,.bool false,.string (bs m.block),.slice none 0 0,.bool true,.string (bs []),.slice A1 m.chs.length c1,.bool true,.string (bs []),.slice A2 m.pps.length c2] 53)
  replace hI2:=hI2.alloc (.cells #[.bool false,.string (bs B0),.slice none 0 0,.bool false,.string (bs S),.slice none 0 0,.bool false,.string (bs m.block),.slice none 0 0,.bool true,.string (bs []),.slice A1 m.chs.length c1,.bool true,.string (bs []),.slice A2 m.pps.length c2] 53)
  replace hM:=(hM.alloc #[.bool false,.string (bs B0),.slice none 0 0,.bool false,.string (bs S),.slice none 0 0,.bool false,.string (bs m.block),.slice none 0 0,.bool true,.string (bs []),.slice A1 m.chs.length c1,.bool true,.string (bs []),.slice A2 m.pps.length c2] 53).tail
  go_simp
  obtain ⟨N,hN⟩:∃ N,w6.heap.size=N:=⟨_,rfl⟩
  rw [hN] at hlies ⊢
  generalize w6.alloc (.cells #[.bool false,.string (bs B0),.slice none 0 0,.bool false,.string (bs S),.slice none 0 0,.bool false,.string (bs m.block),.slice none 0 0,.bool true,.string (bs []),.slice A1 m.chs.length c1,.bool true,.string (bs []),.slice A2 m.pps.length c2] 53)=w7 at hlies hM hI1 hI2 ⊢
  clear hN
  have hIV:=HI.out _ _ _ _ _ _ hI1 hI2 hlies
  clear hI1 hI2 hlies
  refine hK.out _ _ hM (fun _=>lay_H ?_)
  clear hK K
  refine H_now 14 fun K hK=>?_
  go_simp
  refine (qg9 (some ⟨N,0,none⟩) 5 5 _).mono ?_
  rintro e w8 ⟨rfl,hb⟩
  replace hM:=hM.call hb
  replace hIV:=ItemV.keep hIV hb
  clear hb
  refine hK.out _ _ hM (fun _=>lay_H ?_)
  clear hK K
  refine H_now 15 fun K hK=>?_
  go_simp
  refine (HE.out _ _ _ hIV).mono ?_
  rintro e w9 ⟨rfl,hb⟩
  replace hM:=hM.call hb
  clear hb hIV
  refine hK.out _ _ hM (fun _=>lay_H ?_)
  clear hK K
  refine H_t (i:=16) (v:=.string (bs E1)) rfl (Or.inl ⟨by rfl,fun w' hS=>by go_simp⟩) hM ?_
  refine H_t (i:=17) (v:=.int .i64 (E2:Int)) rfl (Or.inl ⟨by rfl,fun w' hS=>by go_simp⟩) hM ?_
  refine H_t (i:=18) (v:=.string (bs E1)) rfl (Or.inl ⟨by rfl,fun w' hS=>by go_simp⟩) hM ?_
  refine H_t (i:=19) (v:=.int .i64 (E2:Int)) rfl (Or.inl ⟨by rfl,fun w' hS=>by go_simp⟩) hM ?_
  refine wpAnyH_done (by kernel_rfl) ?_ _
  go_wp2_with fail
  go_ret2
  exact ⟨rfl,hM.below⟩
/- The walks of law 21's notes and few. -/
theorem flat_at {sz i:Nat} {ls:List (List Value)} (hl:∀ l∈ls,l.length=sz) (hi:i < ls.length):((ls.take i).flatten).length=i * sz:=by
 have:∀ (k:Nat) (m:List (List Value)),(∀ l∈m,l.length=sz)→m.length=k→m.flatten.length=k * sz:=by
  intro k
  induction k with
  | zero=>intro m _ h;cases m with
   | nil=>simp
   | cons a m=>cases h
  | succ k ih=>intro m hm h;cases m with
   | nil=>cases h
   | cons a m =>
    rw [List.flatten_cons,List.length_append,ih m (fun l h=>hm l (by simp [h])) (by simpa using h),hm a (by simp),Nat.add_mul];omega
 exact this i _ (fun l h=>hl l (List.mem_of_mem_take h)) (by rw [List.length_take];omega)
theorem own_rowN {w:World} {base m n c g:Nat} {e:TypeId} {xs:List Value} (h:w.ownsRow base e m (.slice (some ⟨g,0,none⟩) n c) n xs):∃ cur:Array Value,base≤g∧w.heap[g]? = some (.cells cur e (0,0))∧n≤c∧c≤maxLen∧cur.size=c * m∧cur.toList.take (n * m)=xs:=by
 rcases h.2 with ⟨hv,_⟩ | ⟨g',cap,cur,hv,hb,hh,h1,h2,h3,h4⟩
 ·cases hv
 ·injection hv with a1 a2 a3
  injection a1 with a1
  injection a1 with a1
  subst a1;subst a3
  exact ⟨cur,hb,hh,h1,h2,h3,h4⟩
theorem own_put {w:World} {base sz n c g i:Nat} {e:TypeId} {ls:List (List Value)} (h:w.ownsRow base e sz (.slice (some ⟨g,0,none⟩) n c) n ls.flatten) (hl:∀ l∈ls,l.length=sz) (hn:ls.length=n) (hi:i < n) (new:List Value) (hnew:new.length=sz) :
  ∃ cur nc:Array Value,w.heap[g]? = some (.cells cur e (0,0))∧i * sz+sz≤cur.size∧base≤g∧cur.toList.take (i * sz) ++ new ++ cur.toList.drop (i * sz+sz)=nc.toList∧(w.setRow g nc).ownsRow base e sz (.slice (some ⟨g,0,none⟩) n c) n (ls.set i new).flatten:=by
 obtain ⟨cur,hb,hh,h1,h2,h3,h4⟩:=own_rowN h
 have hiL:i < ls.length:=by omega
 have hx:ls=ls.take i ++ ls[i] :: ls.drop (i+1):=by rw [← List.drop_eq_getElem_cons hiL,List.take_append_drop]
 have hxl:ls[i].length=sz:=hl _ (List.getElem_mem hiL)
 have hA:=flat_at hl hiL
 have hcur:cur.toList=(ls.take i).flatten ++ (ls[i] ++ ((ls.drop (i+1)).flatten ++ cur.toList.drop (n * sz))):=by
  have e1:cur.toList=ls.flatten ++ cur.toList.drop (n * sz):=by rw [← h4,List.take_append_drop]
  have e2:ls.flatten=(ls.take i).flatten ++ (ls[i] ++ (ls.drop (i+1)).flatten):=by
   conv=>lhs;rw [hx]
   rw [List.flatten_append,List.flatten_cons]
  rw [e2] at e1
  rw [List.append_assoc,List.append_assoc] at e1
  exact e1
 have hset:(ls.set i new).flatten=(ls.take i).flatten ++ (new ++ (ls.drop (i+1)).flatten):=by
  rw [List.set_eq_take_append_cons_drop,if_pos hiL,List.flatten_append,List.flatten_cons]
 have hlen:ls.flatten.length=n * sz:=h.1
 have hB:((ls.drop (i+1)).flatten).length+(i * sz+sz)=n * sz:=by
  rw [← hlen]
  conv=>rhs;rw [hx,List.flatten_append,List.flatten_cons,List.length_append,List.length_append,hA,hxl]
  omega
 have e1:cur.toList.take (i * sz)=(ls.take i).flatten:=by
  rw [hcur,List.take_append_of_le_length (by omega),List.take_of_length_le (by omega)]
 have e2:cur.toList.drop (i * sz+sz)=(ls.drop (i+1)).flatten ++ cur.toList.drop (n * sz):=by
  conv=>lhs;rw [hcur]
  rw [List.drop_append,List.drop_of_length_le (by omega),List.nil_append,hA,show i * sz+sz - i * sz=sz by omega,List.drop_append,List.drop_of_length_le (by omega),List.nil_append,hxl,Nat.sub_self,List.drop_zero]
 have hsz:cur.toList.length=cur.size:=Array.length_toList
 have hnn:n * sz≤c * sz:=Nat.mul_le_mul_right _ h1
 refine ⟨cur,(cur.toList.take (i * sz) ++ new ++ cur.toList.drop (i * sz+sz)).toArray,hh,by omega,hb,by simp,?_,.inr ⟨g,c,_,rfl,hb,qie w hh,h1,h2,?_,?_⟩⟩
 ·rw [hset,List.length_append,List.length_append,hA,hnew];omega
 ·rw [e1,e2]
  simp only [List.size_toArray,List.length_append,List.length_drop,hA,hnew]
  omega
 ·rw [List.toList_toArray,e1,e2,hset,List.append_assoc,← List.append_assoc,← List.append_assoc,List.take_append_of_le_length (by simp only [List.length_append,hA,hnew];omega),List.take_of_length_le (by simp only [List.length_append,hA,hnew];omega),List.append_assoc]
theorem qk2 (l:List Nt):((l.map ntL).flatten).length=l.length * 14:=by
 induction l with
 | nil=>rfl
 | cons a l ih=>rw [List.map_cons,List.flatten_cons,List.length_append,ih,List.length_cons,Nat.add_mul];show 14+_=_;omega
theorem nts_one (l:List Nt):∀ u∈(l.map ntL).flatten,u.oneCell'=true:=fun u hu=>by
 obtain ⟨a,ha,hu⟩:=List.mem_flatten.1 hu
 obtain ⟨t,_,rfl⟩:=List.mem_map.1 ha
 exact (qqr t).2 u hu
theorem qkc (l:List Nt):∀ x∈l.map ntL,x.length=14∧∀ u∈x,u.oneCell'=true:=fun x hx=>by obtain ⟨y,_,rfl⟩:=List.mem_map.1 hx;exact qqr y
/-- notes of which so many are cut -/
def cutsN (k:Nat) (l:List Nt):List Nt:=(l.take k).map cutNt ++ l.drop k
theorem qp9 (l:List Nt):cutsN l.length l=l.map cutNt:=by simp [cutsN]
theorem qsg (k:Nat) (l:List Nt):(cutsN k l).length=l.length:=by simp [cutsN];omega
theorem qqm {k:Nat} {l:List Nt} {a:Nt} (h:l[k]? = some a):(cutsN k l)[k]? = some a:=by
 have hk:=(List.getElem?_eq_some_iff.1 h).1
 unfold cutsN
 rw [List.getElem?_append_right (by simp;omega)]
 simp [Nat.min_eq_left (Nat.le_of_lt hk),h]
theorem qtk {k:Nat} {l:List Nt} {a:Nt} (h:l[k]? = some a):((cutsN k l).map ntL).set k (ntL (cutNt a))=(cutsN (k+1) l).map ntL:=by
 have hk:=(List.getElem?_eq_some_iff.1 h).1
 unfold cutsN
 rw [qbk h,qc0 h]
 simp only [List.map_append,List.map_cons,List.map_nil]
 rw [List.set_append_right _ _ (by simp;omega)]
 simp [Nat.min_eq_left (Nat.le_of_lt hk)]
theorem PlV.take' {S:Nat→Prop} {w:World} {sz:Nat} {ls:List (List Value)} {A:Option Addr} {c:Nat} (h:PlV S w sz ls A c) (hl:∀ l∈ls,l.length=sz∧∀ u∈l,u.oneCell'=true) (n:Nat):PlV S w sz (ls.take n) A c:=by
 have h1:=h.lies
 rw [← List.take_append_drop n ls,List.flatten_append] at h1
 have h2:=h.len
 exact .sl (qjr fun l hx=>hl l (List.mem_of_mem_take hx)) (by simp) (Lies.take' h1) (by rw [List.length_take];omega) h2.2
theorem elNt:ElemOk Tryz.prog 41 40 (.agg #[.int .u64 0,.int .u64 0,.int .u64 0,.string ⟨#[]⟩,.int .u64 0,.int .u64 0,.int .u64 0,.int .u64 0,.int .u64 0,.int .u64 0,.int .u64 0,.int .u64 0,.int .u64 0,.int .i64 0]) 14 120:=⟨Tryz.underlying41,by kernel_rfl,rfl,by omega⟩
theorem qsw {P:Program} {ops:Array Oper} {rest:List Oper} {op:Oper} {a:Act} {w:World} {Q:Exit→Act→World→Prop} (hgd:op.guard=none) {ty:TypeId} {x:Operand} (ho:op.op=.load ty x)
  {g o n:Nat} (hx:a.eval x=.pointer (some ⟨g,o,none⟩)) (T:AggT P ty n) (cs:List Value) (hl:cs.length=n) (hc:∀ j u,cs[j]? = some u→w.cell? ⟨g,o+j,none⟩=some u) (new:Array Value) (hnew:cs.toArray=new)
  (h:wpList P ops Q rest (a.put op.dst (.agg new)) w):wpList P ops Q (op :: rest) a w :=
 match T.desc with
 | ⟨d,hd,hd2⟩=>wpList_plain hgd fun _ hK=>by
  subst hnew
  unfold Oper.wp execOp
  simp only [ho,hx,Instr.loadAt,Instr.sureAddr,Sem.run_bind,Sem.run_pure,Result.andThen_ok,qb5 w g o ty cs d hc hd (by cases d <;> first | rfl | cases hd2) (by rw [T.size,hl])]
  exact hK _ _ h
theorem qlb {sz:Nat}:∀ {ls:List (List Value)} {i:Nat} {cs:List Value},(∀ l∈ls,l.length=sz)→ls[i]? = some cs→∀ j u,cs[j]? = some u→ls.flatten[i * sz+j]? = some u
 | b :: l,0,a,hl,h,j,u,hj=>by
  simp at h;subst h
  have h1:=(List.getElem?_eq_some_iff.1 hj).1
  rw [Nat.zero_mul,Nat.zero_add,List.flatten_cons,List.getElem?_append_left h1];exact hj
 | b :: l,i+1,a,hl,h,j,u,hj=>by
  simp at h
  have hb:=hl b (by simp)
  rw [List.flatten_cons,List.getElem?_append_right (by rw [Nat.add_mul];omega),show (i+1) * sz+j - b.length=i * sz+j by rw [Nat.add_mul];omega]
  exact qlb (fun l h=>hl l (by simp [h])) h j u hj
theorem qh1 (l:List Nt) (hf:∀ t∈l,t.id.length≤9223372036854775807) (A:Option Addr) (c:Nat) (w:World) (hv:NtsV Any w l A c) :
  Calls Tryz.prog 55 #[.slice A l.length c] w fun e w'=>∃ A2 c2,e=.returned (.slice A2 ((l.take 20).map cutNt).length c2)∧NtsV (From w.heap.size) w' ((l.take 20).map cutNt) A2 c2∧Below w.heap.size w w':=by
 have hl:=NtsV.len hv
 simp only [maxLen] at hl
 obtain ⟨m,hm,hmm⟩:∃ m:Nat,min (l.length:Int) 20=m∧m=min l.length 20:=⟨min l.length 20,by omega,rfl⟩
 have hlen63:(l.length:Int)≤9223372036854775807:=by omega
 have hm1:(m:Int)≤l.length:=by omega
 have hm2:(m:Int)≤c:=by omega
 have hm3:(m:Int)≤20:=by omega
 have hmq:l.take 20=l.take m:=by rw [hmm,List.take_eq_take_min,Nat.min_comm]
 have hq:(l.take m).length=m:=by rw [List.length_take];omega
 have hown0:(w.alloc (.cells #[] 40)).ownsRow w.heap.size 40 14 (.slice (some ⟨w.heap.size,0,none⟩) 0 0) 0 []:=World.ownsRow_lit w _ 0 qn (by simp [maxLen]) rfl
 have hnews:Lies Any (w.alloc (.cells #[] 40)) A ((l.take m).map ntL).flatten:=by
  have h0:=PlV.lies (PlV.take' (Rep.alloc hv (.cells #[] 40)) (qkc l) m)
  rw [← List.map_take] at h0
  exact h0
 have hqp:∀ p∈l.take m,p.id.length≤9223372036854775807:=fun p h=>hf p (List.mem_of_mem_take h)
 rw [hmq]
 clear hmm hf hmq
 generalize l.take m=qs at hq hnews hqp ⊢
 subst hq
 have HL:=qh (qk2 qs)
 have HP:=qh hqp
 clear hqp
 go_enter Tryz.func55,Tryz.ntmps55
 go_wp2_with (at_builtin;refine qa0 elNt rfl rfl w.heap.size hown0 rfl (m:=qs.length) ((qs.map ntL).flatten) rfl HL.out hnews (nts_one _) (by simp only [maxLen];omega) (by omega) (by simp) ?_;intro v1 w1 hown1 hg1 hat1;rw [Nat.zero_add] at hown1;obtain ⟨A1,c1,rfl⟩:=qa4 hown1)
 have hb1:Below w.heap.size w w1:=qa7 ((Below.refl _ _).alloc qn _) hown0 hg1 (by simp) qn
 clear hm hown0 hnews hg1 hat1
 go_loopw [13] (fun i wr=>∃ j:Nat,j≤qs.length∧i=.int .i64 j∧wr.ownsRow w.heap.size 40 14 (.slice A1 qs.length c1) qs.length ((cutsN j qs).map ntL).flatten∧Below w.heap.size w wr) (fun i _=>qs.length - (intOf i).toNat)
 case atStart=>exact ⟨0,Nat.zero_le _,rfl,hown1,hb1⟩
 case round =>
  obtain ⟨j,hj,rfl,hown,hb⟩:=hrel
  clear hown1 hb1
  by_cases hlt:j < qs.length
  ·obtain ⟨g,rfl,hg0,hg1⟩:=own_ptr hown (by omega)
   obtain ⟨t,ha⟩:=qan hlt
   have c_c:=fun W:World=>qn9 t (HP.out t (List.mem_of_getElem? ha)) W
   have Hs:=qh (qtk ha)
   have hcell:∀ j' u,(ntL t)[j']? = some u→wr.cell? ⟨g,j * 14+j',none⟩=some u:=fun j' u hj'=>own_cell hown (qlb (fun x hx=>(qkc _ x hx).1) (by rw [List.getElem?_map,qqm ha];rfl:((cutsN j qs).map ntL)[j]? = some (ntL t)) j' u hj')
   have HK:=qh hcell
   have hlt':(j:Int) < qs.length:=by omega
   have HO:=qh hown
   have HB:=qh hb
   clear ha hown hb hcell
   go_wp2_with (first
    | (refine qsw rfl rfl rfl tyNt (ntL t) rfl HK.out (ntC t) rfl ?_))
   refine (c_c _).mono ?_
   rintro e w3 ⟨rfl,hb3⟩
   have hown3:=qa5 HO.out hb3
   have hB3:=qac HB.out HB.out.size hb3
   obtain ⟨cur,nc,hcur,hfit,_,hnc,hown4⟩:=own_put hown3 (fun x hx=>(qkc _ x hx).1) (by rw [List.length_map,qsg]) hlt (ntL (cutNt t)) rfl
   rw [Hs.out] at hown4
   have HC:=qh hcur
   have HF:=qh hfit
   have HN:=qh hnc
   have HO4:=qh hown4
   have HB4:=qh (Below.setRow hB3 hg0 nc)
   clear hb3 hown3 hB3 hcur hfit hnc hown4
   go_wp2_with (first
    | (refine qb7 rfl _ _ _ rfl g (j * 14) (ntC (cutNt t)) nc rfl rfl _ cur HC.out infoNt HF.out (oneNt _) HN.out ?_;generalize w3.setRow g nc=w4 at HO4 HB4 ⊢))
   go_roundw
   case rel=>exact ⟨j+1,hlt,by go_num,HO4.out,HB4.out⟩
   case measure=>simp [intOf];omega
  ·obtain rfl:j=qs.length:=by omega
   rw [qp9] at hown
   have hv':NtsV (From w.heap.size) wr (qs.map cutNt) A1 c1:=PlV.own hown (by simp) (qkc _) (fun b h1 _=>h1)
   have HV:=qh hv'
   have HB:=qh hb
   clear hown hb hv'
   go_wp2_with fail
   go_ret
   exact ⟨A1,c1,by rw [show (qs.map cutNt).length=qs.length by simp];rfl,HV.out,HB.out⟩
def zeroMs:Ms:=⟨zeroNt,zeroSg,[],[],[]⟩
def cutMs (m:Ms):Ms:=⟨cutNt m.nt,m.se,m.block.take 4100,(m.chs.take 20).map cutNt,(m.pps.take 20).map cutNt⟩
theorem qir {m:Ms} (h:m.Fine):(cutMs m).Fine:=by
 have hx:∀ l:List Nt,(∀ n∈l,n.Wf∧n.id.length≤9223372036854775807)→∀ n∈(l.take 20).map cutNt,n.Wf∧n.id.length≤9223372036854775807:=fun l hl n hn=>by
  obtain ⟨y,hy,rfl⟩:=List.mem_map.1 hn
  obtain ⟨h1,h2⟩:=hl y (List.mem_of_mem_take hy)
  exact ⟨qnn h1,by show (y.id.take 40).length≤_;rw [List.length_take];omega⟩
 refine ⟨⟨qnn h.wf.nt,h.wf.se,fun n hn=>(hx _ h.chs n hn).1,fun n hn=>(hx _ h.pps n hn).1⟩,?_,?_,hx _ h.chs,hx _ h.pps⟩
 ·show (m.nt.id.take 40).length≤_;rw [List.length_take];have:=h.id;omega
 ·show (m.block.take 4100).length≤_;rw [List.length_take];omega
theorem runMs {o:Oper} (ho:o.op=.alloc 43) (ρ:Operand→Value) (w:World):(execOp ρ o).run Tryz.prog w=.ok (.value (.pointer (some ⟨w.heap.size,0,none⟩))) (w.alloc (.cells (msC zeroMs none 0 none 0) 43)):=by
 unfold execOp
 simp only [ho]
 go_simp
 rfl
theorem buildMs (c:Nt) (s:Sg) (b:ByteArray) (A1 A2:Option Addr) (n1 c1 n2 c2:Nat) (w:World):(Instr.build 43 #[(0,.agg (ntC c)),(1,.agg (sgCn s)),(2,.string b),(3,.slice A1 n1 c1),(4,.slice A2 n2 c2)]).run Tryz.prog w=.ok (.agg (ntC c ++ sgCn s ++ #[.string b,.slice A1 n1 c1,.slice A2 n2 c2])) w:=by
 unfold ntC sgCn
 go_simp
theorem qq1 {P:Program} {a:Act} {op:Oper} {ty:TypeId} {x0 x1 x2 x3 x4:Operand} {v0 v1 v2 v3 v4 v:Value} (hb:∀ w,(Instr.build ty #[(0,v0),(1,v1),(2,v2),(3,v3),(4,v4)]).run P w=.ok v w) (ho:op.op=.build ty #[(0,x0),(1,x1),(2,x2),(3,x3),(4,x4)]:=by rfl)
  (h0:a.eval x0=v0:=by rfl) (h1:a.eval x1=v1:=by rfl) (h2:a.eval x2=v2:=by rfl) (h3:a.eval x3=v3:=by rfl) (h4:a.eval x4=v4:=by rfl) (w:World):(execOp a.eval op).run P w=.ok (.value v) w:=by
 have e:(#[(0,x0),(1,x1),(2,x2),(3,x3),(4,x4)]:Array (Nat×Operand)).map (fun (i,x)=>(i,a.eval x))=#[(0,v0),(1,v1),(2,v2),(3,v3),(4,v4)]:=by simp [h0,h1,h2,h3,h4]
 unfold execOp
 simp only [ho,e,Sem.run_bind,hb,Result.andThen_ok,Sem.run_pure]
theorem NtsV.set {S:Nat→Prop} {w:World} {l:List Nt} {A:Option Addr} {c B g:Nat} {new:Array Value} (h:NtsV (From B) w l A c) (hg:g < B) (hS:∀ b,B≤b→S b):NtsV S (w.setRow g new) l A c :=
 Rep.mono h (fun b _ hb=>⟨hS b hb,qbe (by have:B≤b:=hb;omega)⟩)
theorem qly (m:Ms) (hf:m.Fine) (Ac Ap:Option Addr) (cc cp:Nat) (w:World) (hc:NtsV Any w m.chs Ac cc) (hp:NtsV Any w m.pps Ap cp) :
  Calls Tryz.prog 19 #[.agg (msC m Ac cc Ap cp)] w fun e w'=>∃ A1 c1 A2 c2,e=.returned (.agg (msC (cutMs m) A1 c1 A2 c2))∧NtsV (From w.heap.size) w' (cutMs m).chs A1 c1∧NtsV (From w.heap.size) w' (cutMs m).pps A2 c2∧Below w.heap.size w w':=by
 have c_c:=fun W:World=>qn9 m.nt hf.id W
 have H14:=qh (fun (W:World) (hb:Below w.heap.size w W)=>qh1 m.chs (fun n hn=>(hf.chs n hn).2) Ac cc W (PlV.keep hc hb))
 have H17:=qh (fun (W:World) (hb:Below w.heap.size w W)=>qh1 m.pps (fun n hn=>(hf.pps n hn).2) Ap cp W (PlV.keep hp hb))
 have hbl:=hf.block
 obtain ⟨q,hq⟩:∃ q,min m.block.length 4100=q:=⟨_,rfl⟩
 have hmin:min (m.block.length:Int) 4100=(q:Int):=by omega
 have hq1:(q:Int)≤(m.block.length:Int):=by omega
 have hbI:(m.block.length:Int)≤9223372036854775807:=by omega
 have htk:m.block.take q=m.block.take 4100:=by rw [← hq,List.take_eq_take_min (i:=4100),Nat.min_comm]
 have HT:=qh htk
 have hM:=Mem.nil w
 clear hf hc hp hbl hq htk
 go_enter Tryz.func19,Tryz.ntmps19
 go_wp2_with (first
  | (refine qam 1 rfl hM rfl rfl rfl (boxMs m Ac cc Ap cp _) ?_;clear hM;intro w' g1 hM)
  | (refine qaj 2 rfl hM rfl (runMs rfl) ?_;clear hM;intro w' g2 hM))
 refine wp_region_held_drew (S:=fun v'=>Mem w v' [(g1,msC m Ac cc Ap cp,43)]) (by kernel_rfl) hM.drew.tail (fun _=>?_)
 replace hM:=hM.drew
 refine H_t (i:=0) (v:=.pointer (some ⟨g1,0,none⟩)) rfl (Or.inl ⟨by rfl,fun w' hS=>by go_simp⟩) hM.tail ?_
 refine H_t (i:=1) rfl (qax tyNt (fun _ h=>Mem.at_ h at0) (ntC m.nt)) hM.tail ?_
 refine H_t (i:=3) (v:=.pointer (some ⟨g1,14,none⟩)) rfl (Or.inl ⟨by rfl,fun w' hS=>by go_simp⟩) hM.tail ?_
 refine H_t (i:=4) rfl (qax tySgn (fun _ h=>Mem.at_ h at0) (sgCn m.se)) hM.tail ?_
 refine H_t (i:=5) (v:=.pointer (some ⟨g1,23,none⟩)) rfl (Or.inl ⟨by rfl,fun w' hS=>by go_simp⟩) hM.tail ?_
 refine H_t (i:=6) rfl (y_ce Tryz.isAgg9 (fun _ h=>rc (Mem.at_ h at0) 23 rfl) (v:=.string (bs m.block))) hM.tail ?_
 refine H_t (i:=7) (v:=.pointer (some ⟨g1,23,none⟩)) rfl (Or.inl ⟨by rfl,fun w' hS=>by go_simp⟩) hM.tail ?_
 refine H_t (i:=8) rfl (y_ce Tryz.isAgg9 (fun _ h=>rc (Mem.at_ h at0) 23 rfl) (v:=.string (bs m.block))) hM.tail ?_
 refine H_t (i:=9) (v:=.int .i64 (m.block.length:Int)) rfl (Or.inl ⟨by rfl,fun w' hS=>by go_simp⟩) hM.tail ?_
 refine H_t (i:=10) (v:=.int .i64 (q:Int)) rfl (Or.inl ⟨by rfl,fun w' hS=>by go_simp⟩) hM.tail ?_
 refine H_t (i:=11) (v:=.string (bs (m.block.take q))) rfl (Or.inl ⟨by rfl,fun w' hS=>by go_simp⟩) hM.tail ?_
 refine H_t (i:=12) (v:=.pointer (some ⟨g1,24,none⟩)) rfl (Or.inl ⟨by rfl,fun w' hS=>by go_simp⟩) hM.tail ?_
 refine H_t (i:=13) rfl (y_ce Tryz.isAgg41 (fun _ h=>rc (Mem.at_ h at0) 24 rfl) (v:=.slice Ac m.chs.length cc)) hM.tail ?_
 refine H_t (i:=15) (v:=.pointer (some ⟨g1,25,none⟩)) rfl (Or.inl ⟨by rfl,fun w' hS=>by go_simp⟩) hM.tail ?_
 refine H_t (i:=16) rfl (y_ce Tryz.isAgg41 (fun _ h=>rc (Mem.at_ h at0) 25 rfl) (v:=.slice Ap m.pps.length cp)) hM.tail ?_
 refine H_now 2 fun K hK=>?_
 go_simp
 refine (c_c _).mono ?_
 rintro e w4 ⟨rfl,hb⟩
 replace hM:=hM.call hb
 clear hb
 refine hK.out _ _ hM.tail (fun _=>lay_H ?_)
 clear hK K
 refine H_now 14 fun K hK=>?_
 go_simp
 obtain ⟨B,hB⟩:∃ B,w4.heap.size=B:=⟨_,rfl⟩
 have hg2:g2 < B:=hB ▸ hM.lt (List.mem_of_getElem? at0)
 have hwB:w.heap.size≤B:=hB ▸ hM.below.size
 refine (H14.out _ hM.below).mono ?_
 rintro e w5 ⟨A1,c1,rfl,hi1,hb⟩
 obtain ⟨k1,hk1⟩:∃ k,((m.chs.take 20).map cutNt).length=k:=⟨_,rfl⟩
 rw [hk1]
 have HK1:=qh hk1
 clear hk1
 rw [hB] at hi1
 have hB5:B≤w5.heap.size:=hB ▸ hb.size
 replace hM:=hM.call hb
 clear hb hB
 refine hK.out _ _ hM.tail (fun _=>lay_H ?_)
 clear hK K
 refine H_now 17 fun K hK=>?_
 go_simp
 refine (H17.out _ hM.below).mono ?_
 rintro e w6 ⟨A2,c2,rfl,hi,hb⟩
 obtain ⟨k2,hk2⟩:∃ k,((m.pps.take 20).map cutNt).length=k:=⟨_,rfl⟩
 rw [hk2]
 have HK2:=qh hk2
 clear hk2
 have hi2:NtsV (From B) w6 ((m.pps.take 20).map cutNt) A2 c2:=Rep.mono hi (fun b _ h=>⟨Nat.le_trans hB5 h,rfl⟩)
 replace hi1:NtsV (From B) w6 ((m.chs.take 20).map cutNt) A1 c1:=PlV.keep hi1 hb
 replace hM:=hM.call hb
 clear hb hi hB5
 refine hK.out _ _ hM.tail (fun _=>lay_H ?_)
 clear hK K
 refine H_t (i:=18) (v:=.agg (msC (cutMs m) A1 c1 A2 c2)) rfl (Or.inl ⟨by rfl,fun w' hS=>qq1 (v0:=.agg (ntC (cutNt m.nt))) (v1:=.agg (sgCn m.se)) (v2:=.string (bs (m.block.take q))) (v3:=.slice A1 k1 c1) (v4:=.slice A2 k2 c2) (fun w=>by rw [HT.out,← HK1.out,← HK2.out];exact buildMs _ _ _ _ _ _ _ _ _ w) (by rfl) (by rfl) (by rfl) (by rfl) (by rfl) (by rfl) w'⟩) hM.tail ?_
 refine H_now 19 fun K hK=>?_
 refine qdk (by rfl) ?_
 refine wp_store_row _ _ _ rfl _ (msC (cutMs m) A1 c1 A2 c2) rfl rfl _ _ (hM.at_ at0) qnh rfl (oneMs _ _ _ _ _) ?_
 replace hM:=hM.set at0 (msC (cutMs m) A1 c1 A2 c2) up0
 have hn1:NtsV (From w.heap.size) (w6.setRow g2 (msC (cutMs m) A1 c1 A2 c2)) (cutMs m).chs A1 c1:=NtsV.set hi1 hg2 (fun b h=>Nat.le_trans hwB h)
 have hn2:NtsV (From w.heap.size) (w6.setRow g2 (msC (cutMs m) A1 c1 A2 c2)) (cutMs m).pps A2 c2:=NtsV.set hi2 hg2 (fun b h=>Nat.le_trans hwB h)
 have HN1:=qh hn1
 have HN2:=qh hn2
 clear hn1 hn2 hi1 hi2
 generalize w6.setRow g2 (msC (cutMs m) A1 c1 A2 c2)=w7 at hM HN1 HN2 ⊢
 refine hK.out _ _ hM.tail (fun _=>lay_H ?_)
 clear hK K
 refine wpAnyH_done (by kernel_rfl) ?_ _
 go_wp2_with fail
 refine res_c hM rfl tyMs rfl (by exact hat) rfl rfl ?_
 exact ⟨A1,c1,A2,c2,rfl,HN1.out,HN2.out,hM.below⟩
/- The walk of law 21's MsgOne. -/
theorem qcr {P:Program} {ops:Array Oper} {rest:List Oper} {op:Oper} {a a':Act} {w0 w:World} {Q:Exit→Act→World→Prop} {L:List Blk} {g n:Nat} {cs:Array Value} {t:TypeId} (hM:Mem w0 w L) (hk:w0.heap[g]? = some (.cells cs t (0,0))) (hgd:Region.wanted op (yielded ops a.tmps)=true) {ty:TypeId} {x:Operand} (ho:op.op=.load ty x) (T:AggT P ty n) (hx:a.eval x=.pointer (some ⟨g,0,none⟩)) (hn:cs.size=n)
  (h:wpList P ops Q rest a' w) (ha:a.put op.dst (.agg cs)=a':=by simp only [Act.put,List.setIfInBounds_toArray,List.set_cons_zero,List.set_cons_succ];rfl):wpList P ops Q (op :: rest) a w :=
 match T.desc with
 | ⟨d,hd,hd2⟩=>qa2 hgd fun _ hK=>wp_load_row ty x ho g hx t cs (0,0) d ((hM.below.block g (qg hk)).trans hk) hd (by cases d <;> first | rfl | cases hd2) (by rw [T.size,hn]) (hK _ _ (ha ▸ h))
theorem qc6:Ent Tryz.prog 20:=⟨enters_of Tryz.func20 (by kernel_rfl) rfl⟩
theorem qf9:Ent Tryz.prog 21:=⟨enters_of Tryz.func21 (by kernel_rfl) rfl⟩
theorem enLike21:Ent Tryz.prog 22:=⟨enters_of Tryz.func22 (by kernel_rfl) rfl⟩
/-- what msg.Bytes answers -/
theorem qiq (m:Ms) (hf:m.Fine) (Ac Ap:Option Addr) (cc cp:Nat) (w:World) (hc:NtsV Any w m.chs Ac cc) (hp:NtsV Any w m.pps Ap cp):∃ (sb:Bytes) (nb:Int),(∀ W,Below w.heap.size w W→Calls Tryz.prog 20 #[.agg (msC m Ac cc Ap cp)] W fun e w'=>e=.returned (.tuple #[.string (bs sb),.int .i64 nb])∧Below W.heap.size W w')∧((nb=0∧OkMs m∧sb=msB m)∨((nb == 0)=false∧sb = [])):=by
 obtain ⟨bo,no,hbr⟩:=qso m.block
 have hw:∀ W,Below w.heap.size w W→∀ W',Below W.heap.size W W'→Calls Tryz.prog 25 #[.agg (msC m Ac cc Ap cp)] W' fun e w'=>e=.returned (.bool (okMs bo m))∧Below W'.heap.size W' w':=fun W hb W' hb'=>qto m hf bo no hbr Ac Ap cc cp W' (PlV.keep (PlV.keep hc hb) hb') (PlV.keep (PlV.keep hp hb) hb')
 by_cases hk:okMs bo m=true
 ·rw [hk] at hw
  have hok:=(okMs_iff hbr.1).1 hk
  refine ⟨(encR (msI m)).1,((encR (msI m)).2:Int),fun W hb=>qop m hf.wf hok Ac Ap cc cp W (PlV.keep hc hb) (PlV.keep hp hb) (hw W hb),?_⟩
  rw [encR_ms hok hf.wf]
  by_cases h4:4000 < (msB m).length
  ·rw [if_pos h4];exact .inr ⟨rfl,rfl⟩
  ·rw [if_neg h4];exact .inl ⟨rfl,hok,rfl⟩
 ·have hk:=Bool.eq_false_iff.2 hk
  rw [hk] at hw
  exact ⟨[],1,fun W hb=>qqg m Ac Ap cc cp W (hw W hb),.inr ⟨rfl,rfl⟩⟩
theorem qoy (m u:Ms) (hm:m.Fine) (hu:u.Fine) (Ac Ap Bc Bp:Option Addr) (cc cp dc dp:Nat) (w:World) (hc:NtsV Any w m.chs Ac cc) (hp:NtsV Any w m.pps Ap cp) (hc':NtsV Any w u.chs Bc dc) (hp':NtsV Any w u.pps Bp dp) :
  Calls Tryz.prog 4 #[.agg (msC m Ac cc Ap cp),.agg (msC u Bc dc Bp dp)] w fun e w'=>e=.returned (.bool true)∧Below w.heap.size w w':=by
 have c_f1:=fun (W:World) (hb:Below w.heap.size w W)=>qly m hm Ac Ap cc cp W (PlV.keep hc hb) (PlV.keep hp hb)
 have c_f2:=fun (W:World) (hb:Below w.heap.size w W)=>qly u hu Bc Bp dc dp W (PlV.keep hc' hb) (PlV.keep hp' hb)
 have HF:=qh (And.intro (qir hm) (qir hu))
 have hM:=Mem.nil w
 clear hm hu hc hp hc' hp'
 go_enter Tryz.func4,Tryz.ntmps4
 go_wp2_with (first
  | (refine qam 2 rfl hM rfl rfl rfl (boxMs m Ac cc Ap cp _) ?_;clear hM;intro w' g2 hM)
  | (refine qam 3 rfl hM rfl rfl rfl (boxMs u Bc dc Bp dp _) ?_;clear hM;intro w' g3 hM))
 refine qat [(1,fun v'=>Mem w v' [(g3,msC u Bc dc Bp dp,43),(g2,msC m Ac cc Ap cp,43)]),(3,fun v'=>Mem w v' [(g3,msC u Bc dc Bp dp,43),(g2,msC m Ac cc Ap cp,43)])] (by kernel_rfl) ?_
 replace hM:=hM.drew
 generalize w'.drew=w1 at hM ⊢
 refine R_l (i:=0) 1 _ List.mem_cons_self rfl (qfb tyMs (fun _ h=>Mem.at_ h at1)) (Mh hM (Mh hM Mn)) ?_
 refine R_l (i:=2) 3 _ (List.mem_cons_of_mem _ List.mem_cons_self) rfl (qfb tyMs (fun _ h=>Mem.at_ h at0)) (Mh hM (Mh hM Mn)) ?_
 refine R_now 1 fun K hK=>?_
 go_simp
 refine (c_f1 _ hM.below).mono ?_
 rintro e w2 ⟨A1,c1,A2,c2,rfl,hn1,hn2,hb⟩
 have hl2:g2 < w1.heap.size:=hM.lt (List.mem_of_getElem? at1)
 have hl3:g3 < w1.heap.size:=hM.lt (List.mem_of_getElem? at0)
 have hsz:=hb.size
 replace hM:=hM.call hb
 clear hb
 refine hK.out _ _ (Meets.past (by kernel_rfl) (Mh hM Mn)) (fun _=>lay_R ?_)
 clear hK K
 refine R_now 3 fun K hK=>?_
 go_simp
 refine (c_f2 _ hM.below).mono ?_
 rintro e w3 ⟨B1,d1,B2,d2,rfl,hn3,hn4,hb⟩
 replace hn1:=PlV.keep hn1 hb
 replace hn2:=PlV.keep hn2 hb
 replace hM:=hM.call hb
 clear hb
 refine hK.out _ _ (Meets.past (by kernel_rfl) (Meets.past (by kernel_rfl) Mn)) (fun _=>lay_R ?_)
 clear hK K
 refine R_now 4 fun K hK=>?_
 refine qdk (by rfl) ?_
 refine wp_store_row _ _ _ rfl _ (msC (cutMs m) A1 c1 A2 c2) rfl rfl _ _ (hM.at_ at1) qnh rfl (oneMs _ _ _ _ _) ?_
 replace hM:=hM.set at1 (msC (cutMs m) A1 c1 A2 c2) (L':=[(g3,msC u Bc dc Bp dp,43),(g2,msC (cutMs m) A1 c1 A2 c2,43)]) rfl
 have k1:NtsV (From w1.heap.size) (w3.setRow g2 (msC (cutMs m) A1 c1 A2 c2)) (cutMs m).chs A1 c1:=NtsV.set hn1 hl2 (fun b h=>h)
 have k2:NtsV (From w1.heap.size) (w3.setRow g2 (msC (cutMs m) A1 c1 A2 c2)) (cutMs m).pps A2 c2:=NtsV.set hn2 hl2 (fun b h=>h)
 have k3:NtsV (From w2.heap.size) (w3.setRow g2 (msC (cutMs m) A1 c1 A2 c2)) (cutMs u).chs B1 d1:=NtsV.set hn3 (by omega) (fun b h=>h)
 have k4:NtsV (From w2.heap.size) (w3.setRow g2 (msC (cutMs m) A1 c1 A2 c2)) (cutMs u).pps B2 d2:=NtsV.set hn4 (by omega) (fun b h=>h)
 clear hn1 hn2 hn3 hn4
 generalize w3.setRow g2 (msC (cutMs m) A1 c1 A2 c2)=w4 at hM k1 k2 k3 k4 ⊢
 refine hK.out _ _ (Meets.past (by kernel_rfl) (Meets.past (by kernel_rfl) Mn)) (fun _=>lay_R ?_)
 clear hK K
 refine R_now 5 fun K hK=>?_
 refine qdk (by rfl) ?_
 refine wp_store_row _ _ _ rfl _ (msC (cutMs u) B1 d1 B2 d2) rfl rfl _ _ (hM.at_ at0) qnh rfl (oneMs _ _ _ _ _) ?_
 replace hM:=hM.set at0 (msC (cutMs u) B1 d1 B2 d2) up0
 have n1:NtsV Any (w4.setRow g3 (msC (cutMs u) B1 d1 B2 d2)) (cutMs m).chs A1 c1:=NtsV.set k1 hl3 (fun _ _=>trivial)
 have n2:NtsV Any (w4.setRow g3 (msC (cutMs u) B1 d1 B2 d2)) (cutMs m).pps A2 c2:=NtsV.set k2 hl3 (fun _ _=>trivial)
 have n3:NtsV Any (w4.setRow g3 (msC (cutMs u) B1 d1 B2 d2)) (cutMs u).chs B1 d1:=NtsV.set k3 (by omega) (fun _ _=>trivial)
 have n4:NtsV Any (w4.setRow g3 (msC (cutMs u) B1 d1 B2 d2)) (cutMs u).pps B2 d2:=NtsV.set k4 (by omega) (fun _ _=>trivial)
 clear k1 k2 k3 k4
 generalize w4.setRow g3 (msC (cutMs u) B1 d1 B2 d2)=w5 at hM n1 n2 n3 n4 ⊢
 refine hK.out _ _ (Meets.past (by kernel_rfl) (Meets.past (by kernel_rfl) Mn)) (fun _=>lay_R ?_)
 clear hK K
 refine qbi (by kernel_rfl) ?_ _
 obtain ⟨sb,nb,c_b1,hb1⟩:=qiq (cutMs m) HF.out.1 A1 A2 c1 c2 w5 n1 n2
 obtain ⟨tb,mb,c_b2,hb2⟩:=qiq (cutMs u) HF.out.2 B1 B2 d1 d2 w5 n3 n4
 have c_l:=fun (W:World) (hb:Below w5.heap.size w5 W)=>qpl (cutMs m) (cutMs u) A1 A2 B1 B2 c1 c2 d1 d2 W (PlV.keep n1 hb) (PlV.keep n2 hb) (PlV.keep n3 hb) (PlV.keep n4 hb)
 have hm2:=hM.at_ at1
 have hm3:=hM.at_ at0
 have HB:=qh hM.below
 have hN:=Mem.nil w5
 clear n1 n2 n3 n4 hM c_f1 c_f2 hl2 hl3 hsz
 have fin:∀ {w':World} {L:List Blk},Mem w5 w' L→Below w.heap.size w w':=fun h=>HB.out.trans (h.below.mono HB.out.size)
 rcases hb1 with ⟨rfl,k1,e1⟩ | ⟨k1,rfl⟩
 ·rcases hb2 with ⟨rfl,k2,e2⟩ | ⟨k2,rfl⟩
  ·have hd:decide (cutMs m=cutMs u)=decide (sb=tb):=by
    rw [Bool.eq_iff_iff,decide_eq_true_iff,decide_eq_true_iff,e1,e2]
    exact ⟨fun h=>by rw [h],fun h=>msB_inj k1 HF.out.1.wf k2 HF.out.2.wf h⟩
   have q50:=eqlStr sb tb
   rw [hd] at c_l
   obtain ⟨d,hd2⟩:∃ d,decide (sb=tb)=d:=⟨_,rfl⟩
   simp only [hd2] at c_l q50
   clear hd hd2 k1 k2 e1 e2
   go_wp2_with (first
    | (refine qcr hN hm2 rfl rfl tyMs rfl rfl ?_)
    | (refine qcr hN hm3 rfl rfl tyMs rfl rfl ?_)
    | (refine qak 15 rfl hN rfl rfl qc6 (al:=[.agg (msC (cutMs m) A1 c1 A2 c2)]) (c_b1 _ hN.below) rfl ?_;clear hN;intro w' hN)
    | (refine qak 20 rfl hN rfl rfl qc6 (al:=[.agg (msC (cutMs u) B1 d1 B2 d2)]) (c_b2 _ hN.below) rfl ?_;clear hN;intro w' hN)
    | (refine qak 46 rfl hN rfl rfl qf9 (al:=[]) (qkb _) rfl ?_;clear hN;intro w' hN)
    | (refine qcs 50 rfl q50 (fun _ _ w=>qg5 _ _ _ _ w) rfl rfl rfl rfl ?_)
    | (refine qak 53 rfl hN rfl rfl enLike21 (al:=[.agg (msC (cutMs m) A1 c1 A2 c2),.agg (msC (cutMs u) B1 d1 B2 d2)]) (c_l _ hN.below) rfl ?_;clear hN;intro w' hN))
   go_ret
   exact ⟨by simp,fin hN⟩
  ·clear k1 e1
   have k2n:(mb != 0)=true:=by rw [bne,k2];rfl
   go_wp2_with (first
    | (refine qcr hN hm2 rfl rfl tyMs rfl rfl ?_)
    | (refine qcr hN hm3 rfl rfl tyMs rfl rfl ?_)
    | (refine qak 15 rfl hN rfl rfl qc6 (al:=[.agg (msC (cutMs m) A1 c1 A2 c2)]) (c_b1 _ hN.below) rfl ?_;clear hN;intro w' hN)
    | (refine qak 20 rfl hN rfl rfl qc6 (al:=[.agg (msC (cutMs u) B1 d1 B2 d2)]) (c_b2 _ hN.below) rfl ?_;clear hN;intro w' hN)
    | (refine qak 29 rfl hN rfl rfl qf9 (al:=[]) (qkb _) rfl ?_;clear hN;intro w' hN))
   go_ret
   exact ⟨rfl,fin hN⟩
 ·have k1n:(nb != 0)=true:=by rw [bne,k1];rfl
  rcases hb2 with ⟨rfl,k2,e2⟩ | ⟨k2,rfl⟩
  ·clear k2 e2
   go_wp2_with (first
    | (refine qcr hN hm2 rfl rfl tyMs rfl rfl ?_)
    | (refine qcr hN hm3 rfl rfl tyMs rfl rfl ?_)
    | (refine qak 15 rfl hN rfl rfl qc6 (al:=[.agg (msC (cutMs m) A1 c1 A2 c2)]) (c_b1 _ hN.below) rfl ?_;clear hN;intro w' hN)
    | (refine qak 20 rfl hN rfl rfl qc6 (al:=[.agg (msC (cutMs u) B1 d1 B2 d2)]) (c_b2 _ hN.below) rfl ?_;clear hN;intro w' hN)
    | (refine qak 29 rfl hN rfl rfl qf9 (al:=[]) (qkb _) rfl ?_;clear hN;intro w' hN))
   go_ret
   exact ⟨rfl,fin hN⟩
  ·have k2n:(mb != 0)=true:=by rw [bne,k2];rfl
   go_wp2_with (first
    | (refine qcr hN hm2 rfl rfl tyMs rfl rfl ?_)
    | (refine qcr hN hm3 rfl rfl tyMs rfl rfl ?_)
    | (refine qak 15 rfl hN rfl rfl qc6 (al:=[.agg (msC (cutMs m) A1 c1 A2 c2)]) (c_b1 _ hN.below) rfl ?_;clear hN;intro w' hN)
    | (refine qak 20 rfl hN rfl rfl qc6 (al:=[.agg (msC (cutMs u) B1 d1 B2 d2)]) (c_b2 _ hN.below) rfl ?_;clear hN;intro w' hN)
    | (refine qak 29 rfl hN rfl rfl qf9 (al:=[]) (qkb _) rfl ?_;clear hN;intro w' hN))
   go_ret
   exact ⟨rfl,fin hN⟩
end Go.Proofs.YteoednifdpdbnaaGreat
