/- The walk of sha.Block. -/
import Derived.Test.YteoednifdpdbnaaGreatZ31
import Derived.Test.YteoednifdpdbnaaGreatZ27
import Derived.Test.YteoednifdpdbnaaGreatZ34
import Derived.Deep.Cut
namespace Go.Proofs.YteoednifdpdbnaaGreat
set_option linter.unusedVariables false
set_option linter.unusedSimpArgs false
open Go.RowKit
set_option maxHeartbeats 4000000
set_option maxRecDepth 100000
open Go.RowKit Go.Shelf
theorem box8 (x:H8) (w:World):(Instr.box 326 (.agg (wwC x.row))).run Tryz.prog w=.ok (.pointer (some ⟨w.heap.size,0,none⟩)) (w.alloc (.cells (wwC x.row) 326)):=by
 unfold wwC H8.row
 go_simp
def mixS (x y:H8) (i:Nat):List W32:=tab 8 (fun j=>x.row.getD j 0+y.row.getD j 0) (fun j=>x.row.getD j 0) i
theorem mixS_all (x y:H8):mixS x y 8=(sumH x y).row:=rfl
theorem mixS_len (x y:H8) (i:Nat):(mixS x y i).length=8:=qb0 _ _ _ _
theorem mixS_at (x y:H8) {i:Nat} (h:i < 8):(mixS x y i).getD i 0=x.row.getD i 0:=by
 unfold mixS;rw [List.getD_eq_getElem?_getD,qfi h];simp
theorem mixS_set (x y:H8) (i:Nat):(mixS x y i).set i (x.row.getD i 0+y.row.getD i 0)=mixS x y (i+1):=qdz
theorem Mem.drewN {w0 w:World} {L:List Blk} (h:Mem w0 w L) (n:Nat):Mem w0 (w.drewN n) L:=⟨qb1 h.below n,h.rows,h.apart⟩
theorem kS_len:kS.length=64:=rfl
theorem qos (h:H8) (b:Bytes) (hb:b.length=64) (w:World):Calls Tryz.prog 269 #[.agg (wwC h.row),.string (bs b)] w fun e w'=>e=.returned (.tuple #[.agg (wwC (blockS h b).row),.int .i64 0])∧Below w.heap.size w w':=by
 have hM:=Mem.nil w
 have hbl:(b.length:Int)=64:=by omega
 have c_sp:=qo4 b hb
 have c_k:=qot
 have hsl:=qfg b 48
 unfold blockS
 obtain ⟨W,hW⟩:∃ W,spreadS b 48=W:=⟨_,rfl⟩
 rw [hW] at hsl ⊢
 simp only [hW] at c_sp
 have hw64:(wwC W).size=64:=by rw [qa8];exact hsl
 have HSL:=qh hsl
 clear hW hb hsl
 go_enter Tryz.func269,Tryz.ntmps269
 go_wp2_with (first
  | (refine qam 2 rfl hM rfl rfl rfl (box8 h _) ?_;clear hM;intro w' g2 hM)
  | (refine qaj 4 rfl hM rfl (runW8 rfl) ?_;clear hM;intro w' g4 hM))
 refine qpd 3 24 7 hM qbc [.string (bs b),.agg (wwC W),.agg (wwC kS),.agg (wwC h.row),undef,undef,undef] [⟨4,6,wwC (List.replicate 64 0),334⟩,⟨5,7,wwC (List.replicate 64 0),334⟩,⟨6,8,wwC (List.replicate 8 0),326⟩] (fun G=>[(G 4,wwC W,334),(G 5,wwC kS,334),(G 6,wwC h.row,326),(g4,wwC (List.replicate 8 0),326),(g2,wwC h.row,326)]) (b:=?b90) ?hb rfl (by kernel_rfl) (by kernel_rfl) (by kernel_rfl) ?hgo (fun _ _ _ _ _ h=>h) ?htail ?hlate ?hrest
 case hb=>simp only [putAll,Act.put,List.setIfInBounds_toArray,List.set_cons_zero,List.set_cons_succ];rfl
 case hgo =>
  refine GoAll.v (.string (bs b)) (qaq fun w=>by go_simp) ?_
  refine GoAll.v (.agg (wwC W)) (qao (al:=[.string (bs b)]) c_sp enSpread) ?_
  refine GoAll.v (.agg (wwC kS)) (qao (al:=[]) c_k enConstS) ?_
  refine GoAll.v (.agg (wwC h.row)) (qap ty8 at1) ?_
  refine GoAll.l (k:=0) rfl ⟨rfl,fun ρ w=>qk5 rfl ρ w⟩ ?_
  refine GoAll.l (k:=1) rfl ⟨rfl,fun ρ w=>qk5 rfl ρ w⟩ ?_
  refine GoAll.l (k:=2) rfl ⟨rfl,fun ρ w=>runW8 rfl ρ w⟩ ?_
  exact GoAll.nil
 case hlate =>
  clear hM;intro Q' w' G x hQ hM hR
  simp only [putLays,List.drop_succ_cons,List.drop_zero,List.map_nil,List.map_cons,List.nil_append,List.cons_append,Act.put,List.setIfInBounds_toArray,List.set_cons_zero,List.set_cons_succ] at hM hR ⊢
  refine wpAny_of_held (S:=fun w'=>w'.heap[g2]? = some (.cells (wwC h.row) 326 (0,0))) _ _ _ _ ?_
  refine H_t (i:=3) rfl (qfb ty8 (fun _ h=>h)) (hM.at_ at4) ?_ (hQ:=fun c a w h=>hQ c a _ _ w h)
  refine H_now 7 (fun K' hK=>?_)
  rw [if_pos (by simp [Region.wanted])]
  refine wp_store_row _ _ _ rfl _ (wwC W) rfl rfl _ _ (hM.at_ at0) (by rw [ty64.size,hw64]) (by rw [hw64,qa8];rfl) (qcu W) ?_
  have hM:=hM.set at0 (wwC W) up0
  refine hK _ _ (hM.at_ at4) (fun _=>?_)
  refine H_now 8 (fun K' hK=>?_)
  rw [if_pos (by simp [Region.wanted])]
  refine wp_store_row _ _ _ rfl _ (wwC kS) rfl rfl _ _ (hM.at_ at1) (by rw [ty64.size,qa8];rfl) (by rw [qa8,qa8];rfl) (qcu kS) ?_
  have hM:=hM.set at1 (wwC kS) up1
  refine hK _ _ (hM.at_ at4) (fun _=>?_)
  refine H_now 9 (fun K' hK=>?_)
  rw [if_pos (by simp [Region.wanted])]
  refine wp_store_row _ _ _ rfl _ (wwC h.row) rfl rfl _ _ (hM.at_ at2) (by rw [ty8.size,qa8];rfl) (by rw [qa8,qa8];rfl) (qcu _) ?_
  have hM:=hM.set at2 (wwC h.row) up2
  refine hK _ _ (hM.at_ at4) (fun _=>?_)
  exact wpAnyH_done (by kernel_rfl) (hR _ hM) _
 case htail =>
  clear hM;intro Q' w' G hM hR
  simp only [putLays,List.drop_succ_cons,List.drop_zero,List.map_nil,List.map_cons,List.nil_append,List.cons_append,Act.put,List.setIfInBounds_toArray,List.set_cons_zero,List.set_cons_succ] at hM hR ⊢
  refine qae hM rfl rfl ty64 rfl (new:=wwC W) rfl au0 hw64 (by rw [qa8];rfl) (qcu W) ?_;clear hM;intro w' hM
  refine qae hM rfl rfl ty64 rfl (new:=wwC kS) rfl au1 (by rw [qa8];rfl) (by rw [qa8];rfl) (qcu kS) ?_;clear hM;intro w' hM
  refine qae hM rfl rfl ty8 rfl (new:=wwC h.row) rfl au2 (by rw [qa8];rfl) (by rw [qa8];rfl) (qcu _) ?_;clear hM;intro w' hM
  exact hR _ hM
 case hrest =>
  clear hM;intro w' G hM
  simp only [putLays,Act.put,List.setIfInBounds_toArray,List.set_cons_zero,List.set_cons_succ] at hM ⊢
  generalize G 4=g6 at hM ⊢
  generalize G 5=g7 at hM ⊢
  generalize G 6=g8 at hM ⊢
  go_wp2_with fail
  have HW:=qh hw64
  clear hw64 c_sp c_k
  go_loopw [9,10,11,12,13,14,15,25] (fun _ _ _ _ _ _ _ x wr=>∃ t:Nat,t≤64∧x=.int .i64 t∧Mem w wr [(g6,wwC W,334),(g7,wwC kS,334),(g8,wwC (stepsS W h t).row,326),(g4,wwC (List.replicate 8 0),326),(g2,wwC h.row,326)]) (fun _ _ _ _ _ _ _ x _=>64 - (intOf x).toNat)
  case atStart=>exact ⟨0,by omega,rfl,hM⟩
  case round =>
   clear hM
   obtain ⟨t,ht,rfl,hM⟩:=hrel
   by_cases hlt:t < 64
   ·
    have hlt':(t:Int) < 64:=by omega
    have hst:stepsS W h (t+1)=stepS (stepsS W h t) (kS.getD t 0) (W.getD t 0):=rfl
    have ck:=cellW hM at1 (i:=t) (by rw [kS_len];omega)
    have cw:=cellW hM at0 (i:=t) (by rw [HSL.out];omega)
    obtain ⟨kk,hk⟩:∃ k,kS.getD t 0=k:=⟨_,rfl⟩
    obtain ⟨x,hx⟩:∃ k,W.getD t 0=k:=⟨_,rfl⟩
    rw [hk,hx] at hst
    rw [hk] at ck
    rw [hx] at cw
    obtain ⟨s,hs⟩:∃ s,stepsS W h t=s:=⟨_,rfl⟩
    rw [hs] at hM hst
    obtain ⟨sa,sb,sc,sd,se,sf,sg,sh⟩:=s
    have hjk:(wwC kS)[t]? = some (.int .u32 (ww kk)):=by rw [← hk];exact qhs (by rw [kS_len];omega)
    have hjw:(wwC W)[t]? = some (.int .u32 (ww x)):=by rw [← hx];exact qhs (by rw [HSL.out];omega)
    have c0:_=some (Value.int .u32 (ww sa)):=cellW hM at2 (i:=0) (by rw [H8.row_len];decide)
    have c1:_=some (Value.int .u32 (ww sb)):=cellW hM at2 (i:=1) (by rw [H8.row_len];decide)
    have c2:_=some (Value.int .u32 (ww sc)):=cellW hM at2 (i:=2) (by rw [H8.row_len];decide)
    have c3:_=some (Value.int .u32 (ww sd)):=cellW hM at2 (i:=3) (by rw [H8.row_len];decide)
    have c4:_=some (Value.int .u32 (ww se)):=cellW hM at2 (i:=4) (by rw [H8.row_len];decide)
    have c5:_=some (Value.int .u32 (ww sf)):=cellW hM at2 (i:=5) (by rw [H8.row_len];decide)
    have c6:_=some (Value.int .u32 (ww sg)):=cellW hM at2 (i:=6) (by rw [H8.row_len];decide)
    have c7:_=some (Value.int .u32 (ww sh)):=cellW hM at2 (i:=7) (by rw [H8.row_len];decide)
    have HST:=qh hst
    have HM:=qh hM
    have HJ:=qh (And.intro hjk hjw)
    clear hk hx hs hst hM hjk hjw ck cw
    go_wp2_with fail
    go_quiet (fail)
    rename_i nq
    have hM:=HM.out.drewN nq
    clear HM c0 c1 c2 c3 c4 c5 c6 c7
    generalize wr.drewN nq=w3 at hM ⊢
    have c0:_=some (Value.int .u32 (ww sa)):=cellW hM at2 (i:=0) (by rw [H8.row_len];decide)
    have c1:_=some (Value.int .u32 (ww sb)):=cellW hM at2 (i:=1) (by rw [H8.row_len];decide)
    have c2:_=some (Value.int .u32 (ww sc)):=cellW hM at2 (i:=2) (by rw [H8.row_len];decide)
    have c3:_=some (Value.int .u32 (ww sd)):=cellW hM at2 (i:=3) (by rw [H8.row_len];decide)
    have c4:_=some (Value.int .u32 (ww se)):=cellW hM at2 (i:=4) (by rw [H8.row_len];decide)
    have c5:_=some (Value.int .u32 (ww sf)):=cellW hM at2 (i:=5) (by rw [H8.row_len];decide)
    have c6:_=some (Value.int .u32 (ww sg)):=cellW hM at2 (i:=6) (by rw [H8.row_len];decide)
    have c7:_=some (Value.int .u32 (ww sh)):=cellW hM at2 (i:=7) (by rw [H8.row_len];decide)
    go_wp2_with fail
    generalize hch:se &&& sf ^^^ (~~~se &&& sg)=ch
    generalize hmo:sa &&& sb ^^^ (sa &&& sc) ^^^ (sb &&& sc)=mo
    have HCM:=qh (And.intro hch hmo)
    clear hch hmo c0 c1 c2 c3 c4 c5 c6 c7
    refine qau 21 hM qbc [.pointer (some ⟨g8,7,none⟩),.int .u32 (ww sh),.int .u32 (ww se),.int .u32 (ww (rotr se 6)),.int .u32 (ww se),.int .u32 (ww (rotr se 11)),.int .u32 (ww (rotr se 6 ^^^ rotr se 11)),.int .u32 (ww se),.int .u32 (ww (rotr se 25)),.int .u32 (ww (rotr se 6 ^^^ rotr se 11 ^^^ rotr se 25)),.int .u32 (ww (sh+(rotr se 6 ^^^ rotr se 11 ^^^ rotr se 25))),.int .u32 (ww ch),.int .u32 (ww (sh+(rotr se 6 ^^^ rotr se 11 ^^^ rotr se 25)+ch)),.int .i64 (t:Int),.pointer (some ⟨g7,t,none⟩),.int .u32 (ww kk),.int .u32 (ww (sh+(rotr se 6 ^^^ rotr se 11 ^^^ rotr se 25)+ch+kk)),.int .i64 (t:Int),.pointer (some ⟨g6,t,none⟩),.int .u32 (ww x),.int .u32 (ww (sh+(rotr se 6 ^^^ rotr se 11 ^^^ rotr se 25)+ch+kk+x))] [] (b:=?b1) ?hb rfl (by kernel_rfl) ?hgo ?hfin
    case hb=>simp only [putAll,Act.put,List.setIfInBounds_toArray,List.set_cons_zero,List.set_cons_succ];rfl
    case hgo =>
     refine GoAll.v (.pointer (some ⟨g8,7,none⟩)) (qaq fun w=>by go_simp) ?_
     refine GoAll.v (.int .u32 (ww sh)) (qg1 Tryz.isAgg321 at2 rfl) ?_
     refine GoAll.v (.int .u32 (ww se)) (qaq fun w=>by go_simp) ?_
     refine GoAll.v (.int .u32 (ww (rotr se 6))) (qao (al:=[.int .u32 (ww se),.int .i64 6]) (turnB se 6 (by decide) (by decide)) qe0) ?_
     refine GoAll.v (.int .u32 (ww se)) (qaq fun w=>by go_simp) ?_
     refine GoAll.v (.int .u32 (ww (rotr se 11))) (qao (al:=[.int .u32 (ww se),.int .i64 11]) (turnB se 11 (by decide) (by decide)) qe0) ?_
     refine GoAll.v (.int .u32 (ww (rotr se 6 ^^^ rotr se 11))) (qaq fun w=>by go_simp) ?_
     refine GoAll.v (.int .u32 (ww se)) (qaq fun w=>by go_simp) ?_
     refine GoAll.v (.int .u32 (ww (rotr se 25))) (qao (al:=[.int .u32 (ww se),.int .i64 25]) (turnB se 25 (by decide) (by decide)) qe0) ?_
     refine GoAll.v (.int .u32 (ww (rotr se 6 ^^^ rotr se 11 ^^^ rotr se 25))) (qaq fun w=>by go_simp) ?_
     refine GoAll.v (.int .u32 (ww (sh+(rotr se 6 ^^^ rotr se 11 ^^^ rotr se 25)))) (qaq fun w=>by go_simp) ?_
     refine GoAll.v (.int .u32 (ww ch)) (qaq fun w=>by go_simp) ?_
     refine GoAll.v (.int .u32 (ww (sh+(rotr se 6 ^^^ rotr se 11 ^^^ rotr se 25)+ch))) (qaq fun w=>by go_simp) ?_
     refine GoAll.v (.int .i64 (t:Int)) (qaq fun w=>by go_simp) ?_
     refine GoAll.v (.pointer (some ⟨g7,t,none⟩)) (qaq fun w=>by go_simp) ?_
     refine GoAll.v (.int .u32 (ww kk)) (qg1 Tryz.isAgg321 at1 HJ.out.1) ?_
     refine GoAll.v (.int .u32 (ww (sh+(rotr se 6 ^^^ rotr se 11 ^^^ rotr se 25)+ch+kk))) (qaq fun w=>by go_simp) ?_
     refine GoAll.v (.int .i64 (t:Int)) (qaq fun w=>by go_simp) ?_
     refine GoAll.v (.pointer (some ⟨g6,t,none⟩)) (qaq fun w=>by go_simp) ?_
     refine GoAll.v (.int .u32 (ww x)) (qg1 Tryz.isAgg321 at0 HJ.out.2) ?_
     refine GoAll.v (.int .u32 (ww (sh+(rotr se 6 ^^^ rotr se 11 ^^^ rotr se 25)+ch+kk+x))) (qaq fun w=>by go_simp) ?_
     exact GoAll.nil
    case hfin =>
     clear hM;intro w' G hM
     simp only [putLays,List.drop_succ_cons,List.drop_zero,List.map_nil,List.map_cons,List.nil_append,List.cons_append] at hM ⊢
     generalize hA:sh+(rotr se 6 ^^^ rotr se 11 ^^^ rotr se 25)+ch+kk+x=one
     have HA:=qh hA
     clear hA
     go_upto_region 12 with (first
      | (refine qak 79 rfl hM rfl rfl qe0 (al:=[.int .u32 (ww sa),.int .i64 2]) (turnB sa 2 (by decide) (by decide) _) rfl ?_;clear hM;intro w' hM)
      | (refine qak 81 rfl hM rfl rfl qe0 (al:=[.int .u32 (ww sa),.int .i64 13]) (turnB sa 13 (by decide) (by decide) _) rfl ?_;clear hM;intro w' hM)
      | (refine qak 84 rfl hM rfl rfl qe0 (al:=[.int .u32 (ww sa),.int .i64 22]) (turnB sa 22 (by decide) (by decide) _) rfl ?_;clear hM;intro w' hM))
     generalize hB:(rotr sa 2 ^^^ rotr sa 13 ^^^ rotr sa 22)+mo=two
     have HB:=qh hB
     clear hB
     go_upto_region 13 with (first
      | (refine qaf hM rfl rfl Tryz.isAgg321 rfl (by exact hat) (v:=.int .u32 (ww sb)) rfl ?_)
      | (refine qaf hM rfl rfl Tryz.isAgg321 rfl (by exact hat) (v:=.int .u32 (ww sc)) rfl ?_)
      | (refine qaf hM rfl rfl Tryz.isAgg321 rfl (by exact hat) (v:=.int .u32 (ww sd)) rfl ?_)
      | (refine qaf hM rfl rfl Tryz.isAgg321 rfl (by exact hat) (v:=.int .u32 (ww sf)) rfl ?_)
      | (refine qaf hM rfl rfl Tryz.isAgg321 rfl (by exact hat) (v:=.int .u32 (ww sg)) rfl ?_)
      | (show wpList _ _ _ (_ :: []) _ _;refine qae hM rfl rfl ty8 rfl (new:=wwC [one+two,sa,sb,sc,sd+one,se,sf,sg]) (by simp only [Act.eval];unfold wwC;rfl) (by exact hau) (by rw [qa8];rfl) (by rw [qa8];rfl) (qcu _) ?_;clear hM;intro w' hM))
     go_wp2_with fail
     go_roundw
     case rel =>
      refine ⟨t+1,by omega,by go_num,?_⟩
      have e:(stepS ⟨sa,sb,sc,sd,se,sf,sg,sh⟩ kk x).row = [one+two,sa,sb,sc,sd+one,se,sf,sg]:=by
       simp only [stepS,H8.row,oneS,twoS,chS,mostS,HCM.out.1,HCM.out.2,HA.out,HB.out]
      rw [HST.out,e]
      exact hM
     case measure=>simp [intOf];omega
   ·as_aux_lemma =>
    obtain rfl:t=64:=by omega
    obtain ⟨z,hz⟩:∃ z,stepsS W h 64=z:=⟨_,rfl⟩
    rw [hz] at hM
    have HZ:=qh hz
    clear hz
    have e64:((64:Nat):Int)=64:=rfl
    rw [e64]
    go_wp2_with fail
    obtain ⟨wo,rfl⟩:∃ wo:World,wo=wr:=⟨_,rfl⟩
    clear e64
    go_loopw [16,107] (fun _ x wr=>∃ i:Nat,i≤8∧x=.int .i64 i∧Mem w wr [(g6,wwC W,334),(g7,wwC kS,334),(g8,wwC (mixS z h i),326),(g4,wwC (List.replicate 8 0),326),(g2,wwC h.row,326)]) (fun _ x _=>8 - (intOf x).toNat)
    case atStart=>exact ⟨0,by omega,rfl,hM⟩
    case round =>
     clear hM
     obtain ⟨i,hi,rfl,hM⟩:=hrel
     by_cases hlt2:i < 8
     ·as_aux_lemma =>
      have hlt2':(i:Int) < 8:=by omega
      go_wp2_with fail
      refine qeb 8 (by kernel_rfl) (by kernel_rfl) ?_
      intro w2 hw2
      replace hM:=hw2 ▸ hM.drew
      clear hw2
      have hms:=mixS_set z h i
      have c0:=cellW hM at2 (i:=i) (by rw [mixS_len];exact hlt2)
      rw [mixS_at z h hlt2] at c0
      have f0:=freeW hM at2 i
      have c1:=cellW hM at4 (i:=i) (by rw [H8.row_len];exact hlt2)
      obtain ⟨u,hu⟩:∃ u,z.row.getD i 0=u:=⟨_,rfl⟩
      obtain ⟨v,hv⟩:∃ v,h.row.getD i 0=v:=⟨_,rfl⟩
      rw [hu] at c0 hms
      rw [hv] at c1 hms
      have HM:=qh hM
      have HS:=qh hms
      clear hM hms hu hv
      intro R hR
      simp only [List.take_succ_cons,List.take_zero]
      repeat (first | go_big_quiet_skip | (go_big_quiet_want;go_big_quiet_op;go_big_quiet_on))
      refine wpQuiet_nil (hR _ ?_)
      clear hR R
      simp only [List.drop_succ_cons,List.drop_zero]
      go_wp2_with fail
      go_roundw
      case rel =>
       refine ⟨i+1,by omega,by go_num,?_⟩
       have:=HM.out.setW at2 i (u+v) rfl
       rw [HS.out] at this
       exact this
      case measure=>simp [intOf];omega
     ·as_aux_lemma =>
      obtain rfl:i=8:=by omega
      rw [mixS_all] at hM
      have e8:((8:Nat):Int)=8:=rfl
      rw [e8]
      go_wp2_with (first
       | (refine qai hM rfl rfl ty8 rfl (by exact hat) (by rw [qa8];rfl) ?_)
       | (refine qae hM rfl rfl ty8 rfl (new:=wwC (sumH z h).row) rfl (by exact hau) (by rw [qa8];rfl) (by rw [qa8];rfl) (qcu _) ?_;clear hM;intro w' hM))
      refine qb9 hM rfl ty8 rfl rfl (by exact hat) (by rw [qa8];rfl) rfl ?_
      exact ⟨by rw [HZ.out];rfl,hM.below⟩
/- The walk of sha.high. -/
theorem qqi {l:Bytes} {i:Nat} (h:i < l.length):(bytesC l)[i]? = some (.int .u8 ((l.getD i 0).toNat:Int)):=by simp [bytesC,cellB,h]
theorem qpf (l:Bytes) (i:Nat) (c:UInt8):(bytesC l).setIfInBounds i (.int .u8 (c.toNat:Int))=bytesC (l.set i c):=by simp [bytesC,cellB,List.map_set]
theorem cellY {w0 w:World} {L:List Blk} {k g:Nat} {l:Bytes} {t:TypeId} (hM:Mem w0 w L) (hk:L[k]? = some (g,bytesC l,t)) {i:Nat} (hi:i < l.length):w.cell? ⟨g,i,none⟩=some (.int .u8 ((l.getD i 0).toNat:Int)):=rc (hM.at_ hk) i (qqi hi)
theorem freeY {w0 w:World} {L:List Blk} {k g:Nat} {l:Bytes} {t:TypeId} (hM:Mem w0 w L) (hk:L[k]? = some (g,bytesC l,t)) (i:Nat):w.frozen? ⟨g,i,none⟩=false:=rf (hM.at_ hk) i
theorem Mem.setY {w0 w:World} {L L':List Blk} {k g:Nat} {l:Bytes} {t:TypeId} (hM:Mem w0 w L) (hk:L[k]? = some (g,bytesC l,t)) (i:Nat) (c:UInt8) (hL:L.set k (g,bytesC (l.set i c),t)=L'):Mem w0 (w.setCell ⟨g,i,none⟩ (.int .u8 (c.toNat:Int))) L':=hM.setCell hk i _ (by rw [qpf];exact hL)
def byteH (n many j:Nat):UInt8:=UInt8.ofNat (n / 2 ^ (8 * (many - 1 - j)) % 256)
def rowH (n many i:Nat):Bytes:=(List.range many).map fun j=>if many - i≤j then byteH n many j else 0
theorem qtz (n many:Nat):rowH n many 0=List.replicate many 0:=by
 apply List.ext_getElem?
 intro j
 unfold rowH
 by_cases h:j < many
 ·simp [h,show ¬ many≤j by omega]
 ·simp [h,show many≤j by omega]
theorem qoj (n many:Nat):rowH n many many=highS n many:=by
 unfold rowH highS byteH
 simp
theorem qnp (n many i:Nat):(rowH n many i).length=many:=by simp [rowH]
theorem rowH_set (n many i:Nat) (h:i < many):(rowH n many i).set (many - 1 - i) (byteH n many (many - 1 - i))=rowH n many (i+1):=by
 apply List.ext_getElem?
 intro j
 rw [List.getElem?_set,qnp]
 unfold rowH
 by_cases hj:j < many
 ·by_cases e:many - 1 - i=j
  ·subst e
   rw [if_pos rfl,if_pos hj]
   simp only [List.getElem?_map,List.getElem?_range hj,Option.map_some]
   rw [if_pos (by omega)]
  ·rw [if_neg e]
   simp only [List.getElem?_map,List.getElem?_range hj,Option.map_some]
   by_cases h1:many - i≤j
   ·rw [if_pos h1,if_pos (by omega)]
   ·rw [if_neg h1,if_neg (by omega)]
 ·rw [if_neg (by omega)]
  simp [show many≤j by omega]
theorem qpa (n many i m:Nat) (h:i < many) (hm:m=8 * i):((byteH n many (many - 1 - i)).toNat:Int)=(n:Int) / 2 ^ m % 256:=by
 unfold byteH
 rw [show many - 1 - (many - 1 - i)=i by omega,← hm]
 have h1:n / 2 ^ m % 256 < 256:=Nat.mod_lt _ (by decide)
 have e:(UInt8.ofNat (n / 2 ^ m % 256)).toNat=n / 2 ^ m % 256:=by simp
 rw [e]
 simp
theorem high_S (n many:Nat) (hn:n < 18446744073709551616) (hm:many≤8) (w:World):Calls Tryz.prog 267 #[.int .u64 (n:Int),.int .i64 (many:Int)] w fun e w'=>e=.returned (.string (bs (highS n many)))∧Below w.heap.size w w':=by
 obtain ⟨W1,hmk,hM⟩:∃ W1,(Instr.makeSlice 97 (.int .i64 many) (.int .i64 many)).run Tryz.prog w=.ok (.slice (some ⟨w.heap.size,0,none⟩) many many) W1∧Mem w W1 [(w.heap.size,bytesC (List.replicate many 0),5)] :=
  ⟨_,qg2 many (by omega) w,(Mem.nil w).alloc _ _⟩
 rw [← qtz n many] at hM
 obtain ⟨B,hB⟩:∃ B,w.heap.size=B:=⟨_,rfl⟩
 rw [hB] at hM hmk
 have hmI:(many:Int)≤8:=by omega
 have HH:=qh (qoj n many)
 obtain ⟨T,hT⟩:∃ T,highS n many=T:=⟨_,rfl⟩
 have HT:=qh hT
 have HM:=qh hM
 clear hM hT
 go_enter Tryz.func267,Tryz.ntmps267
 go_wp2_with fail
 clear hmk
 go_loopw [6,11] (fun _ x wr=>∃ i:Nat,i≤many∧x=.int .i64 i∧Mem w wr [(B,bytesC (rowH n many i),5)]) (fun _ x _=>many - (intOf x).toNat)
 case atStart=>exact ⟨0,by omega,rfl,HM.out⟩
 case round =>
  clear HM
  obtain ⟨i,hi,rfl,hM⟩:=hrel
  by_cases hlt:i < many
  ·
   have hlt':(i:Int) < (many:Int):=by omega
   obtain ⟨p,hp⟩:∃ p,many - 1 - i=p:=⟨_,rfl⟩
   obtain ⟨m,hmm⟩:∃ m,8 * i=m:=⟨_,rfl⟩
   have c0:=cellY hM at0 (i:=p) (by rw [qnp];omega)
   have f0:=freeY hM at0 p
   have p1:IntKind.i64.wrap ((many:Int) - 1)=(many:Int) - 1:=IntWalk.i64_in _ (by omega)
   have p2:IntKind.i64.wrap ((many:Int) - 1 - (i:Int))=(p:Int):=by rw [IntWalk.i64_in _ (by omega)];omega
   have p3:IntKind.i64.wrap (8 * (i:Int))=(m:Int):=by rw [IntWalk.i64_in _ (by omega)];omega
   have b1:(p:Int) < (many:Int):=by omega
   have b2:(m:Int) < 64:=by omega
   have hmn:min m 64=m:=by omega
   have hbc:=qpa n many i m hlt hmm.symm
   have hrs:=rowH_set n many i hlt
   rw [hp] at hbc hrs
   have HB:=qh hbc
   have HR:=qh hrs
   have HM:=qh hM
   clear hbc hrs hM hp hmm
   go_wp2_with fail
   refine ⟨⟨i+1,by omega,by go_num,?_⟩,by simp [intOf];omega⟩
   have:=HM.out.setY at0 p (byteH n many p) rfl
   rw [HR.out,HB.out] at this
   exact this
  ·
   obtain rfl:i=many:=by omega
   rw [qoj,HT.out] at hM
   have hrow:BRow wr B T 5:=hM.at_ at0
   have htl:T.length=i:=by rw [← HT.out];exact qdi _ _
   have hcv:=qa3 (P:=Tryz.prog) (c:=i) (src:=97) (dst:=9) Tryz.underlying97 Tryz.underlying5 Tryz.underlying9 hrow.lies
   rw [htl] at hcv
   have hb:=qh hM.below
   clear hM hrow htl
   go_wp2_with fail
   go_ret
   exact ⟨by rw [HT.out];rfl,hb.out⟩
end Go.Proofs.YteoednifdpdbnaaGreat
