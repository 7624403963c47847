/- The walk of ecclesiaref03.Sum: the same sum. -/
import Derived.Test.YteoednifdpdbnaaGreatZ21
import Derived.Outline
import Derived.Deep.DeepMust
namespace Go.Proofs.YteoednifdpdbnaaGreat
set_option linter.unusedVariables false
set_option linter.unusedSimpArgs false
open Go.RowKit
set_option maxHeartbeats 2000000
set_option maxRecDepth 100000
theorem zs25:wsC (List.replicate 25 0)=#[.int .u64 0,.int .u64 0,.int .u64 0,.int .u64 0,.int .u64 0,.int .u64 0,.int .u64 0,.int .u64 0,.int .u64 0,.int .u64 0,.int .u64 0,.int .u64 0,.int .u64 0,.int .u64 0,.int .u64 0,.int .u64 0,.int .u64 0,.int .u64 0,.int .u64 0,.int .u64 0,.int .u64 0,.int .u64 0,.int .u64 0,.int .u64 0,.int .u64 0]:=by
 rw [qct];simp only [List.replicate]
theorem zs25':wsC [0#64,0#64,0#64,0#64,0#64,0#64,0#64,0#64,0#64,0#64,0#64,0#64,0#64,0#64,0#64,0#64,0#64,0#64,0#64,0#64,0#64,0#64,0#64,0#64,0#64]=#[.int .u64 0,.int .u64 0,.int .u64 0,.int .u64 0,.int .u64 0,.int .u64 0,.int .u64 0,.int .u64 0,.int .u64 0,.int .u64 0,.int .u64 0,.int .u64 0,.int .u64 0,.int .u64 0,.int .u64 0,.int .u64 0,.int .u64 0,.int .u64 0,.int .u64 0,.int .u64 0,.int .u64 0,.int .u64 0,.int .u64 0,.int .u64 0,.int .u64 0]:=zs25
theorem size25:(#[.int .u64 0,.int .u64 0,.int .u64 0,.int .u64 0,.int .u64 0,.int .u64 0,.int .u64 0,.int .u64 0,.int .u64 0,.int .u64 0,.int .u64 0,.int .u64 0,.int .u64 0,.int .u64 0,.int .u64 0,.int .u64 0,.int .u64 0,.int .u64 0,.int .u64 0,.int .u64 0,.int .u64 0,.int .u64 0,.int .u64 0,.int .u64 0,.int .u64 0]:Array Value).size=(wsC (List.replicate 25 0)).size:=by rw [zs25]
theorem qjn (s:Bytes) (hs:s.length≤1000000) (w:World) :
  Calls Tryz.prog 52 #[.string (bs s)] w fun e w'=>e=.returned (.string (bs (sumK s)))∧Below w.heap.size w w':=by
 obtain ⟨W1,c0,hcv,hown0,hb0⟩:∃ W1 c0,(convert 9 97 (.string (bs s))).run Tryz.prog w=.ok (.slice (some ⟨w.heap.size,0,none⟩) s.length c0) W1∧OwnM W1 w.heap.size 5 w.heap.size s.length c0 (s.map cellB)∧Below w.heap.size w W1 :=
  ⟨_,_,by have:=Lib.run_convert_string_bytes (P:=Tryz.prog) w 9 97 5 (bs s) Tryz.underlying9 Tryz.underlying97 Tryz.underlying5;rwa [size_bs] at this,quu w _ s (by simp only [maxLen];omega),qm6 _ _ _⟩
 have hW1:=hb0.size
 have hown1:=hown0.keep ((Below.refl _ _).alloc qn (.cells #[.int .u8 1] 5))
 have hu1:(W1.alloc (.cells #[.int .u8 1] 5)).cell? ⟨W1.heap.size,0,none⟩=some (.int .u8 1):=by simp
 clear hown0
 go_enter Tryz.func52,Tryz.ntmps52
 go_wp2_with (at_builtin;refine qev qfi rfl rfl hown1 rfl (.int .u8 1) rfl hu1 rfl ?_ ?_ ?_ ?_;(simp only [maxLen];omega);omega;(simp;omega);intro g1 c1 w1 hown2 hg1)
 have hb1:Below w.heap.size w w1:=(hb0.alloc hW1 _).grown hg1 (by simp;omega) (fun k hk=>by simp at hk;omega)
 clear hcv hown1 hu1 hg1 hb0 hW1
 obtain ⟨M,hM⟩:∃ M,padN s=M+1:=⟨padN s - 1,by have:=qst s;omega⟩
 have hM2:M+1=136 - s.length % 136:=by rw [← hM];rfl
 have HM:=qh hM
 have HM2:=qh hM2
 have HM3:M≤135:=by omega
 have hown3:OwnM w1 w.heap.size 5 g1 (s.length+1) c1 ((s ++ 1 :: List.replicate 0 0).map cellB):=by simpa [cellB] using hown2
 clear hM hM2 hown2
 go_loopw [3,14,15,16,17,18,19,20] (fun v _ _ _ _ _ _ _ wr=>∃ k n g c:Nat,k≤M∧n=s.length+1+k∧v=.slice (some ⟨g,0,none⟩) n c∧OwnM wr w.heap.size 5 g n c ((s ++ 1 :: List.replicate k 0).map cellB)∧Below w.heap.size w wr) (fun v _ _ _ _ _ _ _ _=>match v with | .slice _ n _=>(136 - n % 136) % 136 | _=>0)
 case atStart=>exact ⟨0,s.length+1,g1,c1,by omega,rfl,rfl,hown3,hb1⟩
 case round =>
  clear hown3 hb1
  obtain ⟨k,n,g,c,hk,hn,rfl,hown,hb⟩:=hrel
  have hnk:n≤s.length+1+k:=by omega
  have HN:=qh hn
  clear hn
  have hbs:=hb.size
  have hog:=hown.base
  by_cases hlt:(0:Int) < (n:Int) % 136
  ·have hown1:=hown.keep ((Below.refl _ _).alloc qn (.cells #[.int .u8 0] 5))
   have hu1:(wr.alloc (.cells #[.int .u8 0] 5)).cell? ⟨wr.heap.size,0,none⟩=some (.int .u8 0):=by simp
   have HO:=qh hown
   clear hown
   go_wp2_with (at_builtin;refine qev qfi rfl rfl hown1 rfl (.int .u8 0) rfl hu1 rfl ?_ ?_ ?_ ?_;(simp only [maxLen];omega);omega;(simp;omega);intro g2 c2 w2 hown2 hg2)
   go_roundw
   case rel =>
    refine ⟨k+1,n+1,g2,c2,by have:=HN.out;have:=HM2.out;omega,by have:=HN.out;omega,rfl,?_,(hb.alloc hbs _).grown hg2 (by simp;omega) (fun k hk=>by simp at hk;omega)⟩
    rw [List.replicate_succ']
    have:List.map cellB (s ++ 1 :: (List.replicate k 0 ++ [0]))=List.map cellB (s ++ 1 :: List.replicate k 0) ++ [.int .u8 0]:=by simp [cellB]
    rw [this];exact hown2
   case measure=>simp;omega
  ·obtain rfl:k=M:=by have:=HN.out;have:=HM2.out;omega
   clear hnk
   have hn2:=HN.out
   have hl:(s ++ 1 :: List.replicate k 0).length=n:=by simp;omega
   obtain ⟨p,hp⟩:∃ p,s ++ 1 :: List.replicate k (0:UInt8)=p:=⟨_,rfl⟩
   rw [hp] at hown hl
   have hN1:n=136 * (s.length / 136+1):=by have:=HM2.out;omega
   have hpk:p.set (n - 1) (p.getD (n - 1) 0+128)=padK s:=by
    have ht:=quh (k+1) (by omega)
    simp only [Nat.add_sub_cancel] at ht
    unfold padK
    rw [HM.out,ht,← hp,show n - 1=s.length+k by omega,List.set_append_right _ _ (by omega),Nat.add_sub_cancel_left]
    congr 2
    rw [List.getD_eq_getElem?_getD,List.getD_eq_getElem?_getD,List.getElem?_append_right (by omega),Nat.add_sub_cancel_left]
   have hc:p[n - 1]? = some (p.getD (n - 1) 0):=by rw [List.getD_eq_getElem?_getD,List.getElem?_eq_getElem (by omega)];rfl
   obtain ⟨x,hx⟩:∃ x,p.getD (n - 1) 0=x:=⟨_,rfl⟩
   rw [hx] at hc hpk
   have c0:=hown.at_ (j:=n - 1) (u:=cellB x) (by rw [List.getElem?_map,hc];rfl)
   have f0:=hown.free (j:=n - 1) (by omega)
   unfold cellB at c0
   have n1:(1:Int)≤n:=by omega
   have n2:(n:Int)≤1000136:=by omega
   have nn:((n:Int) - 1).toNat=n - 1:=by omega
   have hsum:IntKind.u8.wrap ((x.toNat:Int)+128)=((x+128).toNat:Int):=by
    simp [IntKind.wrap,IntKind.signed,IntKind.bits]
   have hsum2:((x.toNat:Int)+128) % 256=((x+128).toNat:Int):=by simp
   have hoA:=hown.set (n - 1) (.int .u8 (((x.toNat:Int)+128) % 256))
   rw [show (List.map cellB p).set (n - 1) (.int .u8 (((x.toNat:Int)+128) % 256))=(padK s).map cellB by rw [hsum2,← hpk,List.map_set];rfl] at hoA
   have hbA:=hb.setCell (p:=⟨g,n - 1,none⟩) hog.1 (.int .u8 (((x.toNat:Int)+128) % 256))
   have hr0:=WRow.new (wr.setCell ⟨g,n - 1,none⟩ (.int .u8 (((x.toNat:Int)+128) % 256))) (List.replicate 25 0) 154
   have hoB:=hoA.keep ((Below.refl _ _).alloc qn (.cells (wsC (List.replicate 25 0)) 154))
   have hbB:=hbA.alloc hbA.size (.cells (wsC (List.replicate 25 0)) 154)
   have hr1:=hr0.row (List.replicate 25 0)
   rw [World.size_setCell] at hr0 hr1
   have hoC:OwnM _ w.heap.size 5 g n c ((padK s).map cellB):=hoB.of_block (qbk _ (b:=wr.heap.size) (by omega) (wsC (List.replicate 25 0)))
   have hbC:=qak hbB (b:=wr.heap.size) hbs (wsC (List.replicate 25 0))
   rw [zs25] at hr0
   unfold WRow at hr0
   rw [zs25] at hr0
   rw [show wr.setCell ⟨g,n - 1,none⟩ (.int .u8 (((x.toNat:Int)+128) % 256))=wr.setCell ⟨g,n - 1,none⟩ (.int .u8 (((x.toNat:Int)+128) % 256)) from rfl] at hr1
   have i0:=qdk (List.replicate 25 0) rfl
   have o0:=qcz (List.replicate 25 0)
   have s0:=size25
   have HO:=qh hoC
   have HB:=qh hbC
   have HR:=qh hr1
   rw [zs25] at HO HB HR
   have HP:=qh hpk
   have HN1:=qh hN1
   have HL:=qh hl
   clear hown hpk hN1 hl hp hc hx hn2 hoA hbA hoB hbB hr1 hoC hbC hsum hsum2
   go_wp2_with (first | (refine qgm rfl rfl ?_) | (refine wpList_store_row rfl _ _ _ rfl wr.heap.size (wsC (List.replicate 25 0)) rfl rfl _ _ hr0 i0 s0 o0 ?_))
   rw [zs25']
   clear hr0 i0 o0 s0 c0 f0 nn n1 n2 hb hlt hk HM3 HN HM HM2
   obtain ⟨G,hG⟩:∃ G,wr.heap.size=G:=⟨_,rfl⟩
   have hGl:w.heap.size≤G:=by rw [← hG];exact hbs
   have hgG:g≠G:=by rw [← hG];omega
   rw [hG] at HO HB HR ⊢
   clear hG hbs hog
   obtain ⟨N,hN⟩:∃ N,s.length / 136+1=N:=⟨_,rfl⟩
   have HN1':=HN1.out
   rw [hN] at HN1'
   obtain ⟨q,hq⟩:∃ q,padK s=q:=⟨_,rfl⟩
   rw [hq] at HO
   have hql:q.length=n:=by rw [← hq,qo0,hN,HN1']
   have HQ:=qh hq
   have HNN:=qh hN
   have HQL:=qh hql
   have hnl:n≤136 * N:=by omega
   have HN2:=qh HN1'
   clear hq hN hql HP HN1 HL HN1'
   go_loopw [5] (fun f wr=>∃ j:Nat,j≤N∧f=.int .i64 (136 * j:Nat)∧WRow wr G (absK q j) 154 ∧ OwnM wr w.heap.size 5 g n c (q.map cellB)∧Below w.heap.size w wr) (fun f _=>136 * N - (intOf f).toNat)
   case atStart=>exact ⟨0,by omega,rfl,HR.out,HO.out,HB.out⟩
   case round =>
    clear HR HO HB
    obtain ⟨j,hj,rfl,ra,hown,hb⟩:=hrel
    have hal:=qox q j
    obtain ⟨a,ha⟩:∃ a,absK q j=a:=⟨_,rfl⟩
    rw [ha] at ra hal
    have HA:=qh ha
    have HAL:=qh hal
    clear ha
    have hog:=hown.base
    by_cases hlt:j < N
    ·as_aux_lemma =>
     have hlt':((136 * j:Nat):Int) < (n:Int):=by have:=HN2.out;omega
     go_wp2_with fail
     obtain ⟨wo,rfl⟩:∃ wo:World,wo=wr:=⟨_,rfl⟩
     have hz:tab a.length (xorK a (q.drop (136 * j))) (fun i=>a.getD i 0) 0=a:=by rw [qhf];exact qgp a 0
     rw [hal] at hz
     have HZ:=qh hz
     obtain ⟨r,hr⟩:∃ r,q.drop (136 * j)=r:=⟨_,rfl⟩
     rw [hr] at HZ
     have HR:=qh hr
     obtain ⟨f,hf⟩:∃ f:Nat,136 * j=f:=⟨_,rfl⟩
     rw [hf] at hlt' ⊢
     have hfn:f+136≤n:=by have:=HN2.out;omega
     have HF:=qh hf
     have hn6:n≤1000136:=by have:=HNN.out;omega
     clear hz hal hr hf hlt hnl
     go_loopw [6] (fun x wr=>∃ i:Nat,i≤17∧x=.int .i64 i∧WRow wr G (tab 25 (xorK a r) (fun i=>a.getD i 0) i) 154 ∧ OwnM wr w.heap.size 5 g n c (q.map cellB)∧Below w.heap.size w wr) (fun x _=>17 - (intOf x).toNat)
     case atStart=>exact ⟨0,by omega,rfl,by rw [HZ.out];exact ra,hown,hb⟩
     case round =>
      clear ra hb hown
      obtain ⟨i,hi,rfl,ra,hown,hb⟩:=hrel
      by_cases hlt2:i < 17
      ·as_aux_lemma =>
       have hlt2':(i:Int) < 17:=by omega
       go_wp2_with fail
       refine qcl 19 (by kernel_rfl) (by kernel_rfl) ?_
       intro w2 hw2
       replace ra:WRow w2 G (tab 25 (xorK a r) (fun i=>a.getD i 0) i) 154:=by rw [hw2];exact ra.drew
       replace hown:OwnM w2 w.heap.size 5 g n c (q.map cellB):=by rw [hw2];exact hown.of_block rfl
       replace hb:Below w.heap.size w w2:=by rw [hw2];exact hb.drew
       clear hw2
       have c0:=ra.at_ (i:=i) (by rw [qby];omega)
       have f0:=ra.free i
       rw [List.getD_eq_getElem?_getD,qd7 (by omega),if_neg (by omega)] at c0
       simp only [Option.getD_some] at c0
       obtain ⟨u,hu⟩:∃ u,a.getD i 0=u:=⟨_,rfl⟩
       rw [hu] at c0
       obtain ⟨m,hm⟩:∃ m:Nat,f+8 * i=m:=⟨_,rfl⟩
       have hmn:m+8≤n:=by omega
       have hll:((q.drop m).take 8).length=8:=by rw [List.length_take,List.length_drop,HQL.out];omega
       have hlies:Lies Any w2 (some ⟨g,m,none⟩) (((q.drop m).take 8).map cellB):=fun _=>⟨g,m,rfl,trivial,fun k v hk=>by
        rw [List.getElem?_map,List.getElem?_take] at hk
        split at hk
        ·rw [List.getElem?_drop,← List.getElem?_map] at hk;exact hown.at_ hk
        ·cases hk⟩
       have hcv:=fun c=>qav (P:=Tryz.prog) (c:=c) (src:=97) (dst:=9) Tryz.underlying97 Tryz.underlying5 Tryz.underlying9 hlies
       have hwd:=fun w=>word_any _ hll w
       have hxk:xorK a r i=u ^^^ wpart ((q.drop m).take 8) 8:=by
        unfold xorK
        rw [hu,qpu _ _ _ qn,← HR.out,List.drop_drop,HF.out,hm]
       rw [hll] at hcv
       obtain ⟨l,hl⟩:∃ l,(q.drop m).take 8=l:=⟨_,rfl⟩
       rw [hl] at hcv hwd hxk
       obtain ⟨v,hv⟩:∃ v,wpart l 8=v:=⟨_,rfl⟩
       rw [hv] at hwd hxk
       have b1:(i:Int) < 25:=by omega
       have p1:IntKind.i64.wrap (8 * (i:Int))=8 * (i:Int):=IntWalk.i64_in _ (by omega)
       have p2:IntKind.i64.wrap ((f:Int)+8 * (i:Int))=(m:Int):=by rw [IntWalk.i64_in _ (by omega)];omega
       have p3:IntKind.i64.wrap ((m:Int)+8)=(m:Int)+8:=IntWalk.i64_in _ (by omega)
       have p4:((m:Int)+8).toNat=m+8:=by omega
       have p5:(m:Int)≤(m:Int)+8:=by omega
       have p6:(m:Int)+8≤(c:Int):=by have:=hog.2.2.1;omega
       have p7:0≤(m:Int)+8:=by omega
       have p8:m+8 - m=8:=by omega
       have HWD:=qh hwd
       have HS:=qh (And.intro ra (And.intro hown hb))
       have HX:=qh hxk
       clear ra hown hb hwd hlies hll hu hm hl hv hxk
       intro R hR
       simp only [List.take_succ_cons,List.take_zero]
       repeat (first | go_big_quiet_skip | (go_big_quiet_want;go_big_quiet_op;first | go_big_quiet_on | ((with_reducible refine ⟨_,HWD.out _,?_⟩);go_big_quiet_on)))
       refine wpQuiet_nil (hR _ ?_)
       clear hR R
       simp only [List.drop_succ_cons,List.drop_zero]
       go_wp2_with fail
       go_roundw
       case rel =>
        refine ⟨i+1,by omega,by go_num,?_,HS.out.2.1.of_block (qac hgG _),HS.out.2.2.setCell (p:=⟨_,_,_⟩) hGl _⟩
        have:=HS.out.1.set i (u ^^^ v)
        rw [← HX.out,qc8] at this
        rw [← HX.out]
        exact this
       case measure=>simp [intOf];omega
      ·as_aux_lemma =>
       obtain rfl:i=17:=by omega
       have htk:WRow wr G (takeK a r) 154:=ra
       have htl:=qid a r
       have j0:=qdk _ htl
       have hbs:=hb.size
       go_wp2_with (refine wpList_load_row rfl _ _ rfl G rfl _ _ _ _ htk Tryz.underlying154 rfl j0 ?_)
       refine (qp9 _ htl _).mono ?_
       rintro e w3 ⟨rfl,hb3⟩
       have ra3:=htk.keep hb3 htk.lt
       have ho3:=hown.keep hb3
       have hb3':Below w.heap.size w w3:=hb.trans (hb3.mono hb.size)
       have j1:=qdk _ (qdv _ htl 24)
       have s1:(wsC (takeK a r)).size=(wsC (mixK (takeK a r) 24)).size:=by rw [qbj,qbj,htl,qdv _ htl]
       have o3:=qcz (mixK (takeK a r) 24)
       have HF2:(f:Int)+136=((136 * (j+1):Nat):Int):=by have:=HF.out;omega
       have HF3:=qh HF2
       clear HF2
       go_wp2_with (refine wpList_store_row rfl _ _ _ rfl G _ rfl rfl _ _ ra3 j1 s1 o3 ?_)
       go_roundw
       case rel =>
        refine ⟨j+1,by have:=HF.out;have:=HN2.out;omega,by rw [HF3.out],?_,ho3.of_block (qbk _ hgG _),qak hb3' hGl _⟩
        rw [absK,HA.out,HR.out];exact ra3.row _
       case measure=>have h1:=HN2.out;have h2:=HF.out;simp only [intOf];omega
    ·as_aux_lemma =>
     obtain rfl:j=N:=by omega
     have hlt':¬ ((136 * j:Nat):Int) < (n:Int):=by omega
     have hbs:=hb.size
     have hGw:=ra.lt
     have hown0:(wr.alloc (.cells #[] 5)).ownsRow wr.heap.size 5 1 (.slice (some ⟨wr.heap.size,0,none⟩) 0 0) 0 []:=World.ownsRow_lit wr _ 0 qn (by simp [maxLen]) rfl
     have hra0:=ra.alloc (.cells #[] 5)
     have hb0:=hb.alloc hbs (.cells #[] 5)
     have H0:=qh (And.intro hown0 (And.intro hra0 hb0))
     clear hown0 hra0 hb0 ra hb hown
     obtain ⟨wo,rfl⟩:∃ wo:World,wo=wr:=⟨_,rfl⟩
     go_wp2_with fail
     go_loopw [7,8] (fun v x wr=>∃ k:Nat,k≤32∧x=.int .i64 k∧wr.ownsRow wo.heap.size 5 1 v k (((List.range k).map (outK a)).map cellB)∧WRow wr G a 154 ∧ Below w.heap.size w wr∧wo.heap.size≤wr.heap.size) (fun _ x _=>32 - (intOf x).toNat)
     case atStart=>exact ⟨0,by omega,rfl,H0.out.1,H0.out.2.1,H0.out.2.2,by simp⟩
     case round =>
      obtain ⟨k,hk,rfl,hown,ra,hb,hsz⟩:=hrel
      by_cases hlt2:k < 32
      ·as_aux_lemma =>
       have hlt2':(k:Int) < 32:=by omega
       have c0:=ra.at_ (i:=k / 8) (by omega)
       obtain ⟨v,hv⟩:∃ v,a.getD (k / 8) 0=v:=⟨_,rfl⟩
       rw [hv] at c0
       have hk8:(k:Int) / 8=((k / 8:Nat):Int):=by omega
       have hm8:8 * ((k:Int) % 8)=((8 * (k % 8):Nat):Int):=by omega
       obtain ⟨i,hi⟩:∃ i,k / 8=i:=⟨_,rfl⟩
       obtain ⟨m,hm⟩:∃ m,k % 8=m:=⟨_,rfl⟩
       have hkm:k=8 * i+m:=by omega
       have HC:=qh (qls (a:=a) (i:=i) (k:=m) (v:=v) (by omega) (by rw [← hi];exact hv))
       rw [hi] at hk8 c0
       rw [hm] at hm8
       obtain ⟨t,ht⟩:∃ t,8 * m=t:=⟨_,rfl⟩
       rw [ht] at hm8 HC
       have hi2:(i:Int) < 25:=by omega
       have hv0:=wv_lo (v >>> t)
       have ht2:(t:Int) < 64:=by omega
       have hVb:Below wr.heap.size wr (wr.alloc (.cells #[.int .u8 (wv (v >>> t) % 256)] 5)):=(Below.refl _ _).alloc qn _
       have hownV:=qax hown hVb
       have hnb:=qh (ne_own hown hGw)
       have hal1:=qh (ra.alloc (.cells #[.int .u8 (wv (v >>> t) % 256)] 5))
       have hszV:wo.heap.size≤(wr.alloc (.cells #[.int .u8 (wv (v >>> t) % 256)] 5)).heap.size:=by simp;omega
       have HVB:=qh hVb
       have HBB:=qh hb
       have HKM:=qh hkm
       have hGr:=qh ra.lt
       clear hVb hv ra hown hb hi hm hkm ht
       go_wp2_with (at_builtin;go_must (refine qaw qfi rfl rfl wo.heap.size hownV rfl (m:=1) [.int .u8 (wv (v >>> t) % 256)] rfl rfl ?_ ?_ ?_ ?_ ?_ ?_);exact (qbi wr #[.int .u8 (wv (v >>> t) % 256)] _);(intro u hu;rw [List.mem_singleton] at hu;subst hu;rfl);(simp only [maxLen];omega);omega;omega;intro v1 w4 hown1 hg1 hat1)
       go_roundw
       case rel =>
        refine ⟨k+1,by omega,by go_num,?_,(hg1.block G (by have:=hGr.out;simp;omega) hnb.out).trans hal1.out,qay (HBB.out.alloc HBB.out.size _) hownV hg1 (by have:=HBB.out.size;simp;omega) (by omega),by have:=hg1.size;omega⟩
        rw [HC.out,← HKM.out] at hown1
        rw [qk1]
        exact hown1
       case measure=>simp [intOf];omega
      ·as_aux_lemma =>
       obtain rfl:k=32:=by omega
       obtain ⟨A1,c1,rfl⟩:=qau hown
       have hl:=qce (S:=Any) hown (fun _ _ _=>trivial)
       have hcv:=qav (P:=Tryz.prog) (c:=c1) (src:=97) (dst:=9) (l:=(List.range 32).map (outK a)) Tryz.underlying97 Tryz.underlying5 Tryz.underlying9 hl
       rw [show ((List.range 32).map (outK a)).length=32 by simp] at hcv
       have hsk:(List.range 32).map (outK a)=sumK s:=by
        unfold sumK;rw [HQ.out,HNN.out,HA.out]
       rw [hsk] at hcv
       have HSK:=qh hsk
       clear hsk hl hown ra
       go_wp2_with fail
       go_ret
       exact ⟨rfl,hb⟩
end Go.Proofs.YteoednifdpdbnaaGreat
