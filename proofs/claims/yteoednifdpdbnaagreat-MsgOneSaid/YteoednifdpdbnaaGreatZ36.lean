/- The walk of sha.Sum. -/
import Derived.Test.YteoednifdpdbnaaGreatZ35
import Derived.Test.YteoednifdpdbnaaGreatZ23
import Derived.Outline
import Derived.Deep.DeepMust
import Derived.Deep.AppendLies
namespace Go.Proofs.YteoednifdpdbnaaGreat
set_option linter.unusedVariables false
set_option linter.unusedSimpArgs false
open Go.RowKit
set_option maxHeartbeats 4000000
set_option maxRecDepth 100000
open Go.RowKit Go.Shelf
theorem Mem.cons {w0 w:World} {g:Nat} {cs:Array Value} {t:TypeId} (hb:Below w0.heap.size w0 w) (h:w.heap[g]? = some (.cells cs t (0,0))) (hg:w0.heap.size≤g):Mem w0 w [(g,cs,t)]:=⟨hb,fun p hp=>by rw [List.mem_singleton] at hp;subst hp;exact ⟨h,hg⟩,by simp⟩
theorem qqb {w:World} {base g n c size:Nat} {e:TypeId} {xs:List Value} (h:w.ownsRow base e size (.slice (some ⟨g,0,none⟩) n c) n xs) (hn:0 < n):∃ cur,w.heap[g]? = some (.cells cur e (0,0))∧base≤g∧cur.toList.take (n * size)=xs:=by
 rcases h.2 with ⟨_,h0⟩ | ⟨g',cap,cur,hv,hb,hg,_,_,_,ht⟩
 ·omega
 ·cases hv
  exact ⟨cur,hg,hb,ht⟩
theorem qpm {cur:Array Value} {m j:Nat} {xs:List Value} {u:Value} (h:cur.toList.take m=xs) (hj:xs[j]? = some u):cur[j]? = some u:=by
 rw [← h,List.getElem?_take] at hj
 split at hj
 ·simpa using hj
 ·cases hj
theorem tailN (s k:Nat) (h:(s+1+k) % 64=56) (hk:k≤zerosS s):k=zerosS s:=by
 unfold zerosS at *
 omega
theorem tailL (s:Nat):(s+1+zerosS s) % 64=56∧zerosS s < 64:=by
 unfold zerosS
 omega
def outI (h:H8):Nat→Bytes
 | 0=>[]
 | i+1=>outI h i ++ highS (h.row.getD i 0).toNat 4
theorem outI_all (h:H8):outI h 8=outS h:=by
 simp [outI,outS,H8.row]
theorem qoc (h:H8):∀ i,(outI h i).length=4 * i
 | 0=>rfl
 | i+1=>by rw [outI,List.length_append,qdi,qoc h i];omega
theorem index8 (x:H8) (i:Nat) (hi:i < 8) (w:World):(Instr.index 326 (.agg (wwC x.row)) (.int .i64 (i:Int))).run Tryz.prog w=.ok (.int .u32 (ww (x.row.getD i 0))) w :=
 qc5 (n:=8) Tryz.underlying326 Tryz.underlying321 (by kernel_rfl) _ i hi _ (qhs (by rw [H8.row_len];exact hi)) w
theorem qny (s:Bytes) (hs:s.length≤1000000) (w:World):Calls Tryz.prog 248 #[.string (bs s)] w fun e w'=>e=.returned (.string (bs (sumS s)))∧Below w.heap.size w w':=by
 obtain ⟨hz1,hz2⟩:=tailL s.length
 obtain ⟨Z,hZ⟩:∃ Z,zerosS s.length=Z:=⟨_,rfl⟩
 rw [hZ] at hz1 hz2
 have htn:=tailN s.length
 rw [hZ] at htn
 have HTN:=qh htn
 have hpl:=padS_len s
 have hps:padS s=s ++ ((128 :: List.replicate Z 0) ++ highS (8 * s.length) 8):=by unfold padS;rw [hZ]
 unfold sumS
 obtain ⟨N,hN⟩:∃ N,(s.length+72) / 64=N:=⟨_,rfl⟩
 rw [hN] at hpl ⊢
 obtain ⟨R,hR⟩:∃ R,blocksS firstS (padS s) N=R:=⟨_,rfl⟩
 rw [hR]
 have HPL:=qh hpl
 have HPS:=qh hps
 have HR:=qh hR
 have HZ:=qh hz1
 clear hpl hps hR hZ hN hz1 htn
 have hsI:(s.length:Int)≤1000000:=by omega
 go_enter Tryz.func248,Tryz.ntmps248
 have hV0:(w.alloc (.cells #[.int .u8 128] 5)).ownsRow w.heap.size 5 1 (.slice none 0 0) 0 []:=World.ownsRow_nil _ _ _ _
 have hsz0:w.heap.size≤(w.alloc (.cells #[.int .u8 128] 5)).heap.size:=by simp
 have hb0:Below w.heap.size w (w.alloc (.cells #[.int .u8 128] 5)):=(Below.refl _ _).alloc qn _
 go_wp2_with (at_builtin;go_must (refine qa0 qmt rfl rfl w.heap.size hV0 rfl (m:=1) [.int .u8 128] rfl rfl ?_ ?_ ?_ ?_ ?_ ?_);exact (qca _ #[.int .u8 128] _);(intro u hu;rw [List.mem_singleton] at hu;subst hu;rfl);(first | decide | (simp only [maxLen];omega));omega;(exact hsz0);intro v1 w4 hown1 hg1 hat1)
 have hb1:=qa7 hb0 hV0 hg1 (by simp) qn
 rw [List.nil_append,show (Value.int .u8 128)=cellB 128 from rfl] at hown1
 have HO:=qh (And.intro hown1 hb1)
 obtain ⟨g1,c1,hv1,_,_⟩:=hown1.form (by decide)
 rw [Nat.zero_add] at hv1 hown1
 subst hv1
 have HO:=qh (And.intro hown1 hb1)
 clear hown1 hb1 hg1 hat1 hV0 hb0 hsz0
 go_loopw [3] (fun v wr=>∃ k n g c:Nat,k≤Z∧n=1+k∧v=.slice (some ⟨g,0,none⟩) n c∧wr.ownsRow w.heap.size 5 1 v n ((128 :: List.replicate k 0).map cellB)∧Below w.heap.size w wr) (fun v _=>match v with | .slice _ n _=>100 - n | _=>0)
 case atStart=>exact ⟨0,1,g1,c1,by omega,rfl,rfl,HO.out.1,HO.out.2⟩
 case round =>
  clear HO
  obtain ⟨k,n,g,c,hk,hn,rfl,hown,hb⟩:=hrel
  have hnI:(n:Int)≤64:=by omega
  have HN:=qh hn
  clear hn
  by_cases hr:((s.length:Int)+(n:Int)) % 64=56
  ·obtain rfl:k=Z:=HTN.out k (by have:=HN.out;omega) hk
   obtain ⟨cur,hc1,hc2,hc3⟩:=qqb hown (by have:=HN.out;omega)
   have hM:Mem w wr [(g,cur,5)]:=(Mem.cons hb hc1 hc2)
   obtain ⟨tl,htl⟩:∃ tl,(128 :: List.replicate k 0:Bytes)=tl:=⟨_,rfl⟩
   have hln:tl.length=n:=by have:=HN.out;rw [← htl,this];simp;omega
   rw [htl] at hc3
   have HPS2:=HPS.out
   rw [htl] at HPS2
   have hcv:∀ w',Mem w w' [(g,cur,5)]→(convert 97 9 (.slice (some ⟨g,0,none⟩) n c)).run Tryz.prog w'=.ok (.string (bs tl)) w':=fun w' hM=>by
    have hl:Lies Any w' (some ⟨g,0,none⟩) (tl.map cellB):=fun _=>⟨g,0,rfl,trivial,fun j u hj=>rc (hM.at_ at0) (0+j) (by rw [Nat.zero_add];exact qpm hc3 hj)⟩
    have:=qa3 (P:=Tryz.prog) (c:=c) (src:=97) (dst:=9) (l:=tl) Tryz.underlying97 Tryz.underlying5 Tryz.underlying9 hl
    rwa [hln] at this
   have c_h:=high_S (8 * s.length) 8 (by omega) (by decide)
   have e8:((8 * s.length:Nat):Int)=8 * (s.length:Int):=by omega
   rw [e8] at c_h
   obtain ⟨hi8,hh8⟩:∃ t,highS (8 * s.length) 8=t:=⟨_,rfl⟩
   simp only [hh8] at c_h
   rw [hh8] at HPS2
   have hlen8:hi8.length=8:=by rw [← hh8];exact qdi _ _
   have HPS3:=qh HPS2
   have hw8:IntKind.i64.wrap (8 * (s.length:Int))=8 * (s.length:Int):=IntWalk.i64_in _ (by omega)
   have hw9:IntKind.u64.wrap (8 * (s.length:Int))=8 * (s.length:Int):=IntWalk.u64_in _ (by omega)
   have hfit1:((tl ++ hi8).length:Int)≤1000:=by rw [List.length_append,hln,hlen8];omega
   clear hown hb hc1 hc2 hc3 hh8 HPS2 HPS e8
   go_wp2_with fail
   refine qau 10 hM qbc [.string (bs s),.slice (some ⟨g,0,none⟩) n c,.string (bs tl),.string (bs s),.int .i64 (s.length:Int),.int .i64 (8 * (s.length:Int)),.int .u64 (8 * (s.length:Int)),.string (bs hi8),.string (bs (tl ++ hi8)),.string (bs (s ++ (tl ++ hi8)))] [] (b:=?b1) ?hb rfl (by kernel_rfl) ?hgo ?hfin
   case hb=>simp only [putAll,Act.put,List.setIfInBounds_toArray,List.set_cons_zero,List.set_cons_succ];rfl
   case hgo =>
    refine GoAll.v (.string (bs s)) (qaq fun w=>by go_simp) ?_
    refine GoAll.v (.slice (some ⟨g,0,none⟩) n c) (qaq fun w=>by go_simp) ?_
    refine GoAll.v (.string (bs tl)) (qhx fun w hw=>by have h1:=hcv w hw;go_simp) ?_
    refine GoAll.v (.string (bs s)) (qaq fun w=>by go_simp) ?_
    refine GoAll.v (.int .i64 (s.length:Int)) (qaq fun w=>by go_simp) ?_
    refine GoAll.v (.int .i64 (8 * (s.length:Int))) (qaq fun w=>by go_simp) ?_
    refine GoAll.v (.int .u64 (8 * (s.length:Int))) (qaq fun w=>by go_simp) ?_
    refine GoAll.v (.string (bs hi8)) (qao (al:=[.int .u64 (8 * (s.length:Int)),.int .i64 8]) c_h enHighS) ?_
    refine GoAll.v (.string (bs (tl ++ hi8))) (qaq fun w=>by go_simp;omega) ?_
    refine GoAll.v (.string (bs (s ++ (tl ++ hi8)))) (qaq fun w=>by go_simp;omega) ?_
    exact GoAll.nil
   case hfin =>
    clear hM;intro w' G hM
    simp only [putLays,List.drop_succ_cons,List.drop_zero,List.map_nil,List.map_cons,List.nil_append,List.cons_append] at hM ⊢
    have c_f:=qrm
    go_upto_region 9 with (first
     | (refine qak 31 rfl hM rfl rfl enFirst (al:=[]) (c_f _) rfl ?_;clear hM;intro w' hM)
     | (refine qaj 4 rfl hM rfl (runW8 rfl) ?_;clear hM;intro w' g4 hM)
     | (refine qae hM rfl rfl ty8 rfl rfl (by exact hau) (by rw [qa8];rfl) (by rw [qa8];rfl) (qcu firstS.row) ?_;clear hM;intro w' hM))
    obtain ⟨p,hp⟩:∃ p,s ++ (tl ++ hi8)=p:=⟨_,rfl⟩
    have hpp:padS s=p:=HPS3.out.trans hp
    have hpl:=HPL.out
    have hR:=HR.out
    rw [hpp] at hpl hR
    rw [hp]
    have HR2:=qh hR
    have HPL2:=qh hpl
    clear hp hpp hpl hR HR HPL c_f c_h hw8 hw9 hfit1 hr
    go_loopw [0,36] (fun sv _ wr=>∃ (j:Nat) (h:H8) (q:Bytes),q.length=64 * j∧sv=.string (bs q)∧Hid (blocksS h q j=R)∧Mem w wr [(g4,wwC h.row,326),(g,cur,5)]) (fun sv _ _=>match sv with | .string b=>b.size | _=>0)
    case atStart=>exact ⟨N,firstS,p,HPL2.out,rfl,HR2,hM⟩
    case round =>
     clear hM HR2 HPL2
     obtain ⟨j,h,q,hql,rfl,HB,hM⟩:=hrel
     cases j with
     | zero =>
      obtain rfl:q = []:=List.eq_nil_of_length_eq_zero (by omega)
      have hRR:h=R:=HB.out
      subst hRR
      clear hql HB
      go_upto_region 12 with (refine qai hM rfl rfl ty8 rfl (by exact hat) (by rw [qa8];rfl) ?_)
      have hb:=hM.below
      clear hM
      obtain ⟨wo,rfl⟩:∃ wo:World,wo=wr:=⟨_,rfl⟩
      go_loopw [5,7,44] (fun v _ x wr=>∃ i:Nat,i≤8∧x=.int .i64 i∧v=.string (bs (outI h i))∧Below w.heap.size w wr) (fun _ _ x _=>8 - (intOf x).toNat)
      case atStart=>exact ⟨0,by omega,rfl,rfl,hb⟩
      case round =>
       clear hb
       obtain ⟨i,hi,rfl,rfl,hb⟩:=hrel
       by_cases hlt:i < 8
       ·have hlt':(i:Int) < 8:=by omega
        have hix:=index8 h i hlt
        have hoi:outI h (i+1)=outI h i ++ highS (h.row.getD i 0).toNat 4:=rfl
        obtain ⟨u,hu⟩:∃ u,h.row.getD i 0=u:=⟨_,rfl⟩
        rw [hu] at hoi
        simp only [hu] at hix
        have c_h:=high_S u.toNat 4 (by have:=qgs u;omega) (by decide)
        have hwu:IntKind.u64.wrap (ww u)=(u.toNat:Int):=IntWalk.u64_in _ (by have:=qgs u;unfold ww;omega)
        obtain ⟨T,hT⟩:∃ T,highS u.toNat 4=T:=⟨_,rfl⟩
        rw [hT] at hoi
        simp only [hT] at c_h
        have hTl:T.length=4:=by rw [← hT];exact qdi _ _
        have hol:=qoc h i
        obtain ⟨O,hO⟩:∃ O,outI h i=O:=⟨_,rfl⟩
        rw [hO] at hoi hol
        rw [hO]
        have hoI:O.length+T.length≤1000:=by omega
        have HOI:=qh hoi
        clear hu hT hoi hO hTl hol
        go_wp2_with (go_at_call 267;refine Calls.mono (c_h _) ?_;rintro e w' ⟨rfl,hbw⟩)
        exact ⟨⟨i+1,by omega,by go_num,by rw [HOI.out],qac hb hb.size hbw⟩,by simp [intOf];omega⟩
       ·obtain rfl:i=8:=by omega
        rw [outI_all]
        have e8:((8:Nat):Int)=8:=rfl
        rw [e8]
        go_wp2_with fail
        go_ret
        exact ⟨rfl,hb⟩
     | succ j =>
      have hne:(q == [])=false:=by rw [beq_eq_false_iff_ne];intro e;rw [e] at hql;simp at hql
      have hq64:64≤q.length:=by omega
      have hB2:blocksS (blockS h (q.take 64)) (q.drop 64) j=R:=HB.out
      have c_B:=qos h (q.take 64) (by rw [List.length_take];omega)
      obtain ⟨H,hH⟩:∃ H,blockS h (q.take 64)=H:=⟨_,rfl⟩
      rw [hH] at hB2
      simp only [hH] at c_B
      have HB2:=qh hB2
      have HQ:=qh hql
      clear hB2 hH HB hql
      go_wp2_with fail
      refine qcz 6 7 hM qbc [.agg (wwC h.row),.string (bs q),.string (bs (q.take 64)),.tuple #[.agg (wwC H.row),.int .i64 0],.tuple #[.agg (wwC H.row),.int .i64 0],.agg (wwC H.row),.int .i64 0] [] (b:=?b11) ?hb rfl (by kernel_rfl) (fun _=>⟨by kernel_rfl,by decide,?hl,fun _ _ _ _ _ h=>h⟩) ?hgo ?hfin
      case hb=>simp only [putAll,Act.put,List.setIfInBounds_toArray,List.set_cons_zero,List.set_cons_succ];rfl
      case hl=>exact qk8 rfl rfl rfl (fun w=>by go_simp)
      case hgo =>
       refine GoAll.v (.agg (wwC h.row)) (qap ty8 at0) ?_
       refine GoAll.v (.string (bs q)) (qaq fun w=>by go_simp) ?_
       refine GoAll.v (.string (bs (q.take 64))) (qaq fun w=>by go_simp;intro h;omega) ?_
       refine GoAll.v (.tuple #[.agg (wwC H.row),.int .i64 0]) (qao (al:=[.agg (wwC h.row),.string (bs (q.take 64))]) c_B enBlockS) ?_
       refine GoAll.v (.tuple #[.agg (wwC H.row),.int .i64 0]) (qaq fun w=>by go_simp) ?_
       refine GoAll.v (.agg (wwC H.row)) (qaq fun w=>by go_simp) ?_
       refine GoAll.v (.int .i64 0) (qaq fun w=>by go_simp) ?_
       exact GoAll.nil
      case hfin =>
       clear hM;intro w' G hM
       simp only [putLays,List.drop_succ_cons,List.drop_zero,List.map_nil,List.map_cons,List.nil_append,List.cons_append] at hM ⊢
       go_upto_region 8 with (refine qae hM rfl rfl ty8 rfl (new:=wwC H.row) rfl (by exact hau) (by rw [qa8];rfl) (by rw [qa8];rfl) (qcu _) ?_;clear hM;intro w' hM)
       go_wp2_with fail
       have hbs:(bs (List.take (q.length - 64) (List.drop 64 q))).size < (bs q).size:=by rw [size_bs,size_bs,List.length_take,List.length_drop];omega
       have htd:List.take (q.length - 64) (List.drop 64 q)=q.drop 64:=List.take_of_length_le (by rw [List.length_drop];omega)
       have HTD:=qh htd
       clear htd
       go_roundw
       case rel=>exact ⟨j,H,q.drop 64,by have:=HQ.out;rw [List.length_drop];omega,by rw [HTD.out],HB2,hM⟩
       case measure=>exact hbs
  ·have hV:=qa5 hown ((Below.refl _ _).alloc qn (.cells #[.int .u8 0] 5))
   have hszV:w.heap.size≤(wr.alloc (.cells #[.int .u8 0] 5)).heap.size:=by have:=hb.size;simp;omega
   have hbV:=hb.alloc hb.size (.cells #[.int .u8 0] 5)
   have HV:=qh (And.intro hV hbV)
   clear hown hb hbV
   go_wp2_with (at_builtin;refine qa0 qmt rfl rfl w.heap.size hV rfl (m:=1) [.int .u8 0] rfl rfl ?_ ?_ ?_ ?_ ?_ ?_;exact (qca _ #[.int .u8 0] _);(intro u hu;rw [List.mem_singleton] at hu;subst hu;rfl);(simp only [maxLen];omega);omega;exact hszV;intro v1 w4 hown1 hg1 hat1)
   have hb2:=qa7 HV.out.2 HV.out.1 hg1 hszV qn
   rw [show [Value.int .u8 0] = [(0:UInt8)].map cellB from rfl,← List.map_append] at hown1
   obtain ⟨g2,c2,rfl,_,_⟩:=hown1.form (by omega)
   have HO2:=qh (And.intro hown1 hb2)
   clear hown1 hb2 hV hszV hg1 hat1
   go_roundw
   case rel =>
    refine ⟨k+1,n+1,g2,c2,?_,by have:=HN.out;omega,rfl,?_,HO2.out.2⟩
    ·have:=HN.out
     have h2:=HZ.out
     by_cases e:k=Z
     ·subst e;omega
     ·omega
    ·rw [List.replicate_succ',← List.cons_append];exact HO2.out.1
   case measure=>simp;omega
end Go.Proofs.YteoednifdpdbnaaGreat
