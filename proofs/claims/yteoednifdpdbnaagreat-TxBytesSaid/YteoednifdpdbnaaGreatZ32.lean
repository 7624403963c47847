/- The walk of the reference's Times. -/
import Derived.Test.YteoednifdpdbnaaGreatZ31
import Derived.Test.YteoednifdpdbnaaGreatZ04
namespace Go.Proofs.YteoednifdpdbnaaGreat
set_option linter.unusedVariables false
set_option linter.unusedSimpArgs false
open Go.RowKit
set_option maxHeartbeats 4000000
set_option maxRecDepth 100000
theorem qqs (l:List Nat) (i:Nat) (A:Option Addr) (c:Nat) (w:World) (hv:DgV Any w l A c):Calls Tryz.prog 204 #[.slice A l.length c,.int .i64 (i:Int)] w fun e w'=>e=.returned (.int .i64 (l.getD i 0:Int))∧w'=w:=by
 have hl:=(DgV.len hv).1
 have hl2:=(DgV.len hv).2
 by_cases h:i < l.length
 ·obtain ⟨d,hd⟩:=qal h
  obtain ⟨g,o,rfl,k0⟩:=hv.at_ hd
  have hlt:(i:Int) < l.length:=by omega
  rw [List.getD_eq_getElem?_getD,hd]
  simp only [Option.getD_some]
  clear hd hv
  go_enter Tryz.func204,Tryz.ntmps204
  go_wp2_with fail
  go_ret
  exact ⟨rfl,rfl⟩
 ·have hlt:¬ (i:Int) < l.length:=by omega
  rw [List.getD_eq_getElem?_getD,List.getElem?_eq_none (by omega)]
  simp only [Option.getD_none]
  clear hv
  go_enter Tryz.func204,Tryz.ntmps204
  go_wp2_with fail
  go_ret
  exact ⟨rfl,rfl⟩
theorem infoI64:(Tryz.prog.info? 3).map (fun i=>(i.zero,i.size,i.bytes))=some (some (.int .i64 0),1,8):=by kernel_rfl
theorem qvl (n:Nat):madeCells #[.int .i64 0] n=(dgC (List.replicate n 0)).toArray:=by
 apply Array.toList_inj.1
 rw [toList_madeCells_one]
 simp [dgC]
theorem mk_ints (n:Nat) (h:n≤1000000) (w:World):(Instr.makeSlice 219 (.int .i64 n) (.int .i64 n)).run Tryz.prog w=.ok (.slice (some ⟨w.heap.size,0,none⟩) n n) (w.alloc (.cells (dgC (List.replicate n 0)).toArray 3)):=by
 obtain ⟨i,hi,hz,hs,hb⟩:=info_parts infoI64
 have:=run_make (P:=Tryz.prog) w 219 3 i (.int .i64 0) Tryz.underlying219 hi hz .i64 .i64 (n:Int) (n:Int) (by omega) (Int.le_refl _) (by rw [hb];omega) (by omega)
 rw [this,hs,Int.toNat_natCast,Nat.mul_one,← qvl]
 rfl
theorem dgA_get {l:List Nat} {i d:Nat} (h:l[i]? = some d):(dgC l).toArray[i]? = some (.int .i64 (d:Int)):=by simp [dgC,h]
theorem qnk (l:List Nat) (i v:Nat):(dgC l).toArray.setIfInBounds i (.int .i64 (v:Int))=(dgC (l.set i v)).toArray:=by simp [dgC,List.map_set]
theorem qkj {l:List Nat} {i:Nat} (h:i < l.length):l[i]? = some (l.getD i 0):=by rw [List.getD_eq_getElem?_getD,List.getElem?_eq_getElem h];rfl
theorem quy (a b:List Nat) (ha:okDg a) (hb:okDg b) (hla:a.length≤10000) (hlb:b.length≤10000) (A1 A2:Option Addr) (c1 c2:Nat) (w:World) (hv1:DgV Any w a A1 c1) (hv2:DgV Any w b A2 c2) :
  Calls Tryz.prog 156 #[.slice A1 a.length c1,.slice A2 b.length c2] w fun e w'=>∃ L A c,e=.returned (.slice A L.length c)∧DgV (From w.heap.size) w' L A c∧okDg L∧valD L=valD a * valD b∧L.length=a.length+b.length+1∧Below w.heap.size w w':=by
 obtain ⟨s1,hs1⟩:∃ s1,a.length+b.length=s1:=⟨_,rfl⟩
 obtain ⟨n,hn⟩:∃ n,s1+1=n:=⟨_,rfl⟩
 have hs1I:(a.length:Int)+b.length=(s1:Int):=by omega
 have hnI:(s1:Int)+1=(n:Int):=by omega
 have hlaI:(a.length:Int)≤10000:=by omega
 have hlbI:(b.length:Int)≤10000:=by omega
 have hs1b:(s1:Int)≤20000:=by omega
 have hnb:(n:Int)≤20001:=by omega
 obtain ⟨W1,hmk,hr0,hbw⟩:∃ W1,(Instr.makeSlice 219 (.int .i64 n) (.int .i64 n)).run Tryz.prog w=.ok (.slice (some ⟨w.heap.size,0,none⟩) n n) W1∧W1.heap[w.heap.size]? = some (.cells (dgC (List.replicate n 0)).toArray 3 (0,0))∧Below w.heap.size w W1 :=
  ⟨_,mk_ints n (by omega) w,heap_alloc_new w _,(Below.refl _ _).alloc qn _⟩
 have HZ:=qh (tm_zero a b)
 have hz:=HZ.out
 rw [hs1,hn] at hz
 have HZ:=qh hz
 have HR0:=qh hr0
 have HBW:=qh hbw
 have HA:=qh ha
 have HB2:=qh hb
 have HV1:=qh hv1
 have HV2:=qh hv2
 have HNE:=qh (show a.length+b.length+1=n by omega)
 clear ha hb hv1 hv2 hz hr0 hbw hs1 hn
 go_enter Tryz.func156,Tryz.ntmps156
 go_wp2_with fail
 go_loopw [19] (fun v wr=>∃ (i:Nat) (L:List Nat),v=.int .i64 (i:Int)∧i≤a.length∧wr.heap[w.heap.size]? = some (.cells (dgC L).toArray 3 (0,0))∧Hid (TmInv a b i L)∧Below w.heap.size w wr) (fun v _=>a.length - (intOf v).toNat)
 case atStart=>exact ⟨0,_,rfl,Nat.zero_le _,HR0.out,HZ,HBW.out⟩
 case round =>
  clear HR0 HBW HZ hmk
  obtain ⟨i,L,rfl,hi,hX,hinv,hB⟩:=hrel
  by_cases hlt:i < a.length
  ·have hltI:(i:Int) < a.length:=by omega
   have HX:=qh hX
   have HB:=qh hB
   clear hX hB
   go_wp2_with fail
   rename World=>wq
   go_loopw [7,8] (fun cr v wr=>∃ (k cy:Nat) (L:List Nat),v=.int .i64 (k:Int)∧cr=.int .i64 (cy:Int)∧wr.heap[w.heap.size]? = some (.cells (dgC L).toArray 3 (0,0))∧Hid (TmIn a b i k cy L)∧Below w.heap.size w wr) (fun _ v _=>b.length+1 - (intOf v).toNat)
   case atStart=>exact ⟨0,0,L,rfl,rfl,HX.out,qh (tm_start hinv.out),HB.out⟩
   case round =>
    clear HX HB hinv
    obtain ⟨k,cy,L,rfl,rfl,hX,hin,hB⟩:=hrel
    have hkl:=hin.out.kl
    have hk4:(k:Int)≤10001:=by omega
    by_cases h1:k < b.length∨0 < cy
    ·obtain ⟨q1,q2,q3,q4,q5⟩:=tm_step HA.out HB2.out hin.out h1 hlt
     have q6:=hin.out.cr
     obtain ⟨x,hx⟩:∃ x,L.getD (i+k) 0=x:=⟨_,rfl⟩
     obtain ⟨p,hp⟩:∃ p,a.getD i 0=p:=⟨_,rfl⟩
     obtain ⟨d,hd⟩:∃ d,b.getD k 0=d:=⟨_,rfl⟩
     have hxg:=qkj q1
     have hpg:=qkj hlt
     rw [hx] at hxg q3 q5
     rw [hp] at hpg q4 q5
     rw [hd] at q4 q5
     obtain ⟨ik,hik⟩:∃ ik,i+k=ik:=⟨_,rfl⟩
     rw [hik] at q1 hxg q5
     have hikI:(i:Int)+k=(ik:Int):=by omega
     have hLn:L.length=n:=by rw [hin.out.len];exact HNE.out
     have hikb:(ik:Int) < n:=by omega
     have cX:wr.cell? ⟨w.heap.size,ik,none⟩=some (.int .i64 (x:Int)):=rc hX ik (dgA_get hxg)
     have fX:=rf hX ik
     obtain ⟨ga,oa,hA1,cA⟩:=(HV1.out.keep hB).at_ hpg
     subst hA1
     have hwl:=(qg hX)
     obtain ⟨pd,hpd⟩:∃ pd,p * d=pd:=⟨_,rfl⟩
     obtain ⟨s2,hs2⟩:∃ s2,x+pd=s2:=⟨_,rfl⟩
     obtain ⟨s3,hs3⟩:∃ s3,s2+cy=s3:=⟨_,rfl⟩
     rw [hpd] at q4
     rw [hpd,hs2,hs3] at q5
     have hpdI:(p:Int) * (d:Int)=(pd:Int):=by rw [← hpd];simp
     have hs2I:(x:Int)+(pd:Int)=(s2:Int):=by omega
     have hs3I:(s2:Int)+(cy:Int)=(s3:Int):=by omega
     have b1:(pd:Int)≤4294836225:=by omega
     have b2:(s2:Int)≤4294901760:=by omega
     have b3:(s3:Int)≤4294967295:=by omega
     obtain ⟨r,hr⟩:∃ r,s3 % 65536=r:=⟨_,rfl⟩
     obtain ⟨t,ht⟩:∃ t,s3 / 65536=t:=⟨_,rfl⟩
     have hrI:(s3:Int) % 65536=(r:Int):=by omega
     have htI:(s3:Int) / 65536=(t:Int):=by omega
     rw [hr,ht] at q5
     have hst:=qaa hX (i:=ik) (.int .i64 (r:Int))
     rw [qnk] at hst
     have HDG:=qh (fun m=>qqs b k A2 c2 (wr.drewN m) (HV2.out.keep (qbr hB m)))
     have hdg:=HDG.out
     rw [hd] at hdg
     have HDG:=qh hdg
     have HX:=qh hX
     have HB:=qh hB
     have HST:=qh hst
     have HQ5:=qh q5
     clear hX hB hst q5 hdg hx hp hd hxg hpg hik hLn hpd hs2 hs3 hr ht hin hkl
     by_cases hkb:(k:Int) < b.length
     ·clear h1
      go_wp2_with fail
      go_quiet ((go_at_call 204;exact Calls.quiet_of_same (HDG.out _)))
      go_wp2_with fail
      go_roundw
      case rel=>exact ⟨k+1,t,L.set ik r,by go_num,rfl,by
       have:=qaa (w:=wr.drewN nq) HX.out (i:=ik) (.int .i64 (r:Int))
       rw [qnk] at this
       exact this,qh HQ5.out,(qbr HB.out _).setCell (p:=⟨w.heap.size,ik,none⟩) qn _⟩
      case measure=>simp [intOf];omega
     ·have h0:0 < cy:=by omega
      have h0I:(0:Int) < (cy:Int):=by omega
      clear h1
      go_wp2_with fail
      go_quiet ((go_at_call 204;exact Calls.quiet_of_same (HDG.out _)))
      go_wp2_with fail
      go_roundw
      case rel=>exact ⟨k+1,t,L.set ik r,by go_num,rfl,by
       have:=qaa (w:=wr.drewN nq) HX.out (i:=ik) (.int .i64 (r:Int))
       rw [qnk] at this
       exact this,qh HQ5.out,(qbr HB.out _).setCell (p:=⟨w.heap.size,ik,none⟩) qn _⟩
      case measure=>simp [intOf];omega
    ·have hkb:¬ (k:Int) < b.length:=by omega
     obtain rfl:cy=0:=by omega
     have HE:=qh (tm_end hin.out (by omega) rfl)
     have HX:=qh hX
     have HB:=qh hB
     clear hX hB hin h1 hkl
     go_wp2_with fail
     go_roundw
     case rel=>exact ⟨i+1,L,by go_num,hlt,HX.out,HE,HB.out⟩
     case measure=>simp [intOf];omega
  ·obtain rfl:i=a.length:=by omega
   have hval:=tm_fin hinv.out
   have hlen:=hinv.out.len
   have hn:n=L.length:=by rw [hlen];exact HNE.out.symm
   have hv:DgV (From w.heap.size) wr L (some ⟨w.heap.size,0,none⟩) n:=by
    rw [hn]
    refine .sl (qhi L) (by simp [dgD]) (fun _=>⟨w.heap.size,0,rfl,Nat.le_refl _,fun j u hj=>by rw [Nat.zero_add];exact rc hX j (by simpa using hj)⟩) qn (by simp only [maxLen];rw [← hn];omega)
   have HV:=qh hv
   have HVAL:=qh hval
   have HLEN:=qh hlen
   have HN:=qh hn
   have HB:=qh hB
   clear hX hB hv hval hlen hn
   go_wp2_with fail
   go_ret
   exact ⟨L,some ⟨w.heap.size,0,none⟩,n,by rw [← HN.out];rfl,HV.out,hinv.out.ok,HVAL.out,HLEN.out,HB.out⟩
/- The walks of the reference's numbers: From, Bytes. -/
theorem qmj (w:World) (d:Nat):DgV Any (w.alloc (.cells #[.int .i64 (d:Int)] 3)) [d] (some ⟨w.heap.size,0,none⟩) 1 :=
 .sl (qhi [d]) rfl (qbi w #[.int .i64 (d:Int)] 3) qn (by simp only [maxLen];omega)
theorem ok256:okDg [256]:=fun d hd=>by rw [List.mem_singleton] at hd;subst hd;decide
theorem okch (c:UInt8):okDg [c.toNat]:=fun d hd=>by
 rw [List.mem_singleton] at hd;subst hd
 have:=c.toNat_lt;omega
theorem qnx (d:Nat):valD [d]=d:=by simp [valD]
theorem qqx (s:Bytes) (c:UInt8):natOf (s ++ [c])=natOf s * 256+c.toNat:=by
 rw [qgx];simp [natOf]
theorem dg_nil (S:Nat→Prop) (w:World) (g:Nat) (hg:S g):DgV S (w.alloc (.cells #[] 3)) [] (some ⟨w.heap.size,0,none⟩) 0 :=
 .sl .nil rfl (fun h=>absurd rfl h) qn (Nat.zero_le _)
theorem qed (L:List Nat) (h:okDg L) (hl:L.length≤10000) (A:Option Addr) (c N:Nat) (w:World) (hv:DgV Any w L A c) (h2:DgV Any w [256] (some ⟨N,0,none⟩) 1) :
  Calls Tryz.prog 156 #[.slice A L.length c,.slice (some ⟨N,0,none⟩) 1 1] w fun e w'=>∃ L1 B d,e=.returned (.slice B L1.length d)∧DgV (From w.heap.size) w' L1 B d∧okDg L1∧valD L1=valD L * 256∧L1.length=L.length+2∧Below w.heap.size w w':=by
 have:=quy L [256] h ok256 hl (by decide) A (some ⟨N,0,none⟩) c 1 w hv h2
 rw [qnx] at this
 exact this
theorem qh9 (L:List Nat) (h:okDg L) (hl:L.length≤10000) (ch:UInt8) (A:Option Addr) (c N:Nat) (w:World) (hv:DgV Any w L A c) (h2:DgV Any w [ch.toNat] (some ⟨N,0,none⟩) 1) :
  Calls Tryz.prog 155 #[.slice A L.length c,.slice (some ⟨N,0,none⟩) 1 1] w fun e w'=>∃ L1 B d,e=.returned (.slice B L1.length d)∧DgV (From w.heap.size) w' L1 B d∧okDg L1∧valD L1=valD L+ch.toNat∧L1.length≤L.length+2∧Below w.heap.size w w':=by
 have h1:([ch.toNat]:List Nat).length=1:=rfl
 have:=qt8 L [ch.toNat] h (okch ch) hl (by rw [h1];decide) A (some ⟨N,0,none⟩) c 1 w hv h2
 rw [qnx,h1] at this
 exact this.mono fun e w' ⟨L1,B,d,q1,q2,q3,q4,q5,q6⟩=>⟨L1,B,d,q1,q2,q3,q4,by omega,q6⟩
structure FrIn (s:Bytes) (i:Nat) (L:List Nat):Prop where
 ok:okDg L
 val:valD L=natOf (s.take i)
 len:L.length≤4 * i
theorem From_any (s:Bytes) (hs:s.length≤1000) (w:World):Calls Tryz.prog 101 #[.string (bs s)] w fun e w'=>e=.returned (.agg #[.int .u64 ((uOf s).a:Int),.int .u64 ((uOf s).b:Int),.int .u64 ((uOf s).c:Int),.int .u64 ((uOf s).d:Int)])∧Below w.heap.size w w':=by
 have hlI:(s.length:Int)≤1000:=by omega
 have hX:=(heap_alloc_old (w.alloc (.cells #[.int .u64 0,.int .u64 0,.int .u64 0,.int .u64 0] 24)) (.cells #[] 3) (by simp)).trans (heap_alloc_new w (.cells #[.int .u64 0,.int .u64 0,.int .u64 0,.int .u64 0] 24))
 have hB:Below w.heap.size w ((w.alloc (.cells #[.int .u64 0,.int .u64 0,.int .u64 0,.int .u64 0] 24)).alloc (.cells #[] 3)):=((Below.refl _ _).alloc qn _).alloc (by simp) _
 have hL:=dg_nil Any (w.alloc (.cells #[.int .u64 0,.int .u64 0,.int .u64 0,.int .u64 0] 24)) 0 trivial
 rw [show (w.alloc (.cells #[.int .u64 0,.int .u64 0,.int .u64 0,.int .u64 0] 24)).heap.size=w.heap.size+1 by simp] at hL
 have HX:=qh hX
 have HB:=qh hB
 have HL:=qh hL
 clear hX hB hL
 go_enter Tryz.func101,Tryz.ntmps101
 go_wp2_with fail
 generalize (w.alloc (.cells #[.int .u64 0,.int .u64 0,.int .u64 0,.int .u64 0] 24)).alloc (.cells #[] 3)=W0 at HX HB HL ⊢
 go_loopw [3,4] (fun u v wr=>∃ (i:Nat) (L:List Nat) (A:Option Addr) (c:Nat),u=.slice A L.length c∧v=.int .i64 (i:Int)∧i≤s.length∧DgV Any wr L A c∧Hid (FrIn s i L)∧wr.heap[w.heap.size]? = some (.cells #[.int .u64 0,.int .u64 0,.int .u64 0,.int .u64 0] 24 (0,0))∧Below w.heap.size w wr) (fun _ v _=>s.length - (intOf v).toNat)
 case atStart=>exact ⟨0,[],some ⟨w.heap.size+1,0,none⟩,0,rfl,rfl,Nat.zero_le _,HL.out,qh ⟨(fun d hd=>by cases hd),rfl,Nat.zero_le _⟩,HX.out,HB.out⟩
 case round =>
  obtain ⟨i,L,A,c,rfl,rfl,hi,hL,hin,hX,hB⟩:=hrel
  clear HX HB HL
  by_cases hlt:i < s.length
  ·have hltI:(i:Int) < s.length:=by omega
   obtain ⟨ch,hc⟩:=qal hlt
   have hci:s[i]=ch:=(List.getElem?_eq_some_iff.1 hc).2
   have HT:=qh (qbe hc)
   have HOK:=qh hin.out.ok
   have hLl:=hin.out.len
   have hchb:=ch.toNat_lt
   have hwc:IntKind.i64.wrap (ch.toNat:Int)=(ch.toNat:Int):=IntWalk.i64_in _ (by omega)
   clear hc
   go_wp2_with fail
   replace hX:=(show wr.drew.heap[w.heap.size]? = wr.heap[w.heap.size]? from rfl).trans hX
   replace hB:=hB.drew
   replace hL:=DgV.keep hL (Below.refl wr.heap.size wr).drew
   refine qao [] (by kernel_rfl) ?_
   generalize wr.drew=WD at hX hB hL ⊢
   refine R_p (i:=0) (v:=.slice A L.length c) Mn ?_
   refine R_p (i:=3) (v:=.string (bs s)) Mn ?_
   refine R_p (i:=4) (v:=.int .i64 (i:Int)) Mn ?_
   refine R_p (i:=5) (v:=.int .u8 (ch.toNat:Int)) Mn ?_
   refine R_p (i:=6) (v:=.int .i64 (ch.toNat:Int)) Mn ?_
   refine qb1 (rs:=[1,7]) (by kernel_rfl) (by simp) ?_
   refine AllReadyR.cons rfl (fun K hK=>?o1) (AllReadyR.cons rfl (fun K hK=>?o7) AllReadyR.nil)
   case' o1 =>
    have hbb:Below WD.heap.size WD (WD.alloc (.cells #[.int .i64 256] 3)):=(Below.refl _ _).alloc qn _
    have h256:DgV Any (WD.alloc (.cells #[.int .i64 256] 3)) [256] (some ⟨WD.heap.size,0,none⟩) 1:=qmj WD 256
    replace hX:=(hbb.block _ (qg hX)).trans hX
    replace hB:=qab hB hB.size hbb
    replace hL:=DgV.keep hL hbb
    go_simp
    obtain ⟨N1,hN1⟩:∃ N1,WD.heap.size=N1:=⟨_,rfl⟩
    rw [hN1] at h256 ⊢
    generalize WD.alloc (.cells #[.int .i64 256] 3)=w1 at h256 hX hB hL ⊢
    clear hbb hN1
    refine hK.out _ _ Mn (fun hMeets=>?_)
    clear hK K hMeets
    refine lay_R ?_
    refine qb1 (rs:=[2,7]) (by kernel_rfl) (by simp) ?_
    refine AllReadyR.cons rfl (fun K hK=>?o1_2) (AllReadyR.cons rfl (fun K hK=>?o1_7) AllReadyR.nil)
    case' o1_2 =>
     go_simp
     refine (qed L HOK.out (by omega) A c N1 _ hL h256).mono ?_
     rintro e w2 ⟨L1,B1,d1,rfl,hL1,hok1,hval1,hlen1,hb2⟩
     replace hX:=(hb2.block _ (qg hX)).trans hX
     replace hB:=qab hB hB.size hb2
     replace hL:=DgV.keep hL hb2
     replace h256:=DgV.keep h256 hb2
     have HLN1:=qh hlen1
     have HVL1:=qh hval1
     clear hlen1 hval1
     replace hL1:=DgV.any hL1
     clear hb2
     refine hK.out _ _ Mn (fun hMeets=>?_)
     clear hK K hMeets
     refine lay_R ?_
     refine R_now 7 fun K hK=>?_
     have hbb:Below w2.heap.size w2 (w2.alloc (.cells #[.int .i64 (ch.toNat:Int)] 3)):=(Below.refl _ _).alloc qn _
     have hch:DgV Any (w2.alloc (.cells #[.int .i64 (ch.toNat:Int)] 3)) [ch.toNat] (some ⟨w2.heap.size,0,none⟩) 1:=qmj w2 ch.toNat
     replace hX:=(hbb.block _ (qg hX)).trans hX
     replace hB:=qab hB hB.size hbb
     replace hL:=DgV.keep hL hbb
     replace h256:=DgV.keep h256 hbb
     replace hL1:=DgV.keep hL1 hbb
     go_simp
     obtain ⟨N2,hN2⟩:∃ N2,w2.heap.size=N2:=⟨_,rfl⟩
     rw [hN2] at hch ⊢
     generalize w2.alloc (.cells #[.int .i64 (ch.toNat:Int)] 3)=w7 at hch hX hB hL h256 hL1 ⊢
     clear hbb hN2
     refine hK.out _ _ Mn (fun hMeets=>?_)
     clear hK K hMeets
     refine lay_R ?_
     refine R_now 8 fun K hK=>?_
     go_simp
     refine (qh9 L1 hok1 (by have:=HLN1.out;omega) ch B1 d1 N2 _ hL1 hch).mono ?_
     rintro e w8 ⟨L2,B2,d2,rfl,hL2,hok2,hval2,hlen2,hb8⟩
     replace hX:=(hb8.block _ (qg hX)).trans hX
     replace hB:=qab hB hB.size hb8
     replace hL:=DgV.keep hL hb8
     replace h256:=DgV.keep h256 hb8
     replace hL1:=DgV.keep hL1 hb8
     replace hch:=DgV.keep hch hb8
     have HLN2:=qh hlen2
     have HVL2:=qh hval2
     clear hlen2 hval2
     replace hL2:=DgV.any hL2
     clear hb8
     refine hK.out _ _ Mn (fun hMeets=>?_)
     clear hK K hMeets
     refine lay_R ?_
     refine R_p (i:=9) (v:=.slice B2 L2.length d2) Mn ?_
     refine qa7 (by kernel_rfl) ?_ _
    case' o1_7 =>
     have hbb:Below w1.heap.size w1 (w1.alloc (.cells #[.int .i64 (ch.toNat:Int)] 3)):=(Below.refl _ _).alloc qn _
     have hch:DgV Any (w1.alloc (.cells #[.int .i64 (ch.toNat:Int)] 3)) [ch.toNat] (some ⟨w1.heap.size,0,none⟩) 1:=qmj w1 ch.toNat
     replace hX:=(hbb.block _ (qg hX)).trans hX
     replace hB:=qab hB hB.size hbb
     replace hL:=DgV.keep hL hbb
     replace h256:=DgV.keep h256 hbb
     go_simp
     obtain ⟨N2,hN2⟩:∃ N2,w1.heap.size=N2:=⟨_,rfl⟩
     rw [hN2] at hch ⊢
     generalize w1.alloc (.cells #[.int .i64 (ch.toNat:Int)] 3)=w7 at hch hX hB hL h256 ⊢
     clear hbb hN2
     refine hK.out _ _ Mn (fun hMeets=>?_)
     clear hK K hMeets
     refine lay_R ?_
     refine R_now 2 fun K hK=>?_
     go_simp
     refine (qed L HOK.out (by omega) A c N1 _ hL h256).mono ?_
     rintro e w2 ⟨L1,B1,d1,rfl,hL1,hok1,hval1,hlen1,hb2⟩
     replace hX:=(hb2.block _ (qg hX)).trans hX
     replace hB:=qab hB hB.size hb2
     replace hL:=DgV.keep hL hb2
     replace h256:=DgV.keep h256 hb2
     replace hch:=DgV.keep hch hb2
     have HLN1:=qh hlen1
     have HVL1:=qh hval1
     clear hlen1 hval1
     replace hL1:=DgV.any hL1
     clear hb2
     refine hK.out _ _ Mn (fun hMeets=>?_)
     clear hK K hMeets
     refine lay_R ?_
     refine R_now 8 fun K hK=>?_
     go_simp
     refine (qh9 L1 hok1 (by have:=HLN1.out;omega) ch B1 d1 N2 _ hL1 hch).mono ?_
     rintro e w8 ⟨L2,B2,d2,rfl,hL2,hok2,hval2,hlen2,hb8⟩
     replace hX:=(hb8.block _ (qg hX)).trans hX
     replace hB:=qab hB hB.size hb8
     replace hL:=DgV.keep hL hb8
     replace h256:=DgV.keep h256 hb8
     replace hch:=DgV.keep hch hb8
     replace hL1:=DgV.keep hL1 hb8
     have HLN2:=qh hlen2
     have HVL2:=qh hval2
     clear hlen2 hval2
     replace hL2:=DgV.any hL2
     clear hb8
     refine hK.out _ _ Mn (fun hMeets=>?_)
     clear hK K hMeets
     refine lay_R ?_
     refine R_p (i:=9) (v:=.slice B2 L2.length d2) Mn ?_
     refine qa7 (by kernel_rfl) ?_ _
   case' o7 =>
    have hbb:Below WD.heap.size WD (WD.alloc (.cells #[.int .i64 (ch.toNat:Int)] 3)):=(Below.refl _ _).alloc qn _
    have hch:DgV Any (WD.alloc (.cells #[.int .i64 (ch.toNat:Int)] 3)) [ch.toNat] (some ⟨WD.heap.size,0,none⟩) 1:=qmj WD ch.toNat
    replace hX:=(hbb.block _ (qg hX)).trans hX
    replace hB:=qab hB hB.size hbb
    replace hL:=DgV.keep hL hbb
    go_simp
    obtain ⟨N2,hN2⟩:∃ N2,WD.heap.size=N2:=⟨_,rfl⟩
    rw [hN2] at hch ⊢
    generalize WD.alloc (.cells #[.int .i64 (ch.toNat:Int)] 3)=w7 at hch hX hB hL ⊢
    clear hbb hN2
    refine hK.out _ _ Mn (fun hMeets=>?_)
    clear hK K hMeets
    refine lay_R ?_
    refine R_now 1 fun K hK=>?_
    have hbb:Below w7.heap.size w7 (w7.alloc (.cells #[.int .i64 256] 3)):=(Below.refl _ _).alloc qn _
    have h256:DgV Any (w7.alloc (.cells #[.int .i64 256] 3)) [256] (some ⟨w7.heap.size,0,none⟩) 1:=qmj w7 256
    replace hX:=(hbb.block _ (qg hX)).trans hX
    replace hB:=qab hB hB.size hbb
    replace hL:=DgV.keep hL hbb
    replace hch:=DgV.keep hch hbb
    go_simp
    obtain ⟨N1,hN1⟩:∃ N1,w7.heap.size=N1:=⟨_,rfl⟩
    rw [hN1] at h256 ⊢
    generalize w7.alloc (.cells #[.int .i64 256] 3)=w1 at h256 hX hB hL hch ⊢
    clear hbb hN1
    refine hK.out _ _ Mn (fun hMeets=>?_)
    clear hK K hMeets
    refine lay_R ?_
    refine R_now 2 fun K hK=>?_
    go_simp
    refine (qed L HOK.out (by omega) A c N1 _ hL h256).mono ?_
    rintro e w2 ⟨L1,B1,d1,rfl,hL1,hok1,hval1,hlen1,hb2⟩
    replace hX:=(hb2.block _ (qg hX)).trans hX
    replace hB:=qab hB hB.size hb2
    replace hL:=DgV.keep hL hb2
    replace hch:=DgV.keep hch hb2
    replace h256:=DgV.keep h256 hb2
    have HLN1:=qh hlen1
    have HVL1:=qh hval1
    clear hlen1 hval1
    replace hL1:=DgV.any hL1
    clear hb2
    refine hK.out _ _ Mn (fun hMeets=>?_)
    clear hK K hMeets
    refine lay_R ?_
    refine R_now 8 fun K hK=>?_
    go_simp
    refine (qh9 L1 hok1 (by have:=HLN1.out;omega) ch B1 d1 N2 _ hL1 hch).mono ?_
    rintro e w8 ⟨L2,B2,d2,rfl,hL2,hok2,hval2,hlen2,hb8⟩
    replace hX:=(hb8.block _ (qg hX)).trans hX
    replace hB:=qab hB hB.size hb8
    replace hL:=DgV.keep hL hb8
    replace hch:=DgV.keep hch hb8
    replace h256:=DgV.keep h256 hb8
    replace hL1:=DgV.keep hL1 hb8
    have HLN2:=qh hlen2
    have HVL2:=qh hval2
    clear hlen2 hval2
    replace hL2:=DgV.any hL2
    clear hb8
    refine hK.out _ _ Mn (fun hMeets=>?_)
    clear hK K hMeets
    refine lay_R ?_
    refine R_p (i:=9) (v:=.slice B2 L2.length d2) Mn ?_
    refine qa7 (by kernel_rfl) ?_ _
   all_goals
    have HF:Hid (FrIn s (i+1) L2):=qh ⟨hok2,by rw [HVL2.out,HVL1.out,hin.out.val,HT.out,qqx],by have:=HLN1.out;have:=HLN2.out;omega⟩
    clear hok1 hok2
   all_goals
    go_wp2_with fail
    go_roundw
    case rel=>exact ⟨i+1,L2,B2,d2,rfl,by go_num,hlt,hL2,HF,hX,hB⟩
    case measure=>simp [intOf];omega
  ·obtain rfl:i=s.length:=by omega
   have hval:=hin.out.val
   rw [List.take_of_length_le qn] at hval
   have HC:=qh (To_any L hin.out.ok A c wr hL)
   have hc:=HC.out
   rw [hval] at hc
   have HC:=qh hc
   have HX:=qh hX
   have HB:=qh hB
   clear hval hc hX hB hL
   go_wp2_with fail
   refine HC.out.mono ?_
   rintro e w5 ⟨rfl,hb5⟩
   have HX5:=qh ((hb5.block _ (qg HX.out)).trans HX.out)
   have HB5:=qh (qab HB.out HB.out.size hb5)
   clear hb5
   go_wp2_with (refine wpList_store_row rfl _ _ _ rfl w.heap.size #[.int .u64 ((U4.of (natOf s)).a:Int),.int .u64 ((U4.of (natOf s)).b:Int),.int .u64 ((U4.of (natOf s)).c:Int),.int .u64 ((U4.of (natOf s)).d:Int)] rfl rfl _ _ HX5.out infoU rfl (one4 _ _ _ _) ?_)
   exact bodyPost_ret (v:=.agg #[.int .u64 ((U4.of (natOf s)).a:Int),.int .u64 ((U4.of (natOf s)).b:Int),.int .u64 ((U4.of (natOf s)).c:Int),.int .u64 ((U4.of (natOf s)).d:Int)]) (results_cell_row rfl _ _ w.heap.size _ _ _ _ rfl (setRow_heap _ _ _ _ _ _ HX5.out) Tryz.underlying24 rfl infoU) rfl ⟨rfl,qak HB5.out qn _⟩
/- The walk of the reference's Bytes of a number. -/
theorem dg_val {l:List Nat} (h:okDg l) (j:Nat):l.getD j 0=valD l / 65536 ^ j % 65536:=by
 have h1:=qge l j
 have h2:=qks (qhs h j)
 have h3:65536 ^ (l.take j).length≤65536 ^ j:=Nat.pow_le_pow_right (by decide) (by rw [List.length_take];omega)
 have h4:valD l / 65536 ^ j=valD (l.drop j):=by
  rw [h1,Nat.add_mul_div_left _ _ (Nat.pow_pos (by decide)),Nat.div_eq_of_lt (by omega),Nat.zero_add]
 rw [h4,qb8]
 have:=qaz h j
 omega
theorem qop (x:U4):uB x=(List.range 32).map (byteU x.val):=by
 unfold uB;rw [qdu];rfl
theorem dg_bytes {x:U4} (hx:x.Wf) {j d:Nat} (hj:j < 16) (hd:(ofD x).getD j 0=d):cellB (byteU x.val (30 - 2 * j))=.int .u8 ((d / 256:Nat):Int)∧cellB (byteU x.val (31 - 2 * j))=.int .u8 ((d % 256:Nat):Int):=by
 rw [dg_val (qiy x),qhz hx] at hd
 have e1:x.val / 256 ^ (2 * j+1) % 256=d / 256:=by
  rw [← hd,show (65536:Nat)=256 ^ 2 by decide,← Nat.pow_mul,Nat.pow_succ,← Nat.div_div_eq_div_mul]
  omega
 have e2:x.val / 256 ^ (2 * j) % 256=d % 256:=by
  rw [← hd,show (65536:Nat)=256 ^ 2 by decide,← Nat.pow_mul]
  omega
 have hd6:d < 65536:=by rw [← hd];exact Nat.mod_lt _ (by decide)
 unfold byteU
 rw [show 31 - (30 - 2 * j)=2 * j+1 by omega,show 31 - (31 - 2 * j)=2 * j by omega,e1,e2]
 exact ⟨(qkr (by omega)).symm,(qkr (by omega)).symm⟩
theorem uB_step (x:U4) {k j:Nat} (hk:k+j=15):(uB x).take (2 * (k+1))=(uB x).take (2 * k) ++ [byteU x.val (30 - 2 * j),byteU x.val (31 - 2 * j)]:=by
 have h1:(uB x)[2 * k]? = some (byteU x.val (30 - 2 * j)):=by rw [qop,List.getElem?_map,List.getElem?_range (by omega),show 30 - 2 * j=2 * k by omega];rfl
 have h2:(uB x)[2 * k+1]? = some (byteU x.val (31 - 2 * j)):=by rw [qop,List.getElem?_map,List.getElem?_range (by omega),show 31 - 2 * j=2 * k+1 by omega];rfl
 rw [show 2 * (k+1)=2 * k+1+1 by omega,qbe h2,qbe h1,List.append_assoc]
 rfl
theorem qj1 (x:U4) (hx:x.Wf) (w:World):Calls Tryz.prog 109 #[.agg #[.int .u64 (x.a:Int),.int .u64 (x.b:Int),.int .u64 (x.c:Int),.int .u64 (x.d:Int)]] w fun e w'=>e=.returned (.string (bs (uB x)))∧Below w.heap.size w w':=by
 have hX:=heap_alloc_new w (.cells #[.int .u64 (x.a:Int),.int .u64 (x.b:Int),.int .u64 (x.c:Int),.int .u64 (x.d:Int)] 24)
 have hB:=(Below.refl w.heap.size w).alloc qn (.cells #[.int .u64 (x.a:Int),.int .u64 (x.b:Int),.int .u64 (x.c:Int),.int .u64 (x.d:Int)] 24)
 have HC:=qh (Of_any x hx (w.alloc (.cells #[.int .u64 (x.a:Int),.int .u64 (x.b:Int),.int .u64 (x.c:Int),.int .u64 (x.d:Int)] 24)))
 have HX:=qh hX
 have HB:=qh hB
 have HW:=qh hx
 clear hX hB hx
 go_enter Tryz.func109,Tryz.ntmps109
 go_wp2_with (refine wpList_load_row rfl _ _ rfl w.heap.size rfl _ _ _ _ HX.out Tryz.underlying24 rfl infoU ?_)
 refine HC.out.mono ?_
 rintro e w1 ⟨Ad,cd,rfl,hdv,hb1⟩
 have HB1:=qh (qab HB.out HB.out.size hb1)
 have HDV:=qh (DgV.any hdv)
 have hO:=World.ownsRow_lit (base:=w1.heap.size) (e:=5) (size:=1) w1 #[] 0 qn (by simp [maxLen]) rfl
 have HO:=qh hO
 have HBa:=qh ((Below.refl w1.heap.size w1).alloc qn (.cells #[] 5))
 rw [qcb]
 clear hb1 hdv hO HC HX HB
 go_wp2_with fail
 go_loopw [4,5] (fun u v wr=>∃ k n2:Nat,v=.int .i64 (15 - (k:Int))∧k≤16∧Hid (2 * k=n2)∧wr.ownsRow w1.heap.size 5 1 u n2 (((uB x).take n2).map cellB)∧Below w1.heap.size w1 wr) (fun _ v _=>(intOf v+1).toNat)
 case atStart=>exact ⟨0,0,rfl,Nat.zero_le _,qh rfl,HO.out,HBa.out⟩
 case round =>
  obtain ⟨k,n2,rfl,hk,HN2,hown,hB⟩:=hrel
  obtain ⟨A2,c2,rfl⟩:=qau hown
  clear HO HBa
  by_cases hlt:k < 16
  ·obtain ⟨j,hj⟩:∃ j,k+j=15:=⟨15 - k,by omega⟩
   have hv15:(15:Int) - k=(j:Int):=by omega
   rw [hv15]
   have hj16:j < 16:=by omega
   have hj15:(j:Int) < 16:=by omega
   have hj0:(0:Int)≤(j:Int):=by omega
   obtain ⟨d,hd⟩:∃ d,(ofD x).getD j 0=d:=⟨_,rfl⟩
   have hd6:d < 65536:=by rw [← hd];exact qaz (qiy x) j
   have hdg:(ofD x)[j]? = some d:=by rw [← hd];exact qkj (by rw [qcb];exact hj16)
   obtain ⟨gd,od,hAd,hcdw⟩:=HDV.out.at_ hdg
   subst hAd
   have hgd:=qap hcdw
   have hcd0:=(hB.cell (p:=⟨gd,od+j,none⟩) hgd).trans hcdw
   clear hcdw
   obtain ⟨b1,b2⟩:=dg_bytes HW.out hj16 hd
   obtain ⟨d1,hd1⟩:∃ d1,d / 256=d1:=⟨_,rfl⟩
   obtain ⟨d2,hd2⟩:∃ d2,d % 256=d2:=⟨_,rfl⟩
   rw [hd1] at b1
   rw [hd2] at b2
   have hq1:(d:Int) / 256=(d1:Int):=by omega
   have hq2:(d:Int) % 256=(d2:Int):=by omega
   have hwi1:IntKind.i64.wrap (d1:Int)=(d1:Int):=IntWalk.i64_in _ (by omega)
   have hw1:IntKind.u8.wrap (d1:Int)=(d1:Int):=IntWalk.u8_in _ (by omega)
   have hw2:IntKind.u8.wrap (d2:Int)=(d2:Int):=IntWalk.u8_in _ (by omega)
   have hm1:(d1:Int) % 256=(d1:Int):=by omega
   have hm2:(d2:Int) % 256=(d2:Int):=by omega
   have hd1b:(d1:Int)≤255:=by omega
   have hd2b:(d2:Int)≤255:=by omega
   have HST:=qh (uB_step x hj)
   have HC1:=qh b1
   have HC2:=qh b2
   have hn32:n2≤30:=by have:=HN2.out;omega
   have ht2:(d:Int).tmod 256=(d2:Int):=by rw [← hd2];simp [Int.tmod]
   clear hd hdg b1 b2 hd1 hd2 hv15
   go_wp2_with fail
   have hle:w1.heap.size≤wr.drew.heap.size:=hB.size
   replace hB:=hB.drew
   replace hown:=qax hown (Below.refl wr.heap.size wr).drew
   have hcd:wr.drew.cell? ⟨gd,od+j,none⟩=some (.int .i64 (d:Int)):=hcd0
   clear hcd0
   refine qao [(99,fun w'=>w'.cell? ⟨gd,od+j,none⟩=some (.int .i64 (d:Int)))] (by kernel_rfl) ?_
   generalize wr.drew=WD at hle hB hown hcd ⊢
   refine R_p (i:=0) (v:=.slice A2 n2 c2) (Mh hcd Mn) ?_
   refine R_p (i:=1) (v:=.slice (some ⟨gd,od,none⟩) 16 cd) (Mh hcd Mn) ?_
   refine R_p (i:=2) (v:=.int .i64 (j:Int)) (Mh hcd Mn) ?_
   refine R_p (i:=7) (v:=.slice (some ⟨gd,od,none⟩) 16 cd) (Mh hcd Mn) ?_
   refine R_p (i:=8) (v:=.int .i64 (j:Int)) (Mh hcd Mn) ?_
   refine R_p (i:=3) (v:=.pointer (some ⟨gd,od+j,none⟩)) (Mh hcd Mn) ?_
   refine R_p (i:=9) (v:=.pointer (some ⟨gd,od+j,none⟩)) (Mh hcd Mn) ?_
   refine R_l (i:=4) (v:=.int .i64 (d:Int)) 99 _ List.mem_cons_self rfl (qae rfl rfl rfl (fun w' hS=>hS) Tryz.underlying3 rfl) (Mh hcd Mn) ?_
   refine R_l (i:=10) (v:=.int .i64 (d:Int)) 99 _ List.mem_cons_self rfl (qae rfl rfl rfl (fun w' hS=>hS) Tryz.underlying3 rfl) (Mh hcd Mn) ?_
   refine R_p (i:=5) (v:=.int .i64 (d1:Int)) (Mh hcd Mn) ?_
   refine R_p (i:=11) (v:=.int .i64 (d2:Int)) (Mh hcd Mn) ?_
   refine R_p (i:=6) (v:=.int .u8 (d1:Int)) (Mh hcd Mn) ?_
   refine R_p (i:=12) (v:=.int .u8 (d2:Int)) (Mh hcd Mn) ?_
   refine R_now 13 fun K hK=>?_
   have hbb:Below WD.heap.size WD (WD.alloc (.cells #[.int .u8 (d1:Int),.int .u8 (d2:Int)] 5)):=(Below.refl _ _).alloc qn _
   have hl2:=qbi WD #[.int .u8 (d1:Int),.int .u8 (d2:Int)] 5
   replace hB:=qab hB hB.size hbb
   replace hown:=qax hown hbb
   replace hle:=Nat.le_trans hle hbb.size
   replace hcd:=(hbb.cell (qap hcd)).trans hcd
   go_simp
   obtain ⟨N2,hN2⟩:∃ N2,WD.heap.size=N2:=⟨_,rfl⟩
   rw [hN2] at hl2 ⊢
   generalize WD.alloc (.cells #[.int .u8 (d1:Int),.int .u8 (d2:Int)] 5)=w13 at hl2 hB hown hle hcd ⊢
   clear hbb hN2
   refine hK.out _ _ (Mh hcd Mn) (fun hMeets=>?_)
   clear hK K hMeets
   refine lay_R ?_
   refine R_now 14 fun K hK=>?_
   refine qe6 qfi rfl rfl w1.heap.size hown rfl (m:=2) [.int .u8 (d1:Int),.int .u8 (d2:Int)] rfl rfl hl2 ?_ ?_ ?_ hle ?_
   ·(intro u hu;simp at hu;rcases hu with rfl | rfl <;> rfl)
   ·simp only [maxLen];omega
   ·omega
   intro v1 w14 hown1 hg1 hat1
   obtain ⟨A3,c3,rfl⟩:=qau hown1
   have hbp:=qay (Below.refl w1.heap.size _) hown hg1 hle qn
   replace hcd:=(World.cell?_of_block (a:=⟨gd,od+j,none⟩) (hg1.block gd (qap hcd) (fun e=>by have:=(hown.lt _ e.symm).1;omega))).trans hcd
   replace hB:=hB.trans hbp
   clear hown hl2 hle hbp hg1 hat1
   have hown:=hown1
   clear hown1
   refine hK.out _ _ (Mh hcd Mn) (fun hMeets=>?_)
   clear hK K hMeets
   refine lay_R ?_
   refine R_p (i:=15) (v:=.slice A3 (n2+2) c3) (Mh hcd Mn) ?_
   refine qa7 (by kernel_rfl) ?_ _
   have hw14:=hB
   rw [show List.map cellB (List.take n2 (uB x)) ++ [Value.int .u8 (d1:Int),Value.int .u8 (d2:Int)]=((uB x).take (2 * (k+1))).map cellB by rw [HST.out,List.map_append,HN2.out,List.map_cons,List.map_cons,HC1.out,HC2.out];rfl] at hown
   have HOW:=qh hown
   have HBW:=qh hB
   clear hown hw14 hB
   go_wp2_with fail
   go_roundw
   case rel=>exact ⟨k+1,n2+2,by go_num,by omega,qh (by have:=HN2.out;omega),by have h:=HOW.out;rw [show 2 * (k+1)=n2+2 by have:=HN2.out;omega] at h;exact h,HBW.out⟩
   case measure=>simp [intOf] <;> omega
  ·obtain rfl:k=16:=by omega
   have h32:n2=32:=HN2.out.symm
   subst h32
   rw [List.take_of_length_le (by rw [qd9];omega)] at hown
   have hcv:(convert 97 9 (.slice A2 32 c2)).run Tryz.prog wr=.ok (.string (bs (uB x))) wr:=by
    have:=qav (P:=Tryz.prog) (w:=wr) (src:=97) (dst:=9) (e:=5) (A:=A2) (c:=c2) (l:=uB x) Tryz.underlying97 Tryz.underlying5 Tryz.underlying9 (qce hown (fun _ _ _=>trivial))
    rwa [qd9] at this
   have HBW:=qh (HB1.out.trans (hB.mono HB1.out.size))
   clear hown hB
   go_wp2_with fail
   go_ret
   exact ⟨rfl,HBW.out⟩
/- The walks of the reference's IsSecret, High, IsSig, Bytes of a signature. -/
theorem qhj (w:World):Calls Tryz.prog 159 #[.int .i64 1] w fun e w'=>e=.returned (.agg #[.int .u64 13822214165235122497,.int .u64 13451932020343611451,.int .u64 18446744073709551614,.int .u64 18446744073709551615])∧Below w.heap.size w w':=by
 have HX:=qh (heap_alloc_new w (.cells #[.int .u64 0,.int .u64 0,.int .u64 0,.int .u64 0] 24))
 have HB:=qh ((Below.refl w.heap.size w).alloc qn (.cells #[.int .u64 0,.int .u64 0,.int .u64 0,.int .u64 0] 24))
 go_enter Tryz.func159,Tryz.ntmps159
 go_wp2_with (refine wpList_store_row rfl _ _ _ rfl w.heap.size #[.int .u64 13822214165235122497,.int .u64 13451932020343611451,.int .u64 18446744073709551614,.int .u64 18446744073709551615] rfl rfl _ _ HX.out infoU rfl (one4 _ _ _ _) ?_)
 exact bodyPost_ret (v:=.agg #[.int .u64 13822214165235122497,.int .u64 13451932020343611451,.int .u64 18446744073709551614,.int .u64 18446744073709551615]) (results_cell_row rfl _ _ w.heap.size _ _ _ _ rfl (setRow_heap _ _ _ _ _ _ HX.out) Tryz.underlying24 rfl infoU) rfl ⟨rfl,qak HB.out qn _⟩
theorem Of16 (x:U4) (hx:x.Wf) (w:World):Calls Tryz.prog 158 #[.agg #[.int .u64 (x.a:Int),.int .u64 (x.b:Int),.int .u64 (x.c:Int),.int .u64 (x.d:Int)]] w fun e w'=>∃ A c,e=.returned (.slice A 16 c)∧DgV Any w' (ofD x) A c∧Below w.heap.size w w' :=
 (Of_any x hx w).mono fun e w' ⟨A,c,h1,h2,h3⟩=>⟨A,c,by rw [h1,qcb],h2.any,h3⟩
theorem OfN (w:World):Calls Tryz.prog 158 #[.agg #[.int .u64 13822214165235122497,.int .u64 13451932020343611451,.int .u64 18446744073709551614,.int .u64 18446744073709551615]] w fun e w'=>∃ A c,e=.returned (.slice A 16 c)∧DgV Any w' (ofD nU) A c∧Below w.heap.size w w':=Of16 nU nU_wf w
theorem LessXN (x:U4) (hx:x.Wf) (A1 A2:Option Addr) (c1 c2:Nat) (w:World) (h1:DgV Any w (ofD x) A1 c1) (h2:DgV Any w (ofD nU) A2 c2) :
  Calls Tryz.prog 160 #[.slice A1 16 c1,.slice A2 16 c2] w fun e w'=>e=.returned (.bool (decide (x.val < ordN)))∧Below w.heap.size w w':=by
 have:=qnz (ofD x) (ofD nU) (qiy x) (qiy nU) (by rw [qcb];decide) (by rw [qcb];decide) A1 A2 c1 c2 w h1 h2
 rw [qcb,qcb,qhz hx,qhz nU_wf,qra] at this
 exact this
theorem SumXX (x:U4) (hx:x.Wf) (A:Option Addr) (c:Nat) (w:World) (h1:DgV Any w (ofD x) A c) :
  Calls Tryz.prog 155 #[.slice A 16 c,.slice A 16 c] w fun e w'=>∃ L B d,e=.returned (.slice B L.length d)∧DgV Any w' L B d∧Hid (okDg L∧valD L=2 * x.val∧L.length≤17)∧Below w.heap.size w w':=by
 have:=qt8 (ofD x) (ofD x) (qiy x) (qiy x) (by rw [qcb];decide) (by rw [qcb];decide) A A c c w h1 h1
 rw [qcb,qhz hx] at this
 exact this.mono fun e w' ⟨L,B,d,q1,q2,q3,q4,q5,q6⟩=>⟨L,B,d,q1,q2.any,qh ⟨q3,by omega,by omega⟩,q6⟩
theorem LessNL (x:U4) (L:List Nat) (h:Hid (okDg L∧valD L=2 * x.val∧L.length≤17)) (A1 A2:Option Addr) (c1 c2:Nat) (w:World) (h1:DgV Any w (ofD nU) A1 c1) (h2:DgV Any w L A2 c2) :
  Calls Tryz.prog 160 #[.slice A1 16 c1,.slice A2 L.length c2] w fun e w'=>e=.returned (.bool (highN x))∧Below w.heap.size w w':=by
 have:=qnz (ofD nU) L (qiy nU) h.out.1 (by rw [qcb];decide) (by have:=h.out.2.2;omega) A1 A2 c1 c2 w h1 h2
 rw [qcb,qhz nU_wf,qra,h.out.2.1] at this
 exact this
theorem qgu (x:U4) (hx:x.Wf) (w:World):Calls Tryz.prog 102 #[.agg #[.int .u64 (x.a:Int),.int .u64 (x.b:Int),.int .u64 (x.c:Int),.int .u64 (x.d:Int)]] w fun e w'=>e=.returned (.bool (insideN x))∧Below w.heap.size w w':=by
 obtain ⟨R,hR⟩:∃ R,insideN x=R:=⟨_,rfl⟩
 rw [hR]
 have HI:Hid (R=(!(eqU x zeroU) && decide (x.val < ordN))):=qh (by
  rw [← hR]
  unfold insideN eqU
  congr 1
  rw [Bool.eq_iff_iff]
  simp only [decide_eq_true_eq,Bool.not_eq_true',decide_eq_false_iff_not]
  constructor
  ·intro h e;rw [e] at h;simp [U4.val,zeroU] at h
  ·intro h;exact Nat.pos_of_ne_zero fun e=>h (U4.ext hx qfx (by rw [e];rfl)))
 have HX:=qh (heap_alloc_new w (.cells #[.int .u64 (x.a:Int),.int .u64 (x.b:Int),.int .u64 (x.c:Int),.int .u64 (x.d:Int)] 24))
 have HB:=qh ((Below.refl w.heap.size w).alloc qn (.cells #[.int .u64 (x.a:Int),.int .u64 (x.b:Int),.int .u64 (x.c:Int),.int .u64 (x.d:Int)] 24))
 have HW:=qh hx
 obtain ⟨b,hb⟩:∃ b,eqU x zeroU=b:=⟨_,rfl⟩
 have heq:∀ W:World,(Op.equalIn 10000 24 (.agg #[.int .u64 (x.a:Int),.int .u64 (x.b:Int),.int .u64 (x.c:Int),.int .u64 (x.d:Int)]) (.agg #[.int .u64 0,.int .u64 0,.int .u64 0,.int .u64 0])).run Tryz.prog W=.ok b W:=fun W=>by
  have:=qeh 9998 x zeroU W
  rw [hb] at this
  exact this
 have HBB:=qh hb
 clear hR hx hb
 go_enter Tryz.func102,Tryz.ntmps102
 go_wp2_with fail
 refine (qhj _).mono ?_
 rintro e w1 ⟨rfl,hb1⟩
 have HX1:=qh ((hb1.block _ (qg HX.out)).trans HX.out)
 have HB1:=qh (qab HB.out HB.out.size hb1)
 clear hb1 HX HB
 go_wp2_with fail
 refine (OfN _).mono ?_
 rintro e w2 ⟨An,cn,rfl,hn,hb2⟩
 have hX2:=(hb2.block _ (qg HX1.out)).trans HX1.out
 have HX2:=qh hX2
 have HB2:=qh (qab HB1.out HB1.out.size hb2)
 have HN:=qh hn
 obtain ⟨r0,r1,r2,r3,f0,f1,f2,f3⟩:=row4 hX2
 clear hb2 HX1 HB1 hn hX2
 cases b with
 | true =>
  go_wp2_with fail
  go_ret
  exact ⟨by rw [HI.out,HBB.out];rfl,HB2.out⟩
 | false =>
  go_wp2_with fail
  refine (Of16 x HW.out _).mono ?_
  rintro e w3 ⟨Ax,cx,rfl,hxv,hb3⟩
  have HB3:=qh (qab HB2.out HB2.out.size hb3)
  have HN3:=qh (HN.out.keep hb3)
  have HXV:=qh hxv
  clear hb3 hxv r0 r1 r2 r3 f0 f1 f2 f3 HX2 HB2 HN heq
  go_wp2_with fail
  refine (LessXN x HW.out Ax An cx cn _ HXV.out HN3.out).mono ?_
  rintro e w4 ⟨rfl,hb4⟩
  have HB4:=qh (qab HB3.out HB3.out.size hb4)
  clear hb4
  go_wp2_with fail
  go_ret
  exact ⟨by rw [HI.out,HBB.out];rfl,HB4.out⟩
theorem qvk (x:U4) (hx:x.Wf) (w:World):Calls Tryz.prog 103 #[.agg #[.int .u64 (x.a:Int),.int .u64 (x.b:Int),.int .u64 (x.c:Int),.int .u64 (x.d:Int)]] w fun e w'=>e=.returned (.bool (highN x))∧Below w.heap.size w w':=by
 have hX:=heap_alloc_new w (.cells #[.int .u64 (x.a:Int),.int .u64 (x.b:Int),.int .u64 (x.c:Int),.int .u64 (x.d:Int)] 24)
 have HX:=qh hX
 have HB:=qh ((Below.refl w.heap.size w).alloc qn (.cells #[.int .u64 (x.a:Int),.int .u64 (x.b:Int),.int .u64 (x.c:Int),.int .u64 (x.d:Int)] 24))
 have HW:=qh hx
 obtain ⟨r0,r1,r2,r3,f0,f1,f2,f3⟩:=row4 hX
 clear hx hX
 go_enter Tryz.func103,Tryz.ntmps103
 go_wp2_with fail
 refine (Of16 x HW.out _).mono ?_
 rintro e w1 ⟨Ax,cx,rfl,hxv,hb1⟩
 have HB1:=qh (qab HB.out HB.out.size hb1)
 have HXV:=qh hxv
 clear hb1 hxv r0 r1 r2 r3 f0 f1 f2 f3 HX HB
 go_wp2_with fail
 refine (qhj _).mono ?_
 rintro e w2 ⟨rfl,hb2⟩
 have HB2:=qh (qab HB1.out HB1.out.size hb2)
 have HXV2:=qh (HXV.out.keep hb2)
 clear hb2 HXV HB1
 go_wp2_with fail
 refine (OfN _).mono ?_
 rintro e w3 ⟨An,cn,rfl,hn,hb3⟩
 have HB3:=qh (qab HB2.out HB2.out.size hb3)
 have HXV3:=qh (HXV2.out.keep hb3)
 have HN:=qh hn
 clear hb3 hn HXV2 HB2
 go_wp2_with fail
 refine (SumXX x HW.out Ax cx _ HXV3.out).mono ?_
 rintro e w4 ⟨L,B,d,rfl,hL,hLH,hb4⟩
 have HB4:=qh (qab HB3.out HB3.out.size hb4)
 have HN4:=qh (HN.out.keep hb4)
 have HL:=qh hL
 clear hb4 hL HN HB3
 go_wp2_with fail
 refine (LessNL x L hLH An B cn d _ HN4.out HL.out).mono ?_
 rintro e w5 ⟨rfl,hb5⟩
 have HB5:=qh (qab HB4.out HB4.out.size hb5)
 clear hb5
 go_wp2_with fail
 go_ret
 exact ⟨rfl,HB5.out⟩
theorem rsg_lit (x:Sg) (ta tb:Bytes) (tc:UInt8) (hta:ta.length=32) (htb:tb.length=32) (htc:cellB tc=.int .u8 (x.v % 256)) (hUR:∀ W:World,Calls Tryz.prog 109 #[.agg #[.int .u64 (x.r.a:Int),.int .u64 (x.r.b:Int),.int .u64 (x.r.c:Int),.int .u64 (x.r.d:Int)]] W fun e w'=>e=.returned (.string (bs ta))∧Below W.heap.size W w') (hUS:∀ W:World,Calls Tryz.prog 109 #[.agg #[.int .u64 (x.s.a:Int),.int .u64 (x.s.b:Int),.int .u64 (x.s.c:Int),.int .u64 (x.s.d:Int)]] W fun e w'=>e=.returned (.string (bs tb))∧Below W.heap.size W w')
  (w:World):Calls Tryz.prog 53 #[.agg (sgR x)] w fun e w'=>e=.returned (.string (bs (ta ++ tb ++ [tc])))∧Below w.heap.size w w':=by
 have hX:=heap_alloc_new w (.cells (sgR x) 26)
 have hB:=(Below.refl w.heap.size w).alloc qn (.cells (sgR x) 26)
 have HX:=qh hX
 have HB:=qh hB
 have HUR:=qh hUR
 have HUS:=qh hUS
 have HTA:=qh hta
 have HTB:=qh htb
 have HTC:=qh htc
 clear hX hB hUR hUS hta htb htc
 go_enter Tryz.func53,Tryz.ntmps53
 go_wp2_with fail
 have hX:(w.alloc (.cells (sgR x) 26)).drew.heap[w.heap.size]? = some (.cells (sgR x) 26 (0,0)):=HX.out
 have hB:Below w.heap.size w (w.alloc (.cells (sgR x) 26)).drew:=HB.out.drew
 clear HX HB
 refine qao [(99,fun w'=>w'.heap[w.heap.size]? = some (.cells (sgR x) 26 (0,0)))] (by kernel_rfl) ?_
 generalize (w.alloc (.cells (sgR x) 26)).drew=W at hX hB ⊢
 refine R_p (i:=0) (v:=.pointer (some ⟨w.heap.size,0,none⟩)) (Mh hX Mn) ?_
 refine R_p (i:=3) (v:=.pointer (some ⟨w.heap.size,4,none⟩)) (Mh hX Mn) ?_
 refine R_p (i:=7) (v:=.pointer (some ⟨w.heap.size,8,none⟩)) (Mh hX Mn) ?_
 refine R_l (i:=1) (v:=.agg #[.int .u64 (x.r.a:Int),.int .u64 (x.r.b:Int),.int .u64 (x.r.c:Int),.int .u64 (x.r.d:Int)]) 99 _ List.mem_cons_self rfl (qbm rfl rfl (g:=w.heap.size) (o:=0) rfl [.int .u64 (x.r.a:Int),.int .u64 (x.r.b:Int),.int .u64 (x.r.c:Int),.int .u64 (x.r.d:Int)] (fun w' hS=>qj9 hS 0 rfl rfl rfl rfl) Tryz.underlying24 rfl infoU) (Mh hX Mn) ?_
 refine R_l (i:=4) (v:=.agg #[.int .u64 (x.s.a:Int),.int .u64 (x.s.b:Int),.int .u64 (x.s.c:Int),.int .u64 (x.s.d:Int)]) 99 _ List.mem_cons_self rfl (qbm rfl rfl (g:=w.heap.size) (o:=4) rfl [.int .u64 (x.s.a:Int),.int .u64 (x.s.b:Int),.int .u64 (x.s.c:Int),.int .u64 (x.s.d:Int)] (fun w' hS=>qj9 hS 4 rfl rfl rfl rfl) Tryz.underlying24 rfl infoU) (Mh hX Mn) ?_
 refine R_l (i:=8) (v:=.int .i64 x.v) 99 _ List.mem_cons_self rfl (qae rfl rfl rfl (fun w' hS=>rc hS 8 rfl) Tryz.underlying3 rfl) (Mh hX Mn) ?_
 refine R_p (i:=9) (v:=.int .u8 (x.v % 256)) (Mh hX Mn) ?_ (hy:=by intro w';go_simp;exact qo2 _)
 refine qb1 (rs:=[2,10]) (by kernel_rfl) (by simp) ?_
 refine AllReadyR.cons rfl (fun K hK=>?_) (AllReadyR.cons rfl (fun K hK=>?_) AllReadyR.nil)
 go_simp
 refine (HUR.out _).mono ?_
 rintro e w2 ⟨rfl,hb2⟩
 replace hX:=(hb2.block _ (qg hX)).trans hX
 replace hB:=qab hB hB.size hb2
 clear hb2
 refine hK.out _ _ (Mh hX Mn) (fun hMeets=>?_)
 clear hK K hMeets
 refine lay_R ?_
 refine qb1 (rs:=[5,10]) (by kernel_rfl) (by simp) ?_
 refine AllReadyR.cons rfl (fun K hK=>?_) (AllReadyR.cons rfl (fun K hK=>?_) AllReadyR.nil)
 go_simp
 refine (HUS.out _).mono ?_
 rintro e w5 ⟨rfl,hb5⟩
 replace hX:=(hb5.block _ (qg hX)).trans hX
 replace hB:=qab hB hB.size hb5
 clear hb5
 refine hK.out _ _ (Mh hX Mn) (fun hMeets=>?_)
 clear hK K hMeets
 refine lay_R ?_
 refine R_p (i:=6) (v:=.string (bs (ta ++ tb))) (Mh hX Mn) ?_ (hy:=by intro w';go_simp;rw [HTA.out,HTB.out];decide)
 refine R_now 10 fun K hK=>?_
 have hbb:Below w5.heap.size w5 (w5.alloc (.cells #[.int .u8 (x.v % 256)] 5)):=(Below.refl _ _).alloc qn _
 obtain ⟨b10,hb10⟩:∃ b10,w5.heap.size=b10:=⟨_,rfl⟩
 have hR10:=heap_alloc_new w5 (.cells #[.int .u8 (x.v % 256)] 5)
 rw [hb10] at hR10
 replace hX:=(hbb.block _ (qg hX)).trans hX
 replace hB:=qab hB hB.size hbb
 go_simp
 generalize w5.alloc (.cells #[.int .u8 (x.v % 256)] 5)=w10 at *
 try rw [hb10]
 clear hbb hb10
 refine hK.out _ _ (Mh hX Mn) (fun hMeets=>?_)
 clear hK K hMeets
 refine lay_R ?_
 refine R_now 11 fun K hK=>?_
 have hcv:=qav (P:=Tryz.prog) (w:=w10) (src:=97) (dst:=9) (e:=5) (A:=some ⟨b10,0,none⟩) (c:=1) (l:=[tc]) Tryz.underlying97 Tryz.underlying5 Tryz.underlying9 (qbs hR10 (fun j u hj=>by rw [List.map_cons,List.map_nil,HTC.out] at hj;simpa using hj))
 simp only [List.length_singleton] at hcv
 go_simp
 clear hcv
 refine hK.out _ _ (Mh hX Mn) (fun hMeets=>?_)
 clear hK K hMeets
 refine lay_R ?_
 refine R_p (i:=12) (v:=.string (bs (ta ++ tb ++ [tc]))) (Mh hX Mn) ?_ (hy:=by intro w';go_simp;simp [HTA.out,HTB.out])
 refine R_p (i:=13) (v:=.string (bs (ta ++ tb ++ [tc]))) (Mh hX Mn) ?_
 refine qa7 (by kernel_rfl) ?_ _
 ·go_wp2_with fail
  go_ret
  exact ⟨rfl,hB⟩
 have hbb:Below w2.heap.size w2 (w2.alloc (.cells #[.int .u8 (x.v % 256)] 5)):=(Below.refl _ _).alloc qn _
 obtain ⟨b10,hb10⟩:∃ b10,w2.heap.size=b10:=⟨_,rfl⟩
 have hR10:=heap_alloc_new w2 (.cells #[.int .u8 (x.v % 256)] 5)
 rw [hb10] at hR10
 replace hX:=(hbb.block _ (qg hX)).trans hX
 replace hB:=qab hB hB.size hbb
 go_simp
 generalize w2.alloc (.cells #[.int .u8 (x.v % 256)] 5)=w10 at *
 try rw [hb10]
 clear hbb hb10
 refine hK.out _ _ (Mh hX Mn) (fun hMeets=>?_)
 clear hK K hMeets
 refine lay_R ?_
 refine qb1 (rs:=[5,11]) (by kernel_rfl) (by simp) ?_
 refine AllReadyR.cons rfl (fun K hK=>?_) (AllReadyR.cons rfl (fun K hK=>?_) AllReadyR.nil)
 go_simp
 refine (HUS.out _).mono ?_
 rintro e w5 ⟨rfl,hb5⟩
 replace hX:=(hb5.block _ (qg hX)).trans hX
 replace hB:=qab hB hB.size hb5
 replace hR10:=(hb5.block _ (qg hR10)).trans hR10
 clear hb5
 refine hK.out _ _ (Mh hX Mn) (fun hMeets=>?_)
 clear hK K hMeets
 refine lay_R ?_
 refine R_p (i:=6) (v:=.string (bs (ta ++ tb))) (Mh hX Mn) ?_ (hy:=by intro w';go_simp;rw [HTA.out,HTB.out];decide)
 refine R_now 11 fun K hK=>?_
 have hcv:=qav (P:=Tryz.prog) (w:=w5) (src:=97) (dst:=9) (e:=5) (A:=some ⟨b10,0,none⟩) (c:=1) (l:=[tc]) Tryz.underlying97 Tryz.underlying5 Tryz.underlying9 (qbs hR10 (fun j u hj=>by rw [List.map_cons,List.map_nil,HTC.out] at hj;simpa using hj))
 simp only [List.length_singleton] at hcv
 go_simp
 clear hcv
 refine hK.out _ _ (Mh hX Mn) (fun hMeets=>?_)
 clear hK K hMeets
 refine lay_R ?_
 refine R_p (i:=12) (v:=.string (bs (ta ++ tb ++ [tc]))) (Mh hX Mn) ?_ (hy:=by intro w';go_simp;simp [HTA.out,HTB.out])
 refine R_p (i:=13) (v:=.string (bs (ta ++ tb ++ [tc]))) (Mh hX Mn) ?_
 refine qa7 (by kernel_rfl) ?_ _
 ·go_wp2_with fail
  go_ret
  exact ⟨rfl,hB⟩
 have hcv:=qav (P:=Tryz.prog) (w:=w10) (src:=97) (dst:=9) (e:=5) (A:=some ⟨b10,0,none⟩) (c:=1) (l:=[tc]) Tryz.underlying97 Tryz.underlying5 Tryz.underlying9 (qbs hR10 (fun j u hj=>by rw [List.map_cons,List.map_nil,HTC.out] at hj;simpa using hj))
 simp only [List.length_singleton] at hcv
 go_simp
 clear hcv
 refine hK.out _ _ (Mh hX Mn) (fun hMeets=>?_)
 clear hK K hMeets
 refine lay_R ?_
 refine R_now 5 fun K hK=>?_
 go_simp
 refine (HUS.out _).mono ?_
 rintro e w5 ⟨rfl,hb5⟩
 replace hX:=(hb5.block _ (qg hX)).trans hX
 replace hB:=qab hB hB.size hb5
 replace hR10:=(hb5.block _ (qg hR10)).trans hR10
 clear hb5
 refine hK.out _ _ (Mh hX Mn) (fun hMeets=>?_)
 clear hK K hMeets
 refine lay_R ?_
 refine R_p (i:=6) (v:=.string (bs (ta ++ tb))) (Mh hX Mn) ?_ (hy:=by intro w';go_simp;rw [HTA.out,HTB.out];decide)
 refine R_p (i:=12) (v:=.string (bs (ta ++ tb ++ [tc]))) (Mh hX Mn) ?_ (hy:=by intro w';go_simp;simp [HTA.out,HTB.out])
 refine R_p (i:=13) (v:=.string (bs (ta ++ tb ++ [tc]))) (Mh hX Mn) ?_
 refine qa7 (by kernel_rfl) ?_ _
 ·go_wp2_with fail
  go_ret
  exact ⟨rfl,hB⟩
 have hbb:Below W.heap.size W (W.alloc (.cells #[.int .u8 (x.v % 256)] 5)):=(Below.refl _ _).alloc qn _
 obtain ⟨b10,hb10⟩:∃ b10,W.heap.size=b10:=⟨_,rfl⟩
 have hR10:=heap_alloc_new W (.cells #[.int .u8 (x.v % 256)] 5)
 rw [hb10] at hR10
 replace hX:=(hbb.block _ (qg hX)).trans hX
 replace hB:=qab hB hB.size hbb
 go_simp
 generalize W.alloc (.cells #[.int .u8 (x.v % 256)] 5)=w10 at *
 try rw [hb10]
 clear hbb hb10
 refine hK.out _ _ (Mh hX Mn) (fun hMeets=>?_)
 clear hK K hMeets
 refine lay_R ?_
 refine qb1 (rs:=[2,11]) (by kernel_rfl) (by simp) ?_
 refine AllReadyR.cons rfl (fun K hK=>?_) (AllReadyR.cons rfl (fun K hK=>?_) AllReadyR.nil)
 go_simp
 refine (HUR.out _).mono ?_
 rintro e w2 ⟨rfl,hb2⟩
 replace hX:=(hb2.block _ (qg hX)).trans hX
 replace hB:=qab hB hB.size hb2
 replace hR10:=(hb2.block _ (qg hR10)).trans hR10
 clear hb2
 refine hK.out _ _ (Mh hX Mn) (fun hMeets=>?_)
 clear hK K hMeets
 refine lay_R ?_
 refine qb1 (rs:=[5,11]) (by kernel_rfl) (by simp) ?_
 refine AllReadyR.cons rfl (fun K hK=>?_) (AllReadyR.cons rfl (fun K hK=>?_) AllReadyR.nil)
 go_simp
 refine (HUS.out _).mono ?_
 rintro e w5 ⟨rfl,hb5⟩
 replace hX:=(hb5.block _ (qg hX)).trans hX
 replace hB:=qab hB hB.size hb5
 replace hR10:=(hb5.block _ (qg hR10)).trans hR10
 clear hb5
 refine hK.out _ _ (Mh hX Mn) (fun hMeets=>?_)
 clear hK K hMeets
 refine lay_R ?_
 refine R_p (i:=6) (v:=.string (bs (ta ++ tb))) (Mh hX Mn) ?_ (hy:=by intro w';go_simp;rw [HTA.out,HTB.out];decide)
 refine R_now 11 fun K hK=>?_
 have hcv:=qav (P:=Tryz.prog) (w:=w5) (src:=97) (dst:=9) (e:=5) (A:=some ⟨b10,0,none⟩) (c:=1) (l:=[tc]) Tryz.underlying97 Tryz.underlying5 Tryz.underlying9 (qbs hR10 (fun j u hj=>by rw [List.map_cons,List.map_nil,HTC.out] at hj;simpa using hj))
 simp only [List.length_singleton] at hcv
 go_simp
 clear hcv
 refine hK.out _ _ (Mh hX Mn) (fun hMeets=>?_)
 clear hK K hMeets
 refine lay_R ?_
 refine R_p (i:=12) (v:=.string (bs (ta ++ tb ++ [tc]))) (Mh hX Mn) ?_ (hy:=by intro w';go_simp;simp [HTA.out,HTB.out])
 refine R_p (i:=13) (v:=.string (bs (ta ++ tb ++ [tc]))) (Mh hX Mn) ?_
 refine qa7 (by kernel_rfl) ?_ _
 ·go_wp2_with fail
  go_ret
  exact ⟨rfl,hB⟩
 have hcv:=qav (P:=Tryz.prog) (w:=w2) (src:=97) (dst:=9) (e:=5) (A:=some ⟨b10,0,none⟩) (c:=1) (l:=[tc]) Tryz.underlying97 Tryz.underlying5 Tryz.underlying9 (qbs hR10 (fun j u hj=>by rw [List.map_cons,List.map_nil,HTC.out] at hj;simpa using hj))
 simp only [List.length_singleton] at hcv
 go_simp
 clear hcv
 refine hK.out _ _ (Mh hX Mn) (fun hMeets=>?_)
 clear hK K hMeets
 refine lay_R ?_
 refine R_now 5 fun K hK=>?_
 go_simp
 refine (HUS.out _).mono ?_
 rintro e w5 ⟨rfl,hb5⟩
 replace hX:=(hb5.block _ (qg hX)).trans hX
 replace hB:=qab hB hB.size hb5
 replace hR10:=(hb5.block _ (qg hR10)).trans hR10
 clear hb5
 refine hK.out _ _ (Mh hX Mn) (fun hMeets=>?_)
 clear hK K hMeets
 refine lay_R ?_
 refine R_p (i:=6) (v:=.string (bs (ta ++ tb))) (Mh hX Mn) ?_ (hy:=by intro w';go_simp;rw [HTA.out,HTB.out];decide)
 refine R_p (i:=12) (v:=.string (bs (ta ++ tb ++ [tc]))) (Mh hX Mn) ?_ (hy:=by intro w';go_simp;simp [HTA.out,HTB.out])
 refine R_p (i:=13) (v:=.string (bs (ta ++ tb ++ [tc]))) (Mh hX Mn) ?_
 refine qa7 (by kernel_rfl) ?_ _
 ·go_wp2_with fail
  go_ret
  exact ⟨rfl,hB⟩
 have hcv:=qav (P:=Tryz.prog) (w:=w10) (src:=97) (dst:=9) (e:=5) (A:=some ⟨b10,0,none⟩) (c:=1) (l:=[tc]) Tryz.underlying97 Tryz.underlying5 Tryz.underlying9 (qbs hR10 (fun j u hj=>by rw [List.map_cons,List.map_nil,HTC.out] at hj;simpa using hj))
 simp only [List.length_singleton] at hcv
 go_simp
 clear hcv
 refine hK.out _ _ (Mh hX Mn) (fun hMeets=>?_)
 clear hK K hMeets
 refine lay_R ?_
 refine R_now 2 fun K hK=>?_
 go_simp
 refine (HUR.out _).mono ?_
 rintro e w2 ⟨rfl,hb2⟩
 replace hX:=(hb2.block _ (qg hX)).trans hX
 replace hB:=qab hB hB.size hb2
 replace hR10:=(hb2.block _ (qg hR10)).trans hR10
 clear hb2
 refine hK.out _ _ (Mh hX Mn) (fun hMeets=>?_)
 clear hK K hMeets
 refine lay_R ?_
 refine R_now 5 fun K hK=>?_
 go_simp
 refine (HUS.out _).mono ?_
 rintro e w5 ⟨rfl,hb5⟩
 replace hX:=(hb5.block _ (qg hX)).trans hX
 replace hB:=qab hB hB.size hb5
 replace hR10:=(hb5.block _ (qg hR10)).trans hR10
 clear hb5
 refine hK.out _ _ (Mh hX Mn) (fun hMeets=>?_)
 clear hK K hMeets
 refine lay_R ?_
 refine R_p (i:=6) (v:=.string (bs (ta ++ tb))) (Mh hX Mn) ?_ (hy:=by intro w';go_simp;rw [HTA.out,HTB.out];decide)
 refine R_p (i:=12) (v:=.string (bs (ta ++ tb ++ [tc]))) (Mh hX Mn) ?_ (hy:=by intro w';go_simp;simp [HTA.out,HTB.out])
 refine R_p (i:=13) (v:=.string (bs (ta ++ tb ++ [tc]))) (Mh hX Mn) ?_
 refine qa7 (by kernel_rfl) ?_ _
 ·go_wp2_with fail
  go_ret
  exact ⟨rfl,hB⟩
theorem rsgB_any (x:Sg) (h:x.Wf) (w:World):Calls Tryz.prog 53 #[.agg (sgR x)] w fun e w'=>e=.returned (.string (bs (sgB x)))∧Below w.heap.size w w':=by
 unfold sgB
 have hc:cellB (UInt8.ofNat (x.v % 256).toNat)=.int .u8 (x.v % 256):=by have:=byte_v x.v;simp only [List.map_cons,List.map_nil,List.cons.injEq,and_true] at this;exact this
 generalize UInt8.ofNat (x.v % 256).toNat=tc at hc ⊢
 have h1:=fun W:World=>qj1 x.r h.r W
 have h2:=fun W:World=>qj1 x.s h.s W
 have l1:=qd9 x.r
 have l2:=qd9 x.s
 generalize uB x.r=ta at h1 l1 ⊢
 generalize uB x.s=tb at h2 l2 ⊢
 exact rsg_lit x ta tb tc l1 l2 hc h1 h2 w
/- The walks of the reference's IsSig, and From of a signature. -/
theorem ql6 (x:Sg) (h:x.Wf) (w:World):Calls Tryz.prog 49 #[.agg #[.int .u64 (x.r.a:Int),.int .u64 (x.r.b:Int),.int .u64 (x.r.c:Int),.int .u64 (x.r.d:Int),.int .u64 (x.s.a:Int),.int .u64 (x.s.b:Int),.int .u64 (x.s.c:Int),.int .u64 (x.s.d:Int),.int .i64 x.v]] w fun e w'=>e=.returned (.bool (okSg x))∧Below w.heap.size w w':=by
 have hX:=heap_alloc_new w (.cells #[.int .u64 (x.r.a:Int),.int .u64 (x.r.b:Int),.int .u64 (x.r.c:Int),.int .u64 (x.r.d:Int),.int .u64 (x.s.a:Int),.int .u64 (x.s.b:Int),.int .u64 (x.s.c:Int),.int .u64 (x.s.d:Int),.int .i64 x.v] 26)
 have HB0:=qh ((Below.refl w.heap.size w).alloc qn (.cells #[.int .u64 (x.r.a:Int),.int .u64 (x.r.b:Int),.int .u64 (x.r.c:Int),.int .u64 (x.r.d:Int),.int .u64 (x.s.a:Int),.int .u64 (x.s.b:Int),.int .u64 (x.s.c:Int),.int .u64 (x.s.d:Int),.int .i64 x.v] 26))
 have HX0:=qh hX
 have hbr:=fun W:World=>qgu x.r h.r W
 have hbs:=fun W:World=>qgu x.s h.s W
 have hhs:=fun W:World=>qvk x.s h.s W
 have hok:=qrx x
 have e5:(x.v == 0 || x.v == 1)=(decide (0≤x.v) && decide (x.v≤1)):=by rw [Bool.eq_iff_iff];simp only [Bool.or_eq_true,Bool.and_eq_true,beq_iff_eq,decide_eq_true_eq];omega
 rw [e5] at hok
 obtain ⟨c0,c1,c2,c3,c4,c5,c6,c7,c8⟩:=row9 hX
 clear hX h e5
 obtain ⟨b1,e1⟩:∃ b,insideN x.r=b:=⟨_,rfl⟩
 obtain ⟨b2,e2⟩:∃ b,insideN x.s=b:=⟨_,rfl⟩
 obtain ⟨b3,e3⟩:∃ b,highN x.s=b:=⟨_,rfl⟩
 obtain ⟨v,e4⟩:∃ v,x.v=v:=⟨_,rfl⟩
 rw [e1,e2,e3,e4] at hok
 rw [e1] at hbr
 rw [e2] at hbs
 rw [e3] at hhs
 rw [e4] at c8 HX0 HB0 ⊢
 have HOK:=qh hok
 have HBR:=qh hbr
 have HBS:=qh hbs
 have HHS:=qh hhs
 clear hok e1 e2 e3 e4 hbr hbs hhs
 go_enter Tryz.func49,Tryz.ntmps49
 go_wp2_with fail
 refine (HBR.out _).mono ?_
 rintro e w1 ⟨rfl,hb1⟩
 have hX1:=(hb1.block _ (qg HX0.out)).trans HX0.out
 have HB1:=qh (qab HB0.out HB0.out.size hb1)
 obtain ⟨c0,c1,c2,c3,c4,c5,c6,c7,c8⟩:=row9 hX1
 have HX1:=qh hX1
 clear hb1 hX1 HX0 HB0
 cases b1 with
 | false =>
  go_wp2_with fail
  go_ret
  exact ⟨by rw [HOK.out];rfl,HB1.out⟩
 | true =>
  go_wp2_with fail
  refine (HBS.out _).mono ?_
  rintro e w2 ⟨rfl,hb2⟩
  have hX2:=(hb2.block _ (qg HX1.out)).trans HX1.out
  have HB2:=qh (qab HB1.out HB1.out.size hb2)
  obtain ⟨c0,c1,c2,c3,c4,c5,c6,c7,c8⟩:=row9 hX2
  have HX2:=qh hX2
  clear hb2 hX2 HX1 HB1
  cases b2 with
  | false =>
   go_wp2_with fail
   go_ret
   exact ⟨by rw [HOK.out];rfl,HB2.out⟩
  | true =>
   go_wp2_with fail
   refine (HHS.out _).mono ?_
   rintro e w3 ⟨rfl,hb3⟩
   have hX3:=(hb3.block _ (qg HX2.out)).trans HX2.out
   have HB3:=qh (qab HB2.out HB2.out.size hb3)
   obtain ⟨c0,c1,c2,c3,c4,c5,c6,c7,c8⟩:=row9 hX3
   have HX3:=qh hX3
   clear hb3 hX3 HX2 HB2
   cases b3 with
   | true =>
    go_wp2_with fail
    go_ret
    exact ⟨by rw [HOK.out];rfl,HB3.out⟩
   | false =>
    by_cases hv0:0≤v
    ·by_cases hv1:v≤1
     ·skip
      go_wp2_with fail
      go_ret
      exact ⟨by rw [HOK.out];simp [hv0,hv1] <;> omega,HB3.out⟩
     ·skip
      go_wp2_with fail
      go_ret
      exact ⟨by rw [HOK.out];simp [hv0,hv1] <;> omega,HB3.out⟩
    ·skip
     go_wp2_with fail
     go_ret
     exact ⟨by rw [HOK.out];simp [hv0] <;> omega,HB3.out⟩
theorem qlt (s:Bytes) (hs:s.length≤32) (z:U4) (hz:uOf s=z) (w:World):Calls Tryz.prog 101 #[.string (bs s)] w fun e w'=>e=.returned (.agg #[.int .u64 (z.a:Int),.int .u64 (z.b:Int),.int .u64 (z.c:Int),.int .u64 (z.d:Int)])∧Below w.heap.size w w':=by
 subst hz;exact From_any s (by omega) w
theorem qp8 (s:Bytes) (hs:((s.length:Int) == 65)=false) (w:World):Calls Tryz.prog 48 #[.string (bs s)] w fun e w'=>e=.returned (.tuple #[.agg #[.int .u64 0,.int .u64 0,.int .u64 0,.int .u64 0,.int .u64 0,.int .u64 0,.int .u64 0,.int .u64 0,.int .i64 0],.int .i64 4])∧Below w.heap.size w w':=by
 have hs2:((s.length:Int) != 65)=true:=by rw [bne,hs];rfl
 have HX:=qh (heap_alloc_new w (.cells #[.int .u64 0,.int .u64 0,.int .u64 0,.int .u64 0,.int .u64 0,.int .u64 0,.int .u64 0,.int .u64 0,.int .i64 0] 26))
 have HB:=qh ((Below.refl w.heap.size w).alloc qn (.cells #[.int .u64 0,.int .u64 0,.int .u64 0,.int .u64 0,.int .u64 0,.int .u64 0,.int .u64 0,.int .u64 0,.int .i64 0] 26))
 go_enter Tryz.func48,Tryz.ntmps48
 go_wp2_with (refine wpList_store_row rfl _ _ _ rfl w.heap.size #[.int .u64 0,.int .u64 0,.int .u64 0,.int .u64 0,.int .u64 0,.int .u64 0,.int .u64 0,.int .u64 0,.int .i64 0] rfl rfl _ _ HX.out qbv rfl one9Z ?_)
 exact bodyPost_ret (v:=.tuple #[.agg #[.int .u64 0,.int .u64 0,.int .u64 0,.int .u64 0,.int .u64 0,.int .u64 0,.int .u64 0,.int .u64 0,.int .i64 0],.int .i64 4]) (qah rfl _ _ w.heap.size _ _ _ _ rfl (setRow_heap _ _ _ _ _ _ HX.out) _ rfl Tryz.underlying26 rfl qbv) rfl ⟨rfl,qak HB.out qn _⟩
theorem qsp (s:Bytes) (c:UInt8) (hs:s.length=65) (hc:s[64]? = some c) (zr zs:U4) (hr:uOf (s.take 32)=zr) (hz:uOf ((s.drop 32).take 32)=zs) (hwr:zr.Wf) (hws:zs.Wf) (ok:Bool) (hok:okSg ⟨zr,zs,(c.toNat:Int)⟩=ok) (cs:Array Value) (no:Int) (hcs:cs=if ok=true then #[.int .u64 (zr.a:Int),.int .u64 (zr.b:Int),.int .u64 (zr.c:Int),.int .u64 (zr.d:Int),.int .u64 (zs.a:Int),.int .u64 (zs.b:Int),.int .u64 (zs.c:Int),.int .u64 (zs.d:Int),.int .i64 (c.toNat:Int)] else #[.int .u64 0,.int .u64 0,.int .u64 0,.int .u64 0,.int .u64 0,.int .u64 0,.int .u64 0,.int .u64 0,.int .i64 0]) (hno:no=if ok=true then 0 else 4) (w:World) :
  Calls Tryz.prog 48 #[.string (bs s)] w fun e w'=>e=.returned (.tuple #[.agg cs,.int .i64 no])∧Below w.heap.size w w':=by
 obtain ⟨hlt,hci⟩:=List.getElem?_eq_some_iff.1 hc
 have hl:(s.length:Int)=65:=by omega
 have hl1:((s.length:Int) == 65)=true:=by rw [hl];rfl
 have hl2:((s.length:Int) != 65)=false:=by rw [hl];rfl
 have hlt2:(64:Int) < s.length:=by omega
 have h32:(32:Int)≤s.length:=by omega
 have h64:(64:Int)≤s.length:=by omega
 have hc8:=c.toNat_lt
 have hwc:IntKind.i64.wrap (c.toNat:Int)=(c.toNat:Int):=IntWalk.i64_in _ (by omega)
 have HF1:=qh (fun W:World=>qlt (s.take 32) (by rw [List.length_take];omega) zr hr W)
 have HF2:=qh (fun W:World=>qlt ((s.drop 32).take 32) (by rw [List.length_take];omega) zs hz W)
 have hR:=fun W:World=>ql6 ⟨zr,zs,(c.toNat:Int)⟩ ⟨hwr,hws,by show _≤(c.toNat:Int);omega,by show (c.toNat:Int)≤_;omega⟩ W
 rw [hok] at hR
 simp only [] at hR
 have HRT:=qh hR
 have h0:=heap_alloc_new w (.cells #[.int .u64 0,.int .u64 0,.int .u64 0,.int .u64 0,.int .u64 0,.int .u64 0,.int .u64 0,.int .u64 0,.int .i64 0] 26)
 have hb:=(Below.refl w.heap.size w).alloc qn (.cells #[.int .u64 0,.int .u64 0,.int .u64 0,.int .u64 0,.int .u64 0,.int .u64 0,.int .u64 0,.int .u64 0,.int .i64 0] 26)
 have HCS:=qh hcs
 have HNO:=qh hno
 have HR:=qh h0
 have HB:=qh hb
 clear h0 hb hs hc hR hr hz hwr hws hok hl hcs hno
 go_enter Tryz.func48,Tryz.ntmps48
 go_wp2_with fail
 have hX:(w.alloc (.cells #[.int .u64 0,.int .u64 0,.int .u64 0,.int .u64 0,.int .u64 0,.int .u64 0,.int .u64 0,.int .u64 0,.int .i64 0] 26)).drew.heap[w.heap.size]? = some (.cells #[.int .u64 0,.int .u64 0,.int .u64 0,.int .u64 0,.int .u64 0,.int .u64 0,.int .u64 0,.int .u64 0,.int .i64 0] 26 (0,0)):=HR.out
 have hB:Below w.heap.size w (w.alloc (.cells #[.int .u64 0,.int .u64 0,.int .u64 0,.int .u64 0,.int .u64 0,.int .u64 0,.int .u64 0,.int .u64 0,.int .i64 0] 26)).drew:=HB.out.drew
 clear HR HB
 refine qao [] (by kernel_rfl) ?_
 generalize (w.alloc (.cells #[.int .u64 0,.int .u64 0,.int .u64 0,.int .u64 0,.int .u64 0,.int .u64 0,.int .u64 0,.int .u64 0,.int .i64 0] 26)).drew=WD at hX hB ⊢
 refine R_p (i:=0) (v:=.string (bs s)) Mn ?_
 refine R_p (i:=3) (v:=.string (bs s)) Mn ?_
 refine R_p (i:=6) (v:=.string (bs s)) Mn ?_
 refine R_p (i:=1) (v:=.string (bs (s.take 32))) Mn ?_
 refine R_p (i:=4) (v:=.string (bs ((s.drop 32).take 32))) Mn ?_
 refine R_p (i:=7) (v:=.int .u8 (c.toNat:Int)) Mn ?_
 refine R_p (i:=8) (v:=.int .i64 (c.toNat:Int)) Mn ?_
 refine qb1 (rs:=[2,10]) (by kernel_rfl) (by simp) ?_
 refine AllReadyR.cons rfl (fun K hK=>?o2) (AllReadyR.cons rfl (fun K hK=>?o10) AllReadyR.nil)
 case' o2 =>
  go_simp
  refine (HF1.out _).mono ?_
  rintro e w2 ⟨rfl,hb2⟩
  replace hX:=(hb2.block _ (qg hX)).trans hX
  replace hB:=qab hB hB.size hb2
  clear hb2
  refine hK.out _ _ Mn (fun hMeets=>?_)
  clear hK K hMeets
  refine lay_R ?_
  refine qb1 (rs:=[5,10]) (by kernel_rfl) (by simp) ?_
  refine AllReadyR.cons rfl (fun K hK=>?o2_5) (AllReadyR.cons rfl (fun K hK=>?o2_10) AllReadyR.nil)
  case' o2_5 =>
   go_simp
   refine (HF2.out _).mono ?_
   rintro e w5 ⟨rfl,hb5⟩
   replace hX:=(hb5.block _ (qg hX)).trans hX
   replace hB:=qab hB hB.size hb5
   clear hb5
   refine hK.out _ _ Mn (fun hMeets=>?_)
   clear hK K hMeets
   refine lay_R ?_
   refine R_p (i:=9) (v:=.agg #[.int .u64 (zr.a:Int),.int .u64 (zr.b:Int),.int .u64 (zr.c:Int),.int .u64 (zr.d:Int),.int .u64 (zs.a:Int),.int .u64 (zs.b:Int),.int .u64 (zs.c:Int),.int .u64 (zs.d:Int),.int .i64 (c.toNat:Int)]) Mn ?_
   refine R_now 10 fun K hK=>?_
   have hbb:Below w5.heap.size w5 (w5.alloc (.cells #[.int .u64 0,.int .u64 0,.int .u64 0,.int .u64 0,.int .u64 0,.int .u64 0,.int .u64 0,.int .u64 0,.int .i64 0] 26)):=(Below.refl _ _).alloc qn _
   have hY:=heap_alloc_new w5 (.cells #[.int .u64 0,.int .u64 0,.int .u64 0,.int .u64 0,.int .u64 0,.int .u64 0,.int .u64 0,.int .u64 0,.int .i64 0] 26)
   have hlX:=(qg hX)
   replace hX:=(hbb.block _ (qg hX)).trans hX
   replace hB:=qab hB hB.size hbb
   go_simp
   obtain ⟨N,hN⟩:∃ N,w5.heap.size=N:=⟨_,rfl⟩
   rw [hN] at hY hlX ⊢
   generalize w5.alloc (.cells #[.int .u64 0,.int .u64 0,.int .u64 0,.int .u64 0,.int .u64 0,.int .u64 0,.int .u64 0,.int .u64 0,.int .i64 0] 26)=w10 at hY hX hB ⊢
   clear hbb hN
   refine hK.out _ _ Mn (fun hMeets=>?_)
   clear hK K hMeets
   refine lay_R ?_
   refine R_now 11 fun K hK=>?_
   refine qdo (by rfl) ?_
   refine wp_store_row _ _ _ rfl N #[.int .u64 (zr.a:Int),.int .u64 (zr.b:Int),.int .u64 (zr.c:Int),.int .u64 (zr.d:Int),.int .u64 (zs.a:Int),.int .u64 (zs.b:Int),.int .u64 (zs.c:Int),.int .u64 (zs.d:Int),.int .i64 (c.toNat:Int)] rfl rfl _ #[.int .u64 0,.int .u64 0,.int .u64 0,.int .u64 0,.int .u64 0,.int .u64 0,.int .u64 0,.int .u64 0,.int .i64 0] hY qbv rfl (one9 _ _ _ _ _ _ _ _ _) ?_
   have hYn:=setRow_heap w10 N _ #[.int .u64 (zr.a:Int),.int .u64 (zr.b:Int),.int .u64 (zr.c:Int),.int .u64 (zr.d:Int),.int .u64 (zs.a:Int),.int .u64 (zs.b:Int),.int .u64 (zs.c:Int),.int .u64 (zs.d:Int),.int .i64 (c.toNat:Int)] _ _ hY
   replace hX:=(qbk w10 (show w.heap.size≠N by omega) #[.int .u64 (zr.a:Int),.int .u64 (zr.b:Int),.int .u64 (zr.c:Int),.int .u64 (zr.d:Int),.int .u64 (zs.a:Int),.int .u64 (zs.b:Int),.int .u64 (zs.c:Int),.int .u64 (zs.d:Int),.int .i64 (c.toNat:Int)]).trans hX
   replace hB:=qak hB (show w.heap.size≤N by omega) #[.int .u64 (zr.a:Int),.int .u64 (zr.b:Int),.int .u64 (zr.c:Int),.int .u64 (zr.d:Int),.int .u64 (zs.a:Int),.int .u64 (zs.b:Int),.int .u64 (zs.c:Int),.int .u64 (zs.d:Int),.int .i64 (c.toNat:Int)]
   generalize w10.setRow N #[.int .u64 (zr.a:Int),.int .u64 (zr.b:Int),.int .u64 (zr.c:Int),.int .u64 (zr.d:Int),.int .u64 (zs.a:Int),.int .u64 (zs.b:Int),.int .u64 (zs.c:Int),.int .u64 (zs.d:Int),.int .i64 (c.toNat:Int)]=w11 at hYn hX hB ⊢
   clear hY
   have hY:=hYn
   clear hYn
   refine hK.out _ _ Mn (fun hMeets=>?_)
   clear hK K hMeets
   refine lay_R ?_
   refine qa7 (by kernel_rfl) ?_ _
  case' o2_10 =>
   have hbb:Below w2.heap.size w2 (w2.alloc (.cells #[.int .u64 0,.int .u64 0,.int .u64 0,.int .u64 0,.int .u64 0,.int .u64 0,.int .u64 0,.int .u64 0,.int .i64 0] 26)):=(Below.refl _ _).alloc qn _
   have hY:=heap_alloc_new w2 (.cells #[.int .u64 0,.int .u64 0,.int .u64 0,.int .u64 0,.int .u64 0,.int .u64 0,.int .u64 0,.int .u64 0,.int .i64 0] 26)
   have hlX:=(qg hX)
   replace hX:=(hbb.block _ (qg hX)).trans hX
   replace hB:=qab hB hB.size hbb
   go_simp
   obtain ⟨N,hN⟩:∃ N,w2.heap.size=N:=⟨_,rfl⟩
   rw [hN] at hY hlX ⊢
   generalize w2.alloc (.cells #[.int .u64 0,.int .u64 0,.int .u64 0,.int .u64 0,.int .u64 0,.int .u64 0,.int .u64 0,.int .u64 0,.int .i64 0] 26)=w10 at hY hX hB ⊢
   clear hbb hN
   refine hK.out _ _ Mn (fun hMeets=>?_)
   clear hK K hMeets
   refine lay_R ?_
   refine R_now 5 fun K hK=>?_
   go_simp
   refine (HF2.out _).mono ?_
   rintro e w5 ⟨rfl,hb5⟩
   replace hX:=(hb5.block _ (qg hX)).trans hX
   replace hB:=qab hB hB.size hb5
   replace hY:=(hb5.block _ (qg hY)).trans hY
   clear hb5
   refine hK.out _ _ Mn (fun hMeets=>?_)
   clear hK K hMeets
   refine lay_R ?_
   refine R_p (i:=9) (v:=.agg #[.int .u64 (zr.a:Int),.int .u64 (zr.b:Int),.int .u64 (zr.c:Int),.int .u64 (zr.d:Int),.int .u64 (zs.a:Int),.int .u64 (zs.b:Int),.int .u64 (zs.c:Int),.int .u64 (zs.d:Int),.int .i64 (c.toNat:Int)]) Mn ?_
   refine R_now 11 fun K hK=>?_
   refine qdo (by rfl) ?_
   refine wp_store_row _ _ _ rfl N #[.int .u64 (zr.a:Int),.int .u64 (zr.b:Int),.int .u64 (zr.c:Int),.int .u64 (zr.d:Int),.int .u64 (zs.a:Int),.int .u64 (zs.b:Int),.int .u64 (zs.c:Int),.int .u64 (zs.d:Int),.int .i64 (c.toNat:Int)] rfl rfl _ #[.int .u64 0,.int .u64 0,.int .u64 0,.int .u64 0,.int .u64 0,.int .u64 0,.int .u64 0,.int .u64 0,.int .i64 0] hY qbv rfl (one9 _ _ _ _ _ _ _ _ _) ?_
   have hYn:=setRow_heap w5 N _ #[.int .u64 (zr.a:Int),.int .u64 (zr.b:Int),.int .u64 (zr.c:Int),.int .u64 (zr.d:Int),.int .u64 (zs.a:Int),.int .u64 (zs.b:Int),.int .u64 (zs.c:Int),.int .u64 (zs.d:Int),.int .i64 (c.toNat:Int)] _ _ hY
   replace hX:=(qbk w5 (show w.heap.size≠N by omega) #[.int .u64 (zr.a:Int),.int .u64 (zr.b:Int),.int .u64 (zr.c:Int),.int .u64 (zr.d:Int),.int .u64 (zs.a:Int),.int .u64 (zs.b:Int),.int .u64 (zs.c:Int),.int .u64 (zs.d:Int),.int .i64 (c.toNat:Int)]).trans hX
   replace hB:=qak hB (show w.heap.size≤N by omega) #[.int .u64 (zr.a:Int),.int .u64 (zr.b:Int),.int .u64 (zr.c:Int),.int .u64 (zr.d:Int),.int .u64 (zs.a:Int),.int .u64 (zs.b:Int),.int .u64 (zs.c:Int),.int .u64 (zs.d:Int),.int .i64 (c.toNat:Int)]
   generalize w5.setRow N #[.int .u64 (zr.a:Int),.int .u64 (zr.b:Int),.int .u64 (zr.c:Int),.int .u64 (zr.d:Int),.int .u64 (zs.a:Int),.int .u64 (zs.b:Int),.int .u64 (zs.c:Int),.int .u64 (zs.d:Int),.int .i64 (c.toNat:Int)]=w11 at hYn hX hB ⊢
   clear hY
   have hY:=hYn
   clear hYn
   refine hK.out _ _ Mn (fun hMeets=>?_)
   clear hK K hMeets
   refine lay_R ?_
   refine qa7 (by kernel_rfl) ?_ _
 case' o10 =>
  have hbb:Below WD.heap.size WD (WD.alloc (.cells #[.int .u64 0,.int .u64 0,.int .u64 0,.int .u64 0,.int .u64 0,.int .u64 0,.int .u64 0,.int .u64 0,.int .i64 0] 26)):=(Below.refl _ _).alloc qn _
  have hY:=heap_alloc_new WD (.cells #[.int .u64 0,.int .u64 0,.int .u64 0,.int .u64 0,.int .u64 0,.int .u64 0,.int .u64 0,.int .u64 0,.int .i64 0] 26)
  have hlX:=(qg hX)
  replace hX:=(hbb.block _ (qg hX)).trans hX
  replace hB:=qab hB hB.size hbb
  go_simp
  obtain ⟨N,hN⟩:∃ N,WD.heap.size=N:=⟨_,rfl⟩
  rw [hN] at hY hlX ⊢
  generalize WD.alloc (.cells #[.int .u64 0,.int .u64 0,.int .u64 0,.int .u64 0,.int .u64 0,.int .u64 0,.int .u64 0,.int .u64 0,.int .i64 0] 26)=w10 at hY hX hB ⊢
  clear hbb hN
  refine hK.out _ _ Mn (fun hMeets=>?_)
  clear hK K hMeets
  refine lay_R ?_
  refine R_now 2 fun K hK=>?_
  go_simp
  refine (HF1.out _).mono ?_
  rintro e w2 ⟨rfl,hb2⟩
  replace hX:=(hb2.block _ (qg hX)).trans hX
  replace hB:=qab hB hB.size hb2
  replace hY:=(hb2.block _ (qg hY)).trans hY
  clear hb2
  refine hK.out _ _ Mn (fun hMeets=>?_)
  clear hK K hMeets
  refine lay_R ?_
  refine R_now 5 fun K hK=>?_
  go_simp
  refine (HF2.out _).mono ?_
  rintro e w5 ⟨rfl,hb5⟩
  replace hX:=(hb5.block _ (qg hX)).trans hX
  replace hB:=qab hB hB.size hb5
  replace hY:=(hb5.block _ (qg hY)).trans hY
  clear hb5
  refine hK.out _ _ Mn (fun hMeets=>?_)
  clear hK K hMeets
  refine lay_R ?_
  refine R_p (i:=9) (v:=.agg #[.int .u64 (zr.a:Int),.int .u64 (zr.b:Int),.int .u64 (zr.c:Int),.int .u64 (zr.d:Int),.int .u64 (zs.a:Int),.int .u64 (zs.b:Int),.int .u64 (zs.c:Int),.int .u64 (zs.d:Int),.int .i64 (c.toNat:Int)]) Mn ?_
  refine R_now 11 fun K hK=>?_
  refine qdo (by rfl) ?_
  refine wp_store_row _ _ _ rfl N #[.int .u64 (zr.a:Int),.int .u64 (zr.b:Int),.int .u64 (zr.c:Int),.int .u64 (zr.d:Int),.int .u64 (zs.a:Int),.int .u64 (zs.b:Int),.int .u64 (zs.c:Int),.int .u64 (zs.d:Int),.int .i64 (c.toNat:Int)] rfl rfl _ #[.int .u64 0,.int .u64 0,.int .u64 0,.int .u64 0,.int .u64 0,.int .u64 0,.int .u64 0,.int .u64 0,.int .i64 0] hY qbv rfl (one9 _ _ _ _ _ _ _ _ _) ?_
  have hYn:=setRow_heap w5 N _ #[.int .u64 (zr.a:Int),.int .u64 (zr.b:Int),.int .u64 (zr.c:Int),.int .u64 (zr.d:Int),.int .u64 (zs.a:Int),.int .u64 (zs.b:Int),.int .u64 (zs.c:Int),.int .u64 (zs.d:Int),.int .i64 (c.toNat:Int)] _ _ hY
  replace hX:=(qbk w5 (show w.heap.size≠N by omega) #[.int .u64 (zr.a:Int),.int .u64 (zr.b:Int),.int .u64 (zr.c:Int),.int .u64 (zr.d:Int),.int .u64 (zs.a:Int),.int .u64 (zs.b:Int),.int .u64 (zs.c:Int),.int .u64 (zs.d:Int),.int .i64 (c.toNat:Int)]).trans hX
  replace hB:=qak hB (show w.heap.size≤N by omega) #[.int .u64 (zr.a:Int),.int .u64 (zr.b:Int),.int .u64 (zr.c:Int),.int .u64 (zr.d:Int),.int .u64 (zs.a:Int),.int .u64 (zs.b:Int),.int .u64 (zs.c:Int),.int .u64 (zs.d:Int),.int .i64 (c.toNat:Int)]
  generalize w5.setRow N #[.int .u64 (zr.a:Int),.int .u64 (zr.b:Int),.int .u64 (zr.c:Int),.int .u64 (zr.d:Int),.int .u64 (zs.a:Int),.int .u64 (zs.b:Int),.int .u64 (zs.c:Int),.int .u64 (zs.d:Int),.int .i64 (c.toNat:Int)]=w11 at hYn hX hB ⊢
  clear hY
  have hY:=hYn
  clear hYn
  refine hK.out _ _ Mn (fun hMeets=>?_)
  clear hK K hMeets
  refine lay_R ?_
  refine qa7 (by kernel_rfl) ?_ _
 all_goals (
  have HX:=qh hX
  have HY:=qh hY
  have HB:=qh hB
  clear hX hY hB
  go_wp2_with (refine wpList_load_row rfl _ _ rfl N rfl _ _ _ _ HY.out Tryz.underlying26 rfl qbv ?_)
  refine (HRT.out _).mono ?_
  rintro e w6 ⟨rfl,hb6⟩
  have HX6:=qh ((hb6.block _ (qg HX.out)).trans HX.out)
  have HY6:=qh ((hb6.block _ (qg HY.out)).trans HY.out)
  have HB6:=qh (qab HB.out HB.out.size hb6)
  clear hb6
  cases ok with
  | false =>
   go_wp2_with (refine wpList_store_row rfl _ _ _ rfl w.heap.size #[.int .u64 0,.int .u64 0,.int .u64 0,.int .u64 0,.int .u64 0,.int .u64 0,.int .u64 0,.int .u64 0,.int .i64 0] rfl rfl _ _ HX6.out qbv rfl one9Z ?_)
   rw [HCS.out,HNO.out]
   exact bodyPost_ret (v:=.tuple #[.agg #[.int .u64 0,.int .u64 0,.int .u64 0,.int .u64 0,.int .u64 0,.int .u64 0,.int .u64 0,.int .u64 0,.int .i64 0],.int .i64 4]) (qah rfl _ _ w.heap.size _ _ _ _ rfl (setRow_heap _ _ _ _ _ _ HX6.out) _ rfl Tryz.underlying26 rfl qbv) rfl ⟨rfl,qak HB6.out qn _⟩
  | true =>
   go_wp2_with (first | (refine wpList_load_row rfl _ _ rfl N rfl _ _ _ _ HY6.out Tryz.underlying26 rfl qbv ?_) | (refine wpList_store_row rfl _ _ _ rfl w.heap.size #[.int .u64 (zr.a:Int),.int .u64 (zr.b:Int),.int .u64 (zr.c:Int),.int .u64 (zr.d:Int),.int .u64 (zs.a:Int),.int .u64 (zs.b:Int),.int .u64 (zs.c:Int),.int .u64 (zs.d:Int),.int .i64 (c.toNat:Int)] rfl rfl _ _ HX6.out qbv rfl (one9 _ _ _ _ _ _ _ _ _) ?_))
   rw [HCS.out,HNO.out]
   exact bodyPost_ret (v:=.tuple #[.agg #[.int .u64 (zr.a:Int),.int .u64 (zr.b:Int),.int .u64 (zr.c:Int),.int .u64 (zr.d:Int),.int .u64 (zs.a:Int),.int .u64 (zs.b:Int),.int .u64 (zs.c:Int),.int .u64 (zs.d:Int),.int .i64 (c.toNat:Int)],.int .i64 0]) (qah rfl _ _ w.heap.size _ _ _ _ rfl (setRow_heap _ _ _ _ _ _ HX6.out) _ rfl Tryz.underlying26 rfl qbv) rfl ⟨rfl,qak HB6.out qn _⟩)
theorem qqm (s:Bytes) (w:World):Calls Tryz.prog 48 #[.string (bs s)] w fun e w'=>e=.returned (.tuple #[.agg #[.int .u64 ((sfromP s).1.r.a:Int),.int .u64 ((sfromP s).1.r.b:Int),.int .u64 ((sfromP s).1.r.c:Int),.int .u64 ((sfromP s).1.r.d:Int),.int .u64 ((sfromP s).1.s.a:Int),.int .u64 ((sfromP s).1.s.b:Int),.int .u64 ((sfromP s).1.s.c:Int),.int .u64 ((sfromP s).1.s.d:Int),.int .i64 (sfromP s).1.v],.int .i64 (sfromP s).2])∧Below w.heap.size w w':=by
 by_cases hl:s.length=65
 ·obtain ⟨c,hc⟩:∃ c,s[64]? = some c:=qal (by omega)
  have hcd:s.getD 64 0=c:=by rw [List.getD_eq_getElem?_getD,hc];rfl
  have hsg:sgOf s=⟨uOf (s.take 32),uOf ((s.drop 32).take 32),(c.toNat:Int)⟩:=by unfold sgOf;rw [hcd]
  have h:=qsp s c hl hc _ _ rfl rfl (qjy _) (qjy _) _ rfl _ _ rfl rfl w
  rw [← hsg] at h
  unfold sfromP
  cases hk:okSg (sgOf s) with
  | true=>rw [if_pos ⟨hl,rfl⟩,hsg];rw [hk] at h;exact h
  | false=>rw [if_neg (fun h=>by cases h.2)];rw [hk] at h;exact h
 ·have h:=qp8 s (by rw [beq_eq_false_iff_ne];omega) w
  unfold sfromP
  rw [if_neg (fun h=>hl h.1)]
  exact h
end Go.Proofs.YteoednifdpdbnaaGreat
