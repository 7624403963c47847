/- The walk of keccak.Sum. -/
import Derived.Test.YteoednifdpdbnaaGreatZ12
import Derived.Test.YteoednifdpdbnaaGreatZ02
import Derived.OwnWalk
namespace Go.Proofs.YteoednifdpdbnaaGreat
set_option linter.unusedVariables false
set_option linter.unusedSimpArgs false
open Go.RowKit
set_option maxHeartbeats 4000000
set_option maxRecDepth 100000
/-- a block of bytes -/
def bytesC (l:Bytes):Array Value:=(l.map cellB).toArray
def BRow (w:World) (g:Nat) (l:Bytes) (e:TypeId):Prop:=w.heap[g]? = some (.cells (bytesC l) e (0,0))
section
variable {w w':World} {g:Nat} {l:Bytes} {e:TypeId}
theorem BRow.at_ (h:BRow w g l e) {i:Nat} (hi:i < l.length):w.cell? ⟨g,i,none⟩=some (.int .u8 ((l.getD i 0).toNat:Int)):=by
 rw [cell_of_row _ _ _ _ _ _ h];simp [bytesC,cellB,hi]
theorem BRow.free (h:BRow w g l e) (i:Nat):w.frozen? ⟨g,i,none⟩=false:=by simp [World.frozen?,show w.heap[g]? = _ from h]
theorem BRow.set (h:BRow w g l e) (i:Nat) (v:UInt8):BRow (w.setCell ⟨g,i,none⟩ (.int .u8 (v.toNat:Int))) g (l.set i v) e:=by
 have:=qaa h (i:=i) (.int .u8 (v.toNat:Int))
 show _=_
 rw [this];simp [bytesC,List.map_set,cellB]
theorem BRow.lies (h:BRow w g l e):Lies Any w (some ⟨g,0,none⟩) (l.map cellB):=qcn h (fun j u hj=>by simpa [bytesC] using hj)
end
theorem or128 (m:Nat) (h:m < 256):bits .or .u8 (m:Int) 128=((m ||| 128:Nat):Int):=by
 have:∀ m:Nat,m < 256→bits .or .u8 (m:Int) 128=((m ||| 128:Nat):Int):=by decide +kernel
 exact this m h
theorem qo7 (n:Nat):madeCells #[.int .u8 0] n=bytesC (List.replicate n 0):=by
 apply Array.toList_inj.1
 rw [toList_madeCells_one]
 simp [bytesC,cellB]
theorem infoB:(Tryz.prog.info? 5).map (fun i=>(i.zero,i.size,i.bytes))=some (some (.int .u8 0),1,1):=by kernel_rfl
theorem qg2 (n:Nat) (h:n≤1000000) (w:World):(Instr.makeSlice 97 (.int .i64 n) (.int .i64 n)).run Tryz.prog w=.ok (.slice (some ⟨w.heap.size,0,none⟩) n n) (w.alloc (.cells (bytesC (List.replicate n 0)) 5)):=by
 obtain ⟨i,hi,hz,hs,hb⟩:=info_parts infoB
 have:=run_make (P:=Tryz.prog) w 97 5 i (.int .u8 0) Tryz.underlying97 hi hz .i64 .i64 (n:Int) (n:Int) (by omega) (Int.le_refl _) (by rw [hb];omega) (by omega)
 rw [this,hs,Int.toNat_natCast,Nat.mul_one,← qo7]
 rfl
theorem qmt:ElemOk Tryz.prog 97 5 (.int .u8 0) 1 1:=⟨Tryz.underlying97,by kernel_rfl,rfl,by omega⟩
theorem qsu {a:List W64} {i k:Nat} {v:W64} (hk:k < 8) (hv:a.getD i 0=v):Value.int .u8 (wv (v >>> (8 * k)) % 256)=cellB (outK a (8 * i+k)):=by
 unfold outK wv
 rw [show (8 * i+k) / 8=i by omega,show (8 * i+k) % 8=k by omega,hv]
 exact qn7 _
theorem qt1 (a:List W64) (n:Nat):((List.range (n+1)).map (outK a)).map cellB=((List.range n).map (outK a)).map cellB ++ [cellB (outK a n)]:=by
 rw [List.range_succ];simp
theorem ne_own {w:World} {base:Nat} {e:TypeId} {size:Nat} {v:Value} {n:Nat} {xs:List Value} (h:w.ownsRow base e size v n xs) {g:Nat} (hg:g < base):some g≠v.ownBlock:=fun e1=>by
 have:=(h.lt g e1.symm).1;omega
theorem qmy (s:Bytes) (hs:s.length < 4611686018427387904) (w:World) :
  Calls Tryz.prog 44 #[.string (bs s)] w fun e w'=>e=.returned (.string (bs (sumK s)))∧Below w.heap.size w w':=by
 obtain ⟨n,hn⟩:∃ n,padN s=n:=⟨_,rfl⟩
 obtain ⟨hn1,hn2⟩:=padN_lt s
 have hnI:(136:Int) - ((s.length:Int) % 136)=(n:Int):=by unfold padN at hn;omega
 rw [hn] at hn1 hn2
 obtain ⟨W1,hmk,r0,hbw⟩:∃ W1,(Instr.makeSlice 97 (.int .i64 n) (.int .i64 n)).run Tryz.prog w=.ok (.slice (some ⟨w.heap.size,0,none⟩) n n) W1∧BRow W1 w.heap.size (List.replicate n 0) 5 ∧ Below w.heap.size w W1 :=
  ⟨_,qg2 n (by omega) w,heap_alloc_new w _,(Below.refl _ _).alloc qn _⟩
 have hm2:(s.length:Int) % 136≤135:=by omega
 have hm3:0≤(s.length:Int) % 136:=by omega
 have n1:(0:Int) < (n:Int):=by omega
 have n2:(n:Int)≤136:=by omega
 have n3:(1:Int)≤(n:Int):=by omega
 have c0:=r0.at_ (i:=0) (by simp;omega)
 have f0:=r0.free 0
 have r1:=r0.set 0 1
 have hl1:((List.replicate n (0:UInt8)).set 0 1).length=n:=by simp
 have c1:=r1.at_ (i:=n - 1) (by omega)
 have f1:=r1.free (n - 1)
 obtain ⟨x,hx⟩:∃ x:UInt8,((List.replicate n (0:UInt8)).set 0 1).getD (n - 1) 0=x:=⟨_,rfl⟩
 rw [hx] at c1
 have r2:=r1.set (n - 1) (x ||| 128)
 have ho:=or128 x.toNat x.toNat_lt
 have HT:=qh (show ((List.replicate n (0:UInt8)).set 0 1).set (n - 1) (x ||| 128)=tailK n by rw [← hx];rfl)
 have HN:=qh hn
 rw [HT.out] at r2
 have htl:=ql6 n
 have hcv:=qa3 (P:=Tryz.prog) (c:=n) (src:=97) (dst:=9) Tryz.underlying97 Tryz.underlying5 Tryz.underlying9 r2.lies
 rw [htl] at hcv
 have hbw2:Below w.heap.size w ((W1.setCell ⟨w.heap.size,0,none⟩ (.int .u8 ((1:UInt8).toNat:Int))).setCell ⟨w.heap.size,n - 1,none⟩ (.int .u8 ((x ||| 128).toNat:Int))):=(hbw.setCell (p:=⟨_,_,_⟩) qn _).setCell (p:=⟨_,_,_⟩) qn _
 have ho2:((x ||| 128).toNat:Int)=((x.toNat ||| 128:Nat):Int):=by rw [UInt8.toNat_or];rfl
 have ho1:((1:UInt8).toNat:Int)=1:=rfl
 rw [ho2,ho1] at r2 hcv hbw2
 rw [ho1] at c1 f1
 have nn:((n:Int) - 1).toNat=n - 1:=by omega
 have HR:=qh r2
 clear ho1 ho2 hbw
 have HTL:=qh htl
 obtain ⟨p,hp⟩:∃ p,s ++ tailK n=p:=⟨_,rfl⟩
 have hpk:padK s=p:=by rw [← hp,← HN.out];rfl
 have hnf:(9223372036854775807 < s.length+(tailK n).length)=False:=by rw [htl];simp;omega
 have HPK:=qh hpk
 have hpl:p.length=136 * (s.length / 136+1):=by rw [← hpk];exact padK_len s
 obtain ⟨N,hN⟩:∃ N,s.length / 136+1=N:=⟨_,rfl⟩
 rw [hN] at hpl
 have HPL:=qh hpl
 have HNN:=qh hN
 clear hpk hpl hN
 clear hn hx r0 r1 r2 hl1 htl
 go_enter Tryz.func44,Tryz.ntmps44
 go_wp2_with fail
 have HP:=qh hp
 clear hp hnf hcv ho c0 c1 f0 f1 hmk
 have hba:=hbw2.alloc hbw2.size (.cells (wsC (List.replicate 25 0)) 154)
 have ra:=WRow.new ((W1.setCell ⟨w.heap.size,0,none⟩ (.int .u8 1)).setCell ⟨w.heap.size,n - 1,none⟩ (.int .u8 ((x.toNat ||| 128:Nat):Int))) (List.replicate 25 0) 154
 have hG:w.heap.size≤W1.heap.size:=by have:=hbw2.size;simpa using this
 simp only [World.size_setCell] at ra
 obtain ⟨G,hGe⟩:∃ G,W1.heap.size=G:=⟨_,rfl⟩
 rw [hGe] at ra hG
 rw [hGe]
 rw [qes] at ra hba
 simp only [List.replicate] at ra hba
 clear hbw2 hGe
 go_loopw [0,5,6,33,36] (fun sv _ _ _ _ wr=>∃ j:Nat,j≤N∧sv=.string (bs (p.drop (136 * j)))∧WRow wr G (absK p j) 154 ∧ Below w.heap.size w wr) (fun sv _ _ _ _ _=>match sv with | .string b=>b.size | _=>0)
 case atStart=>exact ⟨0,by omega,by simp,ra,hba⟩
 case round =>
  clear ra hba
  obtain ⟨j,hj,rfl,ra,hb⟩:=hrel
  obtain ⟨q,hq⟩:∃ q,p.drop (136 * j)=q:=⟨_,rfl⟩
  have hql:q.length=136 * N - 136 * j:=by rw [← hq,List.length_drop,HPL.out]
  rw [hq]
  have HQ:=qh hq
  have HQL:=qh hql
  have hal:=absK_len p j
  obtain ⟨a,ha⟩:∃ a,absK p j=a:=⟨_,rfl⟩
  rw [ha] at ra hal
  have HAA:=qh ha
  clear hq ha
  by_cases hlt:j < N
  ·have hne:(q == [])=false:=by rw [beq_eq_false_iff_ne];intro e;rw [e] at hql;simp at hql;omega
   have hq136:136≤q.length:=by omega
   clear hql
   go_wp2_with fail
   obtain ⟨wo,rfl⟩:∃ wo:World,wo=wr:=⟨_,rfl⟩
   have hz:=qj5 25 (xorK a q) (fun i=>a.getD i 0)
   rw [show (25:Nat)=a.length from hal.symm,qiy] at hz
   go_loopw [5,6,33,36] (fun _ _ i _ wr=>∃ k:Nat,k≤17∧i=.int .i64 k∧WRow wr G (tab a.length (xorK a q) (fun i=>a.getD i 0) k) 154 ∧ Below w.heap.size w wr) (fun _ _ i _ _=>17 - (intOf i).toNat)
   case atStart=>exact ⟨0,by omega,rfl,by rw [hz];exact ra,hb⟩
   case round =>
    clear ra hb hz
    obtain ⟨i,hi,rfl,ra,hb⟩:=hrel
    rw [hal] at ra
    by_cases hlt2:i < 17
    ·have hlt2':(i:Int) < 17:=by omega
     go_wp2_with fail
     obtain ⟨wo2,rfl⟩:∃ wo:World,wo=wr:=⟨_,rfl⟩
     go_loopw [6,36] (fun _ k wr=>∃ m:Nat,m≤8∧k=.int .i64 m∧WRow wr G (midK a q i m) 154 ∧ Below w.heap.size w wr) (fun _ k _=>8 - (intOf k).toNat)
     case atStart=>exact ⟨0,by omega,rfl,by rw [qqt _ _ _ (by omega)];exact ra,hb⟩
     case round =>
      clear ra hb
      obtain ⟨k,hk,rfl,ra,hb⟩:=hrel
      by_cases hlt3:k < 8
      ·have hlt3':(k:Int) < 8:=by omega
       go_wp2_with fail
       refine qeb 15 (by kernel_rfl) (by kernel_rfl) ?_
       intro w2 hw2
       replace ra:WRow w2 G (midK a q i k) 154:=by rw [hw2];exact ra.drew
       replace hb:Below w.heap.size w w2:=by rw [hw2];exact hb.drew
       clear hw2
       have hck:8 * i+k < q.length:=by omega
       obtain ⟨c,hc⟩:∃ c,q[8 * i+k]? = some c:=⟨_,List.getElem?_eq_getElem hck⟩
       obtain ⟨m,hm⟩:∃ m,8 * i+k=m:=⟨_,rfl⟩
       have hcm:m < q.length:=by omega
       have hcc:q[m]=c:=by subst hm;exact (List.getElem?_eq_some_iff.1 hc).2
       obtain ⟨m2,hm2⟩:∃ m,8 * k=m:=⟨_,rfl⟩
       obtain ⟨v2,hv2⟩:∃ v2,byteW (q.drop (8 * i)) k=v2:=⟨_,rfl⟩
       have hsh:IntKind.u64.wrap ((c.toNat:Int) * 2 ^ m2)=wv v2:=by
        rw [← hv2,qsq hc,hm2,← shl_w,wv_of _ (by have:=c.toNat_lt;omega)]
       have c0:=ra.at_ (i:=i) (by rw [midK_len];omega)
       rw [midK_get _ _ _ _ (by omega)] at c0
       have f0:=ra.free i
       obtain ⟨v,hv⟩:∃ v,a.getD i 0 ^^^ wpart (q.drop (8 * i)) k=v:=⟨_,rfl⟩
       rw [hv] at c0
       have b1:(i:Int) < 25:=by omega
       have p1:IntKind.i64.wrap (8 * (i:Int))=8 * (i:Int):=IntWalk.i64_in _ (by omega)
       have p2:IntKind.i64.wrap (8 * (i:Int)+k)=(m:Int):=by rw [IntWalk.i64_in _ (by omega)];omega
       have p3:IntKind.i64.wrap (8 * (k:Int))=(m2:Int):=by rw [IntWalk.i64_in _ (by omega)];omega
       have p6:IntKind.u64.wrap (c.toNat:Int)=(c.toNat:Int):=IntWalk.u64_in _ (by have:=c.toNat_lt;omega)
       have p4:(m:Int) < (q.length:Int):=by omega
       have p5:(m2:Int) < 64:=by omega
       have hmn:min m2 64=m2:=by omega
       have HR:=qh ra
       have HB:=qh hb
       have HV:=qh (And.intro hv hv2)
       clear ra hb hv hv2 hc hm2 hm
       intro R hR
       simp only [List.take_succ_cons,List.take_zero]
       repeat (first | go_big_quiet_skip | (go_big_quiet_want;go_big_quiet_op;go_big_quiet_on))
       refine wpQuiet_nil (hR _ ?_)
       clear hR R
       simp only [List.drop_succ_cons,List.drop_zero]
       go_wp2_with fail
       go_roundw
       case rel =>
        refine ⟨k+1,by omega,by go_num,?_,HB.out.setCell (p:=⟨_,_,_⟩) hG _⟩
        have:=HR.out.set i (v ^^^ v2)
        rw [← HV.out.1,← HV.out.2,midK_set] at this
        rw [← HV.out.1,← HV.out.2]
        exact this
       case measure=>simp [intOf];omega
      ·obtain rfl:k=8:=by omega
       rw [midK_all] at ra
       go_wp2_with fail
       go_roundw
       case rel=>exact ⟨i+1,by omega,by go_num,by rw [hal];exact ra,hb⟩
       case measure=>simp [intOf];omega
    ·obtain rfl:i=17:=by omega
     have htk:WRow wr G (takeK a q) 154:=ra
     have htl:=qk0 a q
     have j0:=qkn _ htl
     go_wp2_with (refine wpList_load_row rfl _ _ rfl G rfl _ _ _ _ htk Tryz.underlying154 rfl j0 ?_)
     refine (mix_any _ htl _).mono ?_
     rintro e w3 ⟨rfl,hb3⟩
     have ra3:=htk.keep hb3 htk.lt
     have hb3':Below w.heap.size w w3:=hb.trans (hb3.mono hb.size)
     have j1:=qkn _ (qgz _ htl 24)
     have s1:(wsC (takeK a q)).size=(wsC (mixK (takeK a q) 24)).size:=by rw [qbw,qbw,htl,qgz _ htl]
     have o3:=qif (mixK (takeK a q) 24)
     go_wp2_with (refine wpList_store_row rfl _ _ _ rfl G _ rfl rfl _ _ ra3 j1 s1 o3 ?_)
     have hbs:(bs (List.take (q.length - 136) (List.drop 136 q))).size < (bs q).size:=by rw [size_bs,size_bs,List.length_take,List.length_drop];omega
     have htd:List.take (q.length - 136) (List.drop 136 q)=p.drop (136 * (j+1)):=by
      rw [List.take_of_length_le (by rw [List.length_drop];omega),← HQ.out,List.drop_drop];congr 1
     have HTD:=qh htd
     clear htd
     go_roundw
     case rel =>
      refine ⟨j+1,hlt,?_,?_,qal hb3' hG _⟩
      ·rw [HTD.out]
      ·rw [absK,HAA.out,HQ.out];exact ra3.row _
     case measure=>exact hbs
  ·obtain rfl:j=N:=by omega
   obtain rfl:q = []:=List.eq_nil_of_length_eq_zero (by omega)
   clear hql hlt
   obtain ⟨wo,rfl⟩:∃ wo:World,wo=wr:=⟨_,rfl⟩
   go_wp2_with fail
   have hGl:=ra.lt
   go_loopw [7,8,9,58,61] (fun v _ _ i _ wr=>∃ (k:Nat),k≤4∧i=.int .i64 k∧wr.ownsRow wo.heap.size 5 1 v (8 * k) (((List.range (8 * k)).map (outK a)).map cellB)∧WRow wr G a 154 ∧ Below w.heap.size w wr∧wo.heap.size≤wr.heap.size) (fun _ _ _ i _ _=>4 - (intOf i).toNat)
   case atStart=>exact ⟨0,by omega,rfl,World.ownsRow_nil _ _ _ _,ra,hb,Nat.le_refl _⟩
   case round =>
    clear ra hb
    obtain ⟨i,hi,rfl,hown,ra,hb,hsz⟩:=hrel
    by_cases hlt:i < 4
    ·have hlt':(i:Int) < 4:=by omega
     go_wp2_with fail
     go_loopw [7,9,61] (fun v _ k wr=>∃ (m:Nat),m≤8∧k=.int .i64 m∧wr.ownsRow wo.heap.size 5 1 v (8 * i+m) (((List.range (8 * i+m)).map (outK a)).map cellB)∧WRow wr G a 154 ∧ Below w.heap.size w wr∧wo.heap.size≤wr.heap.size) (fun _ _ k _=>8 - (intOf k).toNat)
     case atStart=>exact ⟨0,by omega,rfl,hown,ra,hb,hsz⟩
     case round =>
      clear hown ra hb hsz
      obtain ⟨k,hk,rfl,hown,ra,hb,hsz⟩:=hrel
      by_cases hlt2:k < 8
      ·have hlt2':(k:Int) < 8:=by omega
       have c0:=ra.at_ (i:=i) (by omega)
       obtain ⟨v,hv⟩:∃ v,a.getD i 0=v:=⟨_,rfl⟩
       rw [hv] at c0
       have hVb:Below wr.heap.size wr (wr.alloc (.cells #[.int .u8 (wv (v >>> (8 * k)) % 256)] 5)):=(Below.refl _ _).alloc qn _
       have hownV:=qa5 hown hVb
       have hnb:=qh (ne_own hown hGl)
       have HC:=qh (qsu (i:=i) hlt2 hv)
       have hal1:=qh (ra.alloc (.cells #[.int .u8 (wv (v >>> (8 * k)) % 256)] 5))
       have hszV:wr.heap.size < (wr.alloc (.cells #[.int .u8 (wv (v >>> (8 * k)) % 256)] 5)).heap.size:=by simp
       have HVB:=qh hVb
       have HBB:=qh hb
       clear hVb hv ra hown hb
       go_wp2_with (at_builtin;refine qa0 qmt rfl rfl wo.heap.size hownV rfl (m:=1) [.int .u8 (wv (v >>> (8 * k)) % 256)] rfl rfl ?_ ?_ ?_ ?_ ?_ ?_;exact (qca wr #[.int .u8 (wv (v >>> (8 * k)) % 256)] _);(intro u hu;rw [List.mem_singleton] at hu;subst hu;rfl);(simp only [maxLen];omega);omega;omega;intro v1 w4 hown1 hg1 hat1)
       go_roundw
       case rel =>
        refine ⟨k+1,by omega,by go_num,?_,(hg1.block G (by omega) hnb.out).trans hal1.out,?_,?_⟩
        ·rw [HC.out] at hown1
         rw [← Nat.add_assoc,qt1]
         exact hown1
        ·exact qa7 (HBB.out.alloc HBB.out.size _) hownV hg1 (by have:=HBB.out.size;simp;omega) (by omega)
        ·have:=hg1.size;omega
       case measure=>simp [intOf];omega
      ·obtain rfl:k=8:=by omega
       go_wp2_with fail
       go_roundw
       case rel=>exact ⟨i+1,by omega,by go_num,by rw [Nat.mul_add];exact hown,ra,hb,hsz⟩
       case measure=>simp [intOf];omega
    ·obtain rfl:i=4:=by omega
     obtain ⟨A1,c1,rfl⟩:=qa4 hown
     have hl:=qdl (S:=Any) hown (fun _ _ _=>trivial)
     have hcv:=qa3 (P:=Tryz.prog) (c:=c1) (src:=97) (dst:=9) (l:=(List.range (8 * 4)).map (outK a)) Tryz.underlying97 Tryz.underlying5 Tryz.underlying9 hl
     rw [show ((List.range (8 * 4)).map (outK a)).length=32 by simp] at hcv
     have hsk:(List.range (8 * 4)).map (outK a)=sumK s:=by
      unfold sumK;rw [HPK.out,HNN.out,HAA.out]
     rw [hsk] at hcv
     have HSK:=qh hsk
     clear hsk hl hown ra
     go_wp2_with fail
     go_ret
     exact ⟨rfl,hb⟩
end Go.Proofs.YteoednifdpdbnaaGreat
