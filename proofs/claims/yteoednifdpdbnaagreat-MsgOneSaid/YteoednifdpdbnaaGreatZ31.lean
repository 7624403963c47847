/- The walk of sha.spread. -/
import Derived.Test.YteoednifdpdbnaaGreatZ30
import Derived.OwnWalk
import Derived.Test.YteoednifdpdbnaaGreatZ02
namespace Go.Proofs.YteoednifdpdbnaaGreat
set_option linter.unusedVariables false
set_option linter.unusedSimpArgs false
open Go.RowKit
set_option maxHeartbeats 4000000
set_option maxRecDepth 100000
open Go.RowKit Go.Shelf
theorem cellW {w0 w:World} {L:List Blk} {k g:Nat} {l:List W32} {t:TypeId} (hM:Mem w0 w L) (hk:L[k]? = some (g,wwC l,t)) {i:Nat} (hi:i < l.length):w.cell? ⟨g,i,none⟩=some (.int .u32 (ww (l.getD i 0))):=rc (hM.at_ hk) i (qhs hi)
theorem freeW {w0 w:World} {L:List Blk} {k g:Nat} {l:List W32} {t:TypeId} (hM:Mem w0 w L) (hk:L[k]? = some (g,wwC l,t)) (i:Nat):w.frozen? ⟨g,i,none⟩=false:=rf (hM.at_ hk) i
theorem Mem.setW {w0 w:World} {L L':List Blk} {k g:Nat} {l:List W32} {t:TypeId} (hM:Mem w0 w L) (hk:L[k]? = some (g,wwC l,t)) (i:Nat) (v:W32) (hL:L.set k (g,wwC (l.set i v),t)=L'):Mem w0 (w.setCell ⟨g,i,none⟩ (.int .u32 (ww v))) L':=hM.setCell hk i _ (by rw [wwC_set];exact hL)
theorem qou (b:Bytes):baseS b 0=List.replicate 64 0:=by
 unfold baseS;rw [qj5];simp [List.map_const']
theorem qkr (b:Bytes) (t:Nat):(baseS b t).length=64:=qb0 _ _ _ _
theorem baseS_at (b:Bytes) {t:Nat} (h:t < 64):(baseS b t).getD t 0=0:=by
 unfold baseS;rw [List.getD_eq_getElem?_getD,qfi h];simp
def midS (b:Bytes) (t i:Nat):List W32:=(baseS b t).set t (wordI b t i)
theorem qq2 (b:Bytes) {t:Nat} (h:t < 64):midS b t 0=baseS b t:=by
 have e:=qn4 (baseS b t) t 0
 rw [baseS_at b h] at e
 exact e
theorem midS_all (b:Bytes) (t:Nat):midS b t 4=baseS b (t+1):=qdz
theorem midS_len (b:Bytes) (t i:Nat):(midS b t i).length=64:=by simp [midS,qkr]
theorem midS_get (b:Bytes) {t:Nat} (i:Nat) (h:t < 64):(midS b t i).getD t 0=wordI b t i:=by
 unfold midS;rw [List.getD_eq_getElem?_getD,List.getElem?_set];simp [qkr,h]
theorem midS_set (b:Bytes) (t i:Nat):(midS b t i).set t (wordI b t i <<< 8 ||| BitVec.ofNat 32 (b.getD (4 * t+i) 0).toNat)=midS b t (i+1):=by
 unfold midS;rw [List.set_set];rfl
@[go_sem] theorem shl8 (a:W32):ww a * (256:Int) % (4294967296:Int)=ww (a <<< 8):=by rw [← shl_ww,wrap_u32'];rfl
@[go_sem] theorem shr3 (a:W32):ww a / (8:Int)=ww (a >>> 3):=by rw [← shr_ww];rfl
@[go_sem] theorem shr10 (a:W32):ww a / (1024:Int)=ww (a >>> 10):=by rw [← shr_ww];rfl
theorem turnB (x:W32) (k:Nat) (h0:1≤k) (hk:k < 32) (w:World):Calls Tryz.prog 274 #[.int .u32 (ww x),.int .i64 (k:Int)] w fun e w'=>e=.returned (.int .u32 (ww (rotr x k)))∧Below w.heap.size w w' :=
 Calls.mono (qtt x k h0 hk w) fun e w' ⟨h1,h2⟩=>⟨h1,by rw [h2];exact Below.refl _ _⟩
theorem qo4 (b:Bytes) (hb:b.length=64) (w:World):Calls Tryz.prog 272 #[.string (bs b)] w fun e w'=>e=.returned (.agg (wwC (spreadS b 48)))∧Below w.heap.size w w':=by
 have hM:=Mem.nil w
 have HBL:=qh hb
 clear hb
 go_enter Tryz.func272,Tryz.ntmps272
 go_wp2_with (first
  | (refine qaj 2 rfl hM rfl (qk5 rfl) ?_;clear hM;intro w' g2 hM)
  | (refine qaj 3 rfl hM rfl (qk5 rfl) ?_;clear hM;intro w' g3 hM))
 rename_i w1 w2 K0 hK0
 go_loopw [4,5,11,14] (fun _ _ x _ wr=>∃ t:Nat,t≤16∧x=.int .i64 t∧Mem w wr [(g3,wwC (baseS b t),334),(g2,wwC (List.replicate 64 0),334)]) (fun _ _ x _ _=>16 - (intOf x).toNat)
 case atStart=>exact ⟨0,by omega,rfl,by rw [qou];exact hM⟩
 case round =>
  clear hM
  obtain ⟨t,ht,rfl,hM⟩:=hrel
  by_cases hlt:t < 16
  ·as_aux_lemma =>
   have hlt':(t:Int) < 16:=by omega
   go_wp2_with fail
   obtain ⟨wo,rfl⟩:∃ wo:World,wo=wr:=⟨_,rfl⟩
   go_loopw [5,14] (fun _ y wr=>∃ i:Nat,i≤4∧y=.int .i64 i∧Mem w wr [(g3,wwC (midS b t i),334),(g2,wwC (List.replicate 64 0),334)]) (fun _ y _=>4 - (intOf y).toNat)
   case atStart=>exact ⟨0,by omega,rfl,by rw [qq2 b (by omega)];exact hM⟩
   case round =>
    clear hM
    obtain ⟨i,hi,rfl,hM⟩:=hrel
    by_cases hlt2:i < 4
    ·as_aux_lemma =>
     have hlt2':(i:Int) < 4:=by omega
     go_wp2_with fail
     refine qeb 14 (by kernel_rfl) (by kernel_rfl) ?_
     intro w2 hw2
     replace hM:=hw2 ▸ hM.drew
     clear hw2
     have hck:4 * t+i < b.length:=by rw [HBL.out];omega
     have c0:=cellW hM at0 (i:=t) (by rw [midS_len];omega)
     rw [midS_get b i (by omega)] at c0
     have f0:=freeW hM at0 t
     have hms:=midS_set b t i
     obtain ⟨c,hc⟩:∃ c,b[4 * t+i]? = some c:=⟨_,List.getElem?_eq_getElem hck⟩
     rw [show b.getD (4 * t+i) 0=c by rw [List.getD_eq_getElem?_getD,hc];rfl] at hms
     obtain ⟨m,hm⟩:∃ m,4 * t+i=m:=⟨_,rfl⟩
     have hcm:m < b.length:=by omega
     have hcc:b[m]=c:=by subst hm;exact (List.getElem?_eq_some_iff.1 hc).2
     obtain ⟨v,hv⟩:∃ v,wordI b t i=v:=⟨_,rfl⟩
     rw [hv] at c0 hms
     obtain ⟨u,hu⟩:∃ u:W32,BitVec.ofNat 32 c.toNat=u:=⟨_,rfl⟩
     rw [hu] at hms
     have p6:IntKind.u32.wrap (c.toNat:Int)=ww u:=by
      rw [← hu,ww_of _ (by have:=c.toNat_lt;omega),IntWalk.u32_in _ (by have:=c.toNat_lt;omega)]
     have b1:(t:Int) < 64:=by omega
     have p1:IntKind.i64.wrap (4 * (t:Int))=4 * (t:Int):=IntWalk.i64_in _ (by omega)
     have p2:IntKind.i64.wrap (4 * (t:Int)+i)=(m:Int):=by rw [IntWalk.i64_in _ (by omega)];omega
     have p4:(m:Int) < (b.length:Int):=by omega
     have HM:=qh hM
     have HS:=qh hms
     clear hM hms hv hu hc hm
     intro R hR
     simp only [List.take_succ_cons,List.take_zero]
     repeat (first | go_big_quiet_skip | (go_big_quiet_want;go_big_quiet_op;go_big_quiet_on))
     refine wpQuiet_nil (hR _ ?_)
     clear hR R
     simp only [List.drop_succ_cons,List.drop_zero]
     go_wp2_with fail
     go_roundw
     case rel =>
      refine ⟨i+1,by omega,by go_num,?_⟩
      have:=HM.out.setW at0 t (v <<< 8 ||| u) rfl
      rw [HS.out] at this
      exact this
     case measure=>simp [intOf];omega
    ·as_aux_lemma =>
     obtain rfl:i=4:=by omega
     rw [midS_all] at hM
     go_wp2_with fail
     go_roundw
     case rel=>exact ⟨t+1,by omega,by go_num,hM⟩
     case measure=>simp [intOf];omega
  ·as_aux_lemma =>
   obtain rfl:t=16:=by omega
   go_wp2_with fail
   obtain ⟨wo,rfl⟩:∃ wo:World,wo=wr:=⟨_,rfl⟩
   go_loopw [6,7,8,9,10] (fun x _ _ _ _ wr=>∃ k:Nat,k≤48∧x=.int .i64 ((16+k:Nat):Int)∧Mem w wr [(g3,wwC (spreadS b k),334),(g2,wwC (List.replicate 64 0),334)]) (fun x _ _ _ _ _=>64 - (intOf x).toNat)
   case atStart=>exact ⟨0,by omega,rfl,hM⟩
   case round =>
    clear hM
    obtain ⟨k,hk,rfl,hM⟩:=hrel
    have hsl:=qfg b k
    by_cases hlt2:k < 48
    ·as_aux_lemma =>
     have hlt2':((16+k:Nat):Int) < 64:=by omega
     obtain ⟨n,hn⟩:∃ n,16+k=n:=⟨_,rfl⟩
     rw [hn] at hlt2' ⊢
     have c0:=cellW hM at0 (i:=k) (by omega)
     have c1:=cellW hM at0 (i:=k+1) (by omega)
     have c9:=cellW hM at0 (i:=k+9) (by omega)
     have c14:=cellW hM at0 (i:=k+14) (by omega)
     have cn:=cellW hM at0 (i:=n) (by omega)
     have fn:=freeW hM at0 n
     have hnx:nextW (spreadS b k) k=(spreadS b k).getD k 0+sig0 ((spreadS b k).getD (k+1) 0)+(spreadS b k).getD (k+9) 0+sig1 ((spreadS b k).getD (k+14) 0):=rfl
     have hst:(spreadS b k).set (16+k) (nextW (spreadS b k) k)=spreadS b (k+1):=rfl
     rw [hnx,hn] at hst
     obtain ⟨S,hS⟩:∃ S,spreadS b k=S:=⟨_,rfl⟩
     simp only [hS] at c0 c1 c9 c14 cn hM hst hsl
     obtain ⟨x0,h0⟩:∃ x,S.getD k 0=x:=⟨_,rfl⟩
     obtain ⟨x1,h1⟩:∃ x,S.getD (k+1) 0=x:=⟨_,rfl⟩
     obtain ⟨x9,h9⟩:∃ x,S.getD (k+9) 0=x:=⟨_,rfl⟩
     obtain ⟨x14,h14⟩:∃ x,S.getD (k+14) 0=x:=⟨_,rfl⟩
     rw [h0] at c0 hst
     rw [h1] at c1 hst
     rw [h9] at c9 hst
     rw [h14] at c14 hst
     have p0:IntKind.i64.wrap ((n:Int) - 16)=(k:Int):=by rw [IntWalk.i64_in _ (by omega)];omega
     have p1:IntKind.i64.wrap ((n:Int) - 15)=((k+1:Nat):Int):=by rw [IntWalk.i64_in _ (by omega)];omega
     have p9:IntKind.i64.wrap ((n:Int) - 7)=((k+9:Nat):Int):=by rw [IntWalk.i64_in _ (by omega)];omega
     have p14:IntKind.i64.wrap ((n:Int) - 2)=((k+14:Nat):Int):=by rw [IntWalk.i64_in _ (by omega)];omega
     obtain ⟨k1,e1⟩:∃ m,k+1=m:=⟨_,rfl⟩
     obtain ⟨k9,e9⟩:∃ m,k+9=m:=⟨_,rfl⟩
     obtain ⟨k14,e14⟩:∃ m,k+14=m:=⟨_,rfl⟩
     rw [e1] at c1 p1
     rw [e9] at c9 p9
     rw [e14] at c14 p14
     have b0:(k:Int) < 64:=by omega
     have b1:(k1:Int) < 64:=by omega
     have b9:(k9:Int) < 64:=by omega
     have b14:(k14:Int) < 64:=by omega
     have t7:∀ w,Calls Tryz.prog 274 #[.int .u32 (ww x1),.int .i64 7] w fun e w'=>e=.returned (.int .u32 (ww (rotr x1 7)))∧Below w.heap.size w w':=fun w=>turnB x1 7 (by decide) (by decide) w
     have t18:∀ w,Calls Tryz.prog 274 #[.int .u32 (ww x1),.int .i64 18] w fun e w'=>e=.returned (.int .u32 (ww (rotr x1 18)))∧Below w.heap.size w w':=fun w=>turnB x1 18 (by decide) (by decide) w
     have t17:∀ w,Calls Tryz.prog 274 #[.int .u32 (ww x14),.int .i64 17] w fun e w'=>e=.returned (.int .u32 (ww (rotr x14 17)))∧Below w.heap.size w w':=fun w=>turnB x14 17 (by decide) (by decide) w
     have t19:∀ w,Calls Tryz.prog 274 #[.int .u32 (ww x14),.int .i64 19] w fun e w'=>e=.returned (.int .u32 (ww (rotr x14 19)))∧Below w.heap.size w w':=fun w=>turnB x14 19 (by decide) (by decide) w
     have HM:=qh hM
     have HS:=qh hst
     have HN:=qh hn
     have HE:=qh (And.intro e1 (And.intro e9 e14))
     have HSL:=qh hsl
     have HX:=qh (And.intro h0 (e9 ▸ h9))
     clear hM hst hS h0 h1 h9 h14 hn e1 e9 e14 hnx hsl
     go_wp2_with fail
     go_quiet (fail)
     rename_i nq
     have hM:Mem w (wr.drewN nq) _:=⟨qb1 HM.out.below nq,HM.out.rows,HM.out.apart⟩
     generalize wr.drewN nq=w3 at hM ⊢
     go_wp2_with (first
      | (refine qak 46 rfl hM rfl rfl qe0 (al:=[.int .u32 (ww x1),.int .i64 7]) (t7 _) rfl ?_;clear hM;intro w' hM)
      | (refine qak 48 rfl hM rfl rfl qe0 (al:=[.int .u32 (ww x1),.int .i64 18]) (t18 _) rfl ?_;clear hM;intro w' hM)
      | (refine qak 54 rfl hM rfl rfl qe0 (al:=[.int .u32 (ww x14),.int .i64 17]) (t17 _) rfl ?_;clear hM;intro w' hM)
      | (refine qak 56 rfl hM rfl rfl qe0 (al:=[.int .u32 (ww x14),.int .i64 19]) (t19 _) rfl ?_;clear hM;intro w' hM))
     refine qeb 15 (by kernel_rfl) (by kernel_rfl) ?_
     intro w2 hw2
     replace hM:=hw2 ▸ hM.drew
     clear hw2
     have c0:=rc (hM.at_ at0) k (qhs (by have:=HN.out;have:=HSL.out;omega))
     have c9:=rc (hM.at_ at0) k9 (qhs (by have:=HE.out.2.1;have:=HSL.out;omega))
     have cn:=rc (hM.at_ at0) n (qhs (by have:=HN.out;have:=HSL.out;omega))
     have fn:=freeW hM at0 n
     rw [HX.out.1] at c0
     rw [HX.out.2] at c9
     have HM:=qh hM
     clear hM
     intro R hR
     simp only [List.take_succ_cons,List.take_zero]
     repeat (first | go_big_quiet_skip | (go_big_quiet_want;go_big_quiet_op;go_big_quiet_on))
     refine wpQuiet_nil (hR _ ?_)
     clear hR R
     simp only [List.drop_succ_cons,List.drop_zero]
     go_wp2_with fail
     go_roundw
     case rel =>
      refine ⟨k+1,by omega,by have:=HN.out;go_num,?_⟩
      have:=HM.out.setW at0 n (x0+sig0 x1+x9+sig1 x14) rfl
      rw [HS.out] at this
      exact this
     case measure=>simp [intOf];omega
    ·as_aux_lemma =>
     obtain rfl:k=48:=by omega
     obtain ⟨S,hS⟩:∃ S,spreadS b 48=S:=⟨_,rfl⟩
     rw [hS] at hM hsl
     have HSS:=qh hS
     have e64:((16+48:Nat):Int)=64:=rfl
     rw [e64]
     have hn64:(wwC S).size=64:=by rw [qa8];exact hsl
     clear hS e64 hsl
     go_wp2_with (first
      | (refine qai hM rfl rfl ty64 rfl (by exact hat) hn64 ?_)
      | (refine qae hM rfl rfl ty64 rfl rfl (by exact hau) hn64 (by rw [qa8];rfl) (qcu S) ?_;clear hM;intro w' hM))
     refine res_c hM rfl ty64 rfl (by exact hat) hn64 rfl ?_
     exact ⟨by rw [HSS.out],hM.below⟩
end Go.Proofs.YteoednifdpdbnaaGreat
