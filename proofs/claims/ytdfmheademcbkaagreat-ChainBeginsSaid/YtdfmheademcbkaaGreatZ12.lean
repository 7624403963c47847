/- The walks of package nibble: Of, right, join, Key, Pack, Share. -/
import Derived.Test.YtdfmheademcbkaaGreatZ11
import Derived.Test.YtdfmheademcbkaaGreatZ05
import Derived.Outline
import Derived.Deep.QuietTactic
import Derived.Deep.DeepMust
namespace Go.Proofs.YtdfmheademcbkaaGreat
set_option linter.unusedVariables false
set_option linter.unusedSimpArgs false
open Go.RowKit
set_option maxHeartbeats 1000000
set_option maxRecDepth 100000
theorem drw {w wr:World} (h:∃ q,wr=w.drewN q) (n:Nat):∃ q,wr.drewN n=w.drewN q:=by
 obtain ⟨q,rfl⟩:=h;exact ⟨q+n,World.drewN_drewN ..⟩
theorem u8_div (c:UInt8):(c.toNat:Int) / 16=((c / 16).toNat:Int):=by rw [UInt8.toNat_div];rfl
theorem u8_mod (c:UInt8):(c.toNat:Int) % 16=((c % 16).toNat:Int):=by rw [UInt8.toNat_mod];rfl
theorem get_all {s:Bytes} {i:Nat} {c:UInt8} (h:s[i]? = some c):∀ hi:i < s.length,s[i]=c:=fun hi=>(List.getElem?_eq_some_iff.1 h).2
theorem getD_of {s:Bytes} {i:Nat} {c:UInt8} (h:s[i]? = some c):s.getD i 0=c:=by rw [List.getD_eq_getElem?_getD,h];rfl
theorem nibOf_any (s:Bytes) (hs:s.length≤100000) (w:World) :
  Calls Tryz.prog 120 #[.string (bs s)] w fun e w'=>e=.returned (.string (bs (nibs s)))∧Below w.heap.size w w':=by
 have hmk0:=mk_bytes (2 * s.length) (by omega) w
 have r0:BRow (w.alloc (.cells (bytesC (List.replicate (2 * s.length) 0)) 5)) w.heap.size (tab (2 * s.length) (nibAt s) (fun _=>0) 0) 5:=by
  have:tab (2 * s.length) (nibAt s) (fun _=>0) 0=List.replicate (2 * s.length) 0:=by rw [tab_zero];apply List.ext_getElem?;intro i;simp [List.getElem?_replicate];split <;> simp_all
  rw [this];exact heap_alloc_new w _
 have hb0:Below w.heap.size w (w.alloc (.cells (bytesC (List.replicate (2 * s.length) 0)) 5)):=(Below.refl _ _).alloc (Nat.le_refl _) _
 have hn2:(2:Int) * s.length=((2 * s.length:Nat):Int):=by omega
 generalize w.alloc (.cells (bytesC (List.replicate (2 * s.length) 0)) 5)=W1 at *
 have HT:=Lib.hid (nibs_tab s)
 obtain ⟨n,hn⟩:∃ n,2 * s.length=n:=⟨_,rfl⟩
 rw [hn] at hn2 hmk0 r0 HT
 have hnl:(n:Int)≤200000:=by omega
 have HN:=Lib.hid hn
 clear hn
 go_enter Tryz.func120,Tryz.ntmps120
 go_wp2_with fail
 clear hmk0 hn2
 go_loopw [12] (fun v wr=>∃ k:Nat,k≤n∧v=.int .i64 k∧BRow wr w.heap.size (tab n (nibAt s) (fun _=>0) k) 5 ∧ Below w.heap.size w wr) (fun v _=>n - (intOf v).toNat)
 case atStart=>exact ⟨0,by omega,rfl,r0,hb0⟩
 case round =>
  clear r0 hb0
  obtain ⟨k,hk,rfl,hr,hb⟩:=hrel
  by_cases hlt:k < n
  ·have hlt':(k:Int) < (n:Int):=by omega
   have c0:=hr.at_ (i:=k) (by rw [tab_len];exact hlt)
   have f0:=hr.free k
   have hm:k / 2 < s.length:=by have:=HN.out;omega
   have hc:s[k / 2]? = some s[k / 2]:=List.getElem?_eq_getElem hm
   obtain ⟨c,hce⟩:∃ c,s[k / 2]=c:=⟨_,rfl⟩
   rw [hce] at hc
   have hnc:nibAt s k=if k % 2=0 then c / 16 else c % 16:=by unfold nibAt;rw [getD_of hc]
   have hk2:(k:Int) / 2=((k / 2:Nat):Int):=by omega
   have hm2:(k:Int) % 2=((k % 2:Nat):Int):=by omega
   have hset:=tab_set (n:=n) (f:=nibAt s) (z:=fun _=>0) (k:=k)
   obtain ⟨z,hz⟩:∃ z,(tab n (nibAt s) (fun _=>0) k).getD k 0=z:=⟨_,rfl⟩
   rw [hz] at c0
   have hcl:=c.toNat_lt
   have HR:=Lib.hid hr
   have HS:=Lib.hid hset
   have HC:=Lib.hid hnc
   have hmI:((k / 2:Nat):Int) < (s.length:Int):=by omega
   have h2:k % 2 < 2:=Nat.mod_lt _ (by omega)
   obtain ⟨m,hmm⟩:∃ m,k / 2=m:=⟨_,rfl⟩
   rw [hmm] at hk2 hmI hc
   have hce':=get_all hc
   obtain ⟨q,hq⟩:∃ q,k % 2=q:=⟨_,rfl⟩
   rw [hq] at hm2 HC h2
   have HM:=Lib.hid hmm
   clear hr hset hnc hc hce hz hmm hq hm
   by_cases hq0:q=0
   ·subst hq0
    go_wp2_with fail
    go_roundw
    case rel =>
     refine ⟨k+1,hlt,by go_num,?_,hb.setCell (p:=⟨_,_,_⟩) (Nat.le_refl _) _⟩
     have:=HR.out.set k (c / 16)
     rw [← HS.out,HC.out,if_pos rfl]
     rw [u8_div];exact this
    case measure=>simp [intOf];omega
   ·obtain rfl:q=1:=by omega
    go_wp2_with fail
    go_roundw
    case rel =>
     refine ⟨k+1,hlt,by go_num,?_,hb.setCell (p:=⟨_,_,_⟩) (Nat.le_refl _) _⟩
     have:=HR.out.set k (c % 16)
     rw [← HS.out,HC.out,if_neg (by omega)]
     rw [u8_mod];exact this
    case measure=>simp [intOf];omega
  ·obtain rfl:k=n:=by omega
   rw [tab_all,HT.out] at hr
   have hcv:=run_bytes_str (P:=Tryz.prog) (c:=k) (src:=92) (dst:=9) Tryz.underlying92 Tryz.underlying5 Tryz.underlying9 hr.lies
   rw [nibs_len,HN.out] at hcv
   clear hr
   go_wp2_with fail
   go_ret
   exact ⟨rfl,hb⟩
theorem right_yes (s:Bytes) (hs:s.length≤1000000) (h:∀ x∈s,x.toNat < 16) (w:World) :
  Calls Tryz.prog 163 #[.string (bs s)] w fun e w'=>e=.returned (.bool true)∧w'=w:=by
 have HH:=Lib.hid h
 clear h
 go_enter Tryz.func163,Tryz.ntmps163
 go_wp2_with fail
 go_loop [6] (fun v=>∃ k:Nat,k≤s.length∧v=.int .i64 k) (fun v=>s.length - (intOf v).toNat)
 case atStart=>exact ⟨0,by omega,rfl⟩
 case round =>
  obtain ⟨k,hk,rfl⟩:=hrel
  by_cases hlt:k < s.length
  ·have hlt':(k:Int) < (s.length:Int):=by omega
   have hc:s[k]? = some s[k]:=List.getElem?_eq_getElem hlt
   obtain ⟨c,hce⟩:∃ c,s[k]=c:=⟨_,rfl⟩
   rw [hce] at hc
   have hce':=get_all hc
   have h16:(c.toNat:Int) < 16:=by have:=HH.out c (List.mem_of_getElem? hc);omega
   clear hc hce
   go_wp2_with fail
   go_round
   case rel=>exact ⟨k+1,by omega,by go_num⟩
   case measure=>simp [intOf];omega
  ·obtain rfl:k=s.length:=by omega
   go_wp2_with fail
   go_ret
   exact ⟨rfl,rfl⟩
theorem join_any (s:Bytes) (hs:s.length≤1000000) (w:World) :
  Calls Tryz.prog 164 #[.string (bs s)] w fun e w'=>e=.returned (.string (bs (joinP s)))∧Below w.heap.size w w':=by
 have hmk0:=mk_bytes (s.length / 2) (by omega) w
 have r0:BRow (w.alloc (.cells (bytesC (List.replicate (s.length / 2) 0)) 5)) w.heap.size (tab (s.length / 2) (joinAt s) (fun _=>0) 0) 5:=by
  have:tab (s.length / 2) (joinAt s) (fun _=>0) 0=List.replicate (s.length / 2) 0:=by rw [tab_zero];apply List.ext_getElem?;intro i;simp [List.getElem?_replicate];split <;> simp_all
  rw [this];exact heap_alloc_new w _
 have hb0:Below w.heap.size w (w.alloc (.cells (bytesC (List.replicate (s.length / 2) 0)) 5)):=(Below.refl _ _).alloc (Nat.le_refl _) _
 have hn2:(s.length:Int) / 2=((s.length / 2:Nat):Int):=by omega
 generalize w.alloc (.cells (bytesC (List.replicate (s.length / 2) 0)) 5)=W1 at *
 have HT:=Lib.hid (join_tab s)
 have HL:=Lib.hid (joinP_len s)
 obtain ⟨n,hn⟩:∃ n,s.length / 2=n:=⟨_,rfl⟩
 rw [hn] at hn2 hmk0 r0 HT HL
 have hnl:(n:Int)≤500000:=by omega
 have HN:=Lib.hid hn
 clear hn
 go_enter Tryz.func164,Tryz.ntmps164
 go_wp2_with fail
 clear hmk0 hn2
 go_loopw [11] (fun v wr=>∃ k:Nat,k≤n∧v=.int .i64 k∧BRow wr w.heap.size (tab n (joinAt s) (fun _=>0) k) 5 ∧ Below w.heap.size w wr) (fun v _=>n - (intOf v).toNat)
 case atStart=>exact ⟨0,by omega,rfl,r0,hb0⟩
 case round =>
  clear r0 hb0
  obtain ⟨k,hk,rfl,hr,hb⟩:=hrel
  by_cases hlt:k < n
  ·have hlt':(k:Int) < (n:Int):=by omega
   go_wp2_with fail
   refine wp_tail 14 (by kernel_rfl) (by kernel_rfl) ?_
   intro w2 hw2
   replace hr:BRow w2 w.heap.size (tab n (joinAt s) (fun _=>0) k) 5:=by rw [hw2];exact hr
   replace hb:Below w.heap.size w w2:=by rw [hw2];exact hb.drew
   clear hw2
   have c0:=hr.at_ (i:=k) (by rw [tab_len];exact hlt)
   have f0:=hr.free k
   have hm1:2 * k < s.length:=by have:=HN.out;omega
   have hm2:2 * k+1 < s.length:=by have:=HN.out;omega
   have hc:s[2 * k]? = some s[2 * k]:=List.getElem?_eq_getElem hm1
   have hd:s[2 * k+1]? = some s[2 * k+1]:=List.getElem?_eq_getElem hm2
   obtain ⟨c,hce⟩:∃ c,s[2 * k]=c:=⟨_,rfl⟩
   obtain ⟨d,hde⟩:∃ c,s[2 * k+1]=c:=⟨_,rfl⟩
   rw [hce] at hc
   rw [hde] at hd
   have hnc:joinAt s k=16 * c+d:=by unfold joinAt;rw [getD_of hc,getD_of hd]
   have hset:=tab_set (n:=n) (f:=joinAt s) (z:=fun _=>0) (k:=k)
   obtain ⟨z,hz⟩:∃ z,(tab n (joinAt s) (fun _=>0) k).getD k 0=z:=⟨_,rfl⟩
   rw [hz] at c0
   have hval:IntKind.u8.wrap (IntKind.u8.wrap ((c.toNat:Int) * 16)+(d.toNat:Int))=((16 * c+d).toNat:Int):=by
    rw [UInt8.toNat_add,UInt8.toNat_mul]
    simp [IntKind.wrap,IntKind.signed,IntKind.bits]
    omega
   have HR:=Lib.hid hr
   have HS:=Lib.hid hset
   have HC:=Lib.hid hnc
   have HV:=Lib.hid hval
   obtain ⟨m,hmm⟩:∃ m,2 * k=m:=⟨_,rfl⟩
   rw [hmm] at hc hd hm1 hm2
   have hce':=get_all hc
   have hde':=get_all hd
   have p1:IntKind.i64.wrap (2 * (k:Int))=(m:Int):=by rw [IntWalk.i64_in _ (by omega)];omega
   have p2:IntKind.i64.wrap ((m:Int)+1)=(m:Int)+1:=IntWalk.i64_in _ (by omega)
   have p3:(m:Int) < (s.length:Int):=by omega
   have p4:(m:Int)+1 < (s.length:Int):=by omega
   have p5:((m:Int)+1).toNat=m+1:=by omega
   have p6:0≤(m:Int)+1:=by omega
   have HB:=Lib.hid hb
   clear hr hset hnc hc hd hce hde hz hmm hval hb
   intro R hR
   simp only [List.take_succ_cons,List.take_zero]
   repeat (first | go_big_quiet_skip | (go_big_quiet_want;go_big_quiet_op;go_big_quiet_on))
   refine wpQuiet_nil (hR _ ?_)
   clear hR R
   simp only [List.drop_succ_cons,List.drop_zero]
   go_wp2_with fail
   go_roundw
   case rel =>
    refine ⟨k+1,hlt,by go_num,?_,HB.out.setCell (p:=⟨_,_,_⟩) (Nat.le_refl _) _⟩
    have:=HR.out.set k (16 * c+d)
    rw [← HS.out,HC.out]
    first
     | exact this
     | (rw [← HV.out] at this;simpa [IntKind.wrap,IntKind.signed,IntKind.bits] using this)
   case measure=>simp [intOf];omega
  ·obtain rfl:k=n:=by omega
   rw [tab_all,HT.out] at hr
   have hcv:=run_bytes_str (P:=Tryz.prog) (c:=k) (src:=92) (dst:=9) Tryz.underlying92 Tryz.underlying5 Tryz.underlying9 hr.lies
   rw [HL.out] at hcv
   clear hr
   go_wp2_with fail
   go_ret
   exact ⟨rfl,hb⟩
theorem Share_drew (a b:Bytes) (ha:a.length≤1000000) (hb:b.length≤1000000) (w:World) :
  Calls Tryz.prog 169 #[.string (bs a),.string (bs b)] w fun e w'=>e=.returned (.int .i64 (shareP a b:Nat))∧∃ q,w'=w.drewN q:=by
 go_enter Tryz.func169,Tryz.ntmps169
 go_wp2_with fail
 go_loopw [5] (fun v wr=>∃ k:Nat,k≤a.length∧k≤b.length∧v=.int .i64 k∧Hid (a.take k=b.take k)∧∃ q,wr=w.drewN q) (fun v _=>a.length - (intOf v).toNat)
 case atStart=>exact ⟨0,by omega,by omega,rfl,Lib.hid (by simp),0,rfl⟩
 case round =>
  obtain ⟨k,hka,hkb,rfl,ht,hB⟩:=hrel
  by_cases h1:k < a.length
  ·by_cases h2:k < b.length
   ·have hca:a[k]? = some a[k]:=List.getElem?_eq_getElem h1
    have hcb:b[k]? = some b[k]:=List.getElem?_eq_getElem h2
    obtain ⟨x,hx⟩:∃ c,a[k]=c:=⟨_,rfl⟩
    obtain ⟨y,hy⟩:∃ c,b[k]=c:=⟨_,rfl⟩
    rw [hx] at hca
    rw [hy] at hcb
    have hs:=shareP_take_succ ht.out hca hcb
    have hx':=get_all hca
    have hy':=get_all hcb
    have HS:=Lib.hid hs
    have h1':(k:Int) < a.length:=by omega
    have h2':(k:Int) < b.length:=by omega
    have d1:decide (k < a.length)=true:=by simpa using h1
    have d2:decide (k < b.length)=true:=by simpa using h2
    clear hca hcb hx hy hs
    by_cases hxy:x=y
    ·subst hxy
     go_wp2_with fail
     go_quiet (fail)
     go_wp2_with fail
     go_roundw
     case rel=>exact ⟨k+1,by omega,by omega,by go_num,Lib.hid (HS.out.1 (by trivial)),drw hB _⟩
     case measure=>simp [intOf];omega
    ·have hne:((x.toNat:Int) == (y.toNat:Int))=false:=by rw [beq_eq_false_iff_ne];intro e;exact hxy (UInt8.toNat_inj.1 (by omega))
     have HN:=Lib.hid (HS.out.2 hxy)
     clear hxy
     go_wp2_with fail
     go_quiet (fail)
     go_wp2_with fail
     go_ret
     exact ⟨by rw [HN.out];rfl,drw hB _⟩
   ·obtain rfl:k=b.length:=by omega
    have HN:=Lib.hid (shareP_end ht.out hka hkb (.inr rfl))
    have h1':(b.length:Int) < a.length:=by omega
    have h2':¬ (b.length:Int) < b.length:=by omega
    have d1:decide (b.length < a.length)=true:=by simpa using h1
    have d2:decide (b.length < b.length)=false:=by simp
    have d3:decide ((b.length:Int) < b.length)=false:=by simp
    go_wp2_with fail
    go_quiet (fail)
    go_wp2_with fail
    go_ret
    exact ⟨by rw [HN.out];rfl,drw hB _⟩
  ·obtain rfl:k=a.length:=by omega
   have HN:=Lib.hid (shareP_end ht.out hka hkb (.inl rfl))
   have d1:decide (a.length < a.length)=false:=by simp
   have d3:decide ((a.length:Int) < a.length)=false:=by simp
   go_wp2_with fail
   go_quiet (fail)
   go_wp2_with fail
   go_ret
   exact ⟨by rw [HN.out];rfl,drw hB _⟩
theorem Key_any (s:Bytes) (hs:s.length≤1000000) (h:∀ x∈s,x.toNat < 16) (h2:s.length % 2=0) (w:World) :
  Calls Tryz.prog 114 #[.string (bs s)] w fun e w'=>e=.returned (.tuple #[.string (bs (joinP s)),.int .i64 0])∧Below w.heap.size w w':=by
 have b1:((s.length:Int) % 2 == 1)=false:=by rw [beq_eq_false_iff_ne];omega
 have HH:=Lib.hid h
 clear h h2
 go_enter Tryz.func114,Tryz.ntmps114
 go_wp2_with fail
 refine (right_yes _ hs HH.out _).mono ?_
 rintro e w1 ⟨rfl,rfl⟩
 go_wp2_with fail
 refine (join_any _ hs _).mono ?_
 rintro e w1 ⟨rfl,hb⟩
 go_wp2_with fail
 go_ret2
 exact ⟨rfl,hb⟩
theorem Pack_any (s:Bytes) (hs:s.length≤100000) (h:∀ x∈s,x.toNat < 16) (ends:Bool) (w:World) :
  Calls Tryz.prog 122 #[.string (bs s),.bool ends] w fun e w'=>e=.returned (.tuple #[.string (bs (packP s ends)),.int .i64 0])∧Below w.heap.size w w':=by
 have HH:=Lib.hid h
 have HP:Hid (packP s ends=if s.length % 2=1 then joinP ((if ends then 3 else 1) :: s) else joinP ((if ends then 2 else 0) :: 0 :: s)):=rfl
 clear h
 go_enter Tryz.func122,Tryz.ntmps122
 go_wp2_with fail
 refine (right_yes _ (by omega) HH.out _).mono ?_
 rintro e w1 ⟨rfl,rfl⟩
 have h2:s.length % 2 < 2:=Nat.mod_lt _ (by omega)
 have hm2:(s.length:Int) % 2=((s.length % 2:Nat):Int):=by omega
 obtain ⟨q,hq⟩:∃ q,s.length % 2=q:=⟨_,rfl⟩
 rw [hq] at hm2 h2 HP
 have HQ:=Lib.hid hq
 clear hq
 have hq2:q=0∨q=1:=by omega
 clear h2
 rcases hq2 with rfl | rfl
 ·cases ends
  ·have HP2:=Lib.hid (show packP s false=joinP (0 :: 0 :: s) by rw [HP.out];rfl)
   have hown:((w1.alloc (.cells #[.int .u8 0] 5)).alloc (.cells #[.int .u8 0] 5)).ownsRow w1.heap.size 5 1 (.slice (some ⟨w1.heap.size,0,none⟩) 1 1) 1 [.int .u8 0]:=(World.ownsRow_lit w1 #[.int .u8 0] 1 (Nat.le_refl _) (by simp [maxLen]) rfl).alloc _
   go_wp2_with (at_builtin;refine wpl_append elByteK rfl rfl w1.heap.size hown rfl (m:=1) [.int .u8 0] rfl rfl ?_ ?_ ?_ ?_ ?_ ?_;exact (lies_new' (w1.alloc (.cells #[.int .u8 0] 5)) _ (by simp) #[.int .u8 0] _);(intro u hu;rw [List.mem_singleton] at hu;subst hu;rfl);(simp only [maxLen];omega);omega;(simp;omega);intro v1 w4 hown1 hg1 hat1;obtain ⟨A1,c1,rfl⟩:=own_form hown1;have hcv:=run_bytes_str (P:=Tryz.prog) (c:=c1) (src:=92) (dst:=9) (l:=[0,0]) Tryz.underlying92 Tryz.underlying5 Tryz.underlying9 (lies_own hown1 (fun _ _ _=>trivial));rw [show ([(0:UInt8),0]).length=1+1 from rfl] at hcv)
   have hb4:Below w1.heap.size w1 w4:=(((Below.refl _ _).alloc (Nat.le_refl _) _).alloc (by simp) _).grown hg1 (by simp;omega) (fun k hk=>by simp [Value.ownBlock] at hk;omega)
   refine (join_any (0 :: 0 :: s) (by simp;omega) _).mono ?_
   rintro e w5 ⟨rfl,hb5⟩
   go_wp2_with fail
   go_ret2
   exact ⟨by rw [HP2.out];rfl,hb4.trans (hb5.mono hb4.size)⟩
  ·have HP2:=Lib.hid (show packP s true=joinP (2 :: 0 :: s) by rw [HP.out];rfl)
   have hown:((w1.alloc (.cells #[.int .u8 2] 5)).alloc (.cells #[.int .u8 0] 5)).ownsRow w1.heap.size 5 1 (.slice (some ⟨w1.heap.size,0,none⟩) 1 1) 1 [.int .u8 2]:=(World.ownsRow_lit w1 #[.int .u8 2] 1 (Nat.le_refl _) (by simp [maxLen]) rfl).alloc _
   go_wp2_with (at_builtin;refine wpl_append elByteK rfl rfl w1.heap.size hown rfl (m:=1) [.int .u8 0] rfl rfl ?_ ?_ ?_ ?_ ?_ ?_;exact (lies_new' (w1.alloc (.cells #[.int .u8 2] 5)) _ (by simp) #[.int .u8 0] _);(intro u hu;rw [List.mem_singleton] at hu;subst hu;rfl);(simp only [maxLen];omega);omega;(simp;omega);intro v1 w4 hown1 hg1 hat1;obtain ⟨A1,c1,rfl⟩:=own_form hown1;have hcv:=run_bytes_str (P:=Tryz.prog) (c:=c1) (src:=92) (dst:=9) (l:=[2,0]) Tryz.underlying92 Tryz.underlying5 Tryz.underlying9 (lies_own hown1 (fun _ _ _=>trivial));rw [show ([(2:UInt8),0]).length=1+1 from rfl] at hcv)
   have hb4:Below w1.heap.size w1 w4:=(((Below.refl _ _).alloc (Nat.le_refl _) _).alloc (by simp) _).grown hg1 (by simp;omega) (fun k hk=>by simp [Value.ownBlock] at hk;omega)
   refine (join_any (2 :: 0 :: s) (by simp;omega) _).mono ?_
   rintro e w5 ⟨rfl,hb5⟩
   go_wp2_with fail
   go_ret2
   exact ⟨by rw [HP2.out];rfl,hb4.trans (hb5.mono hb4.size)⟩
 ·cases ends
  ·have HP2:=Lib.hid (show packP s false=joinP (1 :: s) by rw [HP.out];rfl)
   have hcv:=run_byte_str Tryz.underlying92 Tryz.underlying5 Tryz.underlying9 1 1 rfl w1
   go_wp2_with fail
   refine (join_any (1 :: s) (by simp;omega) _).mono ?_
   rintro e w5 ⟨rfl,hb5⟩
   go_wp2_with fail
   go_ret2
   exact ⟨by rw [HP2.out];rfl,below_box (hb5.mono (by simp))⟩
  ·have HP2:=Lib.hid (show packP s true=joinP (3 :: s) by rw [HP.out];rfl)
   have hcv:=run_byte_str Tryz.underlying92 Tryz.underlying5 Tryz.underlying9 3 3 rfl w1
   go_wp2_with fail
   refine (join_any (3 :: s) (by simp;omega) _).mono ?_
   rintro e w5 ⟨rfl,hb5⟩
   go_wp2_with fail
   go_ret2
   exact ⟨by rw [HP2.out];rfl,below_box (hb5.mono (by simp))⟩
end Go.Proofs.YtdfmheademcbkaaGreat
