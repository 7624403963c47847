/- The walks of package ecclesiaref09: Of, bytes, Pack, Share. -/
import Derived.Test.YtdfmheademcbkaaGreatZ12
import Derived.Test.YtdfmheademcbkaaGreatZ02
namespace Go.Proofs.YtdfmheademcbkaaGreat
set_option linter.unusedVariables false
set_option linter.unusedSimpArgs false
open Go.RowKit
set_option maxHeartbeats 1000000
set_option maxRecDepth 100000
theorem own_str {w:World} {base:Nat} {A:Option Addr} {n c:Nat} {l:Bytes} (h:w.ownsRow base 5 1 (.slice A n c) n (l.map cellB)):n=l.length∧(convert 92 9 (.slice A n c)).run Tryz.prog w=.ok (.string (bs l)) w:=by
 have hn:n=l.length:=by have:=h.1;simp at this;omega
 subst hn
 exact ⟨rfl,run_bytes_str (P:=Tryz.prog) (c:=c) (src:=92) (dst:=9) Tryz.underlying92 Tryz.underlying5 Tryz.underlying9 (lies_own h (fun _ _ _=>trivial))⟩
theorem refNibOf_any (s:Bytes) (hs:s.length≤100000) (w:World) :
  Calls Tryz.prog 154 #[.string (bs s)] w fun e w'=>e=.returned (.string (bs (nibs s)))∧Below w.heap.size w w':=by
 have HO:=Lib.hid (World.ownsRow_lit (base:=w.heap.size) (e:=5) (size:=1) w #[] 0 (Nat.le_refl _) (by simp [maxLen]) rfl)
 go_enter Tryz.func154,Tryz.ntmps154
 go_wp2_with fail
 go_loopw [3,4] (fun v i wr=>∃ k:Nat,k≤s.length∧i=.int .i64 k∧wr.ownsRow w.heap.size 5 1 v (2 * k) ((nibs (s.take k)).map cellB)∧Below w.heap.size w wr) (fun _ i _=>s.length - (intOf i).toNat)
 case atStart=>exact ⟨0,by omega,rfl,HO.out,(Below.refl _ _).alloc (Nat.le_refl _) _⟩
 case round =>
  obtain ⟨k,hk,rfl,hown,hb⟩:=hrel
  by_cases hlt:k < s.length
  ·have hlt':(k:Int) < s.length:=by omega
   go_wp2_with fail
   have hc:s[k]? = some s[k]:=List.getElem?_eq_getElem hlt
   obtain ⟨c,hce⟩:∃ c,s[k]=c:=⟨_,rfl⟩
   rw [hce] at hc
   have hce':=get_all hc
   have hsn:(nibs (s.take (k+1))).map cellB=(nibs (s.take k)).map cellB ++ [cellB (c / 16),cellB (c % 16)]:=by
    rw [List.take_add_one,hc,nibs_append,List.map_append];rfl
   have hcl:=c.toNat_lt
   have hd1:(c.toNat:Int).tmod 16=((c % 16).toNat:Int):=by rw [← u8_mod];exact Int.tmod_eq_emod_of_nonneg (Int.natCast_nonneg _)
   have hd2:IntKind.u8.wrap ((c.toNat:Int) / 16)=((c / 16).toNat:Int):=by rw [← u8_div];simp [IntKind.wrap,IntKind.signed,IntKind.bits];omega
   obtain ⟨p,hp⟩:∃ p,c / 16=p:=⟨_,rfl⟩
   obtain ⟨q,hq⟩:∃ p,c % 16=p:=⟨_,rfl⟩
   rw [hp,hq] at hsn
   rw [hq] at hd1
   rw [hp] at hd2
   have HS:=Lib.hid hsn
   have hownV:(wr.alloc (.cells #[cellB p,cellB q] 5)).drew.ownsRow w.heap.size 5 1 u3 (2 * k) ((nibs (s.take k)).map cellB):=own_keep hown ((Below.refl _ _).alloc (Nat.le_refl _) _).drew
   have hszV:w.heap.size≤(wr.alloc (.cells #[cellB p,cellB q] 5)).drew.heap.size:=by have:=hb.size;simp;omega
   have HO:=Lib.hid hownV
   have HB:=Lib.hid hb
   have HZ:=Lib.hid hszV
   clear hb hsn hc hce hown hp hq hownV hszV
   go_region_law (refine stl_append elByteK rfl rfl w.heap.size HO.out rfl (m:=2) [cellB p,cellB q] rfl rfl (lies_new wr #[cellB p,cellB q] _) ?_ ?_ ?_ ?_ ?_;(intro u hu;simp at hu;rcases hu with rfl | rfl <;> rfl);(simp only [maxLen];omega);omega;exact HZ.out;intro v1 w4 hown1 hg1 hat1)
   all_goals
    go_wp2_with fail
    go_roundw
    case rel=>exact ⟨k+1,by omega,by go_num,by rw [HS.out];exact hown1,below_app ((HB.out.alloc HB.out.size _).drew) HO.out hg1 HZ.out (Nat.le_refl _)⟩
    case measure=>simp [intOf];omega
  ·obtain rfl:k=s.length:=by omega
   rw [List.take_length] at hown
   obtain ⟨A,c,rfl⟩:=own_form hown
   have hcv:=(own_str hown).2
   clear hown
   go_wp2_with fail
   go_ret
   exact ⟨rfl,hb⟩
theorem refBytes_any (s:Bytes) (hs:s.length≤1000000) (w:World) :
  Calls Tryz.prog 218 #[.string (bs s)] w fun e w'=>e=.returned (.string (bs (joinP s)))∧Below w.heap.size w w':=by
 have HO:=Lib.hid (World.ownsRow_lit (base:=w.heap.size) (e:=5) (size:=1) w #[] 0 (Nat.le_refl _) (by simp [maxLen]) rfl)
 go_enter Tryz.func218,Tryz.ntmps218
 go_wp2_with fail
 go_loopw [3,4] (fun v i wr=>∃ k:Nat,2 * k≤s.length∧i=.int .i64 (2 * k:Nat)∧wr.ownsRow w.heap.size 5 1 v k ((joinP (s.take (2 * k))).map cellB)∧Below w.heap.size w wr) (fun _ i _=>s.length - (intOf i).toNat)
 case atStart=>exact ⟨0,by omega,rfl,HO.out,(Below.refl _ _).alloc (Nat.le_refl _) _⟩
 case round =>
  obtain ⟨k,hk,rfl,hown,hb⟩:=hrel
  by_cases hlt:2 * k+1 < s.length
  ·have hlt1:((2 * k:Nat):Int)+1 < s.length:=by omega
   have hmx:((2 * k:Nat):Int)≤1000000:=by omega
   obtain ⟨m0,hm0⟩:∃ m,2 * k=m:=⟨_,rfl⟩
   rw [hm0] at hlt1 hmx ⊢
   go_wp2_with fail
   rw [← hm0]
   have HM0:=Lib.hid hm0
   clear hm0 hlt1 hmx
   have hc:s[2 * k]? = some s[2 * k]:=List.getElem?_eq_getElem (by omega)
   have hd:s[2 * k+1]? = some s[2 * k+1]:=List.getElem?_eq_getElem hlt
   obtain ⟨c,hce⟩:∃ c,s[2 * k]=c:=⟨_,rfl⟩
   obtain ⟨d,hde⟩:∃ c,s[2 * k+1]=c:=⟨_,rfl⟩
   rw [hce] at hc
   rw [hde] at hd
   have hval:IntKind.u8.wrap (IntKind.u8.wrap (16 * (c.toNat:Int))+(d.toNat:Int))=((16 * c+d).toNat:Int):=by
    rw [UInt8.toNat_add,UInt8.toNat_mul]
    simp [IntKind.wrap,IntKind.signed,IntKind.bits]
   have hsn:(joinP (s.take (2 * (k+1)))).map cellB=(joinP (s.take (2 * k))).map cellB ++ [.int .u8 ((16 * c+d).toNat:Int)]:=by
    rw [show 2 * (k+1)=2 * k+1+1 by omega,List.take_add_one,List.take_add_one,hc,hd]
    simp only [Option.toList_some,List.append_assoc,List.singleton_append]
    rw [joinP_snoc _ _ _ (by rw [List.length_take];omega),List.map_append];rfl
   have hm2:((2 * (k+1):Nat):Int)=((2 * k:Nat):Int)+2:=by omega
   obtain ⟨m,hm⟩:∃ m,2 * k=m:=⟨_,rfl⟩
   have HM:=Lib.hid hm
   rw [hm] at hc hd hlt hm2 ⊢
   have hlt':(m:Int)+1 < s.length:=by omega
   have p5:((m:Int)+1).toNat=m+1:=by omega
   have hce':=get_all hc
   have hde':=get_all hd
   have hcl:=c.toNat_lt
   have hdl:=d.toNat_lt
   obtain ⟨x,hx⟩:∃ x:UInt8,16 * c+d=x:=⟨_,rfl⟩
   rw [hx] at hval hsn
   have hval2:(16 * (c.toNat:Int) % 256+(d.toNat:Int)) % 256=(x.toNat:Int):=by rw [← hval];simp [IntKind.wrap,IntKind.signed,IntKind.bits]
   have HS:=Lib.hid hsn
   have HM2:=Lib.hid hm2
   have hownV:(wr.alloc (.cells #[.int .u8 (x.toNat:Int)] 5)).drew.ownsRow w.heap.size 5 1 u3 k ((joinP (s.take (2 * k))).map cellB):=own_keep hown ((Below.refl _ _).alloc (Nat.le_refl _) _).drew
   have hszV:w.heap.size≤(wr.alloc (.cells #[.int .u8 (x.toNat:Int)] 5)).drew.heap.size:=by have:=hb.size;simp;omega
   have hk2:k≤500000:=by have:=HM.out;omega
   have HO:=Lib.hid hownV
   have HB:=Lib.hid hb
   have HZ:=Lib.hid hszV
   have hm0:m < s.length:=by omega
   have p8:(0:Int)≤(m:Int)+1:=by omega
   have p7:IntKind.i64.wrap ((m:Int)+1)=(m:Int)+1:=IntWalk.i64_in _ (by omega)
   clear hb hsn hc hd hce hde hown hm hx hm2 hk hownV hszV
   go_region_law (refine stl_append elByteK rfl rfl w.heap.size HO.out rfl (m:=1) [.int .u8 (x.toNat:Int)] rfl rfl (lies_new wr #[.int .u8 (x.toNat:Int)] _) ?_ ?_ ?_ ?_ ?_;(intro u hu;rw [List.mem_singleton] at hu;subst hu;rfl);(simp only [maxLen];omega);omega;exact HZ.out;intro v1 w4 hown1 hg1 hat1)
   all_goals
    go_wp2_with fail
    go_roundw
    case rel=>exact ⟨k+1,by have:=HM.out;omega,by rw [HM2.out],by rw [HS.out];exact hown1,below_app ((HB.out.alloc HB.out.size _).drew) HO.out hg1 HZ.out (Nat.le_refl _)⟩
    case measure=>have h1:=HM0.out;have h2:=HM.out;simp only [intOf];omega
  ·have hj:joinP (s.take (2 * k))=joinP s:=by
    rcases Nat.lt_or_ge (2 * k) s.length with h | h
    ·have hl:s.length=2 * k+1:=by omega
     have:s=s.take (2 * k) ++ [s[2 * k]]:=by
      conv=>lhs;rw [← List.take_append_drop (2 * k) s]
      congr 1
      rw [List.drop_eq_getElem_cons h,List.drop_of_length_le (by omega)]
     apply List.ext_getElem?
     intro i
     by_cases hi:i < k
     ·rw [join_get _ _ (by rw [List.length_take];omega),join_get _ _ (by omega)]
      unfold joinAt
      simp only [List.getD_eq_getElem?_getD]
      rw [List.getElem?_take,List.getElem?_take,if_pos (by omega),if_pos (by omega)]
     ·rw [List.getElem?_eq_none (by rw [joinP_len,List.length_take];omega),List.getElem?_eq_none (by rw [joinP_len];omega)]
    ·rw [List.take_of_length_le (by omega)]
   rw [hj] at hown
   obtain ⟨A,c,rfl⟩:=own_form hown
   have hcv:=(own_str hown).2
   have hge:¬ ((2 * k:Nat):Int)+1 < s.length:=by omega
   obtain ⟨m,hm⟩:∃ m,2 * k=m:=⟨_,rfl⟩
   rw [hm] at hge ⊢
   have hmm:m≤1000000:=by omega
   clear hown hj hm hlt
   go_wp2_with fail
   go_ret
   exact ⟨rfl,hb⟩
theorem refPack_any (s:Bytes) (hs:s.length≤100000) (ends:Bool) (w:World) :
  Calls Tryz.prog 150 #[.string (bs s),.bool ends] w fun e w'=>e=.returned (.string (bs (packP s ends)))∧Below w.heap.size w w':=by
 have HP:Hid (packP s ends=if s.length % 2=1 then joinP ((if ends then 3 else 1) :: s) else joinP ((if ends then 2 else 0) :: 0 :: s)):=rfl
 have h2:s.length % 2 < 2:=Nat.mod_lt _ (by omega)
 have hm2:(s.length:Int) % 2=((s.length % 2:Nat):Int):=by omega
 obtain ⟨q,hq⟩:∃ q,s.length % 2=q:=⟨_,rfl⟩
 rw [hq] at hm2 h2 HP
 have HQ:=Lib.hid hq
 clear hq
 have hq2:q=0∨q=1:=by omega
 clear h2
 rcases hq2 with rfl | rfl
 ·cases ends
  ·have HP2:=Lib.hid (show packP s false=joinP (0 :: 0 :: s) by rw [HP.out];rfl)
   have hcv:=run_bytes_str (P:=Tryz.prog) (w:=w.alloc (.cells #[.int .u8 0,.int .u8 0] 5)) (A:=some ⟨w.heap.size,0,none⟩) (c:=2) (src:=92) (dst:=9) (l:=[0,0]) Tryz.underlying92 Tryz.underlying5 Tryz.underlying9 (lies_new w #[.int .u8 0,.int .u8 0] _)
   rw [show ([(0:UInt8),0]).length=2 from rfl] at hcv
   go_enter Tryz.func150,Tryz.ntmps150
   go_wp2_with fail
   refine (refBytes_any (0 :: 0 :: s) (by simp;omega) _).mono ?_
   rintro e w5 ⟨rfl,hb5⟩
   go_wp2_with fail
   go_ret
   exact ⟨by rw [HP2.out];rfl,below_box (hb5.mono (by simp))⟩
  ·have HP2:=Lib.hid (show packP s true=joinP (2 :: 0 :: s) by rw [HP.out];rfl)
   have hcv:=run_bytes_str (P:=Tryz.prog) (w:=w.alloc (.cells #[.int .u8 2,.int .u8 0] 5)) (A:=some ⟨w.heap.size,0,none⟩) (c:=2) (src:=92) (dst:=9) (l:=[2,0]) Tryz.underlying92 Tryz.underlying5 Tryz.underlying9 (lies_new w #[.int .u8 2,.int .u8 0] _)
   rw [show ([(2:UInt8),0]).length=2 from rfl] at hcv
   go_enter Tryz.func150,Tryz.ntmps150
   go_wp2_with fail
   refine (refBytes_any (2 :: 0 :: s) (by simp;omega) _).mono ?_
   rintro e w5 ⟨rfl,hb5⟩
   go_wp2_with fail
   go_ret
   exact ⟨by rw [HP2.out];rfl,below_box (hb5.mono (by simp))⟩
 ·cases ends
  ·have HP2:=Lib.hid (show packP s false=joinP (1 :: s) by rw [HP.out];rfl)
   have hcv:=run_byte_str Tryz.underlying92 Tryz.underlying5 Tryz.underlying9 1 1 rfl w
   go_enter Tryz.func150,Tryz.ntmps150
   go_wp2_with fail
   refine (refBytes_any (1 :: s) (by simp;omega) _).mono ?_
   rintro e w5 ⟨rfl,hb5⟩
   go_wp2_with fail
   go_ret
   exact ⟨by rw [HP2.out];rfl,below_box (hb5.mono (by simp))⟩
  ·have HP2:=Lib.hid (show packP s true=joinP (3 :: s) by rw [HP.out];rfl)
   have hcv:=run_byte_str Tryz.underlying92 Tryz.underlying5 Tryz.underlying9 3 3 rfl w
   go_enter Tryz.func150,Tryz.ntmps150
   go_wp2_with fail
   refine (refBytes_any (3 :: s) (by simp;omega) _).mono ?_
   rintro e w5 ⟨rfl,hb5⟩
   go_wp2_with fail
   go_ret
   exact ⟨by rw [HP2.out];rfl,below_box (hb5.mono (by simp))⟩
theorem refShare_drew (a b:Bytes) (ha:a.length≤1000000) (hb:b.length≤1000000) (w:World) :
  Calls Tryz.prog 217 #[.string (bs a),.string (bs b)] w fun e w'=>e=.returned (.int .i64 (shareP a b:Nat))∧∃ q,w'=w.drewN q:=by
 go_enter Tryz.func217,Tryz.ntmps217
 go_wp2_with fail
 go_loopw [5] (fun v wr=>∃ k:Nat,k≤a.length∧k≤b.length∧v=.int .i64 k∧Hid (a.take k=b.take k)∧∃ q,wr=w.drewN q) (fun v _=>a.length - (intOf v).toNat)
 case atStart=>exact ⟨0,by omega,by omega,rfl,Lib.hid (by simp),0,rfl⟩
 case round =>
  obtain ⟨k,hka,hkb,rfl,ht,hB⟩:=hrel
  by_cases h1:k < a.length
  ·have h1':(k:Int) < a.length:=by omega
   by_cases h2:k < b.length
   ·have hca:a[k]? = some a[k]:=List.getElem?_eq_getElem h1
    have hcb:b[k]? = some b[k]:=List.getElem?_eq_getElem h2
    obtain ⟨x,hx⟩:∃ c,a[k]=c:=⟨_,rfl⟩
    obtain ⟨y,hy⟩:∃ c,b[k]=c:=⟨_,rfl⟩
    rw [hx] at hca
    rw [hy] at hcb
    have hs:=shareP_take_succ ht.out hca hcb
    have hx':=get_all hca
    have hy':=get_all hcb
    have HS:=Lib.hid hs
    have h2':(k:Int) < b.length:=by omega
    have d2:decide (b.length≤k)=false:=by simpa using h2
    have d3:decide ((b.length:Int)≤(k:Int))=false:=by simpa using h2
    clear hca hcb hx hy hs
    by_cases hxy:x=y
    ·subst hxy
     go_wp2_with fail
     go_quiet (fail)
     go_wp2_with fail
     go_roundw
     case rel=>exact ⟨k+1,by omega,by omega,by go_num,Lib.hid (HS.out.1 (by trivial)),drw hB _⟩
     case measure=>simp [intOf];omega
    ·have hne:((x.toNat:Int) == (y.toNat:Int))=false:=by rw [beq_eq_false_iff_ne];intro e;exact hxy (UInt8.toNat_inj.1 (by omega))
     have hne2:((x.toNat:Int) != (y.toNat:Int))=true:=by rw [bne,hne];rfl
     have HN:=Lib.hid (HS.out.2 hxy)
     clear hxy
     go_wp2_with fail
     go_quiet (fail)
     go_wp2_with fail
     go_ret
     exact ⟨by rw [HN.out];rfl,drw hB _⟩
   ·obtain rfl:k=b.length:=by omega
    have HN:=Lib.hid (shareP_end ht.out hka hkb (.inr rfl))
    have d2:decide (b.length≤b.length)=true:=by simp
    have d3:decide ((b.length:Int)≤b.length)=true:=by simp
    go_wp2_with fail
    go_quiet (fail)
    go_wp2_with fail
    go_ret
    exact ⟨by rw [HN.out];rfl,drw hB _⟩
  ·obtain rfl:k=a.length:=by omega
   have HN:=Lib.hid (shareP_end ht.out hka hkb (.inl rfl))
   go_wp2_with fail
   go_ret
   exact ⟨by rw [HN.out];rfl,hB⟩
end Go.Proofs.YtdfmheademcbkaaGreat
