/- The walks of trie.New, Right and Root. -/
import Derived.Test.YtdfmheademcbkaaGreatZ28
import Derived.Test.YtdfmheademcbkaaGreatZ29
namespace Go.Proofs.YtdfmheademcbkaaGreat
set_option linter.unusedVariables false
set_option linter.unusedSimpArgs false
open Go.RowKit
set_option maxHeartbeats 4000000
set_option maxRecDepth 100000
theorem add_any (n:TN) (its:List Item) (hN:NodeOk its n) (hl:its.length≤10000) (g:Nat) (v:Value) (last:Bytes) (xs:List Value) (w:World) (hs:SumV w g v its last xs) :
  Calls Tryz.prog 72 #[.pointer (some ⟨g,0,none⟩),.agg (nodeC n).toArray] w (AddPost g v its n w):=by
 rcases hN.kind with h | h | h
 ·exact add_leaf n h its hN hl g v last xs w hs
 ·exact add_joint n h its hN hl g v last xs w hs
 ·exact add_branch n h its hN hl g v last xs w hs
/-- the last node, written -/
def lastP (its:List Item) (b:Bytes):List TN→Bytes
 | []=>b
 | n :: ns=>lastP (its ++ [tellP (nodeIt its n)]) (writeP (nodeIt its n)) ns
theorem lastP_snoc (ns:List TN) (n:TN):∀ its b,lastP its b (ns ++ [n])=writeP (nodeIt (sumsP its ns) n):=by
 induction ns with
 | nil=>intro its b;rfl
 | cons m ns ih=>intro its b;exact ih _ _
/-- a trie's sum -/
def rootP (l:List KV):Bytes:=if l = [] then sumK (writeP (leafIt [])) else sumK (writeP (itemP 66 (partsP l)))
theorem root_last (l:List KV) (hO:OkL l):sumK (lastP [] (writeP (leafIt [])) (ofP l).1)=rootP l:=by
 by_cases h:l = []
 ·subst h;rw [ofP_nil];rfl
 ·unfold rootP
  rw [if_neg h]
  have hne:partsP l ≠ []:=by intro e;have:=congrArg List.length e;rw [partsP_len] at this;exact h (List.eq_nil_of_length_eq_zero this)
  have hb:=hO.buildIn
  obtain ⟨ns,n,h1,h2,_⟩:=(sums_said 66 (partsP l) hO.short (rise_parts hO.rise) []).top hne
  have h1':(ofP l).1=ns ++ [n]:=h1
  rw [h1',lastP_snoc,h2]
theorem sums_ok (l:List KV) (hO:OkL l):OkSums [] (ofP l).1 :=
 ok_sums 66 (Nat.le_refl _) (partsP l) hO.short (rise_parts hO.rise) (fun p hp=>by obtain ⟨q,hq,rfl⟩:=List.mem_map.1 hp;exact (hO.val q hq).2) hO.half []
theorem sums_at {ns:List TN} {i:Nat} {n:TN} (h:OkSums [] ns) (hi:ns[i]? = some n):NodeOk (sumsP [] (ns.take i)) n:=by
 obtain ⟨hlt,hn⟩:=List.getElem?_eq_some_iff.1 hi
 have hs:ns=ns.take i ++ n :: ns.drop (i+1):=by rw [← hn,List.getElem_cons_drop,List.take_append_drop]
 rw [hs] at h
 exact ((okSums_append _ _ _).1 h).2.1
theorem enc_empty:encR (leafIt [])=(writeP (leafIt []),0):=by
 have:wellP (leafIt [])=true:=by decide
 unfold encR
 rw [if_neg (by rw [this];decide),if_neg (by decide),if_neg (by decide)]
theorem below_arn {B g:Nat} {v v':Value} {w W W':World} (h:Below B w W) (ha:ArnTo g v W W' v') (hg:B≤g) (hv:∀ k,v.ownBlock=some k→B≤k) (hB:B≤W.heap.size):Below B w W' :=
 ⟨ha.os.trans h.os,ha.tape.trans h.tape,ha.output.trans h.output,Nat.le_trans h.size ha.size,fun b hb=>(ha.block b (by omega) ⟨by omega,fun e=>by have:=hv b e;omega⟩).trans (h.block b hb)⟩
theorem New_any (w:World):Calls Tryz.prog 36 #[] w fun e w'=>e=.returned (.agg #[.slice none 0 0,.int .i64 (-1)])∧Below w.heap.size w w':=by
 go_enter Tryz.func36,Tryz.ntmps36
 go_wp2_with fail
 exact bodyPost_ret (v:=.agg #[.slice none 0 0,.int .i64 (-1)]) (results_cell_row rfl _ _ w.heap.size _ _ _ _ rfl (heap_alloc_new w _) Tryz.underlying75 rfl infoT) rfl ⟨rfl,(Below.refl _ _).alloc (Nat.le_refl _) _⟩
theorem Right_any (l:List KV) (hO:OkL l) (A:Option Addr) (c:Nat) (w:World) (hv:TNs Any w (ofP l).1 A c) :
  Calls Tryz.prog 71 #[.agg #[.slice A (ofP l).1.length c,.int .i64 (ofP l).2]] w fun e w'=>e=.returned (.bool true)∧Below w.heap.size w w':=by
 have hb:=(Below.refl w.heap.size w).alloc (Nat.le_refl _) (.cells #[.slice A (ofP l).1.length c,.int .i64 (ofP l).2] 75)
 have h:=pairs_any l hO A c _ (hv.keep hb)
 obtain ⟨R,hR⟩:∃ R,(ofP l).2=R:=⟨_,rfl⟩
 obtain ⟨L,hL⟩:∃ L,(ofP l).1.length=L:=⟨_,rfl⟩
 rw [hR,hL] at h hb ⊢
 have HB:=Lib.hid hb
 clear hb hR hL hv hO
 go_enter Tryz.func71,Tryz.ntmps71
 go_wp2_with fail
 refine h.mono ?_
 rintro e w1 ⟨A1,c1,rfl,_,hb1⟩
 have hb2:=below_call HB.out HB.out.size hb1
 go_wp2_with fail
 go_ret
 exact ⟨rfl,hb2⟩
theorem Root_any (l:List KV) (hO:OkL l) (A:Option Addr) (c:Nat) (w:World) (hv:TNs Any w (ofP l).1 A c) :
  Calls Tryz.prog 38 #[.agg #[.slice A (ofP l).1.length c,.int .i64 (ofP l).2]] w fun e w'=>e=.returned (.tuple #[.string (bs (rootP l)),.int .i64 0])∧Below w.heap.size w w':=by
 have hb:=(Below.refl w.heap.size w).alloc (Nat.le_refl _) (.cells #[.slice A (ofP l).1.length c,.int .i64 (ofP l).2] 75)
 have h:=Right_any l hO A c _ (hv.keep hb)
 have hx:=heap_alloc_new w (.cells #[.slice A (ofP l).1.length c,.int .i64 (ofP l).2] 75)
 have hlast:=root_last l hO
 have hok:=sums_ok l hO
 have hcnt:=buildP_count 66 (partsP l) 0 (rise_parts hO.rise)
 rw [partsP_len] at hcnt
 have hle:=hO.le
 have hns:(ofP l).1.length≤10000:=by have:(ofP l).1.length=(buildP 66 (partsP l) 0).1.length:=rfl;omega
 rw [← hlast]
 obtain ⟨ns,R,hN⟩:∃ ns R,ofP l=(ns,R):=⟨_,_,rfl⟩
 rw [hN] at h hb hv hx hok hns ⊢
 simp only [] at h hb hv hx hok hns ⊢
 have HB:=Lib.hid hb
 have HX:=Lib.hid hx
 have HV:=Lib.hid hv
 have HOK:=Lib.hid hok
 have hnI:(ns.length:Int)≤10000:=by omega
 clear hb hx hv hok hO hcnt hlast hN hle
 go_enter Tryz.func38,Tryz.ntmps38
 go_wp2_with fail
 refine h.mono ?_
 clear h
 rintro e w1 ⟨rfl,hb1⟩
 have hx1:=(hb1.block _ (Array.getElem?_eq_some_iff.1 HX.out).1).trans HX.out
 have HX1:=Lib.hid hx1
 have HB1:=Lib.hid (below_call HB.out HB.out.size hb1)
 clear hb1 hx1 HB HX
 go_wp2_with fail
 have hE:=Encode_any (leafIt []) none 0 (w1.alloc (.cells #[.slice none 0 0,.string ⟨#[]⟩] 127)) (by decide) (ItemV.leaf [] false)
 rw [enc_empty] at hE
 refine hE.mono ?_
 clear hE
 rintro e w2 ⟨rfl,hb2⟩
 obtain ⟨G,hG⟩:∃ G,G=w1.heap.size:=⟨_,rfl⟩
 have hg1:w.heap.size < G:=by have:=(Array.getElem?_eq_some_iff.1 HX1.out).1;omega
 have hp2:w2.heap[G]? = some (.cells #[.slice none 0 0,.string ⟨#[]⟩] 127 (0,0)):=by rw [hG];exact (hb2.block _ (by simp)).trans (heap_alloc_new w1 _)
 have hba:Below w1.heap.size w1 (w1.alloc (.cells #[.slice none 0 0,.string ⟨#[]⟩] 127)):=(Below.refl _ _).alloc (Nat.le_refl _) _
 have hB2:=below_call (below_call HB1.out HB1.out.size hba) (by have:=HB1.out.size;simp;omega) hb2
 have hx2:=(hb2.block w.heap.size (by simp;omega)).trans ((hba.block w.heap.size (by omega)).trans HX1.out)
 obtain ⟨b0,hb0⟩:∃ b0,writeP (leafIt [])=b0:=⟨_,rfl⟩
 rw [hb0]
 have c1:w2.cell? ⟨G,1,none⟩=some (.string ⟨#[]⟩):=rc hp2 1 rfl
 have f1:=rf hp2 1
 obtain ⟨W3,hW3⟩:∃ W3,W3=w2.setCell ⟨G,1,none⟩ (.string (bs b0)):=⟨_,rfl⟩
 have hx3:W3.heap[w.heap.size]? = some (.cells #[.slice A ns.length c,.int .i64 R] 75 (0,0)):=by rw [hW3];exact (heap_set_ne (by omega) _).trans hx2
 have hB3:Below w.heap.size w W3:=by rw [hW3];exact hB2.setCell (p:=⟨G,_,_⟩) (by simp;omega) _
 have hp3:W3.heap[G]? = some (.cells #[.slice none 0 0,.string (bs b0)] 127 (0,0)):=by rw [hW3];exact heap_setCell_here hp2 _
 have hS3:SumV W3 G (.slice none 0 0) [] b0 []:=⟨hp3,World.ownsRow_nil _ _ _ _,.nil⟩
 have d0:(w2.setCell ⟨G,1,none⟩ (.string (bs b0))).cell? ⟨w.heap.size,0,none⟩=some (.slice A ns.length c):=by rw [← hW3];exact rc hx3 0 rfl
 have HW3:=Lib.hid hW3
 have HB3:=Lib.hid hB3
 have HS3:=Lib.hid hS3
 rw [← hG]
 have HG:=Lib.hid hG
 have HB0:=Lib.hid hb0
 clear hp2 hB2 hx2 hba hb2 hW3 hx3 hB3 hp3 hS3 HX1 HB1 hG hb0
 go_wp2_with fail
 rw [← HW3.out]
 clear d0 HW3 c1 f1
 go_loopw [23] (fun a wr=>∃ (i:Nat) (v:Value) (xs:List Value),a=.int .i64 i∧i≤ns.length∧SumV wr G v (sumsP [] (ns.take i)) (lastP [] b0 (ns.take i)) xs∧Below w.heap.size w wr) (fun a _=>ns.length - (intOf a).toNat)
 case atStart=>exact ⟨0,_,_,rfl,Nat.zero_le _,HS3.out,HB3.out⟩
 case round =>
  clear HS3 HB3
  obtain ⟨i,v,xs,rfl,hi,hS,hB⟩:=hrel
  by_cases hlt:i < ns.length
  ·obtain ⟨n,hn⟩:=getElem_ex hlt
   have hok:=sums_at HOK.out hn
   obtain ⟨g',o,rfl,_,hc⟩:=(HV.out.keep hB).at_ hn
   have hlI:(i:Int) < ns.length:=by omega
   have hz:=newN wr
   have hi':=infoN hok.wide
   have hiL:(Tryz.prog.info? 130).map (·.size)=some (nodeC n).length:=by rw [hi'];simp
   have ha:=allN n
   have hs:=sizeN (n:=zeroN 0) (m:=n) rfl hok.wide
   have hV:=varN wr n
   have HS:=Lib.hid hS
   have HB:=Lib.hid hB
   have HO:=Lib.hid hok
   have HN:=Lib.hid hn
   clear hS hB hok hn
   go_wp2_with (first | (refine wpl_load_at rfl rfl rfl (nodeC n) hc Tryz.underlying130 rfl hiL ?_) | (refine wpList_store_row rfl _ _ _ rfl wr.heap.size (nodeC n).toArray rfl rfl _ _ hz hi' hs ha ?_;go_must (generalize hW2:World.setRow _ wr.heap.size _=W2 at hV ⊢;clear hW2 hz hs ha hc hiL;obtain ⟨hn,hb2⟩:=hV)) | (refine wpList_load_row rfl _ _ rfl wr.heap.size rfl _ (nodeC n).toArray _ _ hn Tryz.underlying130 rfl hi' ?_))
   have hsl:(sumsP [] (ns.take i)).length≤10000:=by rw [sumsP_len,List.length_take];simp;omega
   refine (add_any n _ HO.out hsl G v _ xs W2 (HS.out.keep hb2)).mono ?_
   rintro e w5 ⟨rfl,v5,xs5,hS5,hT5⟩
   have hB5:Below w.heap.size w w5:=below_arn (below_call HB.out HB.out.size hb2) hT5 (by omega) (fun k e=>by have:=(HS.out.own.lt _ e).1;omega) (by have:=HB.out.size;have:=hb2.size;omega)
   rw [← sumsP_one,← sumsP_append,← take_snoc HN.out] at hS5
   have hll:lastP [] b0 (ns.take (i+1))=writeP (nodeIt (sumsP [] (ns.take i)) n):=by rw [take_snoc HN.out,lastP_snoc]
   rw [← hll] at hS5
   clear hll hsl hi' hb2 hT5 hn
   go_wp2_with fail
   go_roundw
   case rel=>exact ⟨i+1,v5,xs5,by go_num,by omega,hS5,hB5⟩
   case measure=>simp [intOf];omega
  ·obtain rfl:i=ns.length:=by omega
   rw [List.take_length] at hS
   have z1:=hS.cell1
   have hwl:=hS.lt
   have HB:=Lib.hid hB
   clear hS hB
   go_wp2_with fail
   have hl4:(lastP [] b0 ns).length < 4611686018427387904:=by
    rcases List.eq_nil_or_concat ns with e | ⟨a,n,e⟩
    ·rw [e];show b0.length < _;rw [← HB0.out];decide
    ·have e:=List.concat_eq_append ▸ e
     have hn:ns[a.length]? = some n:=by rw [e];simp
     have:=(sums_at HOK.out hn).len
     rw [e,List.take_append_of_le_length (Nat.le_refl _),List.take_length] at this
     rw [e,lastP_snoc];omega
   refine (sum_any _ hl4 _).mono ?_
   rintro e w5 ⟨rfl,hb5⟩
   go_wp2_with fail
   go_ret2
   rw [HB0.out]
   exact ⟨rfl,below_call HB.out HB.out.size hb5⟩
end Go.Proofs.YtdfmheademcbkaaGreat
