/- The walk of trie.Put. -/
import Derived.Test.YtdfmheademcbkaaGreatZ20
import Derived.Laws.ResultCell
namespace Go.Proofs.YtdfmheademcbkaaGreat
set_option linter.unusedVariables false
set_option linter.unusedSimpArgs false
open Go.RowKit
set_option maxHeartbeats 4000000
set_option maxRecDepth 100000
theorem insert_any (l:List KV) (hl:l.length≤1000) (i:Nat) (hi:i≤l.length) (p:KV) (base:Nat) (A:Option Addr) (c:Nat) (w:World) (hbase:base≤w.heap.size) (hown:w.ownsRow base 121 2 (.slice A l.length c) l.length (kvC l)) (V:Nat)
  (hV:w.heap[V]? = some (.cells (kvC [p]).toArray 121 (0,0))) (hVA:∀ k,(Value.slice A l.length c).ownBlock=some k→V≠k) :
  Calls Tryz.prog 69 #[.slice A l.length c,.int .i64 (i:Int),.slice (some ⟨V,0,none⟩) 1 1] w (InsPost (l.take i ++ p :: l.drop i) base w):=by
 by_cases he:i=l.length
 ·subst he
  rw [List.take_length,List.drop_length]
  exact insert_end l hl p base A c w hbase hown V hV
 ·rcases hown.2 with ⟨h1,h2⟩ | ⟨g,cap,cur,h1,h2,h3,h4,h5,h6,h7⟩
  ·omega
  ·injection h1 with h1 _ h8
   subst h1;subst h8
   have h3':w.heap[g]? = some (.cells cur.toList.toArray 121 (0,0)):=by simpa using h3
   have h6':cur.toList.length=c * 2:=by simpa using h6
   by_cases hr:l.length+1≤c
   ·exact insert_shift l hl i (by omega) p base g c w h2 cur.toList h3' h7 h6' h5 hr V (hVA g rfl) hV
   ·exact insert_grow l hl i (by omega) p base g c w hbase cur.toList h3' h7 h6' h4 (by omega) V hV
theorem results_row_tmp {P:Program} {fn:Func} {p u:Tmp} {ty:TypeId} (h:fn.results=#[.cell p ty,.tmp u]) (tmps:Array Value) (w:World) (g:Nat) (t:TypeId) (cs:Array Value) (fr:Nat×Nat) (d:TypeDesc)
  (hp:tmps.getD p undef=.pointer (some ⟨g,0,none⟩)) (hg:w.heap[g]? = some (.cells cs t fr)) (v:Value) (hv:tmps.getD u undef=v)
  (hu:P.underlying ty=some d) (hd:(match d with | .struct _ | .array _ _=>true | _=>false)=true) (hi:(P.info? ty).map (·.size)=some cs.size) :
  (results fn tmps).run P w=.ok (.tuple #[.agg cs,v]) w:=by
 rw [results_cell_tmp h,hp,hv]
 simp [asAddr,Sem.run_pure,run_loadVar_row w g t ty cs fr d hg hu hd hi]
theorem kvC_val {l:List KV} {i:Nat} {q:KV} {k v:Bytes} (hq:l[i]? = some q) (hk:q.1=k):kvC (putP l i true k v)=(kvC l).set (i * 2+1) (.string (bs v)):=by
 subst hk
 obtain ⟨hi,hq'⟩:=List.getElem?_eq_some_iff.1 hq
 have hl:l=l.take i ++ q :: l.drop (i+1):=by rw [← hq',List.getElem_cons_drop,List.take_append_drop]
 have e1:kvC (putP l i true q.1 v)=kvC (l.take i) ++ ([.string (bs q.1),.string (bs v)] ++ kvC (l.drop (i+1))):=by
  show kvC (l.take i ++ (q.1,v) :: l.drop (i+1))=_
  rw [kvC_append];rfl
 have e2:kvC l=kvC (l.take i) ++ ([.string (bs q.1),.string (bs q.2)] ++ kvC (l.drop (i+1))):=by
  conv=>lhs;rw [hl]
  rw [kvC_append];rfl
 rw [e1,e2,List.set_append_right _ _ (by rw [kvC_len,List.length_take];omega),kvC_len,List.length_take,Nat.min_eq_left (by omega),Nat.add_sub_cancel_left]
 rfl
/-- behind a pair that is put into a trie -/
def PutPost (l:List KV) (k v:Bytes) (w:World) (e:Ending) (w':World):Prop :=
 ∃ i is A c,FoundP l k i is∧e=.returned (.tuple #[.agg #[.slice A (ofP (putP l i is k v)).1.length c,.int .i64 (ofP (putP l i is k v)).2],.int .i64 0])∧TNs Any w' (ofP (putP l i is k v)).1 A c∧Below w.heap.size w w'
theorem put_any (l:List KV) (hO:OkL l) (hl:l.length < 64) (k v:Bytes) (hk:1≤k.length∧k.length≤32) (hv:1≤v.length∧v.length≤500) (A:Option Addr) (c:Nat) (w:World) (ht:TNs Any w (ofP l).1 A c) :
  Calls Tryz.prog 37 #[.agg #[.slice A (ofP l).1.length c,.int .i64 (ofP l).2],.string (bs k),.string (bs v)] w (PutPost l k v w):=by
 have hb:Below w.heap.size w ((w.alloc (.cells #[.slice A (ofP l).1.length c,.int .i64 (ofP l).2] 75)).alloc (.cells #[.slice none 0 0,.int .i64 0] 75)):=((Below.refl _ _).alloc (Nat.le_refl _) _).alloc (by simp) _
 have hr0:((w.alloc (.cells #[.slice A (ofP l).1.length c,.int .i64 (ofP l).2] 75)).alloc (.cells #[.slice none 0 0,.int .i64 0] 75)).heap[w.heap.size+1]? = some (.cells #[.slice none 0 0,.int .i64 0] 75 (0,0)):=by
  have:=heap_alloc_new (w.alloc (.cells #[.slice A (ofP l).1.length c,.int .i64 (ofP l).2] 75)) (.cells #[.slice none 0 0,.int .i64 0] 75)
  rwa [World.size_alloc] at this
 have hs0:((w.alloc (.cells #[.slice A (ofP l).1.length c,.int .i64 (ofP l).2] 75)).alloc (.cells #[.slice none 0 0,.int .i64 0] 75)).heap.size=w.heap.size+2:=by simp
 have HP:=Lib.hid (pairs_any l hO A c _ (ht.keep hb))
 obtain ⟨R,hR⟩:∃ R,(ofP l).2=R:=⟨_,rfl⟩
 obtain ⟨L,hL⟩:∃ L,(ofP l).1.length=L:=⟨_,rfl⟩
 rw [hR,hL] at HP hb hr0 hs0 ⊢
 have HB:=Lib.hid hb
 have HR0:=Lib.hid hr0
 have HK:=Lib.hid hk
 have HV:=Lib.hid hv
 have HO:=Lib.hid hO
 have HS0:=Lib.hid hs0
 clear hb hr0 hR hL ht hk hv hO hs0
 go_enter Tryz.func37,Tryz.ntmps37
 go_wp2_with fail
 refine HP.out.mono ?_
 clear HP
 rintro e w1 ⟨A1,c1,rfl,hown,hb1⟩
 have HS1:=Lib.hid hb1.size
 have hbA:=below_call HB.out HB.out.size hb1
 have hr1:=(hb1.block (w.heap.size+1) (by rw [HS0.out];omega)).trans HR0.out
 rw [HS0.out] at hown HS1
 clear HB HR0 HS0 hb1
 have HB:=Lib.hid hbA
 have HR:=Lib.hid hr1
 have HW:=Lib.hid hown
 clear hbA hr1 hown
 go_wp2_with fail
 refine (may_yes k v HK.out.1 HK.out.2 HV.out.1 HV.out.2 _).mono ?_
 rintro e w2 ⟨rfl,rfl⟩
 go_wp2_with fail
 have hkv:KVs Any w2 l A1 c1:=⟨lies_own HW.out (fun _ _ _=>trivial),(own_cap HW.out).1,(own_cap HW.out).2⟩
 refine (find_any l HO.out.rise (by omega) k A1 c1 w2 hkv).mono ?_
 rintro e w3 ⟨i,is,rfl,hf,hb3⟩
 have hr3:=(hb3.block _ (Array.getElem?_eq_some_iff.1 HR.out).1).trans HR.out
 have hown3:=own_keep HW.out hb3
 have hbA:=below_call HB.out HB.out.size hb3
 have hs3:=Nat.le_trans HS1.out hb3.size
 have hok:OkL (putP l i is k v):=put_ok HO.out hf HK.out HV.out hl
 clear HB HR HW hkv hb3 HS1
 cases is with
 | true =>
  obtain ⟨q,hq,hqk⟩:=hf.here.1 rfl
  have hil:=(List.getElem?_eq_some_iff.1 hq).1
  obtain ⟨g,cap,cur,h1,h2,h3,h4,h5,h6,h7⟩:=hown3.2.resolve_left (fun h=>by omega)
  injection h1 with h1 _ h8
  subst h1;subst h8
  obtain ⟨g',o',e',_,c0,c1'⟩:=(⟨lies_own hown3 (fun _ _ _=>trivial),h4,h5⟩:KVs Any w3 l (some ⟨g,0,none⟩) c1).at_ hq
  injection e' with e';injection e' with e1 e2;subst e1;subst e2
  simp only [Nat.zero_add] at c0 c1'
  have f3:w3.frozen? ⟨g,i * 2+1,none⟩=false:=by simp [World.frozen?,h3]
  obtain ⟨L',hL'⟩:∃ L',putP l i true k v=L':=⟨_,rfl⟩
  have hlen:L'.length=l.length:=by rw [← hL',put_len hf];rfl
  have hkv4:KVs Any (w3.setCell ⟨g,i * 2+1,none⟩ (.string (bs v))) L' (some ⟨g,0,none⟩) c1:=by
   refine ⟨fun _=>⟨g,0,rfl,trivial,fun j u hj=>?_⟩,by omega,h5⟩
   rw [← hL',kvC_val hq hqk] at hj
   rw [Nat.zero_add]
   have hrow:=heap_setCell_here h3 (i:=i * 2+1) (.string (bs v))
   rw [cell_of_row _ _ _ _ _ _ hrow]
   have hsz:i * 2+1 < cur.size:=by rw [h6];omega
   rw [List.getElem?_set] at hj
   by_cases e:i * 2+1=j
   ·subst e
    rw [if_pos rfl] at hj
    split at hj
    ·simpa [hsz] using hj
    ·cases hj
   ·rw [if_neg e,← h7,List.getElem?_take] at hj
    split at hj
    ·simpa [Array.getElem?_setIfInBounds,e] using hj
    ·cases hj
  rw [hL'] at hok
  have hr4:(w3.setCell ⟨g,i * 2+1,none⟩ (.string (bs v))).heap[w.heap.size+1]? = _:=(heap_set_ne (by omega) _).trans hr3
  have hb4:Below w.heap.size w (w3.setCell ⟨g,i * 2+1,none⟩ (.string (bs v))):=hbA.setCell (p:=⟨g,_,_⟩) (by simp;omega) _
  have hiI:(i:Int) < (l.length:Int):=by omega
  have HL':=Lib.hid hL'
  clear hown3 hbA hr3 h3 h6 h7 h2 hL'
  go_wp2_with fail
  generalize w3.setCell ⟨g,i * 2+1,none⟩ (.string (bs v))=w4 at hkv4 hr4 hb4 ⊢
  rw [← hlen]
  obtain ⟨A',hA'⟩:∃ A',A'=(some ⟨g,0,none⟩:Option Addr):=⟨_,rfl⟩
  obtain ⟨c',hc'⟩:∃ c',c'=c1:=⟨_,rfl⟩
  rw [← hA',← hc'] at hkv4 ⊢
  refine (of_any L' hok A' c' w4 hkv4).mono ?_
  rintro e w5 ⟨A5,c5,rfl,ht5,hb5⟩
  have hr5:=(hb5.block _ (Array.getElem?_eq_some_iff.1 hr4).1).trans hr4
  have hB5:=below_call hb4 hb4.size hb5
  have h4l:=(Array.getElem?_eq_some_iff.1 hr4).1
  have d0:w5.cell? ⟨w.heap.size+1,0,none⟩=some (.slice none 0 0):=by rw [cell_of_row _ _ _ _ _ _ hr5];rfl
  have d1:w5.cell? ⟨w.heap.size+1,1,none⟩=some (.int .i64 0):=by rw [cell_of_row _ _ _ _ _ _ hr5];rfl
  have f0:w5.frozen? ⟨w.heap.size+1,0,none⟩=false:=by simp [World.frozen?,hr5]
  have f1:w5.frozen? ⟨w.heap.size+1,1,none⟩=false:=by simp [World.frozen?,hr5]
  have HG5:Hid (((w5.setCell ⟨w.heap.size+1,0,none⟩ (.slice A5 (ofP L').1.length c5)).setCell ⟨w.heap.size+1,1,none⟩ (.int .i64 (ofP L').2)).heap[w.heap.size+1]? = some (.cells #[.slice A5 (ofP L').1.length c5,.int .i64 (ofP L').2] 75 (0,0))):=Lib.hid (heap_setCell_here (heap_setCell_here hr5 _) _)
  have HT5:Hid (TNs Any ((w5.setCell ⟨w.heap.size+1,0,none⟩ (.slice A5 (ofP L').1.length c5)).setCell ⟨w.heap.size+1,1,none⟩ (.int .i64 (ofP L').2)) (ofP L').1 A5 c5):=Lib.hid (ht5.mono fun b _ hs=>⟨trivial,by rw [heap_set_ne (by omega),heap_set_ne (by omega)]⟩)
  have HB5:Hid (Below w.heap.size w ((w5.setCell ⟨w.heap.size+1,0,none⟩ (.slice A5 (ofP L').1.length c5)).setCell ⟨w.heap.size+1,1,none⟩ (.int .i64 (ofP L').2))):=Lib.hid ((hB5.setCell (p:=⟨w.heap.size+1,_,_⟩) (Nat.le_succ _) _).setCell (p:=⟨w.heap.size+1,_,_⟩) (Nat.le_succ _) _)
  clear hr5 hB5 ht5 hr4 hb4 hkv4 hb5
  go_wp2_with fail
  refine bodyPost_ret (v:=.tuple #[.agg #[.slice A5 (ofP L').1.length c5,.int .i64 (ofP L').2],.int .i64 0]) (results_row_tmp rfl _ _ (w.heap.size+1) _ _ _ _ rfl HG5.out _ rfl Tryz.underlying75 rfl infoT) rfl ?_
  refine ⟨i,_,A5,c5,hf,?_⟩
  rw [HL'.out]
  exact ⟨rfl,HT5.out,HB5.out⟩
 | false =>
  obtain ⟨L',hL'⟩:∃ L',putP l i false k v=L':=⟨_,rfl⟩
  have hlI:(l.length:Int) < 64:=by omega
  have hba:Below w3.heap.size w3 (w3.alloc (.cells #[.string (bs k),.string (bs v)] 121)):=(Below.refl _ _).alloc (Nat.le_refl _) _
  have hI:=insert_any l (by omega) i hf.le (k,v) (w.heap.size+2) A1 c1 (w3.alloc (.cells #[.string (bs k),.string (bs v)] 121)) (by simp;omega) (own_keep hown3 hba) w3.heap.size (heap_alloc_new w3 _) (fun b hb=>by have:=(hown3.lt b hb).2;omega)
  rw [show l.take i ++ (k,v) :: l.drop i=putP l i false k v from rfl,hL'] at hI
  rw [hL'] at hok
  have hrA:=(hba.block _ (Array.getElem?_eq_some_iff.1 hr3).1).trans hr3
  have hbB:=below_call hbA hbA.size hba
  have HI:=Lib.hid hI
  have HL':=Lib.hid hL'
  have hsz:(w3.alloc (.cells #[.string (bs k),.string (bs v)] 121)).heap.size=w3.heap.size+1:=by simp
  have HX:=Lib.hid (And.intro hrA (And.intro hbB hsz))
  clear hown3 hba hI hL' hrA hbB hr3 hbA hsz
  go_wp2_with fail
  refine HI.out.mono ?_
  rintro e w4 ⟨A',c',rfl,hkv4,hbI⟩
  have hr4:=(hbI.block (w.heap.size+1) (by omega)).trans HX.out.1
  have hb4:Below w.heap.size w w4:=HX.out.2.1.trans (hbI.mono (by omega))
  clear hbI
  go_wp2_with fail
  refine (of_any L' hok A' c' w4 hkv4).mono ?_
  rintro e w5 ⟨A5,c5,rfl,ht5,hb5⟩
  have hr5:=(hb5.block _ (Array.getElem?_eq_some_iff.1 hr4).1).trans hr4
  have hB5:=below_call hb4 hb4.size hb5
  have h4l:=(Array.getElem?_eq_some_iff.1 hr4).1
  have d0:w5.cell? ⟨w.heap.size+1,0,none⟩=some (.slice none 0 0):=by rw [cell_of_row _ _ _ _ _ _ hr5];rfl
  have d1:w5.cell? ⟨w.heap.size+1,1,none⟩=some (.int .i64 0):=by rw [cell_of_row _ _ _ _ _ _ hr5];rfl
  have f0:w5.frozen? ⟨w.heap.size+1,0,none⟩=false:=by simp [World.frozen?,hr5]
  have f1:w5.frozen? ⟨w.heap.size+1,1,none⟩=false:=by simp [World.frozen?,hr5]
  have HG5:Hid (((w5.setCell ⟨w.heap.size+1,0,none⟩ (.slice A5 (ofP L').1.length c5)).setCell ⟨w.heap.size+1,1,none⟩ (.int .i64 (ofP L').2)).heap[w.heap.size+1]? = some (.cells #[.slice A5 (ofP L').1.length c5,.int .i64 (ofP L').2] 75 (0,0))):=Lib.hid (heap_setCell_here (heap_setCell_here hr5 _) _)
  have HT5:Hid (TNs Any ((w5.setCell ⟨w.heap.size+1,0,none⟩ (.slice A5 (ofP L').1.length c5)).setCell ⟨w.heap.size+1,1,none⟩ (.int .i64 (ofP L').2)) (ofP L').1 A5 c5):=Lib.hid (ht5.mono fun b _ hs=>⟨trivial,by rw [heap_set_ne (by omega),heap_set_ne (by omega)]⟩)
  have HB5:Hid (Below w.heap.size w ((w5.setCell ⟨w.heap.size+1,0,none⟩ (.slice A5 (ofP L').1.length c5)).setCell ⟨w.heap.size+1,1,none⟩ (.int .i64 (ofP L').2))):=Lib.hid ((hB5.setCell (p:=⟨w.heap.size+1,_,_⟩) (Nat.le_succ _) _).setCell (p:=⟨w.heap.size+1,_,_⟩) (Nat.le_succ _) _)
  clear hr5 hB5 ht5 hr4 hb4 hkv4 hb5
  go_wp2_with fail
  refine bodyPost_ret (v:=.tuple #[.agg #[.slice A5 (ofP L').1.length c5,.int .i64 (ofP L').2],.int .i64 0]) (results_row_tmp rfl _ _ (w.heap.size+1) _ _ _ _ rfl HG5.out _ rfl Tryz.underlying75 rfl infoT) rfl ?_
  refine ⟨i,_,A5,c5,hf,?_⟩
  rw [HL'.out]
  exact ⟨rfl,HT5.out,HB5.out⟩
end Go.Proofs.YtdfmheademcbkaaGreat
