/- The walk of trie.of. -/
import Derived.Test.YtdfmheademcbkaaGreatZ16
import Derived.Test.YtdfmheademcbkaaGreatZ05
import Derived.Test.YtdfmheademcbkaaGreatZ03
namespace Go.Proofs.YtdfmheademcbkaaGreat
set_option linter.unusedVariables false
set_option linter.unusedSimpArgs false
open Go.RowKit
set_option maxHeartbeats 4000000
set_option maxRecDepth 100000
theorem KRow.keep {w w':World} {g:Nat} {l:List KV} (h:KRow w g l) (hb:Below w.heap.size w w'):KRow w' g l:=h.of_block (hb.block g h.lt)
/-- nodes in memory, in blocks of S -/
structure TNs (S:Nat→Prop) (w:World) (ns:List TN) (A:Option Addr) (c:Nat):Prop where
 lies:Lies S w A (nodesC ns)
 wide:Wide ns
 le:ns.length≤c
 cap:c≤maxLen
section
variable {S S':Nat→Prop} {w w':World} {ns:List TN} {A:Option Addr} {c:Nat}
theorem TNs.mono (h:TNs S w ns A c) (hb:∀ b,b < w.heap.size→S b→S' b∧w'.heap[b]? = w.heap[b]?):TNs S' w' ns A c:=⟨h.lies.mono hb,h.wide,h.le,h.cap⟩
theorem TNs.keep (h:TNs S w ns A c) (hb:Below w.heap.size w w'):TNs S w' ns A c:=h.mono fun b hl hs=>⟨hs,hb.block b hl⟩
theorem TNs.any (h:TNs S w ns A c):TNs Any w ns A c:=⟨h.lies.any,h.wide,h.le,h.cap⟩
theorem TNs.at_ (h:TNs S w ns A c) {i:Nat} {n:TN} (hi:ns[i]? = some n):∃ g o,A=some ⟨g,o,none⟩∧S g∧∀ j u,(nodeC n)[j]? = some u→w.cell? ⟨g,o+i * 19+j,none⟩=some u:=by
 have hn:=h.wide n (List.mem_of_getElem? hi)
 have h0:(nodesC ns)[i * 19+0]? = some (.int .i64 n.k):=nodesC_get h.wide hi 0 _ rfl
 obtain ⟨g,o,hA,hs,hc⟩:=h.lies (by intro e;rw [e] at h0;simp at h0)
 exact ⟨g,o,hA,hs,fun j u hj=>by rw [Nat.add_assoc];exact hc _ _ (nodesC_get h.wide hi j u hj)⟩
theorem TNs.emp (S:Nat→Prop) (w:World):TNs S w [] none 0:=⟨Lies.nil,fun n h=>(by cases h),Nat.le_refl _,Nat.zero_le _⟩
end
/-- the trie of pairs -/
def ofP (l:List KV):List TN×Int:=buildP 66 (partsP l) 0
theorem ofP_nil:ofP []=([],-1):=buildP_nil 66 0
theorem OkL.buildIn {l:List KV} (h:OkL l):BuildIn 66 (partsP l):=⟨h.short,rise_parts h.rise,h.half,by rw [partsP_len];have:=h.le;omega⟩
/-- so many pairs are turned into half bytes -/
def partsM (l:List KV) (i:Nat):List KV:=partsP (l.take i) ++ List.replicate (l.length - i) ([],[])
theorem partsM_len (l:List KV) (i:Nat) (h:i≤l.length):(partsM l i).length=l.length:=by simp [partsM,partsP_len];omega
theorem partsM_step {l:List KV} {i:Nat} {p:KV} (h:l[i]? = some p):(partsM l i).set i (nibs p.1,p.2)=partsM l (i+1):=by
 have hi:=(List.getElem?_eq_some_iff.1 h).1
 unfold partsM
 rw [List.set_append_right _ _ (by rw [partsP_len,List.length_take];omega),partsP_len,List.length_take,Nat.min_eq_left (by omega),Nat.sub_self,show l.length - i=(l.length - (i+1))+1 by omega,List.replicate_succ,List.set_cons_zero,take_snoc h]
 simp [partsP]
theorem partsM_at {l:List KV} {i:Nat} (h:i < l.length):(partsM l i)[i]? = some ([],[]):=by
 unfold partsM
 rw [List.getElem?_append_right (by rw [partsP_len,List.length_take];omega),partsP_len,List.length_take,Nat.min_eq_left (by omega),Nat.sub_self,List.getElem?_replicate,if_pos (by omega)]
theorem own_cap {w:World} {base:Nat} {e:TypeId} {size:Nat} {A:Option Addr} {n c:Nat} {xs:List Value} (h:w.ownsRow base e size (.slice A n c) n xs):n≤c∧c≤maxLen:=by
 rcases h.2 with ⟨h1,h2⟩ | ⟨g,cap,cur,h1,_,_,h2,h3,_⟩
 ·injection h1 with _ _ h3;subst h2;subst h3;exact ⟨Nat.le_refl _,Nat.zero_le _⟩
 ·injection h1 with _ _ h4;subst h4;exact ⟨h2,h3⟩
theorem infoT:(Tryz.prog.info? 75).map (·.size)=some 2:=by kernel_rfl
/-- behind the trie of pairs -/
def OfPost (l:List KV) (w:World) (e:Ending) (w':World):Prop :=
 ∃ A c,e=.returned (.agg #[.slice A (ofP l).1.length c,.int .i64 (ofP l).2])∧TNs (fun b=>w.heap.size≤b) w' (ofP l).1 A c∧Below w.heap.size w w'
theorem of_any (l:List KV) (hO:OkL l) (A:Option Addr) (c:Nat) (w:World) (hv:KVs Any w l A c) :
  Calls Tryz.prog 70 #[.slice A l.length c] w (OfPost l w):=by
 have hl:=hO.le
 have hkey:=hO.key
 have hmk:=mk_kv l.length (by omega) (w.alloc (.cells #[.slice none 0 0,.int .i64 0] 75))
 have hr0:KRow ((w.alloc (.cells #[.slice none 0 0,.int .i64 0] 75)).alloc (.cells (kvC (List.replicate l.length ([],[]))).toArray 121)) (w.heap.size+1) (partsM l 0):=by
  have:partsM l 0=List.replicate l.length ([],[]):=by simp [partsM,partsP]
  rw [this]
  have h:=heap_alloc_new (w.alloc (.cells #[.slice none 0 0,.int .i64 0] 75)) (.cells (kvC (List.replicate l.length ([],[]))).toArray 121)
  rw [World.size_alloc] at h;exact h
 have hb0:Below w.heap.size w ((w.alloc (.cells #[.slice none 0 0,.int .i64 0] 75)).alloc (.cells (kvC (List.replicate l.length ([],[]))).toArray 121)):=((Below.refl _ _).alloc (Nat.le_refl _) _).alloc (by simp) _
 have g0:((w.alloc (.cells #[.slice none 0 0,.int .i64 0] 75)).alloc (.cells (kvC (List.replicate l.length ([],[]))).toArray 121)).heap[w.heap.size]? = some (.cells #[.slice none 0 0,.int .i64 0] 75 (0,0)):=by
  rw [heap_alloc_old _ _ (by simp)];exact heap_alloc_new w _
 rw [World.size_alloc] at hmk
 have hlI:(l.length:Int)≤64:=by omega
 go_enter Tryz.func70,Tryz.ntmps70
 go_wp2_with fail
 clear hmk
 generalize (w.alloc (.cells #[.slice none 0 0,.int .i64 0] 75)).alloc (.cells (kvC (List.replicate l.length ([],[]))).toArray 121)=W1 at hr0 hb0 g0 ⊢
 go_loopw [13] (fun v wr=>∃ i:Nat,i≤l.length∧v=.int .i64 i∧KRow wr (w.heap.size+1) (partsM l i)∧Below w.heap.size w wr∧wr.heap[w.heap.size]? = some (.cells #[.slice none 0 0,.int .i64 0] 75 (0,0))) (fun v _=>l.length - (intOf v).toNat)
 case atStart=>exact ⟨0,by omega,rfl,hr0,hb0,g0⟩
 case round =>
  clear hr0 hb0 g0
  obtain ⟨i,hi,rfl,hr,hb,hg⟩:=hrel
  by_cases hlt:i < l.length
  ·have hlt':(i:Int) < (l.length:Int):=by omega
   obtain ⟨p,hp⟩:=getElem_ex hlt
   obtain ⟨g,o,rfl,_,c0,c1⟩:=(hv.keep hb).at_ hp
   have hpk:=hkey p (List.mem_of_getElem? hp)
   have hst:=partsM_step hp
   have hrl:=hr.lt
   have hgl:=(Array.getElem?_eq_some_iff.1 hg).1
   obtain ⟨p1,p2⟩:=p
   simp only [] at hpk c0 c1 hst
   have hml:=partsM_len l i (by omega)
   have HS:=Lib.hid hst
   clear hst hp
   go_wp2_with fail
   have hb2:Below w.heap.size w (wr.alloc (.cells #[.string (bs p1),.string (bs p2)] 121)):=hb.alloc hb.size _
   have hr2:=hr.of_block (heap_alloc_old wr (.cells #[.string (bs p1),.string (bs p2)] 121) hrl)
   have hg2:=(heap_alloc_old wr (.cells #[.string (bs p1),.string (bs p2)] 121) hgl).trans hg
   have e0:(wr.alloc (.cells #[.string (bs p1),.string (bs p2)] 121)).cell? ⟨wr.heap.size,0,none⟩=some (.string (bs p1)):=by simp
   have e1:(wr.alloc (.cells #[.string (bs p1),.string (bs p2)] 121)).cell? ⟨wr.heap.size,1,none⟩=some (.string (bs p2)):=by simp
   generalize wr.alloc (.cells #[.string (bs p1),.string (bs p2)] 121)=w2 at hb2 hr2 hg2 e0 e1 ⊢
   clear c0 c1 hb hr hg hv
   refine wp_region_held_drew (S:=fun w'=>w'.cell? ⟨wr.heap.size,0,none⟩=some (.string (bs p1))∧w'.cell? ⟨wr.heap.size,1,none⟩=some (.string (bs p2))) (by kernel_rfl) ⟨e0,e1⟩ (fun hHeld=>?_)
   refine H_t (i:=0) (v:=.slice (some ⟨w.heap.size+1,0,none⟩) l.length l.length) rfl (Or.inl ⟨by rfl,fun w' hS=>by go_simp⟩) hHeld ?_
   refine H_t (i:=1) (v:=.int .i64 (i:Int)) rfl (Or.inl ⟨by rfl,fun w' hS=>by go_simp⟩) hHeld ?_
   refine H_t (i:=2) (v:=.pointer (some ⟨wr.heap.size,0,none⟩)) rfl (Or.inl ⟨by rfl,fun w' hS=>by go_simp⟩) hHeld ?_
   refine H_t (i:=3) (v:=.string (bs p1)) rfl (yieldsIf_load_cell rfl rfl rfl (fun w' hS=>hS.1) Tryz.underlying9 rfl) hHeld ?_
   refine H_t (i:=5) (v:=.pointer (some ⟨wr.heap.size,1,none⟩)) rfl (Or.inl ⟨by rfl,fun w' hS=>by go_simp⟩) hHeld ?_
   refine H_t (i:=6) (v:=.string (bs p2)) rfl (yieldsIf_load_cell rfl rfl rfl (fun w' hS=>hS.2) Tryz.underlying9 rfl) hHeld ?_
   have hbd:Below w2.heap.size w2 w2.drew:=(Below.refl _ _).drew
   replace hg2:=(hbd.block _ (Array.getElem?_eq_some_iff.1 hg2).1).trans hg2
   replace hr2:=hr2.keep hbd
   replace hb2:=below_call hb2 hb2.size hbd
   replace e0:w2.drew.cell? ⟨wr.heap.size,0,none⟩=some (.string (bs p1)):=hHeld.1
   replace e1:w2.drew.cell? ⟨wr.heap.size,1,none⟩=some (.string (bs p2)):=hHeld.2
   clear hHeld hbd
   generalize w2.drew=w3 at hr2 hb2 hg2 e0 e1 ⊢
   refine H_now 4 fun K hK=>?_
   go_simp
   refine (nibOf_any p1 (by omega) _).mono ?_
   rintro e w4 ⟨rfl,hb4⟩
   have hr4:=hr2.keep hb4
   have hB4:=below_call hb2 hb2.size hb4
   obtain ⟨q1,q2⟩:=bcell hb4
   rw [← q1 _ _ (lt_of_cell e0)] at e0
   rw [← q1 _ _ (lt_of_cell e1)] at e1
   clear q1 q2
   go_wp2_with fail
   refine hK.out _ _ ⟨e0,e1⟩ (fun hHeld=>?_)
   clear hK K
   refine lay_H ?_
   refine H_t (i:=7) (v:=.agg #[.string (bs (nibs p1)),.string (bs p2)]) rfl (Or.inl ⟨by rfl,fun w' hS=>by go_simp⟩) hHeld ?_
   refine H_t (i:=8) (v:=.pointer (some ⟨w.heap.size+1,i * 2,none⟩)) rfl (Or.inl ⟨by rfl,fun w' hS=>by go_simp⟩) hHeld ?_
   refine H_now 9 fun K hK=>?_
   obtain ⟨d0,d1⟩:=hr4.cell (partsM_at hlt)
   have f0:=hr4.free (i * 2)
   have f1:=hr4.free (i * 2+1)
   go_simp
   refine hK.out _ _ ⟨(by rw [World.cell?_setCell_far _ _ _ _ (by simp;omega),World.cell?_setCell_far _ _ _ _ (by simp;omega)];exact e0),(by rw [World.cell?_setCell_far _ _ _ _ (by simp;omega),World.cell?_setCell_far _ _ _ _ (by simp;omega)];exact e1)⟩ (fun hHeld=>?_)
   clear hK K
   refine lay_H ?_
   refine wpAnyH_done (by kernel_rfl) ?_ _
   go_wp2_with fail
   go_roundw
   case rel =>
    refine ⟨i+1,by omega,by go_num,?_,?_,?_⟩
    ·have:=hr4.set i (nibs p1,p2) (by omega)
     rw [HS.out] at this
     exact this
    ·exact (hB4.setCell (p:=⟨w.heap.size+1,_,_⟩) (by simp) _).setCell (p:=⟨w.heap.size+1,_,_⟩) (by simp) _
    ·rw [heap_set_ne (by omega),heap_set_ne (by omega)];exact (hb4.block _ (Array.getElem?_eq_some_iff.1 hg2).1).trans hg2
   case measure=>simp [intOf];omega
  ·obtain rfl:i=l.length:=by omega
   have hm:partsM l l.length=partsP l:=by simp [partsM]
   rw [hm] at hr
   clear hm
   have hrl:=hr.lt
   have hgl:=(Array.getElem?_eq_some_iff.1 hg).1
   have hA:Arn (wr.alloc (.cells #[.slice none 0 0] 191)) wr.heap.size (.slice none 0 0) []:=⟨heap_alloc_new _ _,World.ownsRow_nil _ _ _ _,fun n h=>(by cases h)⟩
   have hk:KVs (Apart wr.heap.size (.slice none 0 0)) (wr.alloc (.cells #[.slice none 0 0] 191)) (partsP l) (some ⟨w.heap.size+1,0,none⟩) l.length :=
    KRow.kvs (hr.of_block (heap_alloc_old wr _ hrl)) _ ⟨by omega,by simp [Value.ownBlock]⟩ (by rw [partsP_len];exact Nat.le_refl _) (by simp only [maxLen];omega)
   have hcall:=build_any 66 (Nat.le_refl _) (partsP l) _ _ _ _ _ [] hO.buildIn (by rw [partsP_len,List.length_nil];omega) hk hA
   rw [partsP_len] at hcall
   have hb1:Below w.heap.size w (wr.alloc (.cells #[.slice none 0 0] 191)):=hb.alloc hb.size _
   have hg1:=(heap_alloc_old wr (.cells #[.slice none 0 0] 191) hgl).trans hg
   have hs1:wr.heap.size < (wr.alloc (.cells #[.slice none 0 0] 191)).heap.size:=by simp
   clear hk hA hr hv
   go_wp2_with fail
   refine hcall.mono ?_
   clear hcall
   generalize wr.alloc (.cells #[.slice none 0 0] 191)=W1 at hb1 hg1 hs1 ⊢
   rintro e w5 ⟨rfl,v5,hA5,hT5⟩
   rw [List.nil_append] at hA5
   simp only [List.length_nil] at hA5 ⊢
   have hg5:=(hT5.block _ (by omega) ⟨by omega,by simp [Value.ownBlock]⟩).trans hg1
   obtain ⟨A5,k5,rfl⟩:=own_form hA5.own
   have z0:=hA5.cell
   have hO5:OfPost l w (.returned (.agg #[.slice A5 (ofP l).1.length k5,.int .i64 (ofP l).2])) ((w5.setCell ⟨w.heap.size,0,none⟩ (.slice A5 (ofP l).1.length k5)).setCell ⟨w.heap.size,1,none⟩ (.int .i64 (ofP l).2)):=by
    have hob:=hA5.own
    have hcap:=own_cap hob
    have ht:TNs (fun b=>wr.heap.size+1≤b) w5 (ofP l).1 A5 k5:=⟨lies_own hob (fun g h _=>h),hA5.wide,hcap.1,hcap.2⟩
    refine ⟨A5,k5,rfl,ht.mono (fun b hb hs=>⟨by omega,by rw [heap_set_ne (by omega),heap_set_ne (by omega)]⟩),?_⟩
    have hB5:Below w.heap.size w w5:=⟨hT5.os.trans hb1.os,hT5.tape.trans hb1.tape,hT5.output.trans hb1.output,Nat.le_trans hb1.size hT5.size,fun k hk=>(hT5.block k (by omega) ⟨by omega,by simp [Value.ownBlock]⟩).trans (hb1.block k hk)⟩
    exact (hB5.setCell (p:=⟨w.heap.size,_,_⟩) (Nat.le_refl _) _).setCell (p:=⟨w.heap.size,_,_⟩) (Nat.le_refl _) _
   have HO5:=Lib.hid hO5
   have d0:w5.cell? ⟨w.heap.size,0,none⟩=some (.slice none 0 0):=by rw [cell_of_row _ _ _ _ _ _ hg5];rfl
   have d1:w5.cell? ⟨w.heap.size,1,none⟩=some (.int .i64 0):=by rw [cell_of_row _ _ _ _ _ _ hg5];rfl
   have f0:w5.frozen? ⟨w.heap.size,0,none⟩=false:=by simp [World.frozen?,hg5]
   have f1:w5.frozen? ⟨w.heap.size,1,none⟩=false:=by simp [World.frozen?,hg5]
   have HG5:Hid (((w5.setCell ⟨w.heap.size,0,none⟩ (.slice A5 (ofP l).1.length k5)).setCell ⟨w.heap.size,1,none⟩ (.int .i64 (ofP l).2)).heap[w.heap.size]? = some (.cells #[.slice A5 (ofP l).1.length k5,.int .i64 (ofP l).2] 75 (0,0))):=Lib.hid (heap_setCell_here (heap_setCell_here hg5 _) _)
   have hof:buildP 66 (partsP l) 0=ofP l:=rfl
   rw [hof] at z0 ⊢
   clear hO5 hA5 hT5 hb hb1 hg hg1 hg5 hof
   go_wp2_with fail
   refine bodyPost_ret (v:=.agg #[.slice A5 (ofP l).1.length k5,.int .i64 (ofP l).2]) (results_cell_row rfl _ _ w.heap.size _ _ _ _ rfl HG5.out Tryz.underlying75 rfl infoT) rfl ?_
   exact HO5.out
/- The walks of trie.may, and of the literal that collects pairs. -/
theorem may_yes (k v:Bytes) (h1:1≤k.length) (h2:k.length≤32) (h3:1≤v.length) (h4:v.length≤500) (w:World) :
  Calls Tryz.prog 67 #[.string (bs k),.string (bs v)] w fun e w'=>e=.returned (.bool true)∧w'=w:=by
 have h1:(1:Int)≤k.length:=by omega
 have h2:(k.length:Int)≤32:=by omega
 have h3:(1:Int)≤v.length:=by omega
 have h4:(v.length:Int)≤500:=by omega
 go_enter Tryz.func67,Tryz.ntmps67
 go_wp2_with fail
 go_ret
 exact ⟨rfl,rfl⟩
/-- the pairs that are collected behind T -/
structure Otn (w:World) (T:Nat) (v:Value) (l:List KV):Prop where
 ptr:w.heap[T]? = some (.cells #[v] 105 (0,0))
 own:w.ownsRow (T+1) 121 2 v l.length (kvC l)
theorem Otn.keep {w w':World} {T:Nat} {v:Value} {l:List KV} (h:Otn w T v l) (hb:Below w.heap.size w w'):Otn w' T v l :=
 ⟨(hb.block T (Array.getElem?_eq_some_iff.1 h.ptr).1).trans h.ptr,own_keep h.own hb⟩
theorem Otn.lt {w:World} {T:Nat} {v:Value} {l:List KV} (h:Otn w T v l):T < w.heap.size:=(Array.getElem?_eq_some_iff.1 h.ptr).1
theorem Otn.cell {w:World} {T:Nat} {v:Value} {l:List KV} (h:Otn w T v l):w.cell? ⟨T,0,none⟩=some v:=by
 rw [cell_of_row _ _ _ _ _ _ h.ptr];rfl
theorem Otn.free {w:World} {T:Nat} {v:Value} {l:List KV} (h:Otn w T v l):w.frozen? ⟨T,0,none⟩=false:=by simp [World.frozen?,h.ptr]
theorem emit_fin {T:Nat} {v v1:Value} {l:List KV} {p:KV} {w W2 w4:World} (hAA:Otn W2 T v l) (hb:Below w.heap.size w W2) (hTw:T < w.heap.size)
  (hown1:w4.ownsRow (T+1) 121 2 v1 (l.length+1) (kvC l ++ kvC [p])) (hg1:W2.grownBy w4 v.ownBlock) (hat1:v1.ownBlock=v.ownBlock∨v1.ownBlock=some W2.heap.size)
  (hne:some T≠v.ownBlock):Otn (w4.setCell ⟨T,0,none⟩ v1) T v1 (l ++ [p])∧ArnTo T v w (w4.setCell ⟨T,0,none⟩ v1) v1:=by
 have hp:w4.heap[T]? = some (.cells #[v] 105 (0,0)):=(hg1.block T hAA.lt hne).trans hAA.ptr
 refine ⟨⟨?_,?_⟩,⟨hg1.os.trans hb.os,hg1.tape.trans hb.tape,hg1.output.trans hb.output,Nat.le_trans hb.size (Nat.le_trans hg1.size (by simp)),fun k hk ha=>?_,fun k hk=>?_⟩⟩
 ·rw [heap_setCell_here hp];rfl
 ·have:=own_setOther (g:=T) (i:=0) hown1 (by omega) v1
  rw [List.length_append,kvC_append]
  simpa using this
 ·rw [heap_set_ne ha.1]
  exact (hg1.block k (Nat.lt_of_lt_of_le hk hb.size) (fun e=>ha.2 e.symm)).trans (hb.block k hk)
 ·rcases hat1 with h1 | h1
  ·exact .inl (h1 ▸ hk)
  ·rw [h1] at hk;injection hk with hk;exact .inr (by rw [← hk];exact hb.size)
/-- behind pairs that are handed on -/
def EmitPost (T:Nat) (v:Value) (l:List KV) (w:World) (e:Ending) (w':World):Prop :=
 e=.returned (.bool true)∧∃ v',Otn w' T v' l∧ArnTo T v w w' v'
theorem emit_any (t x:Bytes) (hG:Good t (([]:Bytes),x)) (l:List KV) (hl:l.length < 64) (T:Nat) (v:Value) (w:World) (hO:Otn w T v l) :
  Calls Tryz.prog 113 #[.string (bs t),.string (bs x),.pointer (some ⟨T,0,none⟩)] w (EmitPost T v (l ++ [(joinP t,x)]) w):=by
 obtain ⟨h1,h2,h3,h4,h5⟩:=hG
 simp only [List.append_nil] at h1 h2 h3 h4 h5
 have hj:(joinP t).length=t.length / 2:=joinP_len t
 have hx1:(joinP t).length ≥ 1:=by omega
 have hx2:(joinP t).length≤32:=by omega
 have hlI:(l.length:Int)+1≤64:=by omega
 have HH:=Lib.hid h1
 clear h1 hj
 go_enter Tryz.func113,Tryz.ntmps113
 go_wp2_with fail
 refine (Key_any t (by omega) HH.out h2 _).mono ?_
 rintro e w1 ⟨rfl,hb1⟩
 have hO1:=hO.keep hb1
 obtain ⟨A0,k0,rfl⟩:=own_form hO1.own
 have z0:=hO1.cell
 have z1:=hO1.free
 have hne:some T≠(Value.slice A0 l.length k0).ownBlock:=fun e=>by have:=(hO1.own.lt T e.symm).1;omega
 have hOO:Otn (w1.alloc (.cells #[.string (bs (joinP t)),.string (bs x)] 121)) T (.slice A0 l.length k0) l:=hO1.keep ((Below.refl _ _).alloc (Nat.le_refl _) _)
 have hbb:Below w.heap.size w (w1.alloc (.cells #[.string (bs (joinP t)),.string (bs x)] 121)):=hb1.alloc hb1.size _
 have hTw:=hO.lt
 have hTw1:=hO1.lt
 have HB:=Lib.hid hbb
 have HO:=Lib.hid hOO
 clear hO hO1 hb1 hOO hbb
 go_wp2_with (at_builtin;go_must (refine wpl_append elKV rfl rfl (T+1) HO.out.own rfl (m:=1) [.string (bs (joinP t)),.string (bs x)] rfl rfl ?_ ?_ ?_ ?_ ?_ ?_;exact (lies_new w1 #[.string (bs (joinP t)),.string (bs x)] _);(intro u hu;simp at hu;rcases hu with rfl | rfl <;> rfl);(simp only [maxLen];omega);omega;(simp;omega);intro v1 w4 hown1 hg1 hat1;obtain ⟨A1,k1,rfl⟩:=own_form hown1;have z2:w4.cell? ⟨T,0,none⟩=some (.slice A0 l.length k0):=hg1.cell HO.out.cell hne;have z3:w4.frozen? ⟨T,0,none⟩=false:=(World.frozen?_of_block (hg1.block T HO.out.lt hne)).trans HO.out.free;have HF:=Lib.hid (emit_fin (p:=(joinP t,x)) HO.out HB.out hTw hown1 hg1 hat1 hne);clear hown1 hg1 hat1))
 refine (may_yes (joinP t) x hx1 hx2 h5.1 h5.2 _).mono ?_
 rintro e w5 ⟨rfl,rfl⟩
 have z5:=HF.out.1.cell
 go_wp2_with fail
 go_ret
 exact ⟨by simp [hlI],_,HF.out.1,HF.out.2⟩
/- The walk of trie.walk. -/
theorem TNs.arn {w w':World} {g:Nat} {v v':Value} {l:List TN} {A:Option Addr} {c:Nat} (h:TNs (Apart g v) w l A c) (ha:ArnTo g v w w' v'):TNs (Apart g v') w' l A c :=
 h.mono fun b hb hs=>⟨ha.apart hb hs,ha.block b hb hs⟩
/-- what walk does below the topmost node of pairs -/
def WalkSaid (N:Nat):Prop:=∀ (l:List KV) (b:Nat) (t:Bytes) (ns:List TN) (A:Option Addr) (c:Nat) (root:Int) (l0:List KV) (T:Nat) (v:Value) (w:World),
 l ≠ []→Short N l→Rise l→Half l→Goods t l→l0.length+l.length≤64→Sub ns (buildP N l b).1 b→ns.length≤10000→TNs (Apart T v) w ns A c→Otn w T v l0 →
 Calls Tryz.prog 112 #[.agg #[.slice A ns.length c,.int .i64 root],.int .i64 (buildP N l b).2,.string (bs t),.func (.func 113) #[] #[.pointer (some ⟨T,0,none⟩)]] w (EmitPost T v (l0 ++ outP t l) w)
theorem good_flat {t p x:Bytes} (h:Good t (p,x)):Good (t ++ p) (([]:Bytes),x) :=
 ⟨by rw [List.append_nil];exact h.half,by rw [List.append_nil];exact h.even,by rw [List.append_nil];exact h.ge,by rw [List.append_nil];exact h.le,h.val⟩
theorem walk_one (N:Nat) (p:KV) (b:Nat) (t:Bytes) (ns:List TN) (A:Option Addr) (c:Nat) (root:Int) (l0:List KV) (T:Nat) (v:Value) (w:World) (hG:Goods t [p]) (h0:l0.length+1≤64) (hS:Sub ns (buildP (N+1) [p] b).1 b)
  (hn:ns.length≤10000) (hv:TNs (Apart T v) w ns A c) (hO:Otn w T v l0) :
  Calls Tryz.prog 112 #[.agg #[.slice A ns.length c,.int .i64 root],.int .i64 (buildP (N+1) [p] b).2,.string (bs t),.func (.func 113) #[] #[.pointer (some ⟨T,0,none⟩)]] w (EmitPost T v (l0 ++ outP t [p]) w):=by
 obtain ⟨p1,p2⟩:=p
 have hat:ns[b]? = some ⟨1,p1,p2,noKids⟩:=hS 0 _ rfl
 have hg:=hG (p1,p2) (by simp)
 have htl:(t.length:Int)≤64:=by have:=hg.le;simp at this;omega
 have htp:t.length+p1.length≤64:=by have:=hg.le;simp at this;omega
 have hnk:(⟨1,p1,p2,noKids⟩:TN).kids.length=16:=rfl
 have hbp:(buildP (N+1) [(p1,p2)] b).2=(b:Int):=rfl
 rw [hbp]
 have hbl:b < ns.length:=(List.getElem?_eq_some_iff.1 hat).1
 have hbI:(b:Int) < ns.length:=by omega
 have hnI:(ns.length:Int)≤10000:=by omega
 obtain ⟨n,hN⟩:∃ n:TN,n=⟨1,p1,p2,noKids⟩:=⟨_,rfl⟩
 rw [← hN] at hat hnk
 have hb:=(Below.refl w.heap.size w).alloc (Nat.le_refl _) (.cells #[.slice A ns.length c,.int .i64 root] 75)
 obtain ⟨g,o,rfl,hSg,hc⟩:=(hv.keep hb).at_ hat
 have hz:=newN (w.alloc (.cells #[.slice (some ⟨g,o,none⟩) ns.length c,.int .i64 root] 75))
 have hi:=infoN hnk
 have hiL:(Tryz.prog.info? 130).map (·.size)=some (nodeC n).length:=by rw [hi];simp
 have ha:=allN n
 have hs:=sizeN (n:=zeroN 0) (m:=n) rfl hnk
 have hV:=varN (w.alloc (.cells #[.slice (some ⟨g,o,none⟩) ns.length c,.int .i64 root] 75)) n
 rw [World.size_alloc] at hz hV
 have hbx:(w.alloc (.cells #[.slice (some ⟨g,o,none⟩) ns.length c,.int .i64 root] 75)).heap[w.heap.size]? = some (.cells #[.slice (some ⟨g,o,none⟩) ns.length c,.int .i64 root] 75 (0,0)):=heap_alloc_new w _
 have hk0:(nodeC n)[0]? = some (.int .i64 n.k):=rfl
 have hk1:(nodeC n)[1]? = some (.string (bs n.part)):=rfl
 have hk2:(nodeC n)[2]? = some (.string (bs n.value)):=rfl
 clear hbp
 have HN:=Lib.hid hN
 have HB:=Lib.hid hb
 have HX:=Lib.hid hbx
 have HK:=Lib.hid hnk
 have HG:=Lib.hid hG
 have HV:=Lib.hid hv
 have HO:=Lib.hid hO
 clear hb hS hat hbx hnk hG hv hO hN
 go_enter Tryz.func112,Tryz.ntmps112
 go_wp2_with (first | (refine wpl_load_at rfl rfl rfl (nodeC n) hc Tryz.underlying130 rfl hiL ?_) | (refine wpList_store_row rfl _ _ _ rfl (w.heap.size+1) (nodeC n).toArray rfl rfl _ _ hz hi hs ha ?_;go_must (generalize hW2:World.setRow _ (w.heap.size+1) _=W2 at hV ⊢;clear hW2 hz hs hi ha hc hiL;obtain ⟨hn,hb2⟩:=hV;have hbx2:=(hb2.block w.heap.size (by simp)).trans HX.out;have d0:=hn.cell hk0;have d1:=hn.cell hk1;have d2:=hn.cell hk2;have hb3:=HB.out.trans (hb2.mono (by simp));rw [HN.out] at d0 d1 d2;simp only [] at d0 d1 d2;have HW:=Lib.hid (And.intro hn (And.intro hbx2 hb3));clear hn hb2 hb3 hbx2 hk0 hk1 hk2)))
 refine (emit_any (t ++ p1) p2 (good_flat hg) l0 (by omega) T v _ (HO.out.keep HW.out.2.2)).mono ?_
 rintro e w5 ⟨rfl,v5,hO5,hT5⟩
 go_wp2_with fail
 go_ret
 exact ⟨rfl,v5,hO5,(ArnTo.of_below HW.out.2.2).trans hT5⟩
theorem walk_joint (N:Nat) (hN:WalkSaid N) (l:List KV) (h2:2≤l.length) (hk:0 < comP l) (b:Nat) (t:Bytes) (ns:List TN) (A:Option Addr) (c:Nat) (root:Int) (l0:List KV) (T:Nat) (v:Value) (w:World)
  (hSh:Short (N+1) l) (hR:Rise l) (hH:Half l) (hG:Goods t l) (h0:l0.length+l.length≤64) (hS:Sub ns (buildP (N+1) l b).1 b)
  (hn:ns.length≤10000) (hv:TNs (Apart T v) w ns A c) (hO:Otn w T v l0) :
  Calls Tryz.prog 112 #[.agg #[.slice A ns.length c,.int .i64 root],.int .i64 (buildP (N+1) l b).2,.string (bs t),.func (.func 113) #[] #[.pointer (some ⟨T,0,none⟩)]] w (EmitPost T v (l0 ++ outP t l) w):=by
 obtain ⟨p,hp⟩:∃ p,l[0]? = some p:=getElem_ex (by omega)
 have hBP:=buildP_joint N hp h2 hk b
 have hpk:=comP_len' hR p (List.mem_of_getElem? hp)
 obtain ⟨u,hu⟩:=comP_take' hR
 have hup:=hu p (List.mem_of_getElem? hp)
 have hg:=hG p (List.mem_of_getElem? hp)
 have htl:(t.length:Int)≤64:=by have:=hg.le;simp at this;omega
 have htp:t.length+u.length≤64:=by have:=hg.le;simp at this;rw [← hup,List.length_take];omega
 have hle:l.length≤64:=by omega
 rw [hBP] at hS ⊢
 simp only [] at hS ⊢
 rw [hup] at hS
 obtain ⟨J,hJ⟩:∃ J,b+(buildP N (lessP l (comP l)) b).1.length=J:=⟨_,rfl⟩
 have hat:=hS.last
 have hsub:=hS.left
 rw [hJ] at hat ⊢
 have hnl:lessP l (comP l) ≠ []:=by intro e;have:=congrArg List.length e;rw [lessP_len,List.length_nil] at this;omega
 have hshl:Short N (lessP l (comP l)):=short_less hSh hk (fun q hq=>comP_len' hR q hq)
 obtain ⟨htop,hpos⟩:=buildP_top N (lessP l (comP l)) b hnl hshl
 rw [hJ] at htop
 have hJ1:1≤J:=by omega
 have HCALL:=Lib.hid (fun w v hv hO=>hN (lessP l (comP l)) b (t ++ u) ns A c root l0 T v w hnl hshl (rise_less hR hu) (half_less hH _) (goods_less hG hu) (by rw [lessP_len];exact h0) hsub hn hv hO)
 rw [outP_less hu,htop] at HCALL
 have hnk:(⟨2,u,[],noKids.set 0 (buildP N (lessP l (comP l)) b).2⟩:TN).kids.length=16:=by simp [noKids]
 have hk3':(nodeC ⟨2,u,[],noKids.set 0 (buildP N (lessP l (comP l)) b).2⟩)[3]? = some (.int .i64 ((J - 1:Nat):Int)):=by rw [htop];rfl
 have hJI:((J - 1:Nat):Int) < (J:Int):=by omega
 clear hBP hsub htop hpos hpk hp hup hg hN hshl hnl hR hH hu hSh hJ
 have hbl:J < ns.length:=(List.getElem?_eq_some_iff.1 hat).1
 have hbI:(J:Int) < ns.length:=by omega
 have hnI:(ns.length:Int)≤10000:=by omega
 obtain ⟨n,hN⟩:∃ n:TN,n=⟨2,u,[],noKids.set 0 (buildP N (lessP l (comP l)) b).2⟩:=⟨_,rfl⟩
 rw [← hN] at hat hnk hk3'
 have hb:=(Below.refl w.heap.size w).alloc (Nat.le_refl _) (.cells #[.slice A ns.length c,.int .i64 root] 75)
 obtain ⟨g,o,rfl,hSg,hc⟩:=(hv.keep hb).at_ hat
 have hz:=newN (w.alloc (.cells #[.slice (some ⟨g,o,none⟩) ns.length c,.int .i64 root] 75))
 have hi:=infoN hnk
 have hiL:(Tryz.prog.info? 130).map (·.size)=some (nodeC n).length:=by rw [hi];simp
 have ha:=allN n
 have hs:=sizeN (n:=zeroN 0) (m:=n) rfl hnk
 have hV:=varN (w.alloc (.cells #[.slice (some ⟨g,o,none⟩) ns.length c,.int .i64 root] 75)) n
 rw [World.size_alloc] at hz hV
 have hbx:(w.alloc (.cells #[.slice (some ⟨g,o,none⟩) ns.length c,.int .i64 root] 75)).heap[w.heap.size]? = some (.cells #[.slice (some ⟨g,o,none⟩) ns.length c,.int .i64 root] 75 (0,0)):=heap_alloc_new w _
 have hk0:(nodeC n)[0]? = some (.int .i64 n.k):=rfl
 have hk1:(nodeC n)[1]? = some (.string (bs n.part)):=rfl
 have hk2:(nodeC n)[2]? = some (.string (bs n.value)):=rfl
 have HN:=Lib.hid hN
 have HB:=Lib.hid hb
 have HX:=Lib.hid hbx
 have HK:=Lib.hid hnk
 have HG:=Lib.hid hG
 have HV:=Lib.hid hv
 have HO:=Lib.hid hO
 clear hb hS hat hbx hnk hG hv hO hN
 go_enter Tryz.func112,Tryz.ntmps112
 go_wp2_with (first | (refine wpl_load_at rfl rfl rfl (nodeC n) hc Tryz.underlying130 rfl hiL ?_) | (refine wpList_store_row rfl _ _ _ rfl (w.heap.size+1) (nodeC n).toArray rfl rfl _ _ hz hi hs ha ?_;go_must (generalize hW2:World.setRow _ (w.heap.size+1) _=W2 at hV ⊢;clear hW2 hz hs hi ha hc hiL;obtain ⟨hn,hb2⟩:=hV;have hbx2:=(hb2.block w.heap.size (by simp)).trans HX.out;have d0:=hn.cell hk0;have d1:=hn.cell hk1;have d2:=hn.cell hk2;have hb3:=HB.out.trans (hb2.mono (by simp));have d3:=hn.cell hk3';have b0:W2.cell? ⟨w.heap.size,0,none⟩=some (.slice (some ⟨g,o,none⟩) ns.length c):=(by rw [cell_of_row _ _ _ _ _ _ hbx2];rfl);have b1:W2.cell? ⟨w.heap.size,1,none⟩=some (.int .i64 root):=(by rw [cell_of_row _ _ _ _ _ _ hbx2];rfl);rw [HN.out] at d0 d1 d2;simp only [] at d0 d1 d2;have HW:=Lib.hid (And.intro hn (And.intro hbx2 hb3));clear hn hb2 hb3 hbx2 hk0 hk1 hk2)))
 refine (HCALL.out W2 v (HV.out.keep HW.out.2.2) (HO.out.keep HW.out.2.2)).mono ?_
 rintro e w5 ⟨rfl,v5,hO5,hT5⟩
 go_wp2_with fail
 go_ret
 exact ⟨rfl,v5,hO5,(ArnTo.of_below HW.out.2.2).trans hT5⟩
theorem walk_branch (N:Nat) (hN:WalkSaid N) (l:List KV) (h2:2≤l.length) (hk:¬ 0 < comP l) (b:Nat) (t:Bytes) (ns:List TN) (A:Option Addr) (c:Nat) (root:Int) (l0:List KV) (T:Nat) (v:Value) (w:World)
  (hSh:Short (N+1) l) (hR:Rise l) (hH:Half l) (hG:Goods t l) (h0:l0.length+l.length≤64) (hS:Sub ns (buildP (N+1) l b).1 b)
  (hn:ns.length≤10000) (hv:TNs (Apart T v) w ns A c) (hO:Otn w T v l0) :
  Calls Tryz.prog 112 #[.agg #[.slice A ns.length c,.int .i64 root],.int .i64 (buildP (N+1) l b).2,.string (bs t),.func (.func 113) #[] #[.pointer (some ⟨T,0,none⟩)]] w (EmitPost T v (l0 ++ outP t l) w):=by
 obtain ⟨p,hp⟩:∃ p,l[0]? = some p:=getElem_ex (by omega)
 have hBP:=buildP_branch N h2 hk b
 have hg:=hG p (List.mem_of_getElem? hp)
 have htl:(t.length:Int)≤64:=by have:=hg.le;simp at this;omega
 rw [hBP] at hS ⊢
 simp only [] at hS ⊢
 obtain ⟨J,hJ⟩:∃ J,b+(kidsP (buildP N) l b 16).1.length=J:=⟨_,rfl⟩
 have hat:=hS.last
 have hsub:=hS.left
 rw [hJ] at hat ⊢
 -- a kid's call
 have HCALL:Hid (∀ cc,cc < 16→∃ k:Int,(kidsP (buildP N) l b 16).2[cc]? = some k∧((pickP l cc = []∧k = -1)∨(pickP l cc ≠ []∧∃ j:Nat,k=(j:Int)∧j < J ∧
   ∀ w v A c l0,l0.length+(pickP l cc).length≤64→TNs (Apart T v) w ns A c→Otn w T v l0 →
    Calls Tryz.prog 112 #[.agg #[.slice A ns.length c,.int .i64 root],.int .i64 (j:Int),.string (bs (t ++ [UInt8.ofNat cc])),.func (.func 113) #[] #[.pointer (some ⟨T,0,none⟩)]] w (EmitPost T v (l0 ++ outP t (pickP l cc)) w)))):=Lib.hid (by
  intro cc hcc
  obtain ⟨hka,hks⟩:=kidsP_at (buildP N) l b hcc
  have hkl:=kidsP_lt (buildP N) l b hcc
  refine ⟨_,hka,?_⟩
  by_cases he:pickP l cc = []
  ·refine .inl ⟨he,?_⟩
   have:cutK l cc = []:=by unfold cutK;rw [he];rfl
   rw [this,buildP_nil]
  ·have hce:cutK l cc ≠ []:=by
    intro e;apply he
    have:=congrArg List.length e
    unfold cutK at this
    rw [lessP_len,List.length_nil] at this
    exact List.eq_nil_of_length_eq_zero this
   have hsh:=short_cut hSh cc
   obtain ⟨htop,hpos⟩:=buildP_top N (cutK l cc) (b+(kidsP (buildP N) l b cc).1.length) hce hsh
   refine .inr ⟨he,_,htop,by omega,fun w v A c l0 hl hv hO=>?_⟩
   have:=hN (cutK l cc) (b+(kidsP (buildP N) l b cc).1.length) (t ++ [UInt8.ofNat cc]) ns A c root l0 T v w hce hsh (rise_cut hR cc) (half_cut hH cc) (goods_cut hG cc) (by unfold cutK;rw [lessP_len];exact hl) (hks ns hsub) hn hv hO
   rw [outP_cut,htop] at this
   exact this)
 have hkl16:(kidsP (buildP N) l b 16).2.length=16:=kidsP_len _ _ _ _
 have hin:=inner_top hR
 obtain ⟨r,hr⟩:=cons_of_get hp
 obtain ⟨kids,hkids⟩:∃ kids,(kidsP (buildP N) l b 16).2=kids:=⟨_,rfl⟩
 obtain ⟨tv,htv⟩:∃ tv,topV l=tv:=⟨_,rfl⟩
 rw [hkids] at hkl16 hat HCALL
 rw [htv] at hat
 have hnk:(⟨3,[],tv,kids⟩:TN).kids.length=16:=hkl16
 have hkk:∀ (j:Nat) (u:Value),(kids.map fun i=>Value.int .i64 i)[j]? = some u→(nodeC ⟨3,[],tv,kids⟩)[3+j]? = some u:=fun j u hj=>by
  rw [Nat.add_comm];exact hj
 have HR:=Lib.hid hR
 have HH:=Lib.hid hH
 have HVAL:=Lib.hid hg.val
 have HIN:=Lib.hid hin
 have HRR:=Lib.hid hr
 have HTV:=Lib.hid htv
 have hg0:=hg
 clear hBP hsub hp hg hN hR hH hSh hJ hkids hin hr htv hk
 have hbl:J < ns.length:=(List.getElem?_eq_some_iff.1 hat).1
 have hbI:(J:Int) < ns.length:=by omega
 have hnI:(ns.length:Int)≤10000:=by omega
 obtain ⟨n,hN⟩:∃ n:TN,n=⟨3,[],tv,kids⟩:=⟨_,rfl⟩
 rw [← hN] at hat hnk hkk
 have hb:=(Below.refl w.heap.size w).alloc (Nat.le_refl _) (.cells #[.slice A ns.length c,.int .i64 root] 75)
 obtain ⟨g,o,rfl,hSg,hc⟩:=(hv.keep hb).at_ hat
 have hz:=newN (w.alloc (.cells #[.slice (some ⟨g,o,none⟩) ns.length c,.int .i64 root] 75))
 have hi:=infoN hnk
 have hiL:(Tryz.prog.info? 130).map (·.size)=some (nodeC n).length:=by rw [hi];simp
 have ha:=allN n
 have hs:=sizeN (n:=zeroN 0) (m:=n) rfl hnk
 have hV:=varN (w.alloc (.cells #[.slice (some ⟨g,o,none⟩) ns.length c,.int .i64 root] 75)) n
 rw [World.size_alloc] at hz hV
 have hbx:(w.alloc (.cells #[.slice (some ⟨g,o,none⟩) ns.length c,.int .i64 root] 75)).heap[w.heap.size]? = some (.cells #[.slice (some ⟨g,o,none⟩) ns.length c,.int .i64 root] 75 (0,0)):=heap_alloc_new w _
 have hi16:(Tryz.prog.info? 128).map (·.size)=some (kids.map fun i=>Value.int .i64 i).length:=by rw [List.length_map,hkl16];kernel_rfl
 have hk0:(nodeC n)[0]? = some (.int .i64 n.k):=rfl
 have hk1:(nodeC n)[1]? = some (.string (bs n.part)):=rfl
 have hk2:(nodeC n)[2]? = some (.string (bs n.value)):=rfl
 have HN:=Lib.hid hN
 have HB:=Lib.hid hb
 have HX:=Lib.hid hbx
 have HK:=Lib.hid hnk
 have HG:=Lib.hid hG
 have HV:=Lib.hid hv
 have HO:=Lib.hid hO
 clear hb hS hat hbx hnk hG hv hO hN
 obtain ⟨p1,p2⟩:=p
 rcases p1 with _ | ⟨x,s⟩
 ·obtain rfl:tv=p2:=by rw [← HTV.out,HRR.out];rfl
  obtain ⟨y,q,rfl⟩:∃ y q,tv=y :: q:=by
   cases tv with
   | nil=>have:=HVAL.out.1;simp at this
   | cons y q=>exact ⟨y,q,rfl⟩
  have htb:¬ (bs (y :: q)=bs []):=fun e=>by have:=bs_inj e;cases this
  go_enter Tryz.func112,Tryz.ntmps112
  go_wp2_with (first | (refine wpl_load_at rfl rfl rfl (nodeC n) hc Tryz.underlying130 rfl hiL ?_) | (refine wpList_store_row rfl _ _ _ rfl (w.heap.size+1) (nodeC n).toArray rfl rfl _ _ hz hi hs ha ?_;go_must (generalize hW2:World.setRow _ (w.heap.size+1) _=W2 at hV ⊢;clear hW2 hz hs hi ha hc hiL;obtain ⟨hn,hb2⟩:=hV;have hbx2:=(hb2.block w.heap.size (by simp)).trans HX.out;have d0:=hn.cell hk0;have d1:=hn.cell hk1;have d2:=hn.cell hk2;have hb3:=HB.out.trans (hb2.mono (by simp));have hk3:=(fun j u hj=>hn.cell (hkk j u hj));have b0:W2.cell? ⟨w.heap.size,0,none⟩=some (.slice (some ⟨g,o,none⟩) ns.length c):=(by rw [cell_of_row _ _ _ _ _ _ hbx2];rfl);have b1:W2.cell? ⟨w.heap.size,1,none⟩=some (.int .i64 root):=(by rw [cell_of_row _ _ _ _ _ _ hbx2];rfl);rw [HN.out] at d0 d1 d2;simp only [] at d0 d1 d2;have HW:=Lib.hid (And.intro hn (And.intro hbx2 hb3));clear hn hb2 hb3 hbx2 hk0 hk1 hk2)))
  refine (emit_any t (y :: q) (by simpa using good_flat hg0) l0 (by have:=HRR.out;subst this;simp only [List.length_cons] at h0;omega) T v _ (HO.out.keep HW.out.2.2)).mono ?_
  rintro e W0 ⟨rfl,v0,hO0,hT0'⟩
  have hA0:Apart T v w.heap.size:=⟨by have:=HO.out.lt;omega,fun e=>by have:=(HO.out.own.lt _ e).2;omega⟩
  have hA1:Apart T v (w.heap.size+1):=⟨by have:=HO.out.lt;omega,fun e=>by have:=(HO.out.own.lt _ e).2;omega⟩
  have hW2l:=HW.out.1.lt
  replace hk3:∀ (j:Nat) (u:Value),(kids.map fun i=>Value.int .i64 i)[j]? = some u→W0.cell? ⟨w.heap.size+1,3+j,none⟩=some u:=fun j u hj=>by
   rw [World.cell?_of_block (hT0'.block (w.heap.size+1) hW2l hA1)];exact hk3 j u hj
  have hB0:=(hT0'.block _ (by omega) hA0).trans HW.out.2.1
  replace hA0:=hT0'.apart (by omega) hA0
  have hT0:ArnTo T v w W0 v0:=(ArnTo.of_below HW.out.2.2).trans hT0'
  replace hO0:Otn W0 T v0 (l0 ++ outP t [([],y :: q)]):=by rw [show outP t [([],y :: q)] = [(joinP t,y :: q)] from by simp [outP]];exact hO0
  clear d0 d1 d2 b0 b1 hT0' HW
  go_wp2_with (first | (refine wpl_load_at (g:=w.heap.size+1) (o:=3) rfl rfl rfl (kids.map fun i=>Value.int .i64 i) hk3 Tryz.underlying128 rfl hi16 ?_))
  clear hk3
  have hX0:l = [([],y :: q)] ++ fromP l 0:=by have:=HIN.out;rw [HRR.out] at this ⊢;exact this
  have HX0:=Lib.hid hX0
  clear hX0
  go_loopw [77] (fun vv wr=>∃ (cc:Nat) (X:List KV) (v':Value),cc≤16∧vv=.int .i64 cc∧Hid (l=X ++ fromP l cc)∧Otn wr T v' (l0 ++ outP t X)∧ArnTo T v w wr v'∧Apart T v' w.heap.size ∧
    wr.heap[w.heap.size]? = some (.cells #[.slice (some ⟨g,o,none⟩) ns.length c,.int .i64 root] 75 (0,0))) (fun vv _=>16 - (intOf vv).toNat)
  case atStart=>exact ⟨0,_,_,by omega,rfl,HX0,hO0,hT0,hA0,hB0⟩
  case round =>
   clear hO0 hT0 hA0 hB0 HX0
   obtain ⟨cc,X,v',hcc,rfl,HX,hO',hT',hA',hB'⟩:=hrel
   by_cases hlt:cc < 16
   ·have hlt':(cc:Int) < 16:=by omega
    obtain ⟨k,hka,hcase⟩:=HCALL.out cc hlt
    have hst:=from_step HR.out cc (by omega)
    have hkA:(kids.map fun i=>Value.int .i64 i)[cc]? = some (.int .i64 k):=by rw [List.getElem?_map,hka];rfl
    have HST:=Lib.hid hst
    have hwl:w.heap.size < wr.heap.size:=(Array.getElem?_eq_some_iff.1 hB').1
    have hix:=run_index_at (P:=Tryz.prog) Tryz.underlying128 Tryz.underlying3 (by kernel_rfl) (kids.map fun i=>Value.int .i64 i).toArray cc hlt (.int .i64 k) (by simpa using hkA) wr
    clear hst hka hkA
    rcases hcase with ⟨he,rfl⟩ | ⟨he,j,rfl,hj,hcall⟩
    ·go_wp2_with fail
     go_roundw
     case rel=>exact ⟨cc+1,X,v',by omega,by go_num,Lib.hid (by have h1:=HX.out;have h2:=HST.out;rw [he,List.nil_append] at h2;rw [← h2];exact h1),hO',hT',hA',hB'⟩
     case measure=>simp [intOf];omega
    ·have hjJ:(j:Int) < (J:Int):=by omega
     have hj1:((j:Int) == -1)=false:=by rw [beq_eq_false_iff_ne];omega
     have hw8:IntKind.u8.wrap (cc:Int)=(cc:Int):=IntWalk.u8_in _ (by omega)
     have hcv:(convert 92 9 (.slice (some ⟨wr.heap.size,0,none⟩) 1 1)).run Tryz.prog (wr.alloc (.cells #[.int .u8 (cc:Int)] 5))=.ok (.string (bs [UInt8.ofNat cc])) (wr.alloc (.cells #[.int .u8 (cc:Int)] 5)):=by
      refine run_bytes_str (P:=Tryz.prog) (l:=[UInt8.ofNat cc]) (c:=1) (src:=92) (dst:=9) Tryz.underlying92 Tryz.underlying5 Tryz.underlying9 ?_
      have:=lies_new wr #[.int .u8 (cc:Int)] 5
      show Lies Any _ _ [cellB (UInt8.ofNat cc)]
      rw [← cellB_lt (by omega)]
      exact this
     have b0:wr.cell? ⟨w.heap.size,0,none⟩=some (.slice (some ⟨g,o,none⟩) ns.length c):=(by rw [cell_of_row _ _ _ _ _ _ hB'];rfl)
     have b1:wr.cell? ⟨w.heap.size,1,none⟩=some (.int .i64 root):=(by rw [cell_of_row _ _ _ _ _ _ hB'];rfl)
     have hba:Below wr.heap.size wr (wr.alloc (.cells #[.int .u8 (cc:Int)] 5)):=(Below.refl _ _).alloc (Nat.le_refl _) _
     have hlen:(l0 ++ outP t X).length+(pickP l cc).length≤64:=by
      have h1:=congrArg List.length HX.out
      have h2:=congrArg List.length HST.out
      rw [List.length_append] at h1 h2
      rw [List.length_append,outP_len];omega
     have HCL:=Lib.hid (hcall _ v' _ c (l0 ++ outP t X) hlen ((HV.out.arn hT').keep hba) (hO'.keep hba))
     have htl1:t.length+1≤100:=by omega
     have hTA:=ArnTo.of_below (g:=T) (v:=v') hba
     clear hcall hlen hba
     go_wp2_with fail
     refine HCL.out.mono ?_
     clear HCL
     rintro e w5 ⟨rfl,v5,hO5,hT5⟩
     have hT6:=hTA.trans hT5
     go_wp2_with fail
     go_roundw
     case rel=>exact ⟨cc+1,X ++ pickP l cc,v5,by omega,by go_num,Lib.hid (by have h1:=HX.out;rw [HST.out,← List.append_assoc] at h1;exact h1),(by rw [outP_append,← List.append_assoc];exact hO5),hT'.trans hT6,hT6.apart hwl hA',(hT6.block _ hwl hA').trans hB'⟩
     case measure=>simp [intOf];omega
   ·obtain rfl:cc=16:=by omega
    have hXl:X=l:=by have:=HX.out;rw [from_end HH.out,List.append_nil] at this;exact this.symm
    subst hXl
    go_wp2_with fail
    go_ret
    exact ⟨rfl,v',hO',hT'⟩
 ·obtain rfl:tv = []:=by rw [← HTV.out,HRR.out];rfl
  go_enter Tryz.func112,Tryz.ntmps112
  go_wp2_with (first | (refine wpl_load_at (g:=w.heap.size+1) (o:=3) rfl rfl rfl (kids.map fun i=>Value.int .i64 i) hk3 Tryz.underlying128 rfl hi16 ?_) | (refine wpl_load_at rfl rfl rfl (nodeC n) hc Tryz.underlying130 rfl hiL ?_) | (refine wpList_store_row rfl _ _ _ rfl (w.heap.size+1) (nodeC n).toArray rfl rfl _ _ hz hi hs ha ?_;go_must (generalize hW2:World.setRow _ (w.heap.size+1) _=W2 at hV ⊢;clear hW2 hz hs hi ha hc hiL;obtain ⟨hn,hb2⟩:=hV;have hbx2:=(hb2.block w.heap.size (by simp)).trans HX.out;have d0:=hn.cell hk0;have d1:=hn.cell hk1;have d2:=hn.cell hk2;have hb3:=HB.out.trans (hb2.mono (by simp));have hk3:=(fun j u hj=>hn.cell (hkk j u hj));have b0:W2.cell? ⟨w.heap.size,0,none⟩=some (.slice (some ⟨g,o,none⟩) ns.length c):=(by rw [cell_of_row _ _ _ _ _ _ hbx2];rfl);have b1:W2.cell? ⟨w.heap.size,1,none⟩=some (.int .i64 root):=(by rw [cell_of_row _ _ _ _ _ _ hbx2];rfl);rw [HN.out] at d0 d1 d2;simp only [] at d0 d1 d2;have HW:=Lib.hid (And.intro hn (And.intro hbx2 hb3));clear hn hb2 hb3 hbx2 hk0 hk1 hk2)))
  have hO0:Otn W2 T v (l0 ++ outP t []):=by rw [show outP t [] = [] from rfl,List.append_nil];exact HO.out.keep HW.out.2.2
  have hT0:ArnTo T v w W2 v:=ArnTo.of_below HW.out.2.2
  have hX0:l = [] ++ fromP l 0:=by have:=HIN.out;rw [HRR.out] at this ⊢;exact this
  have hB0:=HW.out.2.1
  have hA0:Apart T v w.heap.size:=⟨by have:=HO.out.lt;omega,fun e=>by have:=(HO.out.own.lt _ e).2;omega⟩
  clear d0 d1 d2 hk3 b0 b1 HW
  generalize W2=W0 at *
  have HX0:=Lib.hid hX0
  clear hX0
  go_loopw [77] (fun vv wr=>∃ (cc:Nat) (X:List KV) (v':Value),cc≤16∧vv=.int .i64 cc∧Hid (l=X ++ fromP l cc)∧Otn wr T v' (l0 ++ outP t X)∧ArnTo T v w wr v'∧Apart T v' w.heap.size ∧
    wr.heap[w.heap.size]? = some (.cells #[.slice (some ⟨g,o,none⟩) ns.length c,.int .i64 root] 75 (0,0))) (fun vv _=>16 - (intOf vv).toNat)
  case atStart=>exact ⟨0,_,_,by omega,rfl,HX0,hO0,hT0,hA0,hB0⟩
  case round =>
   clear hO0 hT0 hA0 hB0 HX0
   obtain ⟨cc,X,v',hcc,rfl,HX,hO',hT',hA',hB'⟩:=hrel
   by_cases hlt:cc < 16
   ·have hlt':(cc:Int) < 16:=by omega
    obtain ⟨k,hka,hcase⟩:=HCALL.out cc hlt
    have hst:=from_step HR.out cc (by omega)
    have hkA:(kids.map fun i=>Value.int .i64 i)[cc]? = some (.int .i64 k):=by rw [List.getElem?_map,hka];rfl
    have HST:=Lib.hid hst
    have hwl:w.heap.size < wr.heap.size:=(Array.getElem?_eq_some_iff.1 hB').1
    have hix:=run_index_at (P:=Tryz.prog) Tryz.underlying128 Tryz.underlying3 (by kernel_rfl) (kids.map fun i=>Value.int .i64 i).toArray cc hlt (.int .i64 k) (by simpa using hkA) wr
    clear hst hka hkA
    rcases hcase with ⟨he,rfl⟩ | ⟨he,j,rfl,hj,hcall⟩
    ·go_wp2_with fail
     go_roundw
     case rel=>exact ⟨cc+1,X,v',by omega,by go_num,Lib.hid (by have h1:=HX.out;have h2:=HST.out;rw [he,List.nil_append] at h2;rw [← h2];exact h1),hO',hT',hA',hB'⟩
     case measure=>simp [intOf];omega
    ·have hjJ:(j:Int) < (J:Int):=by omega
     have hj1:((j:Int) == -1)=false:=by rw [beq_eq_false_iff_ne];omega
     have hw8:IntKind.u8.wrap (cc:Int)=(cc:Int):=IntWalk.u8_in _ (by omega)
     have hcv:(convert 92 9 (.slice (some ⟨wr.heap.size,0,none⟩) 1 1)).run Tryz.prog (wr.alloc (.cells #[.int .u8 (cc:Int)] 5))=.ok (.string (bs [UInt8.ofNat cc])) (wr.alloc (.cells #[.int .u8 (cc:Int)] 5)):=by
      refine run_bytes_str (P:=Tryz.prog) (l:=[UInt8.ofNat cc]) (c:=1) (src:=92) (dst:=9) Tryz.underlying92 Tryz.underlying5 Tryz.underlying9 ?_
      have:=lies_new wr #[.int .u8 (cc:Int)] 5
      show Lies Any _ _ [cellB (UInt8.ofNat cc)]
      rw [← cellB_lt (by omega)]
      exact this
     have b0:wr.cell? ⟨w.heap.size,0,none⟩=some (.slice (some ⟨g,o,none⟩) ns.length c):=(by rw [cell_of_row _ _ _ _ _ _ hB'];rfl)
     have b1:wr.cell? ⟨w.heap.size,1,none⟩=some (.int .i64 root):=(by rw [cell_of_row _ _ _ _ _ _ hB'];rfl)
     have hba:Below wr.heap.size wr (wr.alloc (.cells #[.int .u8 (cc:Int)] 5)):=(Below.refl _ _).alloc (Nat.le_refl _) _
     have hlen:(l0 ++ outP t X).length+(pickP l cc).length≤64:=by
      have h1:=congrArg List.length HX.out
      have h2:=congrArg List.length HST.out
      rw [List.length_append] at h1 h2
      rw [List.length_append,outP_len];omega
     have HCL:=Lib.hid (hcall _ v' _ c (l0 ++ outP t X) hlen ((HV.out.arn hT').keep hba) (hO'.keep hba))
     have htl1:t.length+1≤100:=by omega
     have hTA:=ArnTo.of_below (g:=T) (v:=v') hba
     clear hcall hlen hba
     go_wp2_with fail
     refine HCL.out.mono ?_
     clear HCL
     rintro e w5 ⟨rfl,v5,hO5,hT5⟩
     have hT6:=hTA.trans hT5
     go_wp2_with fail
     go_roundw
     case rel=>exact ⟨cc+1,X ++ pickP l cc,v5,by omega,by go_num,Lib.hid (by have h1:=HX.out;rw [HST.out,← List.append_assoc] at h1;exact h1),(by rw [outP_append,← List.append_assoc];exact hO5),hT'.trans hT6,hT6.apart hwl hA',(hT6.block _ hwl hA').trans hB'⟩
     case measure=>simp [intOf];omega
   ·obtain rfl:cc=16:=by omega
    have hXl:X=l:=by have:=HX.out;rw [from_end HH.out,List.append_nil] at this;exact this.symm
    subst hXl
    go_wp2_with fail
    go_ret
    exact ⟨rfl,v',hO',hT'⟩
theorem walk_any (N:Nat):WalkSaid N:=by
 induction N with
 | zero =>
  intro l b t ns A c root l0 T v w hne hSh
  cases l with
  | nil=>exact absurd rfl hne
  | cons p l=>exact absurd (hSh p (by simp)) (by omega)
 | succ N ih =>
  intro l b t ns A c root l0 T v w hne hSh hR hH hG h0 hS hn hv hO
  match l,hne,hSh,hR,hH,hG,h0,hS with
  | [p],_,_,_,_,hG,h0,hS=>exact walk_one N p b t ns A c root l0 T v w hG (by simpa using h0) hS hn hv hO
  | p :: q :: r,_,hSh,hR,hH,hG,h0,hS =>
   by_cases hk:0 < comP (p :: q :: r)
   ·exact walk_joint N ih _ (by simp) hk b t ns A c root l0 T v w hSh hR hH hG h0 hS hn hv hO
   ·exact walk_branch N ih _ (by simp) hk b t ns A c root l0 T v w hSh hR hH hG h0 hS hn hv hO
end Go.Proofs.YtdfmheademcbkaaGreat
