/- The walk of sign.nonces' closure. -/
import Derived.Test.YteoednifdpdbnaaGreatZ29
import Derived.Test.YteoednifdpdbnaaGreatZ38
import Derived.Test.YteoednifdpdbnaaGreatZ39
import Derived.Test.YteoednifdpdbnaaGreatZ43
import Derived.Deep.Cut
import Derived.TacticsIn
import Derived.LoopIn
import Derived.OwnWalkIn
import Derived.RangeFuncLeaves
import Derived.Test.YteoednifdpdbnaaGreatZ48
import Derived.Test.YteoednifdpdbnaaGreatZ42
import Derived.Test.YteoednifdpdbnaaGreatZ04
import Derived.BigQuiet
namespace Go.Proofs.YteoednifdpdbnaaGreat
set_option linter.unusedVariables false
set_option linter.unusedSimpArgs false
open Go.RowKit
set_option maxHeartbeats 4000000
set_option maxRecDepth 100000
open Go.RowKit Go.Shelf
/-- the key and the text, i times renewed -/
def stN (X H:Bytes):Nat→Bytes×Bytes
 | 0=>(List.replicate 32 0,List.replicate 32 1)
 | i+1=>(macS (stN X H i).1 [(stN X H i).2,[UInt8.ofNat i],X,H].flatten,macS (macS (stN X H i).1 [(stN X H i).2,[UInt8.ofNat i],X,H].flatten) [(stN X H i).2].flatten)
def nonceB (X H:Bytes):Bytes:=macS (stN X H 2).1 [(stN X H 2).2].flatten
def nonceN (x h:Nat):Nat:=natOf (nonceB (uB (U4.of x)) (uB (U4.of h)))
theorem qqw (X H:Bytes) (i:Nat):(stN X H i).1.length=32∧(stN X H i).2.length=32:=by
 cases i with
 | zero=>exact ⟨by simp [stN],by simp [stN]⟩
 | succ i=>exact ⟨qg7 _ _,qg7 _ _⟩
theorem mac4 (k v c X H:Bytes) (hk:k.length=32) (hv:v.length=32) (hc:c.length=1) (hX:X.length=32) (hH:H.length=32) (g:Nat) {w0 w:World} {L:List Blk} (hM:Mem w0 w ((g,#[.string (bs v),.string (bs c),.string (bs X),.string (bs H)],9) :: L)) :
  Calls Tryz.prog 208 #[.string (bs k),.slice (some ⟨g,0,none⟩) 4 4] w fun e w'=>e=.returned (.string (bs (macS k [v,c,X,H].flatten)))∧Below w.heap.size w w' :=
 qtu k (by omega) [v,c,X,H] v rfl (by simp) (by simp only [List.flatten_cons,List.flatten_nil,List.length_append,List.length_nil,hv,hc,hX,hH];omega) g 0 4 (by simp) w (fun j p hp=>rc (hM.at_ at0) (0+j) (by
  rw [Nat.zero_add]
  match j,hp with
  | 0,hp=>cases hp;rfl
  | 1,hp=>cases hp;rfl
  | 2,hp=>cases hp;rfl
  | 3,hp=>cases hp;rfl
  | j+4,hp=>simp at hp))
theorem mac1 (k v:Bytes) (hk:k.length=32) (hv:v.length=32) (g:Nat) {w0 w:World} {L:List Blk} (hM:Mem w0 w ((g,#[.string (bs v)],9) :: L)) :
  Calls Tryz.prog 208 #[.string (bs k),.slice (some ⟨g,0,none⟩) 1 1] w fun e w'=>e=.returned (.string (bs (macS k [v].flatten)))∧Below w.heap.size w w' :=
 qtu k (by omega) [v] v rfl (by simp) (by simp only [List.flatten_cons,List.flatten_nil,List.length_append,List.length_nil,hv];omega) g 0 1 (by simp) w (fun j p hp=>rc (hM.at_ at0) (0+j) (by
  rw [Nat.zero_add]
  match j,hp with
  | 0,hp=>cases hp;rfl
  | j+1,hp=>simp at hp))
theorem qnu:Ent Tryz.prog 92:=⟨enters_of Tryz.func92 (by kernel_rfl) rfl⟩
theorem qnz:Ent Tryz.prog 207:=⟨enters_of Tryz.func207 (by kernel_rfl) rfl⟩
theorem qme (x h gx gh:Nat) (l:Nat) (Jx:World→Prop) (n:Nat) (w0 w:World) (hM:Mem w0 w [(gx,uC x,24),(gh,uC h,24)])
  (hY:∀ W1,Below w.heap.size w W1→YieldAt Fence.wide n Tryz.prog l #[.agg (uC (nonceN x h))] W1 fun e W'=>e=.returned (.bool false)∧Jx W') :
  Calls Tryz.prog 206 #[.func (.yield l) #[] #[],.pointer (some ⟨gx,0,none⟩),.pointer (some ⟨gh,0,none⟩)] w fun e w'=>(∃ v,e=.returned v)∧Jx w':=by
 have c_x:∀ w,Calls Tryz.prog 92 #[.agg (uC x)] w fun e w'=>e=.returned (.string (bs (uB (U4.of x))))∧Below w.heap.size w w':=fun w=>qgi (U4.of x) (U4.of_wf x) w
 have c_h:∀ w,Calls Tryz.prog 92 #[.agg (uC h)] w fun e w'=>e=.returned (.string (bs (uB (U4.of h))))∧Below w.heap.size w w':=fun w=>qgi (U4.of h) (U4.of_wf h) w
 have lX:(uB (U4.of x)).length=32:=qgo _
 have lH:(uB (U4.of h)).length=32:=qgo _
 have c_r1:∀ w,Calls Tryz.prog 207 #[.string ⟨#[1]⟩,.int .i64 32] w fun e w'=>e=.returned (.string (bs (List.replicate 32 1)))∧Below w.heap.size w w':=fun w=>qiz 1 32 (by decide) w
 have c_r0:∀ w,Calls Tryz.prog 207 #[.string ⟨#[0]⟩,.int .i64 32] w fun e w'=>e=.returned (.string (bs (List.replicate 32 0)))∧Below w.heap.size w w':=fun w=>qiz 0 32 (by decide) w
 unfold nonceN at hY
 obtain ⟨X,hX⟩:∃ X,uB (U4.of x)=X:=⟨_,rfl⟩
 obtain ⟨H,hH⟩:∃ H,uB (U4.of h)=H:=⟨_,rfl⟩
 simp only [hX,hH] at hY c_x c_h lX lH
 obtain ⟨N,hN⟩:∃ N,natOf (nonceB X H)=N:=⟨_,rfl⟩
 rw [hN] at hY
 have HN:=qh hN
 have HY:=qh hY
 clear hX hH hN hY
 go_enter Tryz.func206,Tryz.ntmps206
 go_wp2_with fail
 refine qpe 4 4 hM qbc [.agg (uC x),.string (bs X),.agg (uC h),.string (bs H)] [] (b:=?b1) ?hb rfl (by kernel_rfl) (fun h=>absurd h (by decide)) ?hgo ?hfin
 case hb=>simp only [putAll,Act.put,List.setIfInBounds_toArray,List.set_cons_zero,List.set_cons_succ];rfl
 case hgo =>
  refine GoAll.v (.agg (uC x)) (qap tyU at0) ?_
  refine GoAll.v (.string (bs X)) (qao (al:=[.agg (uC x)]) c_x qnu) ?_
  refine GoAll.v (.agg (uC h)) (qap tyU at1) ?_
  refine GoAll.v (.string (bs H)) (qao (al:=[.agg (uC h)]) c_h qnu) ?_
  exact GoAll.nil
 case hfin =>
  clear hM;intro w' G hB hM2
  simp only [putLays,List.drop_succ_cons,List.drop_zero,List.map_nil,List.map_cons,List.nil_append,List.cons_append] at hM2 ⊢
  have hM:Mem w w' []:=⟨hB,fun p hp=>(by cases hp),List.nodup_nil⟩
  clear hM2 hB c_x c_h
  generalize w'=wa at hM ⊢
  go_wp2_with (first
   | (refine qak 16 rfl hM rfl rfl qnz (al:=[.string ⟨#[1]⟩,.int .i64 32]) (c_r1 _) rfl ?_;clear hM;intro w' hM)
   | (refine qak 17 rfl hM rfl rfl qnz (al:=[.string ⟨#[0]⟩,.int .i64 32]) (c_r0 _) rfl ?_;clear hM;intro w' hM)
   | (refine qeu 18 rfl hM rfl (v:=fun g=>.slice (some ⟨g,0,none⟩) 2 2) (cs:=#[.string ⟨#[0]⟩,.string ⟨#[1]⟩]) (t:=9) (fun w=>by go_simp) ?_;clear hM;intro w' g18 hM))
  go_loopw [6,7,9,20] (fun v k _ x wr=>∃ i:Nat,i≤2∧x=.int .i64 i∧v=.string (bs (stN X H i).2)∧k=.string (bs (stN X H i).1)∧Mem w wr [(g18,#[.string ⟨#[0]⟩,.string ⟨#[1]⟩],9)]) (fun _ _ _ x _=>2 - (intOf x).toNat)
  case atStart=>exact ⟨0,by omega,rfl,rfl,rfl,hM⟩
  case round =>
   clear hM
   obtain ⟨i,hi,rfl,rfl,rfl,hM⟩:=hrel
   obtain ⟨lk,lv⟩:=qqw X H i
   by_cases hlt:i < 2
   ·have hlt':(i:Int) < 2:=by omega
    have hci:(#[.string ⟨#[0]⟩,.string ⟨#[1]⟩]:Array Value)[i]? = some (.string (bs [UInt8.ofNat i])):=by
     have:i=0∨i=1:=by omega
     rcases this with rfl | rfl <;> rfl
    have c0:=rc (hM.at_ at0) i hci
    have h1:(stN X H (i+1)).1=macS (stN X H i).1 [(stN X H i).2,[UInt8.ofNat i],X,H].flatten:=rfl
    have h2:(stN X H (i+1)).2=macS (stN X H (i+1)).1 [(stN X H i).2].flatten:=rfl
    have lk1:=(qqw X H (i+1)).1
    obtain ⟨c,hc⟩:∃ c,[UInt8.ofNat i]=c:=⟨_,rfl⟩
    have lc:c.length=1:=by rw [← hc];rfl
    obtain ⟨k,hk⟩:∃ c,(stN X H i).1=c:=⟨_,rfl⟩
    obtain ⟨v,hv⟩:∃ c,(stN X H i).2=c:=⟨_,rfl⟩
    obtain ⟨k1,hk1⟩:∃ c,(stN X H (i+1)).1=c:=⟨_,rfl⟩
    obtain ⟨v1,hv1⟩:∃ c,(stN X H (i+1)).2=c:=⟨_,rfl⟩
    rw [hc] at c0
    rw [hk] at lk
    rw [hv] at lv
    rw [hk1] at lk1
    rw [hk1,hk,hv,hc] at h1
    rw [hv1,hk1,hv] at h2
    have c_4:=fun (g:Nat) (W:World) (L:List Blk) (hM:Mem w W ((g,#[.string (bs v),.string (bs c),.string (bs X),.string (bs H)],9) :: L))=>mac4 k v c X H lk lv lc lX lH g hM
    have c_1:=fun (g:Nat) (W:World) (L:List Blk) (hM:Mem w W ((g,#[.string (bs v)],9) :: L))=>mac1 k1 v lk1 lv g hM
    simp only [← h1] at c_4
    simp only [← h2] at c_1
    rw [hk,hv]
    have HE:=qh (And.intro hk1 hv1)
    clear h1 h2 hci hc hk hv hk1 hv1 lk lv lc lk1
    go_wp2_with (first
     | (refine qeu 29 rfl hM rfl (v:=fun g=>.slice (some ⟨g,0,none⟩) 4 4) (cs:=#[.string (bs v),.string (bs c),.string (bs X),.string (bs H)]) (t:=9) (fun w=>by go_simp) ?_;clear hM;intro w' g29 hM)
     | (refine qak 30 rfl hM rfl rfl enMac (al:=[.string (bs k),.slice (some ⟨g29,0,none⟩) 4 4]) (c_4 g29 _ _ hM) rfl ?_;clear hM;intro w' hM)
     | (refine qeu 33 rfl hM rfl (v:=fun g=>.slice (some ⟨g,0,none⟩) 1 1) (cs:=#[.string (bs v)]) (t:=9) (fun w=>by go_simp) ?_;clear hM;intro w' g33 hM)
     | (refine qak 34 rfl hM rfl rfl enMac (al:=[.string (bs k1),.slice (some ⟨g33,0,none⟩) 1 1]) (c_1 g33 _ _ hM) rfl ?_;clear hM;intro w' hM))
    go_roundw
    case rel=>exact ⟨i+1,by omega,by go_num,by rw [HE.out.2],by rw [HE.out.1],hM.tail.tail⟩
    case measure=>simp [intOf];omega
   ·obtain rfl:i=2:=by omega
    have hnb:nonceB X H=macS (stN X H 2).1 [(stN X H 2).2].flatten:=rfl
    obtain ⟨k,hk⟩:∃ c,(stN X H 2).1=c:=⟨_,rfl⟩
    obtain ⟨v,hv⟩:∃ c,(stN X H 2).2=c:=⟨_,rfl⟩
    rw [hk] at lk
    rw [hv] at lv
    rw [hk,hv] at hnb
    have c_1:=fun (g:Nat) (W:World) (L:List Blk) (hM:Mem w W ((g,#[.string (bs v)],9) :: L))=>mac1 k v lk lv g hM
    have lB:(nonceB X H).length=32:=qg7 _ _
    simp only [← hnb] at c_1
    have HN2:=HN.out
    obtain ⟨B,hB⟩:∃ B,nonceB X H=B:=⟨_,rfl⟩
    rw [hB] at HN2 lB
    simp only [hB] at c_1
    have c_f:=ufromN B (by omega)
    simp only [HN2] at c_f
    rw [hk,hv]
    have e2:((2:Nat):Int)=2:=rfl
    rw [e2]
    clear hnb hk hv HN HN2 hB lB lk lv e2
    go_wp2_with fail
    have HM:=qh hM
    clear hM
    go_loopw [6,7,10,11] (fun v' k' _ _ wr=>v'=.string (bs v)∧k'=.string (bs k)∧Mem w wr [(g18,#[.string ⟨#[0]⟩,.string ⟨#[1]⟩],9)]) (fun _ _ _ _ _=>0)
    case atStart=>exact ⟨rfl,rfl,HM.out⟩
    case round =>
     clear HM
     obtain ⟨rfl,rfl,hM⟩:=hrel
     go_upto_region 10 with (first
      | (refine qeu 38 rfl hM rfl (v:=fun g=>.slice (some ⟨g,0,none⟩) 1 1) (cs:=#[.string (bs v)]) (t:=9) (fun w=>by go_simp) ?_;clear hM;intro w' g38 hM)
      | (refine qak 39 rfl hM rfl rfl enMac (al:=[.string (bs k),.slice (some ⟨g38,0,none⟩) 1 1]) (c_1 g38 _ _ hM) rfl ?_;clear hM;intro w' hM)
      | (refine qak 42 rfl hM rfl rfl qr8 (al:=[.string (bs B)]) (c_f _) rfl ?_;clear hM;intro w' hM)
      | (refine qaj 10 rfl hM rfl (runN rfl) ?_;clear hM;intro w' g10 hM)
      | (refine qae hM rfl rfl tyU rfl rfl (by exact hau) rfl rfl (oneN N) ?_;clear hM;intro w' hM))
     have hrow:=hM.at_ at0
     have hb2:=hM.below
     have c0:=rc hrow 0 rfl
     have c1:=rc hrow 1 rfl
     have c2:=rc hrow 2 rfl
     have c3:=rc hrow 3 rfl
     obtain ⟨fn,tmps,assign,body,hy,hR⟩:=HY.out w' hb2
     clear hrow hM HY hb2 c_1 c_f
     refine (wpIn_wide (n:=n+1)).1 ?_
     gi_wp2
     show Oper.uponIn _ _ _ _ _ _ _ (Sem.run Tryz.prog (Instr.yield l #[Value.agg (uC N)]) w')
     rw [hy,Oper.uponIn_round]
     refine ⟨fun _=>by omega,RoundIn.mono hR ?_⟩
     rintro e W' ⟨rfl,hJ⟩
     gi_wp2
     go_wp2_with fail
     refine bodyPost_ret (results_none rfl _ _ _) rfl ?_
     exact ⟨⟨_,rfl⟩,hJ⟩
/- The walks of sign.nonces, Sign (where the first nonce fits). -/
theorem Mem.join {w0 w w':World} {L L2:List Blk} (hM:Mem w0 w L) (h:Mem w w' L2):Mem w0 w' (L2 ++ L):=by
 have h1:=hM.call h.below
 refine ⟨h1.below,fun p hp=>?_,?_⟩
 ·rcases List.mem_append.1 hp with hp | hp
  ·exact ⟨(h.rows p hp).1,Nat.le_trans hM.below.size (h.rows p hp).2⟩
  ·exact h1.rows p hp
 ·rw [List.map_append,List.nodup_append]
  refine ⟨h.apart,hM.apart,fun a ha b hb e=>?_⟩
  obtain ⟨p,hp,rfl⟩:=List.mem_map.1 ha
  obtain ⟨q,hq,rfl⟩:=List.mem_map.1 hb
  have:=(h.rows p hp).2
  have:=hM.lt hq
  omega
theorem Mem.two {w0 w:World} {L:List Blk} {i j g1 g2:Nat} {c1 c2:Array Value} {t1 t2:TypeId} (hM:Mem w0 w L) (h1:L[i]? = some (g1,c1,t1)) (h2:L[j]? = some (g2,c2,t2)) (hne:i≠j):Mem w0 w [(g1,c1,t1),(g2,c2,t2)] :=
 ⟨hM.below,fun p hp=>by
  rcases List.mem_cons.1 hp with rfl | hp
  ·exact hM.rows _ (List.mem_of_getElem? h1)
  ·rw [List.mem_singleton] at hp
   subst hp
   exact hM.rows _ (List.mem_of_getElem? h2),by
  have:=hM.ne h1 h2 hne
  simp [this]⟩
theorem qsz {P:Program} {ops:Array Oper} {Q:Exit→Act→World→Prop} {w0 w:World} {L:List Blk} {rest:List Oper} {op:Oper} {a:Act} {α:Type} {a':α→Act} (s:Nat) (hd:op.dst=some s) (hM:Mem w0 w L) (hgd:Region.wanted op (yielded ops a.tmps)=true) {f:Nat} {xs:Array Operand} {ts:Array TypeId} (ho:op.op=.call { callee:=.value (.func f),args:=xs,argTypes:=ts }) (hf:Ent P f) {al:List Value} {v:α→Value} {Lf:α→List Blk}
  (hc:Calls P f al.toArray w fun e w'=>∃ y,e=.returned (v y)∧Mem w w' (Lf y)) (hx:xs.toList.map a.eval=al)
  (h:∀ y w',Mem w0 w' (Lf y ++ L)→wpList P ops Q rest (a' y) w') (ha:∀ y,a.put op.dst (v y)=a' y:=by intro y;simp only [Act.put,List.setIfInBounds_toArray,List.set_cons_zero,List.set_cons_succ];rfl):wpList P ops Q (op :: rest) a w :=
 qa2 hgd fun K hK=>by
  unfold Oper.wp
  rw [qf6 (cap:=[]) ho rfl hf hx,List.append_nil]
  exact Calls.mono hc fun e w' ⟨y,h1,hm⟩=>by subst h1;exact hK _ _ (ha y ▸ h y w' (hM.join hm))
theorem qeg {B:Nat} {w0 w:World} (h:Below B w0 w) {l:Nat} (hl:B≤l) (o:Obj):Below B w0 (w.putObj l o) :=
 ⟨h.os,h.tape,h.output,by rw [World.putObj_size];exact h.size,fun b hb=>(World.putObj_heap_other (by omega)).trans (h.block b hb)⟩
theorem Mem.putObj {w0 w:World} {L:List Blk} (h:Mem w0 w L) {l:Nat} (hl:w0.heap.size≤l) (hne:∀ cs t,w.heap[l]? ≠ some (.cells cs t (0,0))) (o:Obj):Mem w0 (w.putObj l o) L :=
 ⟨qeg h.below hl o,fun p hp=>⟨(World.putObj_heap_other (fun e=>hne _ _ (e ▸ (h.rows p hp).1))).trans (h.rows p hp).1,(h.rows p hp).2⟩,h.apart⟩
theorem qqd {P:Program} {ops:Array Oper} {Q:Exit→Act→World→Prop} {w0 w:World} {L L':List Blk} {rest:List Oper} {op:Oper} {a a':Act} {g k j:Nat} {cs:Array Value} {t:TypeId} {v:Value} (hM:Mem w0 w L) (hgd:Region.wanted op (yielded ops a.tmps)=true) {ty:TypeId} {x y:Operand} (ho:op.op=.store ty x y) (hx:a.eval x=.pointer (some ⟨g,j,none⟩)) (hy:a.eval y=v)
  (hku:L[k]? = some (g,cs,t)∧L.set k (g,cs.setIfInBounds j v,t)=L') (hst:(storeVar ty ⟨g,j,none⟩ v).run P w=.ok () (w.setCell ⟨g,j,none⟩ v))
  (h:∀ w',w'=w.setCell ⟨g,j,none⟩ v→Mem w0 w' L'→wpList P ops Q rest a' w') (ha:a.put op.dst undef=a':=by simp only [Act.put,List.setIfInBounds_toArray,List.set_cons_zero,List.set_cons_succ];rfl):wpList P ops Q (op :: rest) a w :=
 qa2 hgd fun K hK=>by
  unfold Oper.wp execOp
  simp only [ho,hx,hy,Instr.storeAt,Instr.sureAddr,Sem.run_bind,Sem.run_pure,Result.andThen_ok,hst]
  exact hK _ _ (ha ▸ h _ rfl (hM.setCell hku.1 j v hku.2))
theorem qmh {P:Program} {fn:Func} {p q:Tmp} {ty ty2 t t2:TypeId} {n g g2:Nat} {G:Array Value} {v:Value} (h:fn.results=#[.cell p ty,.cell q ty2]) (tmps:Array Value) (w:World) (T:AggT P ty n) (hna:∀ w,(isAgg ty2).run P w=.ok false w) (hp:tmps.getD p undef=.pointer (some ⟨g,0,none⟩)) (hq:tmps.getD q undef=.pointer (some ⟨g2,0,none⟩))
  (hg:w.heap[g]? = some (.cells G t (0,0))) (hn:G.size=n) (hg2:w.heap[g2]? = some (.cells #[v] t2 (0,0))):(results fn tmps).run P w=.ok (.tuple #[.agg G,v]) w:=by
 have hp':tmps[p]?.getD undef=.pointer (some ⟨g,0,none⟩):=by simpa using hp
 have hq':tmps[q]?.getD undef=.pointer (some ⟨g2,0,none⟩):=by simpa using hq
 have hc:=rc hg2 0 (u:=v) rfl
 have h1:(loadVar ty ⟨g,0,none⟩).run P w=.ok (.agg G) w :=
  match T.desc with
  | ⟨d,hd,hd2⟩=>run_loadVar_row w g t ty G (0,0) d hg hd (by cases d <;> first | rfl | cases hd2) (by rw [T.size,hn])
 have h2:(loadVar ty2 ⟨g2,0,none⟩).run P w=.ok v w:=by simp [loadVar,Sem.run_bind,hna,hc]
 simp only [results,h]
 simp [hp',hq',asAddr,h1,h2,Sem.run_bind]
/-- the law, its record a name -/
theorem qf0 {F:Fence} {n:Nat} {P:Program} {g:Operand} {ps:Array Tmp} {assign body:Code} {Q:Exit→Act→World→Prop} {a:Act} {w:World}
  (hro:F.round=none) (h1:1≤n) {gf:Nat} {lb:Array Value} (hg:a.eval g=.func (.func gf) #[] lb) (hFg:F.fn gf) (eg:∀ args w,(callFunc gf args).run P w=.ok (.enter gf args) w)
  {x:Array Value} (hps:x.size=ps.size) (hseq:SeqOnce F (n - 1) P gf lb x w) (Ix:World→Prop) (hIx:∀ (W:World) (o:Obj),Ix W→Ix (W.putObj (w.heap.size+1) o))
  (hround:∀ (rec:LoopState→Option Code→Loop) (V:World),Below (w.heap.size+2) ((w.alloc (.deferred (some []))).alloc (.loop (rec .ready none))) V →
   assign.wpIn (F.inRound (w.heap.size+1)) (n - 1 - 1) P (Exit.then (fun a₁ w₁=>w₁.heap[w.heap.size+1]? = some (.loop (rec .ready none)) ∧
    body.wpIn (F.inRound (w.heap.size+1)) (n - 1 - 1) P (fun e _ w'=>e=.ret∧w'.heap[w.heap.size+1]? = some (.loop (rec .busy none))∧w'.heap[w.heap.size]? = some (.deferred (some []))∧Ix w')
     a₁ (w₁.putObj (w.heap.size+1) (.loop (rec .busy none)))) (fun _ _ _=>False)) { tmps:=(ps.zip x).foldl (fun t (p,v)=>t.setIfInBounds p v) a.tmps,defers:=[] } V)
  (hstop:∀ W:World,W.heap[w.heap.size]? = some (.deferred (some []))→Ix W→Code.ret.wpIn F n P Q { a with defers:={ target:=.collected w.heap.size,args:=#[] } :: a.defers } W) :
  (Code.rangeFunc g ps assign body).wpIn F n P Q a w :=
 qfd hro h1 hg hFg eg hps hseq Ix hIx (fun fn V h=>hround _ V h) hstop
theorem storeE {w0 w:World} {L:List Blk} {g k j:Nat} {cs:Array Value} {t:TypeId} {v:Value} (hM:Mem w0 w L) (hk:L[k]? = some (g,cs,t)) (hj:cs[j]? = some v) (n:Int):(storeVar 30 ⟨g,j,none⟩ (.int .i64 n)).run Tryz.prog w=.ok () (w.setCell ⟨g,j,none⟩ (.int .i64 n)):=by
 have hc:=rc (hM.at_ hk) j hj
 have hf:=rf (hM.at_ hk) j
 go_simp
theorem enNonces:Ent Tryz.prog 162:=⟨enters_of Tryz.func162 (by kernel_rfl) rfl⟩
theorem qpb (x h:Nat) (w:World):Calls Tryz.prog 162 #[.agg (uC x),.agg (uC h)] w fun e w'=>∃ y:Nat×Nat,e=.returned (.func (.func 206) #[] #[.pointer (some ⟨y.1,0,none⟩),.pointer (some ⟨y.2,0,none⟩)])∧Mem w w' [(y.2,uC h,24),(y.1,uC x,24)]:=by
 have hM:=Mem.nil w
 go_enter Tryz.func162,Tryz.ntmps162
 go_wp2_with (first
  | (refine qam 2 rfl hM rfl rfl rfl (boxN _ _) ?_;clear hM;intro w' g2 hM)
  | (refine qam 3 rfl hM rfl rfl rfl (boxN _ _) ?_;clear hM;intro w' g3 hM))
 go_ret
 exact ⟨(g2,g3),rfl,hM⟩
theorem sign_any (x:Nat) (s:Bytes) (l_x:x < two256) (hs:s.length=32) (hb:insideN (U4.of x)=true) (K:Nat) (hK:nonceN x (natOf s % modN 1)=K) (hk:insideN (U4.of K)=true) (hok:okSg (withP x (natOf s % modN 1) K).sg=true) (w:World) :
  Calls Tryz.prog 104 #[.agg (uC x),.string (bs s)] w fun e w'=>e=.returned (.tuple #[.agg (sgA (withP x (natOf s % modN 1) K)),.int .i64 0])∧Below w.heap.size w w':=by
 have c_n:=snumber s (by omega)
 have l_h:natOf s % modN 1 < two256:=qe9 1 _
 obtain ⟨h,hh⟩:∃ h,natOf s % modN 1=h:=⟨_,rfl⟩
 rw [hh] at hK hok l_h ⊢
 simp only [hh] at c_n
 have l_K:K < two256:=by rw [← hK];exact qkj (by unfold nonceB;rw [qg7];omega)
 have c_w:=swith x h K l_x l_h l_K hk
 rw [hok] at c_w
 obtain ⟨G,hG⟩:∃ G,sgA (withP x h K)=G:=⟨_,rfl⟩
 have hGn:G.size=9:=by rw [← hG];rfl
 have hG1:G.all (·.oneCell')=true:=by rw [← hG];exact oneSg _ _ _
 rw [hG] at c_w ⊢
 have c_b:∀ w,Calls Tryz.prog 144 #[.agg (uC x)] w fun e w'=>e=.returned (.bool true)∧Below w.heap.size w w':=fun w=>by
  have h:=qdx (U4.of x) (U4.of_wf x) w
  rw [hb] at h
  exact h
 have c_o:=qpb x h
 have hsI:(s.length:Int)=32:=by omega
 have hM:=Mem.nil w
 clear hh hG hb hk hok
 refine (callsIn_wide (n:=12)).1 ?_
 refine callsIn_of_wp_marks Tryz.func104 rfl trivial ?_ rfl
 simp only [Tryz.ntmps104,List.size_toArray,List.length_cons,List.length_nil,Nat.reduceAdd,Nat.reduceSub,Array.replicate_succ,Array.replicate_zero,List.push_toArray,List.append_toArray,List.nil_append,List.cons_append]
 refine wpIn_wide.2 ?_
 go_wp2_with (first
  | (refine qam 2 rfl hM rfl rfl rfl (boxN _ _) ?_;clear hM;intro w' g2 hM)
  | (refine qaj 4 rfl hM rfl (runSg rfl) ?_;clear hM;intro w' g4 hM)
  | (refine qeu 5 rfl hM rfl (v:=fun g=>.pointer (some ⟨g,0,none⟩)) (cs:=#[.int .i64 0]) (t:=30) (fun w=>by go_simp) ?_;clear hM;intro w' g5 hM)
  | (refine qai hM rfl rfl tyU rfl (by exact hat) rfl ?_)
  | (refine qak 11 rfl hM rfl rfl qlk (al:=[.agg (uC x)]) (c_b _) rfl ?_;clear hM;intro w' hM)
  | (refine qak 20 rfl hM rfl rfl enNumber (al:=[.string (bs s)]) (c_n _) rfl ?_;clear hM;intro w' hM)
  | (refine qaj 6 rfl hM rfl (runN rfl) ?_;clear hM;intro w' g6 hM)
  | (refine qae hM rfl rfl tyU rfl rfl (by exact hau) rfl rfl (oneN _) ?_;clear hM;intro w' hM)
  | (refine qsz 23 rfl hM rfl rfl enNonces (al:=[.agg (uC x),.agg (uC h)]) (c_o _) rfl ?_;clear hM;intro y w' hM;obtain ⟨n2,n3⟩:=y))
 simp only [List.cons_append,List.nil_append] at hM
 generalize w'=wr at hM ⊢
 have hg4:=hM.at_ at4
 have hg5:=hM.at_ at3
 have lt4:=(qg hg4)
 have lt5:=(qg hg5)
 have ge4:=hM.ge at4
 have ge5:=hM.ge at3
 have hsz:=hM.below.size
 have h23:=hM.two at1 at0 (by decide)
 refine (wpIn_wide (n:=12)).1 ?_
 refine qf0 rfl (by decide) (gf:=206) (lb:=#[.pointer (some ⟨n2,0,none⟩),.pointer (some ⟨n3,0,none⟩)]) rfl trivial (enters_of Tryz.func206 (by kernel_rfl) rfl) (x:=#[.agg (uC K)]) rfl ?hseq
  (fun W=>W.heap[g4]? = some (.cells G 26 (0,0))∧W.heap[g5]? = some (.cells #[.int .i64 0] 30 (0,0))∧Below w.heap.size w W) ?hIx ?hround ?hstop
 case hseq =>
  intro l Jx W hB hY
  refine callsIn_wide.2 ?_
  exact qme x h n2 n3 l Jx _ w W (h23.call hB) (by rw [hK];exact hY)
 case hIx =>
  rintro W ob ⟨h1,h2,h3⟩
  exact ⟨(World.putObj_heap_other (by omega)).trans h1,(World.putObj_heap_other (by omega)).trans h2,qeg h3 (by omega) _⟩
 case hstop =>
  rintro W hd ⟨h4,h5,hb⟩
  gi_wp2
  refine ⟨by simp,.inl ⟨_,_,rfl,run_takeDeferred hd,?_⟩⟩
  refine ⟨_,qmh rfl _ _ tySg Tryz.isAgg30 rfl rfl ((World.putObj_heap_other (by omega)).trans h4) hGn ((World.putObj_heap_other (by omega)).trans h5),rfl,qeg hb (by omega) _⟩
 case hround =>
  intro rec V hBV
  have hlt2:wr.heap.size+2=((wr.alloc (.deferred (some []))).alloc (.loop (rec .ready none))).heap.size:=by simp
  have hbV:Below wr.heap.size wr V:=(((Below.refl _ wr).alloc qn _).alloc (by simp) _).trans (hBV.mono (by omega))
  have hMV:=hM.call hbV
  have hlV:V.heap[wr.heap.size+1]? = some (.loop (rec .ready none)):=(hBV.block _ (by omega)).trans (by
   have:=World.alloc_heap_new (wr.alloc (.deferred (some []))) (.loop (rec .ready none));rwa [World.size_alloc] at this)
  have hdV:V.heap[wr.heap.size]? = some (.deferred (some [])):=(hBV.block _ (by omega)).trans ((Below.heap_alloc _ _ _ (by simp)).trans (World.alloc_heap_new wr _))
  have hszV:wr.heap.size+2≤V.heap.size:=by have:=hBV.size;omega
  have efold:∀ t:Array Value,((#[24]:Array Tmp).zip #[Value.agg (uC K)]).foldl (fun t x=>t.setIfInBounds x.1 x.2) t=t.setIfInBounds 24 (.agg (uC K)):=fun t=>by simp
  simp only [efold,List.setIfInBounds_toArray,List.set_cons_zero,List.set_cons_succ]
  refine qc7 (fun ⟨_,_,h⟩=>h) rfl ?_
  refine qis hMV rfl (runN rfl) ?_
  intro V1 g7 hb1 hg7 hM1
  refine qgm hM1 rfl rfl tyU rfl rfl au0 rfl rfl (oneN K) ?_
  intro V2 hV2 hM2
  have hl2:V2.heap[wr.heap.size+1]? = some (.loop (rec .ready none)):=by
   rw [hV2,qbe (by omega)];exact (hb1.block _ (by omega)).trans hlV
  have hd2:V2.heap[wr.heap.size]? = some (.deferred (some [])):=by
   rw [hV2,qbe (by omega)];exact (hb1.block _ (by omega)).trans hdV
  refine ⟨hl2,?_⟩
  have hlt3:=(qg hl2)
  have hM3:=hM2.putObj (l:=wr.heap.size+1) (by omega) (fun cs t e=>by rw [hl2] at e;cases e) (.loop (rec .busy none))
  have hl3:(V2.putObj (wr.heap.size+1) (.loop (rec .busy none))).heap[wr.heap.size+1]? = some (.loop (rec .busy none)):=World.putObj_heap_same hlt3
  have hd3:(V2.putObj (wr.heap.size+1) (.loop (rec .busy none))).heap[wr.heap.size]? = some (.deferred (some [])):=(World.putObj_heap_other (by omega)).trans hd2
  generalize V2.putObj (wr.heap.size+1) (.loop (rec .busy none))=V3 at hM3 hl3 hd3 ⊢
  have hs3:=(qg hl3)
  clear hV2 hM2 hM1 hMV hb1 hl2 hd2 hlt3
  refine wpIn_block ?_
  refine wpIn_seq ?_
  refine qc7 (fun ⟨_,_,h⟩=>(by have h':=(show Exit.outgrown=Exit.ret∧_ from h).1;cases h')) rfl ?_
  refine qai hM3 rfl rfl tyU rfl (by exact hat) rfl ?_
  refine qai hM3 rfl rfl tyU rfl (by exact hat) rfl ?_
  refine qai hM3 rfl rfl tyU rfl (by exact hat) rfl ?_
  refine qqh hM3 rfl rfl enWith (al:=[.agg (uC x),.agg (uC h),.agg (uC K)]) (c_w _) rfl ?_
  intro V4 hb4 hM4
  go_upto_region 999 with (first
   | (refine qis hM4 rfl (runSg rfl) ?_;intro V5 g8 hb5 hg8 hM5)
   | (refine qgm hM5 rfl rfl tySg rfl rfl au0 hGn rfl hG1 ?_;intro V6 hV6 hM6))
  have hs4:=hb4.size
  have hs5:=hb5.size
  have hl6:V6.heap[wr.heap.size+1]? = some (.loop (rec .busy none)):=by
   rw [hV6,qbe (by omega)];exact (hb5.block _ (by omega)).trans ((hb4.block _ (by omega)).trans hl3)
  have hd6:V6.heap[wr.heap.size]? = some (.deferred (some [])):=by
   rw [hV6,qbe (by omega)];exact (hb5.block _ (by omega)).trans ((hb4.block _ (by omega)).trans hd3)
  clear hV6 hb4 hb5 hM3 hM4 hM5 hl3 hd3
  refine wpIn_seq ?_
  refine qc7 (fun ⟨_,_,h⟩=>(by have h':=(show Exit.outgrown=Exit.ret∧_ from h).1;cases h')) rfl ?_
  go_upto_region 999 with fail
  refine wpIn_cond_true rfl ?_
  refine wpIn_seq ?_
  refine qc7 (fun ⟨_,_,h⟩=>(by have h':=(show Exit.outgrown=Exit.ret∧_ from h).1;cases h')) rfl ?_
  refine qai hM6 rfl rfl tySg rfl at0 hGn ?_
  refine qgm hM6 rfl rfl tySg rfl rfl au6 hGn rfl hG1 ?_
  intro V7 hV7 hM7
  refine qqd hM7 rfl rfl rfl rfl au5 (storeE hM7 at5 rfl 0) ?_
  intro V8 hV8 hM8
  refine wpIn_ret ?_
  refine ⟨rfl,?_,?_,hM8.at_ at6,hM8.at_ at5,hM8.below⟩
  ·rw [hV8,heap_setCell_other _ _ _ _ (by show _≠g5;omega),hV7,qbe (by omega)];exact hl6
  ·rw [hV8,heap_setCell_other _ _ _ _ (by show _≠g5;omega),hV7,qbe (by omega)];exact hd6
/- What the kernel reckons of the one note that is signed. -/
set_option maxRecDepth 100000
theorem qsv:digN ⟨2,0,0,List.replicate 32 0,0,zeroSg⟩ = [203,189,191,85,196,80,190,163,254,67,206,225,152,32,42,36,114,219,63,13,77,213,7,242,136,29,122,238,194,201,82,92]:=by decide +kernel
theorem knote_h:natOf [203,189,191,85,196,80,190,163,254,67,206,225,152,32,42,36,114,219,63,13,77,213,7,242,136,29,122,238,194,201,82,92] % modN 1=92154762903468320789378011727743775430268445774612760265884273526938702271068:=by decide +kernel
theorem knote_X:uB (U4.of 1) = [0,0,0,0,0,0,0,0,0,0,0,0,0,0,0,0,0,0,0,0,0,0,0,0,0,0,0,0,0,0,0,1]:=by decide +kernel
theorem knote_H:uB (U4.of 92154762903468320789378011727743775430268445774612760265884273526938702271068) = [203,189,191,85,196,80,190,163,254,67,206,225,152,32,42,36,114,219,63,13,77,213,7,242,136,29,122,238,194,201,82,92]:=by decide +kernel
theorem knote_1:stN [0,0,0,0,0,0,0,0,0,0,0,0,0,0,0,0,0,0,0,0,0,0,0,0,0,0,0,0,0,0,0,1] [203,189,191,85,196,80,190,163,254,67,206,225,152,32,42,36,114,219,63,13,77,213,7,242,136,29,122,238,194,201,82,92] 1=([183,171,180,127,78,67,89,165,5,202,60,40,94,121,118,109,111,217,148,70,96,118,220,20,108,250,0,118,97,0,90,224],[45,16,250,232,59,235,159,114,47,40,85,123,195,30,133,94,147,161,235,136,103,161,146,243,102,2,43,81,25,26,94,99]):=by decide +kernel
theorem knote_2:stN [0,0,0,0,0,0,0,0,0,0,0,0,0,0,0,0,0,0,0,0,0,0,0,0,0,0,0,0,0,0,0,1] [203,189,191,85,196,80,190,163,254,67,206,225,152,32,42,36,114,219,63,13,77,213,7,242,136,29,122,238,194,201,82,92] 2=([233,19,218,241,216,58,23,111,228,46,16,175,152,220,238,201,110,30,59,121,242,226,137,209,174,252,108,94,12,13,112,6],[116,22,203,58,155,2,133,178,163,188,63,194,110,150,68,109,50,48,167,225,240,126,21,238,67,165,159,14,49,188,185,118]):=by
 show (macS (stN [0,0,0,0,0,0,0,0,0,0,0,0,0,0,0,0,0,0,0,0,0,0,0,0,0,0,0,0,0,0,0,1] [203,189,191,85,196,80,190,163,254,67,206,225,152,32,42,36,114,219,63,13,77,213,7,242,136,29,122,238,194,201,82,92] 1).1 _,_)=_
 rw [knote_1]
 decide +kernel
theorem knote_3:nonceB [0,0,0,0,0,0,0,0,0,0,0,0,0,0,0,0,0,0,0,0,0,0,0,0,0,0,0,0,0,0,0,1] [203,189,191,85,196,80,190,163,254,67,206,225,152,32,42,36,114,219,63,13,77,213,7,242,136,29,122,238,194,201,82,92] = [167,58,36,123,164,8,206,95,142,222,211,137,210,193,36,100,10,254,80,4,39,91,137,203,195,211,163,143,246,80,227,96]:=by
 unfold nonceB
 rw [knote_2]
 decide +kernel
theorem knote_K:nonceN 1 92154762903468320789378011727743775430268445774612760265884273526938702271068=75638974639379396141108984036710715376250611495001939772788060463875971146592:=by
 unfold nonceN
 rw [knote_X,knote_H,knote_3]
 decide +kernel
theorem knote_in:insideN (U4.of 75638974639379396141108984036710715376250611495001939772788060463875971146592)=true:=by decide +kernel
theorem qjk:okSg (withP 1 92154762903468320789378011727743775430268445774612760265884273526938702271068 75638974639379396141108984036710715376250611495001939772788060463875971146592).sg=true:=by decide +kernel
theorem okSg_wfn {n:Sn} (h:okSg n.sg=true):n.sg.Wf:=⟨U4.of_wf _,U4.of_wf _,by rcases qnv h with e | e <;> omega,by rcases qnv h with e | e <;> omega⟩
def sgnote:Sg:=(withP 1 92154762903468320789378011727743775430268445774612760265884273526938702271068 75638974639379396141108984036710715376250611495001939772788060463875971146592).sg
def ntnote:Nt:=⟨2,0,0,List.replicate 32 0,0,sgnote⟩
theorem oknote:okNt ntnote=true:=by
 show (wellN 2 0 (List.replicate 32 0) 0 && okSg sgnote)=true
 unfold sgnote
 rw [qjk]
 rfl
theorem wfnote:sgnote.Wf:=okSg_wfn qjk
/- The walk of msg.Sign (where the first nonce fits). -/
def zeroNt:Nt:=⟨0,0,0,[],0,zeroSg⟩
theorem runNt {o:Oper} (ho:o.op=.alloc 40) (ρ:Operand→Value) (w:World):(execOp ρ o).run Tryz.prog w=.ok (.value (.pointer (some ⟨w.heap.size,0,none⟩))) (w.alloc (.cells (ntC zeroNt) 40)):=by
 unfold execOp
 simp only [ho]
 rw [show ntC zeroNt=#[.int .u64 0,.int .u64 0,.int .u64 0,.string ⟨#[]⟩,.int .u64 0,.int .u64 0,.int .u64 0,.int .u64 0,.int .u64 0,.int .u64 0,.int .u64 0,.int .u64 0,.int .u64 0,.int .i64 0] from rfl]
 go_simp
theorem runSgn {o:Oper} (ho:o.op=.alloc 26) (ρ:Operand→Value) (w:World):(execOp ρ o).run Tryz.prog w=.ok (.value (.pointer (some ⟨w.heap.size,0,none⟩))) (w.alloc (.cells (sgCn zeroSg) 26)):=by
 unfold execOp
 simp only [ho]
 rw [show sgCn zeroSg=zqS from rfl]
 go_simp
theorem oneSgn (s:Sg):(sgCn s).all (·.oneCell')=true:=by simp [sgCn,Value.oneCell']
theorem putNt (n:Nt) (s:Sg):PutAt (ntC n) 5 9 (sgCn s) (ntC { n with sg:=s }):=⟨rfl,rfl,by show 14≤14;decide⟩
theorem qqn:Ent Tryz.prog 115:=⟨enters_of Tryz.func115 (by kernel_rfl) rfl⟩
theorem enNSgn:Ent Tryz.prog 104:=⟨enters_of Tryz.func104 (by kernel_rfl) rfl⟩
theorem qri (x:Nat) (n:Nt) (l_x:x < two256) (hw:n.Wf) (h32:n.id.length≤32) (hwl:wellN n.kd n.rd n.id n.pr=true) (hb:insideN (U4.of x)=true) (K:Nat) (hK:nonceN x (natOf (digN n) % modN 1)=K) (hk:insideN (U4.of K)=true) (hok:okSg (withP x (natOf (digN n) % modN 1) K).sg=true) (w:World) :
  Calls Tryz.prog 60 #[.agg (uC x),.agg (ntC n)] w fun e w'=>e=.returned (.tuple #[.agg (ntC { n with sg:=(withP x (natOf (digN n) % modN 1) K).sg }),.int .i64 0])∧Below w.heap.size w w':=by
 have c_s:=sign_any x (digN n) l_x (qob _) hb K hK hk hok
 have c_d:∀ w,Calls Tryz.prog 115 #[.agg (ntC n)] w fun e w'=>e=.returned (.string (bs (digN n)))∧Below w.heap.size w w':=ql9 n hw h32
 have c_w:=fun W:World=>qlv n (by omega) W
 rw [hwl] at c_w
 obtain ⟨D,hD⟩:∃ D,digN n=D:=⟨_,rfl⟩
 simp only [hD] at c_s c_d ⊢
 obtain ⟨nn,hn⟩:∃ y,withP x (natOf D % modN 1) K=y:=⟨_,rfl⟩
 simp only [hn] at c_s ⊢
 obtain ⟨sg,hsg⟩:∃ s,nn.sg=s:=⟨_,rfl⟩
 have hsa:sgA nn=sgCn sg:=by rw [← hsg];rfl
 rw [hsg]
 simp only [hsa] at c_s
 have hM:=Mem.nil w
 clear hD hn hsa hsg hok hK hk hb hw h32 hwl
 go_enter Tryz.func60,Tryz.ntmps60
 go_wp2_with (first
  | (refine qam 2 rfl hM rfl rfl rfl (boxN _ _) ?_;clear hM;intro w' g2 hM)
  | (refine qam 3 rfl hM rfl rfl rfl (boxNt n _) ?_;clear hM;intro w' g3 hM)
  | (refine qaj 4 rfl hM rfl (runNt rfl) ?_;clear hM;intro w' g4 hM)
  | (refine qai hM rfl rfl tyNt rfl (by exact hat) rfl ?_)
  | (refine qak 9 rfl hM rfl rfl enWell (al:=[.agg (ntC n)]) (c_w _) rfl ?_;clear hM;intro w' hM))
 refine qcz 6 8 hM qbc [.agg (uC x),.agg (ntC n),.string (bs D),.tuple #[.agg (sgCn sg),.int .i64 0],.tuple #[.agg (sgCn sg),.int .i64 0],.agg (sgCn sg),.int .i64 0,undef] [⟨7,6,sgCn zeroSg,26⟩] (b:=?b1) ?hb rfl (by kernel_rfl) (fun _=>⟨by kernel_rfl,by decide,?hl,fun _ _ _ _ _ h=>h⟩) ?hgo ?hfin
 case hb=>simp only [putAll,Act.put,List.setIfInBounds_toArray,List.set_cons_zero,List.set_cons_succ];rfl
 case hl=>exact qk8 rfl rfl rfl (fun w=>by go_simp)
 case hgo =>
  refine GoAll.v (.agg (uC x)) (qap tyU at2) ?_
  refine GoAll.v (.agg (ntC n)) (qap tyNt at1) ?_
  refine GoAll.v (.string (bs D)) (qao (al:=[.agg (ntC n)]) c_d qqn) ?_
  refine GoAll.v (.tuple #[.agg (sgCn sg),.int .i64 0]) (qao (al:=[.agg (uC x),.string (bs D)]) c_s enNSgn) ?_
  refine GoAll.v (.tuple #[.agg (sgCn sg),.int .i64 0]) (qaq fun w=>by go_simp) ?_
  refine GoAll.v (.agg (sgCn sg)) (qaq fun w=>by go_simp) ?_
  refine GoAll.v (.int .i64 0) (qaq fun w=>by go_simp) ?_
  refine GoAll.l (k:=0) rfl ⟨rfl,fun ρ w=>runSgn rfl ρ w⟩ ?_
  exact GoAll.nil
 case hfin =>
  clear hM;intro w' G hM
  simp only [putLays,List.drop_succ_cons,List.drop_zero,List.map_nil,List.map_cons,List.nil_append,List.cons_append,Act.put,List.setIfInBounds_toArray,List.set_cons_zero,List.set_cons_succ] at hM ⊢
  generalize G 7=g6 at hM ⊢
  go_wp2_with (first
   | (refine qdu hM rfl rfl tySgn rfl rfl (new:=ntC { n with sg:=sg }) (by exact hau) (putNt _ _) (oneSgn _) ?_;clear hM;intro w' hM)
   | (refine qae hM rfl rfl tySgn rfl rfl (by exact hau) rfl rfl (oneSgn _) ?_;clear hM;intro w' hM)
   | (refine qae hM rfl rfl tyNt rfl rfl (by exact hau) rfl rfl (oneNt _) ?_;clear hM;intro w' hM)
   | (refine qai hM rfl rfl tySgn rfl (by exact hat) rfl ?_)
   | (refine qai hM rfl rfl tyNt rfl (by exact hat) rfl ?_))
  refine qb9 hM rfl tyNt rfl rfl (by exact hat) rfl rfl ?_
  exact ⟨rfl,hM.below⟩
/- The walk of law 21's cut. -/
theorem qrq {w0 w:World} {L:List Blk} {g k j:Nat} {cs:Array Value} {t:TypeId} {v:Value} (hM:Mem w0 w L) (hk:L[k]? = some (g,cs,t)) (hj:cs[j]? = some v) (s:ByteArray):(storeVar 9 ⟨g,j,none⟩ (.string s)).run Tryz.prog w=.ok () (w.setCell ⟨g,j,none⟩ (.string s)):=by
 have hc:=rc (hM.at_ hk) j hj
 have hf:=rf (hM.at_ hk) j
 go_simp
def cutNt (t:Nt):Nt:=⟨t.kd,t.ht,t.rd,t.id.take 40,t.pr,t.sg⟩
theorem qnn {t:Nt} (h:t.Wf):(cutNt t).Wf:=⟨h.kd,h.ht,h.rd,h.pr,h.sg⟩
theorem qn9 (t:Nt) (h63:t.id.length≤9223372036854775807) (w:World):Calls Tryz.prog 54 #[.agg (ntC t)] w fun e w'=>e=.returned (.agg (ntC (cutNt t)))∧Below w.heap.size w w':=by
 have hM:=Mem.nil w
 obtain ⟨m,hm⟩:∃ m,min t.id.length 40=m:=⟨_,rfl⟩
 have hmin:min (t.id.length:Int) 40=(m:Int):=by omega
 have hm1:(m:Int)≤(t.id.length:Int):=by omega
 have h63I:(t.id.length:Int)≤9223372036854775807:=by omega
 have htk:t.id.take m=t.id.take 40:=by
  rw [← hm]
  by_cases h:t.id.length≤40
  ·rw [Nat.min_eq_left h,List.take_of_length_le qn,List.take_of_length_le h]
  ·rw [Nat.min_eq_right (by omega)]
 have HT:=qh htk
 clear htk hm
 go_enter Tryz.func54,Tryz.ntmps54
 go_wp2_with (first
  | (refine qam 1 rfl hM rfl rfl rfl (boxNt t _) ?_;clear hM;intro w' g1 hM)
  | (refine qaj 2 rfl hM rfl (runNt rfl) ?_;clear hM;intro w' g2 hM)
  | (refine qaf hM rfl rfl Tryz.isAgg9 rfl (by exact hat) (v:=.string (bs t.id)) rfl ?_)
  | (refine qfk (v:=.string (bs (t.id.take m))) hM rfl rfl rfl rfl (by exact hau) (qrq hM at1 rfl _) ?_;clear hM;intro w' hM;change Mem _ _ [(g2,_,_),(g1,ntC ⟨t.kd,t.ht,t.rd,t.id.take m,t.pr,t.sg⟩,_)] at hM)
  | (refine qai hM rfl rfl tyNt rfl (by exact hat) rfl ?_)
  | (refine qae hM rfl rfl tyNt rfl rfl (by exact hau) rfl rfl (oneNt _) ?_;clear hM;intro w' hM))
 refine res_c hM rfl tyNt rfl (by exact hat) rfl rfl ?_
 have htk:t.id.take m=t.id.take 40:=HT.out
 exact ⟨by rw [htk];rfl,hM.below⟩
/- Notes and signatures are equal or not; loads out of rows that are handed in. -/
theorem qsr:Tryz.prog.underlying 26 = some (.struct (Tryz.prog.fieldsOf 26)):=by kernel_rfl
theorem stoodSgn:Tryz.prog.stoodInHeld 26 = false:=by kernel_rfl
theorem qbz:Tryz.prog.eqGuardType Tryz.prog.depth 26 = false:=by kernel_rfl
theorem fieldsNt:Tryz.prog.underlying 40 = some (.struct (Tryz.prog.fieldsOf 40)):=by kernel_rfl
theorem stoodNt:Tryz.prog.stoodInHeld 40 = false:=by kernel_rfl
theorem qht:Tryz.prog.eqGuardType Tryz.prog.depth 40 = false:=by kernel_rfl
theorem eqI_D (d:Nat) (a b:Int) (w:World):(Op.equalIn (d+1) 3 (.int .i64 a) (.int .i64 b)).run Tryz.prog w=.ok (decide (a=b)) w:=by
 rw [run_equalIn_int w d _ .i64 .i64 _ _ Tryz.underlying3]
 congr 1
theorem eqN_D (d:Nat) (a b:Nat) (w:World):(Op.equalIn (d+1) 22 (.int .u64 (a:Int)) (.int .u64 (b:Int))).run Tryz.prog w=.ok (decide (a=b)) w:=by
 rw [run_equalIn_int w d _ .u64 .u64 _ _ Tryz.underlying22]
 congr 1
 rw [Bool.eq_iff_iff]
 simp
 omega
theorem eqS_D (d:Nat) (a b:Bytes) (w:World):(Op.equalIn (d+1) 9 (.string (bs a)) (.string (bs b))).run Tryz.prog w=.ok (decide (a=b)) w:=by
 rw [run_equalIn_string w d _ _ _ Tryz.underlying9]
 rw [toList_bs,toList_bs]
 congr 1
 rw [Bool.eq_iff_iff]
 simp
theorem eqU_D (d:Nat) (x y:U4) (w:World):(Op.equalIn (d+2) 24 (.agg #[.int .u64 (x.a:Int),.int .u64 (x.b:Int),.int .u64 (x.c:Int),.int .u64 (x.d:Int)]) (.agg #[.int .u64 (y.a:Int),.int .u64 (y.b:Int),.int .u64 (y.c:Int),.int .u64 (y.d:Int)])).run Tryz.prog w=.ok (decide (x=y)) w:=qe6 d x y w
theorem qt3 (d:Nat) (x y:Sg) (w:World):(Op.equalIn (d+3) 26 (.agg (sgCn x)) (.agg (sgCn y))).run Tryz.prog w=.ok (decide (x=y)) w:=by
 have p0:∀ x:Sg,(part 24 (sgCn x) 0).run Tryz.prog w=.ok (.agg #[.int .u64 (x.r.a:Int),.int .u64 (x.r.b:Int),.int .u64 (x.r.c:Int),.int .u64 (x.r.d:Int)]) w:=fun x=>qd7 (n:=4) (o:=0) (xs:=sgCn x) Tryz.underlying24 rfl (by kernel_rfl) rfl w
 have p1:∀ x:Sg,(part 24 (sgCn x) 4).run Tryz.prog w=.ok (.agg #[.int .u64 (x.s.a:Int),.int .u64 (x.s.b:Int),.int .u64 (x.s.c:Int),.int .u64 (x.s.d:Int)]) w:=fun x=>qd7 (n:=4) (o:=4) (xs:=sgCn x) Tryz.underlying24 rfl (by kernel_rfl) rfl w
 have p2:∀ x:Sg,(part 3 (sgCn x) 8).run Tryz.prog w=.ok (.int .i64 x.v) w:=fun x=>by simp [part,isAgg,run_underlying Tryz.underlying3,sgCn,Sem.run_bind]
 have hm:(Op.eqFields (d+2) (sgCn x) (sgCn y) (Tryz.prog.fieldsOf 26).toList).run Tryz.prog w=.ok (decide (x.r=y.r) && (decide (x.s=y.s) && (decide (x.v=y.v) && true))) w:=by
  simp only [Program.fieldsOf,Tryz.underlying26]
  refine qbd (by decide) (p0 x) (p0 y) (eqU_D d _ _ w) ?_
  refine qbd (by decide) (p1 x) (p1 y) (eqU_D d _ _ w) ?_
  refine qbd (by decide) (p2 x) (p2 y) (eqI_D (d+1) _ _ w) ?_
  rfl
 have e:(decide (x.r=y.r) && (decide (x.s=y.s) && (decide (x.v=y.v) && true)))=decide (x=y):=by
  obtain ⟨a1,a2,a3⟩:=x
  obtain ⟨b1,b2,b3⟩:=y
  rw [Bool.eq_iff_iff]
  simp
 rw [run_equalIn_agg w (d+2) _ _ _ qsr stoodSgn,hm,e]
theorem eqNt_D (d:Nat) (x y:Nt) (w:World):(Op.equalIn (d+4) 40 (.agg (ntC x)) (.agg (ntC y))).run Tryz.prog w=.ok (decide (x=y)) w:=by
 have p0:∀ x:Nt,(part 22 (ntC x) 0).run Tryz.prog w=.ok (.int .u64 (x.kd:Int)) w:=fun x=>by simp [part,isAgg,run_underlying Tryz.underlying22,ntC,Sem.run_bind]
 have p1:∀ x:Nt,(part 22 (ntC x) 1).run Tryz.prog w=.ok (.int .u64 (x.ht:Int)) w:=fun x=>by simp [part,isAgg,run_underlying Tryz.underlying22,ntC,Sem.run_bind]
 have p2:∀ x:Nt,(part 22 (ntC x) 2).run Tryz.prog w=.ok (.int .u64 (x.rd:Int)) w:=fun x=>by simp [part,isAgg,run_underlying Tryz.underlying22,ntC,Sem.run_bind]
 have p3:∀ x:Nt,(part 9 (ntC x) 3).run Tryz.prog w=.ok (.string (bs x.id)) w:=fun x=>by simp [part,isAgg,run_underlying Tryz.underlying9,ntC,Sem.run_bind]
 have p4:∀ x:Nt,(part 22 (ntC x) 4).run Tryz.prog w=.ok (.int .u64 (x.pr:Int)) w:=fun x=>by simp [part,isAgg,run_underlying Tryz.underlying22,ntC,Sem.run_bind]
 have p5:∀ x:Nt,(part 26 (ntC x) 5).run Tryz.prog w=.ok (.agg (sgCn x.sg)) w:=fun x=>qd7 (n:=9) (o:=5) (xs:=ntC x) Tryz.underlying26 rfl (by kernel_rfl) rfl w
 have hm:(Op.eqFields (d+3) (ntC x) (ntC y) (Tryz.prog.fieldsOf 40).toList).run Tryz.prog w=.ok (decide (x.kd=y.kd) && (decide (x.ht=y.ht) && (decide (x.rd=y.rd) && (decide (x.id=y.id) && (decide (x.pr=y.pr) && (decide (x.sg=y.sg) && true)))))) w:=by
  simp only [Program.fieldsOf,Tryz.underlying40]
  refine qbd (by decide) (p0 x) (p0 y) (eqN_D (d+2) _ _ w) ?_
  refine qbd (by decide) (p1 x) (p1 y) (eqN_D (d+2) _ _ w) ?_
  refine qbd (by decide) (p2 x) (p2 y) (eqN_D (d+2) _ _ w) ?_
  refine qbd (by decide) (p3 x) (p3 y) (eqS_D (d+2) _ _ w) ?_
  refine qbd (by decide) (p4 x) (p4 y) (eqN_D (d+2) _ _ w) ?_
  refine qbd (by decide) (p5 x) (p5 y) (qt3 d _ _ w) ?_
  rfl
 have e:(decide (x.kd=y.kd) && (decide (x.ht=y.ht) && (decide (x.rd=y.rd) && (decide (x.id=y.id) && (decide (x.pr=y.pr) && (decide (x.sg=y.sg) && true))))))=decide (x=y):=by
  obtain ⟨a1,a2,a3,a4,a5,a6⟩:=x
  obtain ⟨b1,b2,b3,b4,b5,b6⟩:=y
  rw [Bool.eq_iff_iff]
  simp
 rw [run_equalIn_agg w (d+3) _ _ _ fieldsNt stoodNt,hm,e]
theorem eqlSgD (x y:Sg) (w:World):(binOp .eql 26 (.agg (sgCn x)) (.agg (sgCn y))).run Tryz.prog w=.ok (.bool (decide (x=y))) w:=by
 rw [run_eql_struct,qt3 9997 x y w];rfl
theorem neqSgD (x y:Sg) (w:World):(binOp .neq 26 (.agg (sgCn x)) (.agg (sgCn y))).run Tryz.prog w=.ok (.bool (!decide (x=y))) w:=by
 rw [run_neq_struct,qt3 9997 x y w];rfl
theorem eqlNtD (x y:Nt) (w:World):(binOp .eql 40 (.agg (ntC x)) (.agg (ntC y))).run Tryz.prog w=.ok (.bool (decide (x=y))) w:=by
 rw [run_eql_struct,eqNt_D 9996 x y w];rfl
theorem neqNtD (x y:Nt) (w:World):(binOp .neq 40 (.agg (ntC x)) (.agg (ntC y))).run Tryz.prog w=.ok (.bool (!decide (x=y))) w:=by
 rw [run_neq_struct,eqNt_D 9996 x y w];rfl
theorem qcs {P:Program} {ops:Array Oper} {rest:List Oper} {op:Oper} {a a':Act} {w:World} {Q:Exit→Act→World→Prop} {k:BinOp} {ty ty2:TypeId} {x y:Operand} {v0 v1 v:Value} (s:Nat) (hd:op.dst=some s) (hb:∀ w,(binOp k ty v0 v1).run P w=.ok v w) (hg:∀ x y w,(eqGuard k ty x y v0 v1).run P w=.ok () w)
  (ho:op.op=.binOp k ty x y ty2) (h0:a.eval x=v0) (h1:a.eval y=v1) (hw:Region.wanted op (yielded ops a.tmps)=true)
  (h:wpList P ops Q rest a' w) (ha:a.put op.dst v=a':=by simp only [Act.put,List.setIfInBounds_toArray,List.set_cons_zero,List.set_cons_succ];rfl):wpList P ops Q (op :: rest) a w :=
 qa2 hw fun K hK=>by
  unfold Oper.wp execOp
  simp only [ho,h0,h1,Sem.run_bind,hg,hb,Result.andThen_ok,Sem.run_pure]
  exact hK _ _ (ha ▸ h)
section
variable {P:Program} {ops:Array Oper} {rest:List Oper} {op:Oper} {a:Act} {w0 w:World} {Q:Exit→Act→World→Prop} {L:List Blk}
/-- an element of a row that was handed in -/
theorem qfv {a':Act} {sz g o c i:Nat} {ls:List (List Value)} {cs:List Value} (hM:Mem w0 w L) (hv:PlV Any w0 sz ls (some ⟨g,o,none⟩) c) (hi:ls[i]? = some cs) (hz:0 < sz) (hgd:Region.wanted op (yielded ops a.tmps)=true) {ty:TypeId} {x:Operand} (ho:op.op=.load ty x) (T:AggT P ty sz) (hx:a.eval x=.pointer (some ⟨g,o+i * sz,none⟩)) (new:Array Value) (hnew:cs.toArray=new)
  (h:wpList P ops Q rest a' w) (ha:a.put op.dst (.agg new)=a':=by simp only [Act.put,List.setIfInBounds_toArray,List.set_cons_zero,List.set_cons_succ];rfl):wpList P ops Q (op :: rest) a w :=
 match T.desc with
 | ⟨d,hd,hd2⟩=>qa2 hgd fun _ hK=>by
  obtain ⟨g',o',e,_,hl,hc⟩:=(hv.keep hM.below).at_ hz hi
  cases e
  subst hnew
  unfold Oper.wp execOp
  simp only [ho,hx,Instr.loadAt,Instr.sureAddr,Sem.run_bind,Sem.run_pure,Result.andThen_ok,qb5 w g (o+i * sz) ty cs d hc hd (by cases d <;> first | rfl | cases hd2) (by rw [T.size,hl])]
  exact hK _ _ (ha ▸ h)
theorem qok {b:Act} {sz g o c i:Nat} {ls:List (List Value)} {cs:List Value} {oi:Oper} {ty:TypeId} {x:Operand} (hv:PlV Any w0 sz ls (some ⟨g,o,none⟩) c) (hi:ls[i]? = some cs) (hz:0 < sz) (T:AggT P ty sz) (new:Array Value) (hnew:cs.toArray=new:=by rfl) (ho:oi.op=.load ty x:=by rfl) (hx:b.eval x=.pointer (some ⟨g,o+i * sz,none⟩):=by rfl) (hw:Region.wanted oi (yielded ops b.tmps)=true:=by rfl):Goes P ops (fun w'=>Mem w0 w' L) b oi (.agg new) :=
 match T.desc with
 | ⟨d,hd,hd2⟩=>qhx (fun w hM=>by
  obtain ⟨g',o',e,_,hl,hc⟩:=(hv.keep (Mem.below hM)).at_ hz hi
  cases e
  subst hnew
  unfold execOp
  simp only [ho,hx,Instr.loadAt,Instr.sureAddr,Sem.run_bind,Sem.run_pure,Result.andThen_ok,qb5 w g (o+i * sz) ty cs d hc hd (by cases d <;> first | rfl | cases hd2) (by rw [T.size,hl])]) hw
end
end Go.Proofs.YteoednifdpdbnaaGreat
