/- The walk of sign.nonces' closure. -/
import Derived.Test.YteoednifdpdbnaaGreatZ38
import Derived.Test.YteoednifdpdbnaaGreatZ47
import Derived.Test.YteoednifdpdbnaaGreatZ48
import Derived.Test.YteoednifdpdbnaaGreatZ52
import Derived.Deep.Cut
import Derived.TacticsIn
import Derived.LoopIn
import Derived.OwnWalkIn
import Derived.RangeFuncLeaves
import Derived.Test.YteoednifdpdbnaaGreatZ30
import Derived.ChangeKeysEq
import Derived.BigQuiet
namespace Go.Proofs.YteoednifdpdbnaaGreat
set_option linter.unusedVariables false
set_option linter.unusedSimpArgs false
open Go.RowKit
set_option maxHeartbeats 4000000
set_option maxRecDepth 100000
open Go.RowKit Go.Shelf
/-- the key and the text, i times renewed -/
def stN (X H:Bytes):Nat→Bytes×Bytes
 | 0=>(List.replicate 32 0,List.replicate 32 1)
 | i+1=>(macS (stN X H i).1 [(stN X H i).2,[UInt8.ofNat i],X,H].flatten,macS (macS (stN X H i).1 [(stN X H i).2,[UInt8.ofNat i],X,H].flatten) [(stN X H i).2].flatten)
def nonceB (X H:Bytes):Bytes:=macS (stN X H 2).1 [(stN X H 2).2].flatten
def nonceN (x h:Nat):Nat:=natOf (nonceB (uB (U4.of x)) (uB (U4.of h)))
theorem qso (X H:Bytes) (i:Nat):(stN X H i).1.length=32∧(stN X H i).2.length=32:=by
 cases i with
 | zero=>exact ⟨by simp [stN],by simp [stN]⟩
 | succ i=>exact ⟨qg8 _ _,qg8 _ _⟩
theorem mac4 (k v c X H:Bytes) (hk:k.length=32) (hv:v.length=32) (hc:c.length=1) (hX:X.length=32) (hH:H.length=32) (g:Nat) {w0 w:World} {L:List Blk} (hM:Mem w0 w ((g,#[.string (bs v),.string (bs c),.string (bs X),.string (bs H)],9) :: L)) :
  Calls Tryz.prog 208 #[.string (bs k),.slice (some ⟨g,0,none⟩) 4 4] w fun e w'=>e=.returned (.string (bs (macS k [v,c,X,H].flatten)))∧Below w.heap.size w w' :=
 qse k (by omega) [v,c,X,H] v rfl (by simp) (by simp only [List.flatten_cons,List.flatten_nil,List.length_append,List.length_nil,hv,hc,hX,hH];omega) g 0 4 (by simp) w (fun j p hp=>rc (hM.at_ at0) (0+j) (by
  rw [Nat.zero_add]
  match j,hp with
  | 0,hp=>cases hp;rfl
  | 1,hp=>cases hp;rfl
  | 2,hp=>cases hp;rfl
  | 3,hp=>cases hp;rfl
  | j+4,hp=>simp at hp))
theorem mac1 (k v:Bytes) (hk:k.length=32) (hv:v.length=32) (g:Nat) {w0 w:World} {L:List Blk} (hM:Mem w0 w ((g,#[.string (bs v)],9) :: L)) :
  Calls Tryz.prog 208 #[.string (bs k),.slice (some ⟨g,0,none⟩) 1 1] w fun e w'=>e=.returned (.string (bs (macS k [v].flatten)))∧Below w.heap.size w w' :=
 qse k (by omega) [v] v rfl (by simp) (by simp only [List.flatten_cons,List.flatten_nil,List.length_append,List.length_nil,hv];omega) g 0 1 (by simp) w (fun j p hp=>rc (hM.at_ at0) (0+j) (by
  rw [Nat.zero_add]
  match j,hp with
  | 0,hp=>cases hp;rfl
  | j+1,hp=>simp at hp))
theorem qoa:Ent Tryz.prog 92:=⟨enters_of Tryz.func92 (by kernel_rfl) rfl⟩
theorem qoo:Ent Tryz.prog 207:=⟨enters_of Tryz.func207 (by kernel_rfl) rfl⟩
theorem qna (x h gx gh:Nat) (l:Nat) (Jx:World→Prop) (n:Nat) (w0 w:World) (hM:Mem w0 w [(gx,uC x,24),(gh,uC h,24)])
  (hY:∀ W1,Below w.heap.size w W1→YieldAt Fence.wide n Tryz.prog l #[.agg (uC (nonceN x h))] W1 fun e W'=>e=.returned (.bool false)∧Jx W') :
  Calls Tryz.prog 206 #[.func (.yield l) #[] #[],.pointer (some ⟨gx,0,none⟩),.pointer (some ⟨gh,0,none⟩)] w fun e w'=>(∃ v,e=.returned v)∧Jx w':=by
 have c_x:∀ w,Calls Tryz.prog 92 #[.agg (uC x)] w fun e w'=>e=.returned (.string (bs (uB (U4.of x))))∧Below w.heap.size w w':=fun w=>qgd (U4.of x) (U4.of_wf x) w
 have c_h:∀ w,Calls Tryz.prog 92 #[.agg (uC h)] w fun e w'=>e=.returned (.string (bs (uB (U4.of h))))∧Below w.heap.size w w':=fun w=>qgd (U4.of h) (U4.of_wf h) w
 have lX:(uB (U4.of x)).length=32:=qd9 _
 have lH:(uB (U4.of h)).length=32:=qd9 _
 have c_r1:∀ w,Calls Tryz.prog 207 #[.string ⟨#[1]⟩,.int .i64 32] w fun e w'=>e=.returned (.string (bs (List.replicate 32 1)))∧Below w.heap.size w w':=fun w=>qji 1 32 (by decide) w
 have c_r0:∀ w,Calls Tryz.prog 207 #[.string ⟨#[0]⟩,.int .i64 32] w fun e w'=>e=.returned (.string (bs (List.replicate 32 0)))∧Below w.heap.size w w':=fun w=>qji 0 32 (by decide) w
 unfold nonceN at hY
 obtain ⟨X,hX⟩:∃ X,uB (U4.of x)=X:=⟨_,rfl⟩
 obtain ⟨H,hH⟩:∃ H,uB (U4.of h)=H:=⟨_,rfl⟩
 simp only [hX,hH] at hY c_x c_h lX lH
 obtain ⟨N,hN⟩:∃ N,natOf (nonceB X H)=N:=⟨_,rfl⟩
 rw [hN] at hY
 have HN:=qh hN
 have HY:=qh hY
 clear hX hH hN hY
 go_enter Tryz.func206,Tryz.ntmps206
 go_wp2_with fail
 refine qqp 4 4 hM qbh [.agg (uC x),.string (bs X),.agg (uC h),.string (bs H)] [] (b:=?b1) ?hb rfl (by kernel_rfl) (fun h=>absurd h (by decide)) ?hgo ?hfin
 case hb=>simp only [putAll,Act.put,List.setIfInBounds_toArray,List.set_cons_zero,List.set_cons_succ];rfl
 case hgo =>
  refine GoAll.v (.agg (uC x)) (qan tyU at0) ?_
  refine GoAll.v (.string (bs X)) (qam (al:=[.agg (uC x)]) c_x qoa) ?_
  refine GoAll.v (.agg (uC h)) (qan tyU at1) ?_
  refine GoAll.v (.string (bs H)) (qam (al:=[.agg (uC h)]) c_h qoa) ?_
  exact GoAll.nil
 case hfin =>
  clear hM;intro w' G hB hM2
  simp only [putLays,List.drop_succ_cons,List.drop_zero,List.map_nil,List.map_cons,List.nil_append,List.cons_append] at hM2 ⊢
  have hM:Mem w w' []:=⟨hB,fun p hp=>(by cases hp),List.nodup_nil⟩
  clear hM2 hB c_x c_h
  generalize w'=wa at hM ⊢
  go_wp2_with (first
   | (refine qaj 16 rfl hM rfl rfl qoo (al:=[.string ⟨#[1]⟩,.int .i64 32]) (c_r1 _) rfl ?_;clear hM;intro w' hM)
   | (refine qaj 17 rfl hM rfl rfl qoo (al:=[.string ⟨#[0]⟩,.int .i64 32]) (c_r0 _) rfl ?_;clear hM;intro w' hM)
   | (refine qfw 18 rfl hM rfl (v:=fun g=>.slice (some ⟨g,0,none⟩) 2 2) (cs:=#[.string ⟨#[0]⟩,.string ⟨#[1]⟩]) (t:=9) (fun w=>by go_simp) ?_;clear hM;intro w' g18 hM))
  go_loopw [6,7,9,20] (fun v k _ x wr=>∃ i:Nat,i≤2∧x=.int .i64 i∧v=.string (bs (stN X H i).2)∧k=.string (bs (stN X H i).1)∧Mem w wr [(g18,#[.string ⟨#[0]⟩,.string ⟨#[1]⟩],9)]) (fun _ _ _ x _=>2 - (intOf x).toNat)
  case atStart=>exact ⟨0,by omega,rfl,rfl,rfl,hM⟩
  case round =>
   clear hM
   obtain ⟨i,hi,rfl,rfl,rfl,hM⟩:=hrel
   obtain ⟨lk,lv⟩:=qso X H i
   by_cases hlt:i < 2
   ·have hlt':(i:Int) < 2:=by omega
    have hci:(#[.string ⟨#[0]⟩,.string ⟨#[1]⟩]:Array Value)[i]? = some (.string (bs [UInt8.ofNat i])):=by
     have:i=0∨i=1:=by omega
     rcases this with rfl | rfl <;> rfl
    have c0:=rc (hM.at_ at0) i hci
    have h1:(stN X H (i+1)).1=macS (stN X H i).1 [(stN X H i).2,[UInt8.ofNat i],X,H].flatten:=rfl
    have h2:(stN X H (i+1)).2=macS (stN X H (i+1)).1 [(stN X H i).2].flatten:=rfl
    have lk1:=(qso X H (i+1)).1
    obtain ⟨c,hc⟩:∃ c,[UInt8.ofNat i]=c:=⟨_,rfl⟩
    have lc:c.length=1:=by rw [← hc];rfl
    obtain ⟨k,hk⟩:∃ c,(stN X H i).1=c:=⟨_,rfl⟩
    obtain ⟨v,hv⟩:∃ c,(stN X H i).2=c:=⟨_,rfl⟩
    obtain ⟨k1,hk1⟩:∃ c,(stN X H (i+1)).1=c:=⟨_,rfl⟩
    obtain ⟨v1,hv1⟩:∃ c,(stN X H (i+1)).2=c:=⟨_,rfl⟩
    rw [hc] at c0
    rw [hk] at lk
    rw [hv] at lv
    rw [hk1] at lk1
    rw [hk1,hk,hv,hc] at h1
    rw [hv1,hk1,hv] at h2
    have c_4:=fun (g:Nat) (W:World) (L:List Blk) (hM:Mem w W ((g,#[.string (bs v),.string (bs c),.string (bs X),.string (bs H)],9) :: L))=>mac4 k v c X H lk lv lc lX lH g hM
    have c_1:=fun (g:Nat) (W:World) (L:List Blk) (hM:Mem w W ((g,#[.string (bs v)],9) :: L))=>mac1 k1 v lk1 lv g hM
    simp only [← h1] at c_4
    simp only [← h2] at c_1
    rw [hk,hv]
    have HE:=qh (And.intro hk1 hv1)
    clear h1 h2 hci hc hk hv hk1 hv1 lk lv lc lk1
    go_wp2_with (first
     | (refine qfw 29 rfl hM rfl (v:=fun g=>.slice (some ⟨g,0,none⟩) 4 4) (cs:=#[.string (bs v),.string (bs c),.string (bs X),.string (bs H)]) (t:=9) (fun w=>by go_simp) ?_;clear hM;intro w' g29 hM)
     | (refine qaj 30 rfl hM rfl rfl enMac (al:=[.string (bs k),.slice (some ⟨g29,0,none⟩) 4 4]) (c_4 g29 _ _ hM) rfl ?_;clear hM;intro w' hM)
     | (refine qfw 33 rfl hM rfl (v:=fun g=>.slice (some ⟨g,0,none⟩) 1 1) (cs:=#[.string (bs v)]) (t:=9) (fun w=>by go_simp) ?_;clear hM;intro w' g33 hM)
     | (refine qaj 34 rfl hM rfl rfl enMac (al:=[.string (bs k1),.slice (some ⟨g33,0,none⟩) 1 1]) (c_1 g33 _ _ hM) rfl ?_;clear hM;intro w' hM))
    go_roundw
    case rel=>exact ⟨i+1,by omega,by go_num,by rw [HE.out.2],by rw [HE.out.1],hM.tail.tail⟩
    case measure=>simp [intOf];omega
   ·obtain rfl:i=2:=by omega
    have hnb:nonceB X H=macS (stN X H 2).1 [(stN X H 2).2].flatten:=rfl
    obtain ⟨k,hk⟩:∃ c,(stN X H 2).1=c:=⟨_,rfl⟩
    obtain ⟨v,hv⟩:∃ c,(stN X H 2).2=c:=⟨_,rfl⟩
    rw [hk] at lk
    rw [hv] at lv
    rw [hk,hv] at hnb
    have c_1:=fun (g:Nat) (W:World) (L:List Blk) (hM:Mem w W ((g,#[.string (bs v)],9) :: L))=>mac1 k v lk lv g hM
    have lB:(nonceB X H).length=32:=qg8 _ _
    simp only [← hnb] at c_1
    have HN2:=HN.out
    obtain ⟨B,hB⟩:∃ B,nonceB X H=B:=⟨_,rfl⟩
    rw [hB] at HN2 lB
    simp only [hB] at c_1
    have c_f:=ufromN B (by omega)
    simp only [HN2] at c_f
    rw [hk,hv]
    have e2:((2:Nat):Int)=2:=rfl
    rw [e2]
    clear hnb hk hv HN HN2 hB lB lk lv e2
    go_wp2_with fail
    have HM:=qh hM
    clear hM
    go_loopw [6,7,10,11] (fun v' k' _ _ wr=>v'=.string (bs v)∧k'=.string (bs k)∧Mem w wr [(g18,#[.string ⟨#[0]⟩,.string ⟨#[1]⟩],9)]) (fun _ _ _ _ _=>0)
    case atStart=>exact ⟨rfl,rfl,HM.out⟩
    case round =>
     clear HM
     obtain ⟨rfl,rfl,hM⟩:=hrel
     go_upto_region 10 with (first
      | (refine qfw 38 rfl hM rfl (v:=fun g=>.slice (some ⟨g,0,none⟩) 1 1) (cs:=#[.string (bs v)]) (t:=9) (fun w=>by go_simp) ?_;clear hM;intro w' g38 hM)
      | (refine qaj 39 rfl hM rfl rfl enMac (al:=[.string (bs k),.slice (some ⟨g38,0,none⟩) 1 1]) (c_1 g38 _ _ hM) rfl ?_;clear hM;intro w' hM)
      | (refine qaj 42 rfl hM rfl rfl qtj (al:=[.string (bs B)]) (c_f _) rfl ?_;clear hM;intro w' hM)
      | (refine qai 10 rfl hM rfl (runN rfl) ?_;clear hM;intro w' g10 hM)
      | (refine qaf hM rfl rfl tyU rfl rfl (by exact hau) rfl rfl (oneN N) ?_;clear hM;intro w' hM))
     have hrow:=hM.at_ at0
     have hb2:=hM.below
     have c0:=rc hrow 0 rfl
     have c1:=rc hrow 1 rfl
     have c2:=rc hrow 2 rfl
     have c3:=rc hrow 3 rfl
     obtain ⟨fn,tmps,assign,body,hy,hR⟩:=HY.out w' hb2
     clear hrow hM HY hb2 c_1 c_f
     refine (wpIn_wide (n:=n+1)).1 ?_
     gi_wp2
     show Oper.uponIn _ _ _ _ _ _ _ (Sem.run Tryz.prog (Instr.yield l #[Value.agg (uC N)]) w')
     rw [hy,Oper.uponIn_round]
     refine ⟨fun _=>by omega,RoundIn.mono hR ?_⟩
     rintro e W' ⟨rfl,hJ⟩
     gi_wp2
     go_wp2_with fail
     refine bodyPost_ret (results_none rfl _ _ _) rfl ?_
     exact ⟨⟨_,rfl⟩,hJ⟩
/- The walks of sign.nonces, Sign (where the first nonce fits). -/
theorem Mem.join {w0 w w':World} {L L2:List Blk} (hM:Mem w0 w L) (h:Mem w w' L2):Mem w0 w' (L2 ++ L):=by
 have h1:=hM.call h.below
 refine ⟨h1.below,fun p hp=>?_,?_⟩
 ·rcases List.mem_append.1 hp with hp | hp
  ·exact ⟨(h.rows p hp).1,Nat.le_trans hM.below.size (h.rows p hp).2⟩
  ·exact h1.rows p hp
 ·rw [List.map_append,List.nodup_append]
  refine ⟨h.apart,hM.apart,fun a ha b hb e=>?_⟩
  obtain ⟨p,hp,rfl⟩:=List.mem_map.1 ha
  obtain ⟨q,hq,rfl⟩:=List.mem_map.1 hb
  have:=(h.rows p hp).2
  have:=hM.lt hq
  omega
theorem Mem.two {w0 w:World} {L:List Blk} {i j g1 g2:Nat} {c1 c2:Array Value} {t1 t2:TypeId} (hM:Mem w0 w L) (h1:L[i]? = some (g1,c1,t1)) (h2:L[j]? = some (g2,c2,t2)) (hne:i≠j):Mem w0 w [(g1,c1,t1),(g2,c2,t2)] :=
 ⟨hM.below,fun p hp=>by
  rcases List.mem_cons.1 hp with rfl | hp
  ·exact hM.rows _ (List.mem_of_getElem? h1)
  ·rw [List.mem_singleton] at hp
   subst hp
   exact hM.rows _ (List.mem_of_getElem? h2),by
  have:=hM.ne h1 h2 hne
  simp [this]⟩
theorem qt7 {P:Program} {ops:Array Oper} {Q:Exit→Act→World→Prop} {w0 w:World} {L:List Blk} {rest:List Oper} {op:Oper} {a:Act} {α:Type} {a':α→Act} (s:Nat) (hd:op.dst=some s) (hM:Mem w0 w L) (hgd:Region.wanted op (yielded ops a.tmps)=true) {f:Nat} {xs:Array Operand} {ts:Array TypeId} (ho:op.op=.call { callee:=.value (.func f),args:=xs,argTypes:=ts }) (hf:Ent P f) {al:List Value} {v:α→Value} {Lf:α→List Blk}
  (hc:Calls P f al.toArray w fun e w'=>∃ y,e=.returned (v y)∧Mem w w' (Lf y)) (hx:xs.toList.map a.eval=al)
  (h:∀ y w',Mem w0 w' (Lf y ++ L)→wpList P ops Q rest (a' y) w') (ha:∀ y,a.put op.dst (v y)=a' y:=by intro y;simp only [Act.put,List.setIfInBounds_toArray,List.set_cons_zero,List.set_cons_succ];rfl):wpList P ops Q (op :: rest) a w :=
 qa9 hgd fun K hK=>by
  unfold Oper.wp
  rw [qfu (cap:=[]) ho rfl hf hx,List.append_nil]
  exact Calls.mono hc fun e w' ⟨y,h1,hm⟩=>by subst h1;exact hK _ _ (ha y ▸ h y w' (hM.join hm))
theorem qeq {B:Nat} {w0 w:World} (h:Below B w0 w) {l:Nat} (hl:B≤l) (o:Obj):Below B w0 (w.putObj l o) :=
 ⟨h.os,h.tape,h.output,by rw [World.putObj_size];exact h.size,fun b hb=>(World.putObj_heap_other (by omega)).trans (h.block b hb)⟩
theorem Mem.putObj {w0 w:World} {L:List Blk} (h:Mem w0 w L) {l:Nat} (hl:w0.heap.size≤l) (hne:∀ cs t,w.heap[l]? ≠ some (.cells cs t (0,0))) (o:Obj):Mem w0 (w.putObj l o) L :=
 ⟨qeq h.below hl o,fun p hp=>⟨(World.putObj_heap_other (fun e=>hne _ _ (e ▸ (h.rows p hp).1))).trans (h.rows p hp).1,(h.rows p hp).2⟩,h.apart⟩
theorem qrg {P:Program} {ops:Array Oper} {Q:Exit→Act→World→Prop} {w0 w:World} {L L':List Blk} {rest:List Oper} {op:Oper} {a a':Act} {g k j:Nat} {cs:Array Value} {t:TypeId} {v:Value} (hM:Mem w0 w L) (hgd:Region.wanted op (yielded ops a.tmps)=true) {ty:TypeId} {x y:Operand} (ho:op.op=.store ty x y) (hx:a.eval x=.pointer (some ⟨g,j,none⟩)) (hy:a.eval y=v)
  (hku:L[k]? = some (g,cs,t)∧L.set k (g,cs.setIfInBounds j v,t)=L') (hst:(storeVar ty ⟨g,j,none⟩ v).run P w=.ok () (w.setCell ⟨g,j,none⟩ v))
  (h:∀ w',w'=w.setCell ⟨g,j,none⟩ v→Mem w0 w' L'→wpList P ops Q rest a' w') (ha:a.put op.dst undef=a':=by simp only [Act.put,List.setIfInBounds_toArray,List.set_cons_zero,List.set_cons_succ];rfl):wpList P ops Q (op :: rest) a w :=
 qa9 hgd fun K hK=>by
  unfold Oper.wp execOp
  simp only [ho,hx,hy,Instr.storeAt,Instr.sureAddr,Sem.run_bind,Sem.run_pure,Result.andThen_ok,hst]
  exact hK _ _ (ha ▸ h _ rfl (hM.setCell hku.1 j v hku.2))
theorem qnr {P:Program} {fn:Func} {p q:Tmp} {ty ty2 t t2:TypeId} {n g g2:Nat} {G:Array Value} {v:Value} (h:fn.results=#[.cell p ty,.cell q ty2]) (tmps:Array Value) (w:World) (T:AggT P ty n) (hna:∀ w,(isAgg ty2).run P w=.ok false w) (hp:tmps.getD p undef=.pointer (some ⟨g,0,none⟩)) (hq:tmps.getD q undef=.pointer (some ⟨g2,0,none⟩))
  (hg:w.heap[g]? = some (.cells G t (0,0))) (hn:G.size=n) (hg2:w.heap[g2]? = some (.cells #[v] t2 (0,0))):(results fn tmps).run P w=.ok (.tuple #[.agg G,v]) w:=by
 have hp':tmps[p]?.getD undef=.pointer (some ⟨g,0,none⟩):=by simpa using hp
 have hq':tmps[q]?.getD undef=.pointer (some ⟨g2,0,none⟩):=by simpa using hq
 have hc:=rc hg2 0 (u:=v) rfl
 have h1:(loadVar ty ⟨g,0,none⟩).run P w=.ok (.agg G) w :=
  match T.desc with
  | ⟨d,hd,hd2⟩=>run_loadVar_row w g t ty G (0,0) d hg hd (by cases d <;> first | rfl | cases hd2) (by rw [T.size,hn])
 have h2:(loadVar ty2 ⟨g2,0,none⟩).run P w=.ok v w:=by simp [loadVar,Sem.run_bind,hna,hc]
 simp only [results,h]
 simp [hp',hq',asAddr,h1,h2,Sem.run_bind]
/-- the law, its record a name -/
theorem qfq {F:Fence} {n:Nat} {P:Program} {g:Operand} {ps:Array Tmp} {assign body:Code} {Q:Exit→Act→World→Prop} {a:Act} {w:World}
  (hro:F.round=none) (h1:1≤n) {gf:Nat} {lb:Array Value} (hg:a.eval g=.func (.func gf) #[] lb) (hFg:F.fn gf) (eg:∀ args w,(callFunc gf args).run P w=.ok (.enter gf args) w)
  {x:Array Value} (hps:x.size=ps.size) (hseq:SeqOnce F (n - 1) P gf lb x w) (Ix:World→Prop) (hIx:∀ (W:World) (o:Obj),Ix W→Ix (W.putObj (w.heap.size+1) o))
  (hround:∀ (rec:LoopState→Option Code→Loop) (V:World),Below (w.heap.size+2) ((w.alloc (.deferred (some []))).alloc (.loop (rec .ready none))) V →
   assign.wpIn (F.inRound (w.heap.size+1)) (n - 1 - 1) P (Exit.then (fun a₁ w₁=>w₁.heap[w.heap.size+1]? = some (.loop (rec .ready none)) ∧
    body.wpIn (F.inRound (w.heap.size+1)) (n - 1 - 1) P (fun e _ w'=>e=.ret∧w'.heap[w.heap.size+1]? = some (.loop (rec .busy none))∧w'.heap[w.heap.size]? = some (.deferred (some []))∧Ix w')
     a₁ (w₁.putObj (w.heap.size+1) (.loop (rec .busy none)))) (fun _ _ _=>False)) { tmps:=(ps.zip x).foldl (fun t (p,v)=>t.setIfInBounds p v) a.tmps,defers:=[] } V)
  (hstop:∀ W:World,W.heap[w.heap.size]? = some (.deferred (some []))→Ix W→Code.ret.wpIn F n P Q { a with defers:={ target:=.collected w.heap.size,args:=#[] } :: a.defers } W) :
  (Code.rangeFunc g ps assign body).wpIn F n P Q a w :=
 qfj hro h1 hg hFg eg hps hseq Ix hIx (fun fn V h=>hround _ V h) hstop
theorem storeE {w0 w:World} {L:List Blk} {g k j:Nat} {cs:Array Value} {t:TypeId} {v:Value} (hM:Mem w0 w L) (hk:L[k]? = some (g,cs,t)) (hj:cs[j]? = some v) (n:Int):(storeVar 30 ⟨g,j,none⟩ (.int .i64 n)).run Tryz.prog w=.ok () (w.setCell ⟨g,j,none⟩ (.int .i64 n)):=by
 have hc:=rc (hM.at_ hk) j hj
 have hf:=rf (hM.at_ hk) j
 go_simp
theorem enNonces:Ent Tryz.prog 162:=⟨enters_of Tryz.func162 (by kernel_rfl) rfl⟩
theorem qp1 (x h:Nat) (w:World):Calls Tryz.prog 162 #[.agg (uC x),.agg (uC h)] w fun e w'=>∃ y:Nat×Nat,e=.returned (.func (.func 206) #[] #[.pointer (some ⟨y.1,0,none⟩),.pointer (some ⟨y.2,0,none⟩)])∧Mem w w' [(y.2,uC h,24),(y.1,uC x,24)]:=by
 have hM:=Mem.nil w
 go_enter Tryz.func162,Tryz.ntmps162
 go_wp2_with (first
  | (refine qa4 2 rfl hM rfl rfl rfl (boxN _ _) ?_;clear hM;intro w' g2 hM)
  | (refine qa4 3 rfl hM rfl rfl rfl (boxN _ _) ?_;clear hM;intro w' g3 hM))
 go_ret
 exact ⟨(g2,g3),rfl,hM⟩
theorem sign_any (x:Nat) (s:Bytes) (l_x:x < two256) (hs:s.length=32) (hb:insideN (U4.of x)=true) (K:Nat) (hK:nonceN x (natOf s % modN 1)=K) (hk:insideN (U4.of K)=true) (hok:okSg (withP x (natOf s % modN 1) K).sg=true) (w:World) :
  Calls Tryz.prog 104 #[.agg (uC x),.string (bs s)] w fun e w'=>e=.returned (.tuple #[.agg (sgA (withP x (natOf s % modN 1) K)),.int .i64 0])∧Below w.heap.size w w':=by
 have c_n:=snumber s (by omega)
 have l_h:natOf s % modN 1 < two256:=qfk 1 _
 obtain ⟨h,hh⟩:∃ h,natOf s % modN 1=h:=⟨_,rfl⟩
 rw [hh] at hK hok l_h ⊢
 simp only [hh] at c_n
 have l_K:K < two256:=by rw [← hK];exact qmk (by unfold nonceB;rw [qg8];omega)
 have c_w:=swith x h K l_x l_h l_K hk
 rw [hok] at c_w
 obtain ⟨G,hG⟩:∃ G,sgA (withP x h K)=G:=⟨_,rfl⟩
 have hGn:G.size=9:=by rw [← hG];rfl
 have hG1:G.all (·.oneCell')=true:=by rw [← hG];exact oneSg _ _ _
 rw [hG] at c_w ⊢
 have c_b:∀ w,Calls Tryz.prog 144 #[.agg (uC x)] w fun e w'=>e=.returned (.bool true)∧Below w.heap.size w w':=fun w=>by
  have h:=qdw (U4.of x) (U4.of_wf x) w
  rw [hb] at h
  exact h
 have c_o:=qp1 x h
 have hsI:(s.length:Int)=32:=by omega
 have hM:=Mem.nil w
 clear hh hG hb hk hok
 refine (callsIn_wide (n:=12)).1 ?_
 refine callsIn_of_wp_marks Tryz.func104 rfl trivial ?_ rfl
 simp only [Tryz.ntmps104,List.size_toArray,List.length_cons,List.length_nil,Nat.reduceAdd,Nat.reduceSub,Array.replicate_succ,Array.replicate_zero,List.push_toArray,List.append_toArray,List.nil_append,List.cons_append]
 refine wpIn_wide.2 ?_
 go_wp2_with (first
  | (refine qa4 2 rfl hM rfl rfl rfl (boxN _ _) ?_;clear hM;intro w' g2 hM)
  | (refine qai 4 rfl hM rfl (runSg rfl) ?_;clear hM;intro w' g4 hM)
  | (refine qfw 5 rfl hM rfl (v:=fun g=>.pointer (some ⟨g,0,none⟩)) (cs:=#[.int .i64 0]) (t:=30) (fun w=>by go_simp) ?_;clear hM;intro w' g5 hM)
  | (refine qag hM rfl rfl tyU rfl (by exact hat) rfl ?_)
  | (refine qaj 11 rfl hM rfl rfl qld (al:=[.agg (uC x)]) (c_b _) rfl ?_;clear hM;intro w' hM)
  | (refine qaj 20 rfl hM rfl rfl enNumber (al:=[.string (bs s)]) (c_n _) rfl ?_;clear hM;intro w' hM)
  | (refine qai 6 rfl hM rfl (runN rfl) ?_;clear hM;intro w' g6 hM)
  | (refine qaf hM rfl rfl tyU rfl rfl (by exact hau) rfl rfl (oneN _) ?_;clear hM;intro w' hM)
  | (refine qt7 23 rfl hM rfl rfl enNonces (al:=[.agg (uC x),.agg (uC h)]) (c_o _) rfl ?_;clear hM;intro y w' hM;obtain ⟨n2,n3⟩:=y))
 simp only [List.cons_append,List.nil_append] at hM
 generalize w'=wr at hM ⊢
 have hg4:=hM.at_ at4
 have hg5:=hM.at_ at3
 have lt4:=(qg hg4)
 have lt5:=(qg hg5)
 have ge4:=hM.ge at4
 have ge5:=hM.ge at3
 have hsz:=hM.below.size
 have h23:=hM.two at1 at0 (by decide)
 refine (wpIn_wide (n:=12)).1 ?_
 refine qfq rfl (by decide) (gf:=206) (lb:=#[.pointer (some ⟨n2,0,none⟩),.pointer (some ⟨n3,0,none⟩)]) rfl trivial (enters_of Tryz.func206 (by kernel_rfl) rfl) (x:=#[.agg (uC K)]) rfl ?hseq
  (fun W=>W.heap[g4]? = some (.cells G 26 (0,0))∧W.heap[g5]? = some (.cells #[.int .i64 0] 30 (0,0))∧Below w.heap.size w W) ?hIx ?hround ?hstop
 case hseq =>
  intro l Jx W hB hY
  refine callsIn_wide.2 ?_
  exact qna x h n2 n3 l Jx _ w W (h23.call hB) (by rw [hK];exact hY)
 case hIx =>
  rintro W ob ⟨h1,h2,h3⟩
  exact ⟨(World.putObj_heap_other (by omega)).trans h1,(World.putObj_heap_other (by omega)).trans h2,qeq h3 (by omega) _⟩
 case hstop =>
  rintro W hd ⟨h4,h5,hb⟩
  gi_wp2
  refine ⟨by simp,.inl ⟨_,_,rfl,run_takeDeferred hd,?_⟩⟩
  refine ⟨_,qnr rfl _ _ tySg Tryz.isAgg30 rfl rfl ((World.putObj_heap_other (by omega)).trans h4) hGn ((World.putObj_heap_other (by omega)).trans h5),rfl,qeq hb (by omega) _⟩
 case hround =>
  intro rec V hBV
  have hlt2:wr.heap.size+2=((wr.alloc (.deferred (some []))).alloc (.loop (rec .ready none))).heap.size:=by simp
  have hbV:Below wr.heap.size wr V:=(((Below.refl _ wr).alloc qn _).alloc (by simp) _).trans (hBV.mono (by omega))
  have hMV:=hM.call hbV
  have hlV:V.heap[wr.heap.size+1]? = some (.loop (rec .ready none)):=(hBV.block _ (by omega)).trans (by
   have:=World.alloc_heap_new (wr.alloc (.deferred (some []))) (.loop (rec .ready none));rwa [World.size_alloc] at this)
  have hdV:V.heap[wr.heap.size]? = some (.deferred (some [])):=(hBV.block _ (by omega)).trans ((Below.heap_alloc _ _ _ (by simp)).trans (World.alloc_heap_new wr _))
  have hszV:wr.heap.size+2≤V.heap.size:=by have:=hBV.size;omega
  have efold:∀ t:Array Value,((#[24]:Array Tmp).zip #[Value.agg (uC K)]).foldl (fun t x=>t.setIfInBounds x.1 x.2) t=t.setIfInBounds 24 (.agg (uC K)):=fun t=>by simp
  simp only [efold,List.setIfInBounds_toArray,List.set_cons_zero,List.set_cons_succ]
  refine qdh (fun ⟨_,_,h⟩=>h) rfl ?_
  refine qjh hMV rfl (runN rfl) ?_
  intro V1 g7 hb1 hg7 hM1
  refine qgo hM1 rfl rfl tyU rfl rfl au0 rfl rfl (oneN K) ?_
  intro V2 hV2 hM2
  have hl2:V2.heap[wr.heap.size+1]? = some (.loop (rec .ready none)):=by
   rw [hV2,setRow_other (by omega)];exact (hb1.block _ (by omega)).trans hlV
  have hd2:V2.heap[wr.heap.size]? = some (.deferred (some [])):=by
   rw [hV2,setRow_other (by omega)];exact (hb1.block _ (by omega)).trans hdV
  refine ⟨hl2,?_⟩
  have hlt3:=(qg hl2)
  have hM3:=hM2.putObj (l:=wr.heap.size+1) (by omega) (fun cs t e=>by rw [hl2] at e;cases e) (.loop (rec .busy none))
  have hl3:(V2.putObj (wr.heap.size+1) (.loop (rec .busy none))).heap[wr.heap.size+1]? = some (.loop (rec .busy none)):=World.putObj_heap_same hlt3
  have hd3:(V2.putObj (wr.heap.size+1) (.loop (rec .busy none))).heap[wr.heap.size]? = some (.deferred (some [])):=(World.putObj_heap_other (by omega)).trans hd2
  generalize V2.putObj (wr.heap.size+1) (.loop (rec .busy none))=V3 at hM3 hl3 hd3 ⊢
  have hs3:=(qg hl3)
  clear hV2 hM2 hM1 hMV hb1 hl2 hd2 hlt3
  refine wpIn_block ?_
  refine wpIn_seq ?_
  refine qdh (fun ⟨_,_,h⟩=>(by have h':=(show Exit.outgrown=Exit.ret∧_ from h).1;cases h')) rfl ?_
  refine qag hM3 rfl rfl tyU rfl (by exact hat) rfl ?_
  refine qag hM3 rfl rfl tyU rfl (by exact hat) rfl ?_
  refine qag hM3 rfl rfl tyU rfl (by exact hat) rfl ?_
  refine qus hM3 rfl rfl enWith (al:=[.agg (uC x),.agg (uC h),.agg (uC K)]) (c_w _) rfl ?_
  intro V4 hb4 hM4
  go_upto_region 999 with (first
   | (refine qjh hM4 rfl (runSg rfl) ?_;intro V5 g8 hb5 hg8 hM5)
   | (refine qgo hM5 rfl rfl tySg rfl rfl au0 hGn rfl hG1 ?_;intro V6 hV6 hM6))
  have hs4:=hb4.size
  have hs5:=hb5.size
  have hl6:V6.heap[wr.heap.size+1]? = some (.loop (rec .busy none)):=by
   rw [hV6,setRow_other (by omega)];exact (hb5.block _ (by omega)).trans ((hb4.block _ (by omega)).trans hl3)
  have hd6:V6.heap[wr.heap.size]? = some (.deferred (some [])):=by
   rw [hV6,setRow_other (by omega)];exact (hb5.block _ (by omega)).trans ((hb4.block _ (by omega)).trans hd3)
  clear hV6 hb4 hb5 hM3 hM4 hM5 hl3 hd3
  refine wpIn_seq ?_
  refine qdh (fun ⟨_,_,h⟩=>(by have h':=(show Exit.outgrown=Exit.ret∧_ from h).1;cases h')) rfl ?_
  go_upto_region 999 with fail
  refine wpIn_cond_true rfl ?_
  refine wpIn_seq ?_
  refine qdh (fun ⟨_,_,h⟩=>(by have h':=(show Exit.outgrown=Exit.ret∧_ from h).1;cases h')) rfl ?_
  refine qag hM6 rfl rfl tySg rfl at0 hGn ?_
  refine qgo hM6 rfl rfl tySg rfl rfl au6 hGn rfl hG1 ?_
  intro V7 hV7 hM7
  refine qrg hM7 rfl rfl rfl rfl au5 (storeE hM7 at5 rfl 0) ?_
  intro V8 hV8 hM8
  refine wpIn_ret ?_
  refine ⟨rfl,?_,?_,hM8.at_ at6,hM8.at_ at5,hM8.below⟩
  ·rw [hV8,heap_setCell_other _ _ _ _ (by show _≠g5;omega),hV7,setRow_other (by omega)];exact hl6
  ·rw [hV8,heap_setCell_other _ _ _ _ (by show _≠g5;omega),hV7,setRow_other (by omega)];exact hd6
/- The walk of tx.Sign (where the first nonce fits). -/
def trC (t:Tr):Array Value:=(trR t)
theorem infoTx:(Tryz.prog.info? 28).map (·.size)=some 12:=by kernel_rfl
theorem tyTx:AggT Tryz.prog 28 12:=⟨⟨_,Tryz.underlying28,rfl⟩,infoTx⟩
theorem runTx {o:Oper} (ho:o.op=.alloc 28) (ρ:Operand→Value) (w:World):(execOp ρ o).run Tryz.prog w=.ok (.value (.pointer (some ⟨w.heap.size,0,none⟩))) (w.alloc (.cells (trC zeroTr) 28)):=by
 unfold execOp
 simp only [ho]
 rw [show trC zeroTr=zqT from rfl]
 go_simp
theorem oneTx (t:Tr):(trC t).all (·.oneCell')=true:=by simp [trC,Value.oneCell']
theorem putTx (tb:Bytes) (am no:Nat) (z s:Sg):PutAt (trC ⟨tb,am,no,z⟩) 3 9 (sgR s) (trC ⟨tb,am,no,s⟩):=⟨rfl,rfl,by show 12≤12;decide⟩
theorem enDigest:Ent Tryz.prog 10:=⟨enters_of Tryz.func10 (by kernel_rfl) rfl⟩
theorem enSign:Ent Tryz.prog 104:=⟨enters_of Tryz.func104 (by kernel_rfl) rfl⟩
theorem qvi (x:Nat) (tb:Bytes) (am no:Nat) (l_x:x < two256) (h20:tb.length=20) (ham:am < 18446744073709551616) (hno:no < 18446744073709551616) (hb:insideN (U4.of x)=true) (K:Nat) (hK:nonceN x (natOf (digP ⟨tb,am,no,zeroSg⟩) % modN 1)=K) (hk:insideN (U4.of K)=true) (hok:okSg (withP x (natOf (digP ⟨tb,am,no,zeroSg⟩) % modN 1) K).sg=true) (w:World) :
  Calls Tryz.prog 50 #[.agg (uC x),.string (bs tb),.int .u64 (am:Int),.int .u64 (no:Int)] w fun e w'=>e=.returned (.tuple #[.agg (trC ⟨tb,am,no,(withP x (natOf (digP ⟨tb,am,no,zeroSg⟩) % modN 1) K).sg⟩),.int .i64 0])∧Below w.heap.size w w':=by
 have c_s:=sign_any x (digP ⟨tb,am,no,zeroSg⟩) l_x (sumK_len _) hb K hK hk hok
 have c_d:∀ w,Calls Tryz.prog 10 #[.agg (trC ⟨tb,am,no,zeroSg⟩)] w fun e w'=>e=.returned (.tuple #[.string (bs (digP ⟨tb,am,no,zeroSg⟩)),.int .i64 0])∧Below w.heap.size w w':=qhw ⟨tb,am,no,zeroSg⟩ ⟨ham,hno,quw⟩ h20
 obtain ⟨D,hD⟩:∃ D,digP ⟨tb,am,no,zeroSg⟩=D:=⟨_,rfl⟩
 simp only [hD] at c_s c_d ⊢
 obtain ⟨n,hn⟩:∃ n,withP x (natOf D % modN 1) K=n:=⟨_,rfl⟩
 simp only [hn] at c_s ⊢
 obtain ⟨sg,hsg⟩:∃ s,n.sg=s:=⟨_,rfl⟩
 have hsa:sgA n=(sgR sg):=by rw [← hsg];rfl
 rw [hsg]
 simp only [hsa] at c_s
 have hM:=Mem.nil w
 clear hD hn hsa hsg hok hK hk hb
 go_enter Tryz.func50,Tryz.ntmps50
 go_wp2_with (first
  | (refine qa4 4 rfl hM rfl rfl rfl (boxN _ _) ?_;clear hM;intro w' g4 hM)
  | (refine qai 8 rfl hM rfl (runTx rfl) ?_;clear hM;intro w' g8 hM)
  | (refine qai 10 rfl hM rfl (runTx rfl) ?_;clear hM;intro w' g10 hM)
  | (refine qaf hM rfl rfl tyTx rfl (new:=trC ⟨tb,am,no,zeroSg⟩) rfl (by exact hau) rfl rfl (oneTx _) ?_;clear hM;intro w' hM)
  | (refine qag hM rfl rfl tyTx rfl (by exact hat) rfl ?_)
  | (refine qag hM rfl rfl tyU rfl (by exact hat) rfl ?_)
  | (refine qaj 19 rfl hM rfl rfl enDigest (al:=[.agg (trC ⟨tb,am,no,zeroSg⟩)]) (c_d _) rfl ?_;clear hM;intro w' hM)
  | (refine qaj 29 rfl hM rfl rfl enSign (al:=[.agg (uC x),.string (bs D)]) (c_s _) rfl ?_;clear hM;intro w' hM)
  | (refine qdz hM rfl rfl tySg rfl rfl (new:=trC ⟨tb,am,no,sg⟩) (by exact hau) (putTx _ _ _ _ _) (one9 _ _ _ _ _ _ _ _ _) ?_;clear hM;intro w' hM)
  | (refine qaf hM rfl rfl tyTx rfl (new:=trC ⟨tb,am,no,sg⟩) rfl (by exact hau) rfl rfl (oneTx _) ?_;clear hM;intro w' hM))
 refine qch hM rfl tyTx rfl rfl (by exact hat) rfl rfl ?_
 exact ⟨rfl,hM.below⟩
/- What the kernel reckons of the one transfer that is signed. -/
set_option maxRecDepth 100000
theorem ktx_dig:digP ⟨[49,50,51,52,53,54,55,56,57,48,49,50,51,52,53,54,55,56,57,48],5,0,zeroSg⟩ = [73,71,26,97,27,134,195,246,101,209,119,114,165,1,101,231,218,108,147,206,137,81,236,66,83,149,225,233,129,20,202,79]:=by decide +kernel
theorem ktx_h:natOf [73,71,26,97,27,134,195,246,101,209,119,114,165,1,101,231,218,108,147,206,137,81,236,66,83,149,225,233,129,20,202,79] % modN 1=33144466151596426084227148762053385911097087967301257988965182477231088519759:=by decide +kernel
theorem ktx_X:uB (U4.of 1) = [0,0,0,0,0,0,0,0,0,0,0,0,0,0,0,0,0,0,0,0,0,0,0,0,0,0,0,0,0,0,0,1]:=by decide +kernel
theorem ktx_H:uB (U4.of 33144466151596426084227148762053385911097087967301257988965182477231088519759) = [73,71,26,97,27,134,195,246,101,209,119,114,165,1,101,231,218,108,147,206,137,81,236,66,83,149,225,233,129,20,202,79]:=by decide +kernel
theorem ktx_1:stN [0,0,0,0,0,0,0,0,0,0,0,0,0,0,0,0,0,0,0,0,0,0,0,0,0,0,0,0,0,0,0,1] [73,71,26,97,27,134,195,246,101,209,119,114,165,1,101,231,218,108,147,206,137,81,236,66,83,149,225,233,129,20,202,79] 1=([147,255,148,187,53,143,203,230,105,115,138,246,11,146,186,249,220,247,160,209,150,192,205,250,1,0,142,153,52,193,124,78],[214,141,131,37,210,196,166,227,247,124,100,185,120,230,138,34,173,192,79,223,243,22,50,191,171,61,104,181,243,94,219,164]):=by decide +kernel
theorem ktx_2:stN [0,0,0,0,0,0,0,0,0,0,0,0,0,0,0,0,0,0,0,0,0,0,0,0,0,0,0,0,0,0,0,1] [73,71,26,97,27,134,195,246,101,209,119,114,165,1,101,231,218,108,147,206,137,81,236,66,83,149,225,233,129,20,202,79] 2=([77,17,83,71,66,131,231,142,200,238,63,85,190,234,246,194,176,247,208,186,130,110,243,224,171,219,195,236,53,158,108,86],[46,129,106,114,121,127,148,9,238,21,13,109,184,220,2,164,114,50,194,78,39,184,79,94,161,40,228,233,222,43,226,230]):=by
 show (macS (stN [0,0,0,0,0,0,0,0,0,0,0,0,0,0,0,0,0,0,0,0,0,0,0,0,0,0,0,0,0,0,0,1] [73,71,26,97,27,134,195,246,101,209,119,114,165,1,101,231,218,108,147,206,137,81,236,66,83,149,225,233,129,20,202,79] 1).1 _,_)=_
 rw [ktx_1]
 decide +kernel
theorem ktx_3:nonceB [0,0,0,0,0,0,0,0,0,0,0,0,0,0,0,0,0,0,0,0,0,0,0,0,0,0,0,0,0,0,0,1] [73,71,26,97,27,134,195,246,101,209,119,114,165,1,101,231,218,108,147,206,137,81,236,66,83,149,225,233,129,20,202,79] = [156,199,239,151,101,160,57,150,164,9,176,182,194,91,173,59,140,177,155,202,132,199,240,101,149,202,121,253,94,145,57,63]:=by
 unfold nonceB
 rw [ktx_2]
 decide +kernel
theorem ktx_K:nonceN 1 33144466151596426084227148762053385911097087967301257988965182477231088519759=70914060543911738934190554706805624682587492327959458313463980560659749353791:=by
 unfold nonceN
 rw [ktx_X,ktx_H,ktx_3]
 decide +kernel
theorem ktx_in:insideN (U4.of 70914060543911738934190554706805624682587492327959458313463980560659749353791)=true:=by decide +kernel
theorem qt3:okSg (withP 1 33144466151596426084227148762053385911097087967301257988965182477231088519759 70914060543911738934190554706805624682587492327959458313463980560659749353791).sg=true:=by decide +kernel
theorem okSg_wf {n:Sn} (h:okSg n.sg=true):n.sg.Wf:=⟨U4.of_wf _,U4.of_wf _,by rcases qo3 h with e | e <;> omega,by rcases qo3 h with e | e <;> omega⟩
def sgtx:Sg:=(withP 1 33144466151596426084227148762053385911097087967301257988965182477231088519759 70914060543911738934190554706805624682587492327959458313463980560659749353791).sg
def trtx:Tr:=⟨[49,50,51,52,53,54,55,56,57,48,49,50,51,52,53,54,55,56,57,48],5,0,sgtx⟩
theorem oktx:okTr trtx=true:=by
 show (_ == 20 && okSg sgtx)=true
 unfold sgtx
 rw [qt3]
 rfl
theorem wftx:sgtx.Wf:=okSg_wf qt3
theorem signtx (w:World):Calls Tryz.prog 50 #[.agg (uC 1),.string (bs [49,50,51,52,53,54,55,56,57,48,49,50,51,52,53,54,55,56,57,48]),.int .u64 5,.int .u64 0] w fun e w'=>e=.returned (.tuple #[.agg (trC trtx),.int .i64 0])∧Below w.heap.size w w':=by
 have e:natOf (digP ⟨[49,50,51,52,53,54,55,56,57,48,49,50,51,52,53,54,55,56,57,48],5,0,zeroSg⟩) % modN 1=33144466151596426084227148762053385911097087967301257988965182477231088519759:=by rw [ktx_dig,ktx_h]
 have h:=qvi 1 [49,50,51,52,53,54,55,56,57,48,49,50,51,52,53,54,55,56,57,48] 5 0 (by decide) rfl (by decide) (by decide) (by decide +kernel) 70914060543911738934190554706805624682587492327959458313463980560659749353791 (by rw [e];exact ktx_K) ktx_in (by rw [e];exact qt3) w
 rw [e] at h
 exact h
/- Transfers compared with themselves (no block in sight). -/
def sgE (x:Sg):Array Value:=(sgR x)
theorem qc7 {P:Program} {w:World} {d:Nat} {xs ys:Array Value} {f:Field} {fs:List Field} (hne:f.name ≠ "_") {a b:Value} (ha:(part f.type xs f.offset).run P w=.ok a w) (hb:(part f.type ys f.offset).run P w=.ok b w)
  (hr:(Op.equalIn d f.type a b).run P w=.ok true w) (h:(Op.eqFields d xs ys fs).run P w=.ok true w):(Op.eqFields d xs ys (f :: fs)).run P w=.ok true w:=by
 rw [Op.eqFields,if_pos hne]
 simp [Sem.run_bind,ha,hb,hr,h]
theorem qiv {P:Program} {t:TypeId} {d:TypeDesc} {n o:Nat} {xs ys:Array Value} (hu:P.underlying t=some d) (hd:(match d with | .struct _ | .array _ _=>true | _=>false)=true) (hs:P.cellsOf t=n) (hx:xs.extract o (o+n)=ys) (w:World):(part t xs o).run P w=.ok (.agg ys) w:=by
 have hz:(sizeOf t).run P w=.ok n w:=by
  obtain ⟨i,hi⟩:=info_of_underlying hu
  rw [run_sizeOf w hi,hs]
 have ha:(isAgg t).run P w=.ok true w:=by
  unfold isAgg
  rw [Sem.run_bind,run_underlying hu w]
  cases d <;> simp_all
 simp only [part,Sem.run_bind,ha,Result.andThen_ok,Sem.run_pure,if_true,hz,hx]
theorem qvp:Tryz.prog.underlying 28 = some (.struct (Tryz.prog.fieldsOf 28)):=by kernel_rfl
theorem stoodTrE:Tryz.prog.stoodInHeld 28 = false:=by kernel_rfl
theorem guardTrE:Tryz.prog.eqGuardType Tryz.prog.depth 28 = false:=by kernel_rfl
theorem qsj (d:Nat) (k:Int) (w:World):(Op.equalIn (d+1) 3 (.int .i64 k) (.int .i64 k)).run Tryz.prog w=.ok true w:=by
 rw [run_equalIn_int w d _ .i64 .i64 _ _ Tryz.underlying3];simp
theorem qmm (d:Nat) (k:Int) (w:World):(Op.equalIn (d+1) 22 (.int .u64 k) (.int .u64 k)).run Tryz.prog w=.ok true w:=by
 rw [run_equalIn_int w d _ .u64 .u64 _ _ Tryz.underlying22];simp
theorem qtd (d:Nat) (s:ByteArray) (w:World):(Op.equalIn (d+1) 9 (.string s) (.string s)).run Tryz.prog w=.ok true w:=by
 rw [run_equalIn_string w d _ _ _ Tryz.underlying9];simp
theorem qmp (d:Nat) (x:U4) (w:World):(Op.equalIn (d+2) 24 (.agg #[.int .u64 (x.a:Int),.int .u64 (x.b:Int),.int .u64 (x.c:Int),.int .u64 (x.d:Int)]) (.agg #[.int .u64 (x.a:Int),.int .u64 (x.b:Int),.int .u64 (x.c:Int),.int .u64 (x.d:Int)])).run Tryz.prog w=.ok true w:=by
 have:=qeh d x x w
 rw [show eqU x x=true by unfold eqU;exact decide_eq_true rfl] at this
 exact this
theorem qqi (d:Nat) (x:Sg) (w:World):(Op.equalIn (d+3) 26 (.agg (sgE x)) (.agg (sgE x))).run Tryz.prog w=.ok true w:=by
 have p0:(part 24 (sgE x) 0).run Tryz.prog w=.ok (.agg #[.int .u64 (x.r.a:Int),.int .u64 (x.r.b:Int),.int .u64 (x.r.c:Int),.int .u64 (x.r.d:Int)]) w:=qiv (n:=4) (o:=0) (xs:=(sgE x)) Tryz.underlying24 rfl (by kernel_rfl) rfl w
 have p1:(part 24 (sgE x) 4).run Tryz.prog w=.ok (.agg #[.int .u64 (x.s.a:Int),.int .u64 (x.s.b:Int),.int .u64 (x.s.c:Int),.int .u64 (x.s.d:Int)]) w:=qiv (n:=4) (o:=4) (xs:=(sgE x)) Tryz.underlying24 rfl (by kernel_rfl) rfl w
 have p2:(part 3 (sgE x) 8).run Tryz.prog w=.ok (.int .i64 x.v) w:=by simp [part,isAgg,run_underlying Tryz.underlying3,sgE,Sem.run_bind]
 have hm:(Op.eqFields (d+2) (sgE x) (sgE x) (Tryz.prog.fieldsOf 26).toList).run Tryz.prog w=.ok true w:=by
  simp only [Program.fieldsOf,Tryz.underlying26]
  refine qc7 (by decide) p0 p0 (qmp d _ w) ?_
  refine qc7 (by decide) p1 p1 (qmp d _ w) ?_
  refine qc7 (by decide) p2 p2 (qsj (d+1) _ w) ?_
  rfl
 rw [run_equalIn_agg w (d+2) _ _ _ qou qr7,hm]
theorem qp0 (d:Nat) (t:Tr) (w:World):(Op.equalIn (d+4) 28 (.agg (trC t)) (.agg (trC t))).run Tryz.prog w=.ok true w:=by
 have p0:(part 9 (trC t) 0).run Tryz.prog w=.ok (.string (bs t.to)) w:=by simp [part,isAgg,run_underlying Tryz.underlying9,trC,Sem.run_bind]
 have p1:(part 22 (trC t) 1).run Tryz.prog w=.ok (.int .u64 (t.am:Int)) w:=by simp [part,isAgg,run_underlying Tryz.underlying22,trC,Sem.run_bind]
 have p2:(part 22 (trC t) 2).run Tryz.prog w=.ok (.int .u64 (t.no:Int)) w:=by simp [part,isAgg,run_underlying Tryz.underlying22,trC,Sem.run_bind]
 have p3:(part 26 (trC t) 3).run Tryz.prog w=.ok (.agg (sgE t.sg)) w:=qiv (n:=9) (o:=3) (xs:=(trC t)) Tryz.underlying26 rfl (by kernel_rfl) rfl w
 have hm:(Op.eqFields (d+3) (trC t) (trC t) (Tryz.prog.fieldsOf 28).toList).run Tryz.prog w=.ok true w:=by
  simp only [Program.fieldsOf,Tryz.underlying28]
  refine qc7 (by decide) p0 p0 (qtd (d+2) _ w) ?_
  refine qc7 (by decide) p1 p1 (qmm (d+2) _ w) ?_
  refine qc7 (by decide) p2 p2 (qmm (d+2) _ w) ?_
  refine qc7 (by decide) p3 p3 (qqi d _ w) ?_
  rfl
 rw [run_equalIn_agg w (d+3) _ _ _ qvp stoodTrE,hm]
theorem neqTrE (x:Tr) (w:World):(binOp .neq 28 (.agg (trC x)) (.agg (trC x))).run Tryz.prog w=.ok (.bool false) w:=by
 rw [run_neq_struct,qp0 9996 x w];rfl
end Go.Proofs.YteoednifdpdbnaaGreat
