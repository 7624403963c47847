/- The walks of sign: number, with. -/
import Derived.Test.YteoednifdpdbnaaGreatZ42
import Derived.Test.YteoednifdpdbnaaGreatZ26
namespace Go.Proofs.YteoednifdpdbnaaGreat
set_option linter.unusedVariables false
set_option linter.unusedSimpArgs false
open Go.RowKit
set_option maxHeartbeats 4000000
set_option maxRecDepth 100000
open Go.RowKit Go.Shelf
def sgN (r s:Nat) (v:Int):Array Value:=#[.int .u64 ((U4.of r).a:Int),.int .u64 ((U4.of r).b:Int),.int .u64 ((U4.of r).c:Int),.int .u64 ((U4.of r).d:Int),.int .u64 ((U4.of s).a:Int),.int .u64 ((U4.of s).b:Int),.int .u64 ((U4.of s).c:Int),.int .u64 ((U4.of s).d:Int),.int .i64 v]
theorem tySg:AggT Tryz.prog 26 9:=⟨⟨_,Tryz.underlying26,rfl⟩,qfj⟩
theorem runSg {o:Oper} (ho:o.op=.alloc 26) (ρ:Operand→Value) (w:World):(execOp ρ o).run Tryz.prog w=.ok (.value (.pointer (some ⟨w.heap.size,0,none⟩))) (w.alloc (.cells (sgN 0 0 0) 26)):=by
 unfold execOp
 simp only [ho]
 rw [show sgN 0 0 0=zqS from rfl]
 go_simp
theorem oneSg (r s:Nat) (v:Int):(sgN r s v).all (·.oneCell')=true:=one9 _ _ _ _ _ _ _ _ _
theorem pa_sr {r s:Nat} {v:Int}:PartAt (sgN r s v) 0 4 (uC r):=⟨rfl,rfl⟩
theorem pa_ss {r s:Nat} {v:Int}:PartAt (sgN r s v) 4 4 (uC s):=⟨rfl,rfl⟩
theorem cb_s {r s:Nat} {v:Int}:(sgN r s v)[8]? = some (.int .i64 v):=rfl
theorem qpv {r s n:Nat} {v:Int}:PutAt (sgN r s v) 4 4 (uC n) (sgN r n v):=⟨rfl,rfl,by show 8≤9;decide⟩
theorem buildSg (r:Nat) (v:Int) (w:World):(Instr.build 26 #[(0,.agg (uC r)),(2,.int .i64 v)]).run Tryz.prog w=.ok (.agg (sgN r 0 v)) w:=by
 unfold uC u4C sgN
 go_simp
 exact ⟨rfl,rfl,rfl,rfl⟩
theorem qr8:Ent Tryz.prog 98:=⟨enters_of Tryz.func98 (by kernel_rfl) rfl⟩
theorem ufromN (s:Bytes) (hs:s.length≤32) (w:World):Calls Tryz.prog 98 #[.string (bs s)] w fun e w'=>e=.returned (.tuple #[.agg (uC (natOf s)),.int .i64 0])∧Below w.heap.size w w':=qib s hs (uOf s) rfl w
theorem qkj {s:Bytes} (h:s.length≤32):natOf s < two256:=Nat.lt_of_lt_of_le (qf7 s) (by rw [← p256];exact Nat.pow_le_pow_right (by decide) h)
theorem snumber (s:Bytes) (hs:s.length≤32) (w:World):Calls Tryz.prog 161 #[.string (bs s)] w fun e w'=>e=.returned (.agg (uC (natOf s % modN 1)))∧Below w.heap.size w w':=by
 have hM:=Mem.nil w
 have hf:=ufromN s hs
 have hn:=qkj hs
 have hr:=fReduceK 1 (by decide) (natOf s) 0 hn qbt
 rw [Nat.mul_zero,Nat.add_zero] at hr
 obtain ⟨V,hV⟩:∃ V,natOf s % modN 1=V:=⟨_,rfl⟩
 rw [hV] at hr ⊢
 obtain ⟨n,hN⟩:∃ n,natOf s=n:=⟨_,rfl⟩
 rw [hN] at hr
 simp only [hN] at hf
 clear hV hN hn
 go_enter Tryz.func161,Tryz.ntmps161
 go_wp2_with (first
  | (refine qas hM rfl (runN rfl) ?_;clear hM;intro w' ga hM)
  | (refine qay hM rfl rfl rfl (boxN _ _) ?_;clear hM;intro w' ga hM)
  | (refine qai hM rfl rfl tyU rfl (by exact hat) rfl ?_)
  | (refine qae hM rfl rfl tyU rfl rfl (by exact hau) rfl rfl (oneN _) ?_;clear hM;intro w' hM)
  | (refine qae hM rfl rfl tyU rfl rfl (by exact hau) rfl rfl (oneN _) ?_;clear hM;intro w' hM)
  | (refine qad hM rfl rfl qr8 (al:=[.string (bs s)]) (hf _) rfl ?_;clear hM;intro w' hM)
  | (refine qad hM rfl rfl qq3 (al:=[.agg (uC n),.agg (uC 0),.int .i64 1]) (hr _) rfl ?_;clear hM;intro w' hM))
 refine res_c hM rfl tyU rfl (by exact hat) rfl rfl ?_
 exact ⟨rfl,hM.below⟩
/-- what a nonce makes of a digest's number -/
structure Sn where
 r:Nat
 s:Nat
 v:Int
def qP (k:Nat):Pt:=bothP baseP k zeroP 0
def withS (x h k:Nat):Nat:=mulM (modN 1) (addM (modN 1) h (mulM (modN 1) (qP k).x x)) (invM 1 k)
def withP (x h k:Nat):Sn:=if highN (U4.of (withS x h k))=true then ⟨(qP k).x,subM (modN 1) 0 (withS x h k),1 - (((qP k).y % 2:Nat):Int)⟩ else ⟨(qP k).x,withS x h k,(((qP k).y % 2:Nat):Int)⟩
def Sn.sg (n:Sn):Sg:=⟨U4.of n.r,U4.of n.s,n.v⟩
def sgA (n:Sn):Array Value:=sgN n.r n.s n.v
theorem onP_base:onP baseP=true:=by decide +kernel
theorem baseP_wf:baseP.Wf:=⟨by decide +kernel,by decide +kernel⟩
theorem storeI64 {w0 w:World} {L:List Blk} {g k j:Nat} {cs:Array Value} {t:TypeId} {v:Value} (hM:Mem w0 w L) (hk:L[k]? = some (g,cs,t)) (hj:cs[j]? = some v) (n:Int):(storeVar 3 ⟨g,j,none⟩ (.int .i64 n)).run Tryz.prog w=.ok () (w.setCell ⟨g,j,none⟩ (.int .i64 n)):=by
 have hc:=rc (hM.at_ hk) j hj
 have hf:=rf (hM.at_ hk) j
 go_simp
theorem low_bit (y:Nat):bits .and .u64 ((U4.of y).a:Int) 1=((y % 2:Nat):Int):=by
 have hl:(U4.of y).a < 18446744073709551616:=(U4.of_wf y).a
 rw [show (1:Int)=((1:Nat):Int) from rfl,bits_and_u64_nat _ _ hl (by decide)]
 congr 1
 have h2:=Nat.and_two_pow_sub_one_eq_mod (U4.of y).a 1
 rw [show (1:Nat)=2 ^ 1 - 1 from rfl,h2]
 show (y % 18446744073709551616) % 2=y % 2
 omega
theorem swith (x h k:Nat) (l_x:x < two256) (l_h:h < two256) (l_k:k < two256) (hk:insideN (U4.of k)=true) (w:World):Calls Tryz.prog 163 #[.agg (uC x),.agg (uC h),.agg (uC k)] w fun e w'=>e=.returned (.tuple #[.agg (sgA (withP x h k)),.bool (okSg (withP x h k).sg)])∧Below w.heap.size w w':=by
 have c_bt:∀ w,Calls Tryz.prog 144 #[.agg (uC k)] w fun e w'=>e=.returned (.bool true)∧Below w.heap.size w w':=fun w=>by
  have h:=qdx (U4.of k) (U4.of_wf k) w
  rw [hk] at h
  exact h
 have c_t:∀ w,Calls Tryz.prog 209 #[.agg (ptC baseP.x baseP.y baseP.o),.agg (uC k)] w fun e w'=>e=.returned (.tuple #[.agg (ptC (qP k).x (qP k).y (qP k).o),.int .i64 0])∧Below w.heap.size w w':=fun w=>by
  have h:=ptimes baseP k baseP_wf l_k w
  rw [onP_base] at h
  exact h
 have c_b:=pbase
 have hqw:(qP k).Wf:=bothP_wf _ _ _ _
 have c_i:∀ w,Calls Tryz.prog 182 #[.agg (uC k),.int .i64 1] w fun e w'=>∃ z:Int,e=.returned (.tuple #[.agg (uC (invM 1 k)),.int .i64 z])∧Below w.heap.size w w':=fun w=>Calls.mono (invK 1 (by decide) k l_k w) fun e w' h=>⟨_,h⟩
 have l_i:=qtl 1 k
 unfold withP withS
 obtain ⟨q,hq⟩:∃ q,qP k=q:=⟨_,rfl⟩
 rw [hq] at hqw ⊢
 simp only [hq] at c_t
 obtain ⟨B,hB⟩:∃ B,baseP=B:=⟨_,rfl⟩
 simp only [hB] at c_t c_b
 obtain ⟨i,hi⟩:∃ i,invM 1 k=i:=⟨_,rfl⟩
 rw [hi] at l_i ⊢
 simp only [hi] at c_i
 obtain ⟨ze,c_i⟩:∃ z:Int,∀ w,Calls Tryz.prog 182 #[.agg (uC k),.int .i64 1] w fun e w'=>e=.returned (.tuple #[.agg (uC i),.int .i64 z])∧Below w.heap.size w w':=by
  have h:=invK 1 (by decide) k l_k
  rw [hi] at h
  exact ⟨_,h⟩
 have c_m:=smul q.x x hqw.x l_x
 have l_m:=qh2 1 q.x x
 obtain ⟨m,hm⟩:∃ m,mulM (modN 1) q.x x=m:=⟨_,rfl⟩
 rw [hm] at l_m ⊢
 simp only [hm] at c_m
 have c_a:=fAddK 1 (by decide) h m l_h l_m
 have l_a:=qrj 1 h m
 obtain ⟨a,ha⟩:∃ a,addM (modN 1) h m=a:=⟨_,rfl⟩
 rw [ha] at l_a ⊢
 simp only [ha] at c_a
 have c_s:=smul a i l_a l_i
 have l_s:=qh2 1 a i
 obtain ⟨s,hs⟩:∃ s,mulM (modN 1) a i=s:=⟨_,rfl⟩
 rw [hs] at l_s ⊢
 simp only [hs] at c_s
 have c_h:∀ w,Calls Tryz.prog 145 #[.agg (uC s)] w fun e w'=>e=.returned (.bool (highN (U4.of s)))∧Below w.heap.size w w':=qnb (U4.of s) (U4.of_wf s)
 obtain ⟨hi',hhi⟩:∃ b,highN (U4.of s)=b:=⟨_,rfl⟩
 rw [hhi]
 simp only [hhi] at c_h
 have c_n:=sturned s l_s
 have l_n:=qrt 1 0 s
 obtain ⟨n,hn⟩:∃ n,subM (modN 1) 0 s=n:=⟨_,rfl⟩
 rw [hn] at l_n ⊢
 simp only [hn] at c_n
 have hlow:=low_bit q.y
 have hb1:q.y % 2 < 2:=Nat.mod_lt _ (by decide)
 obtain ⟨b,hb⟩:∃ b,q.y % 2=b:=⟨_,rfl⟩
 rw [hb] at hlow hb1 ⊢
 have hwb:IntKind.i64.wrap (b:Int)=(b:Int):=IntWalk.i64_in _ (by omega)
 have hwb1:IntKind.i64.wrap (1 - (b:Int))=1 - (b:Int):=IntWalk.i64_in _ (by omega)
 clear hq hB hi hm ha hs hhi hn hb hk
 have hM:=Mem.nil w
 go_enter Tryz.func163,Tryz.ntmps163
 go_wp2_with (first
  | (refine qam 3 rfl hM rfl rfl rfl (boxN _ _) ?_;clear hM;intro w' g3 hM)
  | (refine qam 4 rfl hM rfl rfl rfl (boxN _ _) ?_;clear hM;intro w' g4 hM)
  | (refine qam 5 rfl hM rfl rfl rfl (boxN _ _) ?_;clear hM;intro w' g5 hM)
  | (refine qaj 6 rfl hM rfl (runSg rfl) ?_;clear hM;intro w' g6 hM)
  | (refine qai hM rfl rfl tyU rfl (by exact hat) rfl ?_)
  | (refine qak 16 rfl hM rfl rfl qlk (al:=[.agg (uC k)]) (c_bt _) rfl ?_;clear hM;intro w' hM))
 refine qcz 5 7 hM qbc [.agg (ptC B.x B.y B.o),.agg (uC k),.tuple #[.agg (ptC q.x q.y q.o),.int .i64 0],.tuple #[.agg (ptC q.x q.y q.o),.int .i64 0],.agg (ptC q.x q.y q.o),.int .i64 0,undef] [⟨6,8,ptC 0 0 false,255⟩] (b:=?b1) ?hb rfl (by kernel_rfl) (fun _=>⟨by kernel_rfl,by decide,?hl,fun _ _ _ _ _ h=>h⟩) ?hgo ?hfin
 case hb=>simp only [putAll,Act.put,List.setIfInBounds_toArray,List.set_cons_zero,List.set_cons_succ];rfl
 case hl=>exact qk8 rfl rfl rfl (fun w=>by go_simp)
 case hgo =>
  refine GoAll.v (.agg (ptC B.x B.y B.o)) (qao (al:=[]) c_b enBase) ?_
  refine GoAll.v (.agg (uC k)) (qap tyU at1) ?_
  refine GoAll.v (.tuple #[.agg (ptC q.x q.y q.o),.int .i64 0]) (qao (al:=[.agg (ptC B.x B.y B.o),.agg (uC k)]) c_t enTimes) ?_
  refine GoAll.v (.tuple #[.agg (ptC q.x q.y q.o),.int .i64 0]) (qaq fun w=>by go_simp) ?_
  refine GoAll.v (.agg (ptC q.x q.y q.o)) (qaq fun w=>by go_simp) ?_
  refine GoAll.v (.int .i64 0) (qaq fun w=>by go_simp) ?_
  refine GoAll.l (k:=0) rfl ⟨rfl,fun ρ w=>runP rfl ρ w⟩ ?_
  exact GoAll.nil
 case hfin =>
  clear hM;intro w' G hM
  simp only [putLays,List.drop_succ_cons,List.drop_zero,List.map_nil,List.map_cons,List.nil_append,List.cons_append,Act.put,List.setIfInBounds_toArray,List.set_cons_zero,List.set_cons_succ] at hM ⊢
  generalize G 6=g8 at hM ⊢
  go_wp2_with (first
   | (refine qae hM rfl rfl tyP rfl rfl (by exact hau) rfl rfl (oneP _ _ _) ?_;clear hM;intro w' hM)
   | (refine qav hM rfl rfl tyU rfl (by exact hat) pa_px ?_)
   | (refine qaf hM rfl rfl Tryz.isAgg22 rfl (by exact hat) (v:=.int .u64 ((U4.of q.y).a:Int)) rfl ?_)
   | (refine qar rfl rfl (buildSg q.x (b:Int)) rfl rfl ?_)
   | (refine qaj 10 rfl hM rfl (runSg rfl) ?_;clear hM;intro w' g10 hM)
   | (refine qae hM rfl rfl tySg rfl rfl (by exact hau) rfl rfl (oneSg q.x 0 (b:Int)) ?_;clear hM;intro w' hM))
  refine qcz 8 10 hM qbc [.agg (uC h),.pointer (some ⟨g10,0,none⟩),.agg (uC q.x),.agg (uC x),.agg (uC m),.tuple #[.agg (uC a),.int .i64 0],.tuple #[.agg (uC a),.int .i64 0],.agg (uC a),.int .i64 0,undef] [⟨9,11,uC 0,24⟩] (b:=?b2) ?hb rfl (by kernel_rfl) (fun _=>⟨by kernel_rfl,by decide,?hl,fun _ _ _ _ _ h=>h⟩) ?hgo ?hfin
  case hb=>simp only [putAll,Act.put,List.setIfInBounds_toArray,List.set_cons_zero,List.set_cons_succ];rfl
  case hl=>exact qk8 rfl rfl rfl (fun w=>by go_simp)
  case hgo =>
   refine GoAll.v (.agg (uC h)) (qap tyU at4) ?_
   refine GoAll.v (.pointer (some ⟨g10,0,none⟩)) (qaq fun w=>by go_simp) ?_
   refine GoAll.v (.agg (uC q.x)) (qba tyU at0 pa_sr) ?_
   refine GoAll.v (.agg (uC x)) (qap tyU at5) ?_
   refine GoAll.v (.agg (uC m)) (qao (al:=[.agg (uC (q.x)),.agg (uC x)]) c_m qp4) ?_
   refine GoAll.v (.tuple #[.agg (uC a),.int .i64 0]) (qao (al:=[.agg (uC h),.agg (uC m),.int .i64 1]) c_a enFAdd) ?_
   refine GoAll.v (.tuple #[.agg (uC a),.int .i64 0]) (qaq fun w=>by go_simp) ?_
   refine GoAll.v (.agg (uC a)) (qaq fun w=>by go_simp) ?_
   refine GoAll.v (.int .i64 0) (qaq fun w=>by go_simp) ?_
   refine GoAll.l (k:=0) rfl ⟨rfl,fun ρ w=>runN rfl ρ w⟩ ?_
   exact GoAll.nil
  case hfin =>
   clear hM;intro w' G hM
   simp only [putLays,List.drop_succ_cons,List.drop_zero,List.map_nil,List.map_cons,List.nil_append,List.cons_append,Act.put,List.setIfInBounds_toArray,List.set_cons_zero,List.set_cons_succ] at hM ⊢
   generalize G 9=g11 at hM ⊢
   cases hi' with
   | true =>
    go_wp2_with (first
     | (refine qae hM rfl rfl tyU rfl rfl (by exact hau) rfl rfl (oneN _) ?_;clear hM;intro w' hM)
     | (refine qai hM rfl rfl tyU rfl (by exact hat) rfl ?_)
     | (refine qak 44 rfl hM rfl rfl enInv (al:=[.agg (uC k),.int .i64 1]) (c_i _) rfl ?_;clear hM;intro w' hM)
     | (refine qaj 13 rfl hM rfl (runN rfl) ?_;clear hM;intro w' g13 hM)
     | (refine qak 49 rfl hM rfl rfl qp4 (al:=[.agg (uC a),.agg (uC i)]) (c_s _) rfl ?_;clear hM;intro w' hM)
     | (refine qdu hM rfl rfl tyU rfl rfl (new:=sgN q.x s (b:Int)) (by exact hau) qpv (oneN _) ?_;clear hM;intro w' hM)
     | (refine qav hM rfl rfl tyU rfl (by exact hat) pa_ss ?_)
     | (refine qak 53 rfl hM rfl rfl enHigh (al:=[.agg (uC s)]) (c_h _) rfl ?_;clear hM;intro w' hM))
    refine qcz 5 7 hM qbc [.pointer (some ⟨g10,4,none⟩),.agg (uC s),.agg (uC n),.pointer (some ⟨g10,8,none⟩),.int .i64 (b:Int),.int .i64 (1 - (b:Int)),.pointer (some ⟨g10,4,none⟩)] [] (b:=?b3) ?hb rfl (by kernel_rfl) (fun _=>⟨by kernel_rfl,by decide,?hl,fun _ _ _ _ _ h=>h⟩) ?hgo ?hfin
    case hb=>simp only [putAll,Act.put,List.setIfInBounds_toArray,List.set_cons_zero,List.set_cons_succ];rfl
    case hl=>exact qk8 rfl rfl rfl (fun w=>by go_simp)
    case hgo =>
     refine GoAll.v (.pointer (some ⟨g10,4,none⟩)) (qaq fun w=>by go_simp) ?_
     refine GoAll.v (.agg (uC s)) (qba tyU at2 pa_ss) ?_
     refine GoAll.v (.agg (uC n)) (qao (al:=[.agg (uC s)]) c_n enTurned) ?_
     refine GoAll.v (.pointer (some ⟨g10,8,none⟩)) (qaq fun w=>by go_simp) ?_
     refine GoAll.v (.int .i64 (b:Int)) (qg1 Tryz.isAgg3 at2 cb_s) ?_
     refine GoAll.v (.int .i64 (1 - (b:Int))) (qaq fun w=>by go_simp) ?_
     refine GoAll.v (.pointer (some ⟨g10,4,none⟩)) (qaq fun w=>by go_simp) ?_
     exact GoAll.nil
    case hfin =>
     clear hM;intro w' G hM
     simp only [putLays,List.drop_succ_cons,List.drop_zero,List.map_nil,List.map_cons,List.nil_append,List.cons_append] at hM ⊢
     go_wp2_with (first
      | (refine qdu hM rfl rfl tyU rfl rfl (new:=sgN q.x n (b:Int)) (by exact hau) qpv (oneN _) ?_;clear hM;intro w' hM)
      | (refine qfk (v:=.int .i64 (1 - (b:Int))) hM rfl rfl rfl rfl (by exact hau) (storeI64 hM at2 rfl _) ?_;clear hM;intro w' hM))
     change Mem _ _ [(g13,uC i,_),(g11,uC a,_),(g10,sgN q.x n (1 - (b:Int)),_),(g8,ptC q.x q.y q.o,_),(g6,sgN 0 0 0,_),(g5,uC k,_),(g4,uC h,_),(g3,uC x,_)] at hM
     have c_r:=qfn ⟨U4.of q.x,U4.of n,(1 - (b:Int))⟩ ⟨U4.of_wf _,U4.of_wf _,by simp only [];omega,by simp only [];omega⟩
     refine qau 3 hM qbc [.agg (sgN (q.x) n (1 - (b:Int))),.agg (sgN (q.x) n (1 - (b:Int))),.bool (okSg ⟨U4.of q.x,U4.of n,(1 - (b:Int))⟩)] [] (b:=?b4) ?hb rfl (by kernel_rfl) ?hgo ?hfin
     case hb=>simp only [putAll,Act.put,List.setIfInBounds_toArray,List.set_cons_zero,List.set_cons_succ];rfl
     case hgo =>
      refine GoAll.v (.agg (sgN (q.x) n (1 - (b:Int)))) (qap tySg at2) ?_
      refine GoAll.v (.agg (sgN (q.x) n (1 - (b:Int)))) (qap tySg at2) ?_
      refine GoAll.v (.bool (okSg ⟨U4.of q.x,U4.of n,(1 - (b:Int))⟩)) (qao (al:=[.agg (sgN (q.x) n (1 - (b:Int)))]) c_r qte) ?_
      exact GoAll.nil
     case hfin =>
      clear hM;intro w' G hM
      simp only [putLays,List.drop_succ_cons,List.drop_zero,List.map_nil,List.map_cons,List.nil_append,List.cons_append] at hM ⊢
      go_wp2_with (first
       | (refine qae hM rfl rfl tySg rfl rfl (by exact hau) rfl rfl (oneSg q.x n (1 - (b:Int))) ?_;clear hM;intro w' hM))
      refine qb9 hM rfl tySg rfl rfl (by exact hat) rfl rfl ?_
      exact ⟨rfl,hM.below⟩
   | false =>
    go_wp2_with (first
     | (refine qae hM rfl rfl tyU rfl rfl (by exact hau) rfl rfl (oneN _) ?_;clear hM;intro w' hM)
     | (refine qai hM rfl rfl tyU rfl (by exact hat) rfl ?_)
     | (refine qak 44 rfl hM rfl rfl enInv (al:=[.agg (uC k),.int .i64 1]) (c_i _) rfl ?_;clear hM;intro w' hM)
     | (refine qaj 13 rfl hM rfl (runN rfl) ?_;clear hM;intro w' g13 hM)
     | (refine qak 49 rfl hM rfl rfl qp4 (al:=[.agg (uC a),.agg (uC i)]) (c_s _) rfl ?_;clear hM;intro w' hM)
     | (refine qdu hM rfl rfl tyU rfl rfl (new:=sgN q.x s (b:Int)) (by exact hau) qpv (oneN _) ?_;clear hM;intro w' hM)
     | (refine qav hM rfl rfl tyU rfl (by exact hat) pa_ss ?_)
     | (refine qak 53 rfl hM rfl rfl enHigh (al:=[.agg (uC s)]) (c_h _) rfl ?_;clear hM;intro w' hM))
    have c_r:=qfn ⟨U4.of q.x,U4.of s,(b:Int)⟩ ⟨U4.of_wf _,U4.of_wf _,by simp only [];omega,by simp only [];omega⟩
    refine qau 3 hM qbc [.agg (sgN (q.x) s (b:Int)),.agg (sgN (q.x) s (b:Int)),.bool (okSg ⟨U4.of q.x,U4.of s,(b:Int)⟩)] [] (b:=?b5) ?hb rfl (by kernel_rfl) ?hgo ?hfin
    case hb=>simp only [putAll,Act.put,List.setIfInBounds_toArray,List.set_cons_zero,List.set_cons_succ];rfl
    case hgo =>
     refine GoAll.v (.agg (sgN (q.x) s (b:Int))) (qap tySg at2) ?_
     refine GoAll.v (.agg (sgN (q.x) s (b:Int))) (qap tySg at2) ?_
     refine GoAll.v (.bool (okSg ⟨U4.of q.x,U4.of s,(b:Int)⟩)) (qao (al:=[.agg (sgN (q.x) s (b:Int))]) c_r qte) ?_
     exact GoAll.nil
    case hfin =>
     clear hM;intro w' G hM
     simp only [putLays,List.drop_succ_cons,List.drop_zero,List.map_nil,List.map_cons,List.nil_append,List.cons_append] at hM ⊢
     go_wp2_with (first
      | (refine qae hM rfl rfl tySg rfl rfl (by exact hau) rfl rfl (oneSg q.x s (b:Int)) ?_;clear hM;intro w' hM))
     refine qb9 hM rfl tySg rfl rfl (by exact hat) rfl rfl ?_
     exact ⟨rfl,hM.below⟩
end Go.Proofs.YteoednifdpdbnaaGreat
