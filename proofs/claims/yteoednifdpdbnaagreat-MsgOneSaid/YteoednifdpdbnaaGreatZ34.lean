/- The walks of u256: Mul, Bit, Len. -/
import Derived.Test.YteoednifdpdbnaaGreatZ20
import Derived.Test.YteoednifdpdbnaaGreatZ05
import Derived.Test.YteoednifdpdbnaaGreatZ27
import Derived.Test.YteoednifdpdbnaaGreatZ32
import Derived.Test.YteoednifdpdbnaaGreatZ33
namespace Go.Proofs.YteoednifdpdbnaaGreat
set_option linter.unusedVariables false
set_option linter.unusedSimpArgs false
open Go.RowKit
set_option maxHeartbeats 4000000
set_option maxRecDepth 100000
open Go.RowKit Go.Shelf
theorem tyU:AggT Tryz.prog 24 4:=⟨⟨_,Tryz.underlying24,rfl⟩,infoU⟩
theorem qbc:Tryz.prog.follows .mixedOrders=true:=by kernel_rfl
/-- a new block of four words -/
theorem runU {o:Oper} (ho:o.op=.alloc 24) (ρ:Operand→Value) (w:World):(execOp ρ o).run Tryz.prog w=.ok (.value (.pointer (some ⟨w.heap.size,0,none⟩))) (w.alloc (.cells (u4C zeroU) 24)):=by
 unfold execOp
 simp only [ho]
 rw [show u4C zeroU=#[.int .u64 0,.int .u64 0,.int .u64 0,.int .u64 0] from rfl]
 go_simp
theorem boxU (x:U4) (w:World):(Instr.box 24 (.agg (u4C x))).run Tryz.prog w=.ok (.pointer (some ⟨w.heap.size,0,none⟩)) (w.alloc (.cells (u4C x) 24)):=by
 go_simp
/-- words one behind the other, the lowest first -/
def valL:List Nat→Nat
 | []=>0
 | a :: l=>a+18446744073709551616 * valL l
theorem qju:∀ (l:List Nat) (j v:Nat) (h:j < l.length),valL (l.set j v)+l.getD j 0 * 18446744073709551616 ^ j=valL l+v * 18446744073709551616 ^ j
 | a :: l,0,v,_=>by simp [valL];omega
 | a :: l,j+1,v,h=>by
  have ih:=qju l j v (by simpa using h)
  simp only [List.set_cons_succ,valL,List.getD_cons_succ,Nat.pow_succ]
  have e:∀ z,z * (18446744073709551616 ^ j * 18446744073709551616)=18446744073709551616 * (z * 18446744073709551616 ^ j):=fun z=>by rw [← Nat.mul_assoc,Nat.mul_comm]
  rw [e,e]
  omega
theorem qof {x y o c:Nat} (hx:x < 18446744073709551616) (hy:y < 18446744073709551616) (ho:o < 18446744073709551616) (hc:c < 18446744073709551616) :
  (x * y % 18446744073709551616+o) % 18446744073709551616+c < 36893488147419103232 ∧
  ((x * y % 18446744073709551616+o) % 18446744073709551616+c) % 18446744073709551616+18446744073709551616 * (x * y / 18446744073709551616+(x * y % 18446744073709551616+o) / 18446744073709551616+((x * y % 18446744073709551616+o) % 18446744073709551616+c) / 18446744073709551616)=x * y+o+c ∧
  x * y / 18446744073709551616+(x * y % 18446744073709551616+o) / 18446744073709551616 < 18446744073709551616 ∧
  x * y / 18446744073709551616+(x * y % 18446744073709551616+o) / 18446744073709551616+((x * y % 18446744073709551616+o) % 18446744073709551616+c) / 18446744073709551616 < 18446744073709551616:=by
 have h:x * y≤18446744073709551615 * 18446744073709551615:=Nat.mul_le_mul (by omega) (by omega)
 generalize x * y=p at h ⊢
 omega
/-- a number's first words -/
def upTo (x:U4):Nat→Nat
 | 0=>0
 | j+1=>upTo x j+x.word j * 18446744073709551616 ^ j
theorem qho (x:U4):upTo x 4=x.val:=by
 simp only [upTo,U4.word,U4.val]
 omega
/-- the product so far: i rows done, of the next one k words, c is carried -/
structure MulAt (x y:U4) (i k c:Nat) (O:List Nat):Prop where
 len:O.length=8
 lt:∀ j,O.getD j 0 < 18446744073709551616
 zero:∀ j,i+4≤j→O.getD j 0=0
 cl:c < 18446744073709551616
 val:valL O+c * 18446744073709551616 ^ (i+k)=upTo x i * y.val+x.word i * upTo y k * 18446744073709551616 ^ i
theorem qfm {O:List Nat} {j v m:Nat} (h:j < O.length):(O.set j v).getD m 0=if m=j then v else O.getD m 0:=by
 simp only [List.getD_eq_getElem?_getD,List.getElem?_set]
 by_cases e:j=m
 ·subst e;simp [h]
 ·simp [e,Ne.symm e]
theorem MulAt.step {x y:U4} {i k c:Nat} {O:List Nat} (h:MulAt x y i k c O) (hx:x.Wf) (hy:y.Wf) (hi:i < 4) (hk:k < 4) :
  MulAt x y i (k+1) (x.word i * y.word k / 18446744073709551616+(x.word i * y.word k % 18446744073709551616+O.getD (i+k) 0) / 18446744073709551616+((x.word i * y.word k % 18446744073709551616+O.getD (i+k) 0) % 18446744073709551616+c) / 18446744073709551616)
   (O.set (i+k) (((x.word i * y.word k % 18446744073709551616+O.getD (i+k) 0) % 18446744073709551616+c) % 18446744073709551616)):=by
 obtain ⟨_,m1,m2,m3⟩:=qof (qcv hx i) (qcv hy k) (h.lt (i+k)) h.cl
 have hl:i+k < O.length:=by rw [h.len];omega
 have hs:=qju O (i+k) (((x.word i * y.word k % 18446744073709551616+O.getD (i+k) 0) % 18446744073709551616+c) % 18446744073709551616) hl
 refine ⟨by rw [List.length_set,h.len],fun j=>?_,fun j hj=>?_,m3,?_⟩
 ·rw [qfm hl]
  split
  ·exact Nat.mod_lt _ (by decide)
  ·exact h.lt j
 ·rw [qfm hl,if_neg (by omega)]
  exact h.zero j hj
 ·have hv:=h.val
  generalize hlo:((x.word i * y.word k % 18446744073709551616+O.getD (i+k) 0) % 18446744073709551616+c) % 18446744073709551616=lo at *
  generalize hca:x.word i * y.word k / 18446744073709551616+(x.word i * y.word k % 18446744073709551616+O.getD (i+k) 0) / 18446744073709551616+((x.word i * y.word k % 18446744073709551616+O.getD (i+k) 0) % 18446744073709551616+c) / 18446744073709551616=c' at *
  have e1:c' * 18446744073709551616 ^ (i+(k+1))=18446744073709551616 * c' * 18446744073709551616 ^ (i+k):=by
   rw [← Nat.add_assoc,Nat.pow_succ,Nat.mul_comm (18446744073709551616 ^ (i+k)),← Nat.mul_assoc,Nat.mul_comm c']
  have e2:x.word i * upTo y (k+1) * 18446744073709551616 ^ i=x.word i * upTo y k * 18446744073709551616 ^ i+x.word i * y.word k * 18446744073709551616 ^ (i+k):=by
   rw [upTo,Nat.mul_add,Nat.add_mul,Nat.pow_add,Nat.mul_assoc,Nat.mul_assoc,Nat.mul_assoc,Nat.mul_assoc,Nat.mul_comm (18446744073709551616 ^ k)]
  have e3:(x.word i * y.word k+O.getD (i+k) 0+c) * 18446744073709551616 ^ (i+k)=lo * 18446744073709551616 ^ (i+k)+18446744073709551616 * c' * 18446744073709551616 ^ (i+k):=by rw [← m1,Nat.add_mul]
  rw [Nat.add_mul,Nat.add_mul] at e3
  rw [e1,e2]
  omega
theorem MulAt.row {x y:U4} {i c:Nat} {O:List Nat} (h:MulAt x y i 4 c O) (hi:i < 4):MulAt x y (i+1) 0 0 (O.set (i+4) c):=by
 have hl:i+4 < O.length:=by rw [h.len];omega
 have hs:=qju O (i+4) c hl
 have h0:=h.zero (i+4) qn
 refine ⟨by rw [List.length_set,h.len],fun j=>?_,fun j hj=>?_,by decide,?_⟩
 ·rw [qfm hl]
  split
  ·exact h.cl
  ·exact h.lt j
 ·rw [qfm hl,if_neg (by omega)]
  exact h.zero j (by omega)
 ·have hv:=h.val
  rw [h0,Nat.zero_mul,Nat.add_zero] at hs
  rw [qho] at hv
  simp only [upTo,Nat.mul_zero,Nat.zero_mul,Nat.add_zero]
  rw [hs,hv,Nat.add_mul,Nat.mul_right_comm]
theorem MulAt.start (x y:U4):MulAt x y 0 0 0 [0,0,0,0,0,0,0,0]:=by
 refine ⟨rfl,fun j=>?_,fun j hj=>?_,by decide,by simp [valL,upTo]⟩
 all_goals
  have:([0,0,0,0,0,0,0,0]:List Nat).getD j 0=0:=by
   match j with
   | 0=>rfl
   | 1=>rfl
   | 2=>rfl
   | 3=>rfl
   | 4=>rfl
   | 5=>rfl
   | 6=>rfl
   | 7=>rfl
   | j+8=>rfl
  rw [this]
  try decide
theorem MulAt.next {x y:U4} {i:Nat} {O:List Nat} (h:MulAt x y i 0 0 O):MulAt x y i 0 0 O:=h
theorem MulAt.fin {x y:U4} {O:List Nat} (h:MulAt x y 4 0 0 O):∃ o0 o1 o2 o3 o4 o5 o6 o7,O = [o0,o1,o2,o3,o4,o5,o6,o7]∧(⟨o0,o1,o2,o3⟩:U4)=U4.of (x.val * y.val % two256)∧(⟨o4,o5,o6,o7⟩:U4)=U4.of (x.val * y.val / two256):=by
 obtain ⟨hl,hlt,_,_,hv⟩:=h
 match O,hl with
 | [o0,o1,o2,o3,o4,o5,o6,o7],_ =>
  have h0:=hlt 0
  have h1:=hlt 1
  have h2:=hlt 2
  have h3:=hlt 3
  have h4:=hlt 4
  have h5:=hlt 5
  have h6:=hlt 6
  have h7:=hlt 7
  simp only [List.getD_cons_zero,List.getD_cons_succ] at h0 h1 h2 h3 h4 h5 h6 h7
  rw [qho] at hv
  simp only [valL,upTo,Nat.mul_zero,Nat.zero_mul,Nat.add_zero] at hv
  refine ⟨o0,o1,o2,o3,o4,o5,o6,o7,rfl,?_,?_⟩
  ·have:U4.val ⟨o0,o1,o2,o3⟩=x.val * y.val % two256:=by rw [← hv];unfold U4.val two256;simp only [];omega
   rw [← this,U4.of_val ⟨h0,h1,h2,h3⟩]
  ·have:U4.val ⟨o4,o5,o6,o7⟩=x.val * y.val / two256:=by rw [← hv];unfold U4.val two256;simp only [];omega
   rw [← this,U4.of_val ⟨h4,h5,h6,h7⟩]
/-- cells of words -/
def w8C (l:List Nat):Array Value:=(l.map fun v:Nat=>Value.int .u64 (v:Int)).toArray
theorem qr1 (l:List Nat) (i v:Nat):(w8C l).setIfInBounds i (.int .u64 (v:Int))=w8C (l.set i v):=by
 unfold w8C;simp [List.map_set]
theorem qp7 {l:List Nat} {i:Nat} (h:i < l.length):(w8C l)[i]? = some (.int .u64 ((l.getD i 0:Nat):Int)):=by
 unfold w8C;simp [List.getD_eq_getElem?_getD,h]
theorem run8 {o:Oper} (ho:o.op=.alloc 330) (ρ:Operand→Value) (w:World):(execOp ρ o).run Tryz.prog w=.ok (.value (.pointer (some ⟨w.heap.size,0,none⟩))) (w.alloc (.cells (w8C [0,0,0,0,0,0,0,0]) 330)):=by
 unfold execOp
 simp only [ho]
 rw [show w8C [0,0,0,0,0,0,0,0]=#[.int .u64 0,.int .u64 0,.int .u64 0,.int .u64 0,.int .u64 0,.int .u64 0,.int .u64 0,.int .u64 0] from rfl]
 go_simp
theorem idxU (x:U4) (k:Nat) (hk:k < 4) (w:World):(Instr.index 24 (.agg (u4C x)) (.int .i64 (k:Int))).run Tryz.prog w=.ok (.int .u64 (x.word k:Int)) w :=
 qc5 Tryz.underlying24 Tryz.underlying22 (by kernel_rfl) _ k hk _ (qb3 x k hk) w
theorem oneU (x:U4):(u4C x).all (·.oneCell')=true:=by simp [u4C,Value.oneCell']
theorem arrU (A:Option Addr) (c:Nat) (w:World):(Instr.arrayAt 24 (.slice A 4 c)).run Tryz.prog w=.ok (.pointer A) w:=by
 simp [Instr.arrayAt,Sem.run_bind,run_underlying Tryz.underlying24,Sem.run_pure]
theorem umul_any (x y:U4) (hx:x.Wf) (hy:y.Wf) (w:World):Calls Tryz.prog 257 #[.agg (u4C x),.agg (u4C y)] w fun e w'=>e=.returned (.tuple #[.agg (u4C (U4.of (x.val * y.val % two256))),.agg (u4C (U4.of (x.val * y.val / two256)))])∧Below w.heap.size w w':=by
 have hM:=Mem.nil w
 have HX:=qh hx
 have HY:=qh hy
 clear hx hy
 go_enter Tryz.func257,Tryz.ntmps257
 go_wp2_with (first
  | (refine qay hM rfl rfl rfl (boxU _ _) ?_;clear hM;intro w' g hM)
  | (refine qas hM rfl (runU rfl) ?_;clear hM;intro w' g hM)
  | (refine qas hM rfl (run8 rfl) ?_;clear hM;intro w' g hM)
  | (refine qai hM rfl rfl tyU rfl (by first | exact at0 | exact at1 | exact at2 | exact at3 | exact at4 | exact at5) rfl ?_))
 rename_i g0 w1 g1 w2 g2 w3 g3 K0 hK0
 have hal:Tryz.prog.arrayLen 24 = 4:=by kernel_rfl
 have hal8:Tryz.prog.arrayLen 330 = 8:=by kernel_rfl
 have hcl:Tryz.prog.cellsOf 22 = 1:=by kernel_rfl
 have HM:=qh hM
 go_loopw [16] (fun i wr=>∃ (j:Nat) (O:List Nat),j≤4∧i=.int .i64 (j:Int)∧MulAt x y j 0 0 O∧Mem w wr [(g,w8C O,330),(g3,u4C zeroU,24),(g2,u4C zeroU,24),(g1,u4C y,24),(g0,u4C x,24)]) (fun i _=>4 - (intOf i).toNat)
 case atStart=>exact ⟨0,_,by omega,rfl,MulAt.start x y,HM.out⟩
 case round =>
  obtain ⟨j,O,hj,rfl,hO,hM⟩:=hrel
  clear HM
  by_cases hlt:j < 4
  ·have hltI:(j:Int) < 4:=by omega
   have hix:=idxU x j hlt
   obtain ⟨p,hp⟩:∃ p,x.word j=p:=⟨_,rfl⟩
   rw [hp] at hix
   have HP:=qh hp
   have HO:=qh hO
   clear hO hp
   go_wp2_with (first
    | (refine qai hM rfl rfl tyU rfl (by first | exact at0 | exact at1 | exact at2 | exact at3 | exact at4 | exact at5) rfl ?_))
   have HM:=qh hM
   go_loopw [9,21] (fun c i wq=>∃ (k d:Nat) (O:List Nat),k≤4∧i=.int .i64 (k:Int)∧c=.int .u64 (d:Int)∧MulAt x y j k d O∧Mem w wq [(g,w8C O,330),(g3,u4C zeroU,24),(g2,u4C zeroU,24),(g1,u4C y,24),(g0,u4C x,24)]) (fun _ i _=>4 - (intOf i).toNat)
   case atStart=>exact ⟨0,0,_,by omega,rfl,rfl,HO.out,HM.out⟩
   case round =>
    obtain ⟨k,d,O2,hk,rfl,rfl,hO2,hM⟩:=hrel
    clear HM
    by_cases hltk:k < 4
    ·have hltkI:(k:Int) < 4:=by omega
     have hjk8:(j:Int)+k < 8:=by omega
     have hixy:=idxU y k hltk
     have hst:=hO2.step HX.out HY.out hlt hltk
     have hgo:=qp7 (l:=O2) (i:=j+k) (by rw [hO2.len];omega)
     have h64:=qrv (x.word j) (y.word k) (qcv HX.out j) (qcv HY.out k)
     obtain ⟨_,m1,m2,m3⟩:=qof (qcv HX.out j) (qcv HY.out k) (hO2.lt (j+k)) hO2.cl
     clear m1
     have hp:=HP.out
     obtain ⟨q,hq⟩:∃ q,y.word k=q:=⟨_,rfl⟩
     obtain ⟨o,ho⟩:∃ o,O2.getD (j+k) 0=o:=⟨_,rfl⟩
     rw [hq] at hixy
     rw [ho] at hgo
     rw [hp,hq,ho] at m2 m3
     rw [hp,hq,ho] at hst
     rw [hp,hq] at h64
     obtain ⟨jk,hjk⟩:∃ jk,j+k=jk:=⟨_,rfl⟩
     rw [hjk] at hgo hst
     obtain ⟨hi,hhi⟩:∃ r,p * q / 18446744073709551616=r:=⟨_,rfl⟩
     obtain ⟨lo,hlo⟩:∃ r,p * q % 18446744073709551616=r:=⟨_,rfl⟩
     rw [hhi,hlo] at hst m2 m3
     simp only [hhi,hlo] at h64
     obtain ⟨s1,hs1⟩:∃ r,(lo+o) % 18446744073709551616=r:=⟨_,rfl⟩
     obtain ⟨c1,hc1⟩:∃ r,(lo+o) / 18446744073709551616=r:=⟨_,rfl⟩
     rw [hs1,hc1] at hst m3
     rw [hc1] at m2
     obtain ⟨s2,hs2⟩:∃ r,(s1+d) % 18446744073709551616=r:=⟨_,rfl⟩
     obtain ⟨c2,hc2⟩:∃ r,(s1+d) / 18446744073709551616=r:=⟨_,rfl⟩
     rw [hs2,hc2] at hst
     rw [hc2] at m3
     obtain ⟨h1,hh1⟩:∃ r,hi+c1=r:=⟨_,rfl⟩
     rw [hh1] at hst m2 m3
     obtain ⟨h2,hh2⟩:∃ r,h1+c2=r:=⟨_,rfl⟩
     rw [hh2] at hst m3
     have ha1:∀ w,(callFunc 244 #[.int .u64 (lo:Int),.int .u64 (o:Int),.int .u64 0]).run Tryz.prog w=.ok (.value (.tuple #[.int .u64 (s1:Int),.int .u64 (c1:Int)])) w:=fun w=>by
      have:=qm1 lo o 0 (by omega) w
      unfold addW at this
      rw [Nat.add_zero,hs1,hc1] at this
      exact this
     have ha2:∀ w,(callFunc 244 #[.int .u64 (s1:Int),.int .u64 (d:Int),.int .u64 0]).run Tryz.prog w=.ok (.value (.tuple #[.int .u64 (s2:Int),.int .u64 (c2:Int)])) w:=fun w=>by
      have:=qm1 s1 d 0 (by omega) w
      unfold addW at this
      rw [Nat.add_zero,hs2,hc2] at this
      exact this
     have hw1:IntKind.u64.wrap ((hi:Int)+(c1:Int))=(h1:Int):=by rw [IntWalk.u64_in _ (by omega)];omega
     have hw2:IntKind.u64.wrap ((h1:Int)+(c2:Int))=(h2:Int):=by rw [IntWalk.u64_in _ (by omega)];omega
     have hw3:IntKind.i64.wrap ((j:Int)+(k:Int))=(jk:Int):=by rw [IntWalk.i64_in _ (by omega)];omega
     have hjkI:(jk:Int) < 8:=by omega
     have co:wr.cell? ⟨g,jk,none⟩=some (.int .u64 (o:Int)):=rc (hM.at_ at0) _ hgo
     have fo:=rf (hM.at_ at0) jk
     have hM2:=hM.setCell at0 jk (.int .u64 (s2:Int)) up0
     rw [qr1] at hM2
     have HM2:=qh hM2
     have HST:=qh hst
     clear hM2 hst hM hgo hp hq ho hjk hhi hlo hs1 hc1 hs2 hc2 hh1 hh2 hO2 m2 m3
     go_wp2_with (go_at_call 264;refine (h64 _).mono ?_;rintro e w' ⟨rfl,rfl⟩)
     go_roundw
     case rel=>exact ⟨k+1,h2,_,by omega,by go_num,rfl,HST.out,HM2.out⟩
     case measure=>simp [intOf];omega
    ·obtain rfl:k=4:=by omega
     have hM:=hM
     have hj8:(j:Int)+4 < 8:=by omega
     obtain ⟨j4,hj4⟩:∃ r,j+4=r:=⟨_,rfl⟩
     have hst:=hO2.row hlt
     rw [hj4] at hst
     have hw3:IntKind.i64.wrap ((j:Int)+4)=(j4:Int):=by rw [IntWalk.i64_in _ (by omega)];omega
     have hj4I:(j4:Int) < 8:=by omega
     have fo:=rf (hM.at_ at0) j4
     have co:wr.cell? ⟨g,j4,none⟩=some (.int .u64 ((O2.getD j4 0:Nat):Int)):=rc (hM.at_ at0) _ (qp7 (by rw [hO2.len];omega))
     have hM2:=hM.setCell at0 j4 (.int .u64 (d:Int)) up0
     rw [qr1] at hM2
     have HM2:=qh hM2
     have HST:=qh hst
     clear hM2 hst hM hj4 hO2
     go_wp2_with fail
     go_roundw
     case rel=>exact ⟨j+1,_,by omega,by go_num,HST.out,HM2.out⟩
     case measure=>simp [intOf];omega
  ·obtain rfl:j=4:=by omega
   obtain ⟨o0,o1,o2,o3,o4,o5,o6,o7,rfl,e1,e2⟩:=hO.fin
   have HE1:=qh e1
   have HE2:=qh e2
   clear e1 e2 hO
   go_wp2_with fail
   refine qat [(7,fun w'=>w'.heap[g]? = some (.cells (w8C [o0,o1,o2,o3,o4,o5,o6,o7]) 330 (0,0)))] qbc ?_
   have hM:=hM.drew
   have HM:=qh hM
   clear hM
   refine R_p (i:=0) (v:=.slice (some ⟨g,0,none⟩) 4 8) (.here (HM.out.at_ at0) .nil) ?_
   refine R_p (i:=1) (v:=.pointer (some ⟨g,0,none⟩)) (.here (HM.out.at_ at0) .nil) ?_ (hy:=fun w=>by have:=arrU (some ⟨g,0,none⟩) 8;go_simp)
   refine R_l (i:=2) 7 _ (.head _) rfl (qax tyU (fun _ h=>h) (u4C ⟨o0,o1,o2,o3⟩)) (.here (HM.out.at_ at0) .nil) ?_
   refine R_p (i:=3) (v:=.slice (some ⟨g,4,none⟩) 4 4) (.here (HM.out.at_ at0) .nil) ?_
   refine R_p (i:=4) (v:=.pointer (some ⟨g,4,none⟩)) (.here (HM.out.at_ at0) .nil) ?_ (hy:=fun w=>by have:=arrU (some ⟨g,4,none⟩) 4;go_simp)
   refine R_l (i:=5) 7 _ (.head _) rfl (qax tyU (fun _ h=>h) (u4C ⟨o4,o5,o6,o7⟩)) (.here (HM.out.at_ at0) .nil) ?_
   refine R_now 6 (fun K hK=>?_)
   rw [if_pos (by rfl)]
   refine wp_store_row _ _ _ rfl g2 (u4C ⟨o0,o1,o2,o3⟩) rfl rfl _ _ (HM.out.at_ at2) infoU rfl (oneU _) ?_
   have hM:=HM.out.set at2 (u4C ⟨o0,o1,o2,o3⟩) up2
   refine hK _ _ (.here (hM.at_ at0) .nil) (fun _=>?_)
   refine R_now 7 (fun K hK=>?_)
   rw [if_pos (by rfl)]
   refine wp_store_row _ _ _ rfl g3 (u4C ⟨o4,o5,o6,o7⟩) rfl rfl _ _ (hM.at_ at1) infoU rfl (oneU _) ?_
   have hM:=hM.set at1 (u4C ⟨o4,o5,o6,o7⟩) up1
   refine hK _ _ (.past rfl .nil) (fun _=>?_)
   refine qbi (by kernel_rfl) ?_ _
   go_wp2_with fail
   refine res_cc hM rfl tyU tyU rfl rfl at2 at1 rfl rfl rfl ?_
   exact ⟨by rw [HE1.out,HE2.out],hM.below⟩
/- The walks of u256: Bit, Len; all of u256 by numbers. -/
/-- a number's cells -/
def uC (n:Nat):Array Value:=u4C (U4.of n)
theorem qsl {x:U4} (h:x.Wf):u4C x=uC x.val:=by unfold uC;rw [U4.of_val h]
theorem qlw (n i:Nat) (hn:n < two256) (hi:i < 256):((U4.of n).word (i / 64)).testBit (i % 64)=n.testBit i:=by
 rw [U4.word_val (U4.of_wf n) _ (by omega),U4.val_of hn,show (18446744073709551616:Nat)=2 ^ 64 by decide,← Nat.pow_mul,Nat.testBit_mod_two_pow,Nat.testBit_div_two_pow]
 rw [show i % 64+64 * (i / 64)=i by omega]
 simp;omega
theorem and_one (p r:Nat) (hp:p < 18446744073709551616):bits .and .u64 ((p:Int) / 2 ^ r) 1=if p.testBit r then 1 else 0:=by
 have e:(p:Int) / 2 ^ r=((p / 2 ^ r:Nat):Int):=by simp
 have hl:p / 2 ^ r < 18446744073709551616:=Nat.lt_of_le_of_lt (Nat.div_le_self _ _) hp
 have h:=bits_and_u64_nat (p / 2 ^ r) 1 hl (by decide)
 rw [show ((1:Nat):Int)=1 from rfl] at h
 rw [e,h,Nat.and_one_is_mod,Nat.testBit_eq_decide_div_mod_eq]
 by_cases h1:p / 2 ^ r % 2=1
 ·simp [h1]
 ·have:p / 2 ^ r % 2=0:=by omega
  simp [this]
theorem bitN (n i:Nat) (hn:n < two256) (hi:i < 256) (w:World):Calls Tryz.prog 236 #[.agg (uC n),.int .i64 (i:Int)] w fun e w'=>e=.returned (.bool (n.testBit i))∧Below w.heap.size w w':=by
 have hM:=Mem.nil w
 have hiI:(i:Int) < 256:=by omega
 have hi0:(0:Int)≤(i:Int):=by omega
 have hb:=and_one ((U4.of n).word (i / 64)) (i % 64) (qcv (U4.of_wf n) _)
 rw [qlw n i hn hi] at hb
 have hg:=qb3 (U4.of n) (i / 64) (by omega)
 obtain ⟨p,hp⟩:∃ p,(U4.of n).word (i / 64)=p:=⟨_,rfl⟩
 rw [hp] at hb hg
 have h64:(i / 64:Int) < 4:=by omega
 have HG:=qh hg
 clear hg hp
 obtain ⟨b,hbb⟩:∃ b,n.testBit i=b:=⟨_,rfl⟩
 rw [hbb] at hb ⊢
 clear hbb
 unfold uC
 cases b
 all_goals
  simp only [if_true,Bool.false_eq_true,if_false] at hb
  go_enter Tryz.func236,Tryz.ntmps236
  go_wp2_with (refine qay hM rfl rfl rfl (boxU _ _) ?_;clear hM;intro w' g hM;have co:w'.cell? ⟨g,i / 64,none⟩=some (.int .u64 (p:Int)):=rc (hM.at_ at0) _ HG.out)
  go_ret
  exact ⟨rfl,hM.below⟩
/-- how many bits -/
theorem qnk {n k:Nat} (h1:2 ^ k≤n) (h2:n < 2 ^ (k+1)):bitsN n=k+1:=by
 have h0:n≠0:=by have:0 < 2 ^ k:=Nat.pow_pos (by decide);omega
 unfold bitsN
 rw [if_neg h0,(Nat.log2_eq_iff h0).2 ⟨h1,h2⟩]
theorem qj8 {n:Nat} (h0:n≠0):∃ k,2 ^ k≤n∧n < 2 ^ (k+1)∧bitsN n=k+1:=by
 refine ⟨n.log2,((Nat.log2_eq_iff h0).1 rfl).1,((Nat.log2_eq_iff h0).1 rfl).2,?_⟩
 unfold bitsN
 rw [if_neg h0]
theorem qo2 (n:Nat) (h0:n≠0):bitsN n=1+bitsN (n / 2):=by
 obtain ⟨k,h1,h2,h3⟩:=qj8 h0
 rw [h3]
 cases k with
 | zero =>
  have:n=1:=by simp at h1 h2;omega
  subst this;rfl
 | succ k =>
  rw [Nat.pow_succ] at h1
  rw [Nat.pow_succ] at h2
  rw [qnk (n:=n / 2) (k:=k) (by omega) (by omega)]
  omega
theorem qgt:∀ (f n:Nat),n < 2 ^ f→Lib.bitLenAux f n=bitsN n
 | 0,n,h=>by have:n=0:=by simpa using h
             subst this;rfl
 | f+1,n,h=>by
  rw [Lib.bitLenAux]
  split
  ·rename_i h0;subst h0;rfl
  ·rename_i h0
   rw [qgt f (n / 2) (by rw [Nat.pow_succ] at h;omega),qo2 n h0]
theorem qrp (n:Nat) (h:n < 18446744073709551616):Lib.bitLen n=bitsN n:=qgt 64 n h
theorem qql {x:U4} (hx:x.Wf):∀ j,upTo x j < 18446744073709551616 ^ j
 | 0=>by simp [upTo]
 | j+1=>by
  have ih:=qql hx j
  have hw:=qcv hx j
  rw [upTo,Nat.pow_succ]
  have:x.word j * 18446744073709551616 ^ j≤18446744073709551615 * 18446744073709551616 ^ j:=Nat.mul_le_mul_right _ (by omega)
  omega
theorem qtp {x:U4} (hx:x.Wf) (j:Nat):bitsN (upTo x (j+1))=if x.word j=0 then bitsN (upTo x j) else j * 64+bitsN (x.word j):=by
 rw [upTo]
 split
 ·rename_i h0
  rw [h0,Nat.zero_mul,Nat.add_zero]
 ·rename_i h0
  obtain ⟨k,h1,h2,h3⟩:=qj8 h0
  have hl:=qql hx j
  have hB:(18446744073709551616:Nat) ^ j=2 ^ (64 * j):=by rw [show (18446744073709551616:Nat)=2 ^ 64 by decide,← Nat.pow_mul]
  rw [hB] at hl ⊢
  rw [h3]
  have e1:2 ^ (64 * j+k)=2 ^ k * 2 ^ (64 * j):=by rw [Nat.pow_add,Nat.mul_comm]
  have e2:2 ^ (64 * j+k+1)=2 ^ (k+1) * 2 ^ (64 * j):=by rw [Nat.add_assoc,Nat.pow_add,Nat.mul_comm]
  have m1:2 ^ k * 2 ^ (64 * j)≤x.word j * 2 ^ (64 * j):=Nat.mul_le_mul_right _ h1
  have m2:(x.word j+1) * 2 ^ (64 * j)≤2 ^ (k+1) * 2 ^ (64 * j):=Nat.mul_le_mul_right _ h2
  rw [Nat.add_mul,Nat.one_mul] at m2
  rw [qnk (k:=64 * j+k) (by omega) (by omega)]
  omega
theorem lenN (n:Nat) (hn:n < two256) (w:World):Calls Tryz.prog 234 #[.agg (uC n)] w fun e w'=>e=.returned (.int .i64 (bitsN n:Int))∧Below w.heap.size w w':=by
 have hM:=Mem.nil w
 obtain ⟨x,hx⟩:∃ x,U4.of n=x:=⟨_,rfl⟩
 have hwf:x.Wf:=hx ▸ U4.of_wf n
 have hv:upTo x 4=n:=by rw [qho,← hx,U4.val_of hn]
 have HR:=qh (congrArg bitsN hv)
 have HW:=qh hwf
 unfold uC
 rw [hx]
 clear hx hv hwf
 go_enter Tryz.func234,Tryz.ntmps234
 go_wp2_with (refine qay hM rfl rfl rfl (boxU _ _) ?_;clear hM;intro w0 g hM)
 have hal:Tryz.prog.arrayLen 24 = 4:=by kernel_rfl
 have hcl:Tryz.prog.cellsOf 22 = 1:=by kernel_rfl
 have HM:=qh hM
 clear hM
 go_loopw [3] (fun i wr=>∃ j:Nat,j≤4∧i=.int .i64 ((j:Int) - 1)∧Hid (bitsN (upTo x j)=bitsN n)∧Mem w wr [(g,u4C x,24)]) (fun i _=>(intOf i+1).toNat)
 case atStart=>exact ⟨4,by omega,rfl,HR,HM.out⟩
 case round =>
  obtain ⟨j,hj,rfl,HC,hM⟩:=hrel
  clear HM HR
  match j,hj,HC with
  | 0,_,HC =>
   go_wp2_with fail
   go_ret
   exact ⟨by rw [← HC.out];rfl,hM.below⟩
  | j+1,hj,HC =>
   have hi:((j+1:Nat):Int) - 1=(j:Int):=by omega
   rw [hi]
   have hj4:(j:Int) < 4:=by omega
   have co:wr.cell? ⟨g,j,none⟩=some (.int .u64 (x.word j:Int)):=rc (hM.at_ at0) j (qb3 x j (by omega))
   have hc:=HC.out
   rw [qtp HW.out] at hc
   have hlt:=qcv HW.out j
   have hlen:=qrp _ hlt
   obtain ⟨p,hp⟩:∃ p,x.word j=p:=⟨_,rfl⟩
   rw [hp] at co hc hlt hlen
   clear HC hi hp
   by_cases h0:p=0
   ·subst h0
    rw [if_pos rfl] at hc
    have HC:=qh hc
    have hw:IntKind.i64.wrap ((j:Int) - 1)=(j:Int) - 1:=IntWalk.i64_in _ (by omega)
    clear hc hlen
    go_wp2_with fail
    go_roundw
    case rel=>exact ⟨j,by omega,rfl,HC,hM⟩
    case measure=>simp [intOf]
   ·rw [if_neg h0] at hc
    have hne:((p:Int) == 0)=false:=by simp;omega
    have hle:bitsN p≤64:=by
     obtain ⟨k,h1,h2,h3⟩:=qj8 h0
     have:k < 64:=(Nat.pow_lt_pow_iff_right (by decide:1 < 2)).1 (Nat.lt_of_le_of_lt h1 (by omega:p < 2 ^ 64))
     omega
    have hL:∀ w,Calls Tryz.prog 260 #[.int .u64 (p:Int)] w fun e w'=>e=.returned (.int .i64 (bitsN p:Int))∧w'=w:=fun w=>by
     have:=qsm (p:Int) w (by omega) (by omega)
     simp only [Int.toNat_natCast,hlen] at this
     exact this
    obtain ⟨q,hq⟩:∃ q,bitsN p=q:=⟨_,rfl⟩
    rw [hq] at hc hle
    simp only [hq] at hL
    have hw1:IntKind.i64.wrap ((j:Int) * 64)=(j:Int) * 64:=IntWalk.i64_in _ (by omega)
    have hw2:IntKind.i64.wrap ((j:Int) * 64+q)=(j:Int) * 64+q:=IntWalk.i64_in _ (by omega)
    have HC:=qh hc
    clear hc hlen hq
    go_wp2_with (go_at_call 260;refine (hL _).mono ?_;rintro e w' ⟨rfl,rfl⟩)
    go_ret
    exact ⟨by rw [← HC.out];simp,hM.below⟩
/-- sums, differences, products, comparisons by numbers -/
theorem uaddN (a b:Nat) (ha:a < two256) (hb:b < two256) (w:World):Calls Tryz.prog 198 #[.agg (uC a),.agg (uC b)] w fun e w'=>e=.returned (.tuple #[.agg (uC ((a+b) % two256)),.bool (decide (two256≤a+b))])∧Below w.heap.size w w':=by
 refine (qqy (U4.of a) (U4.of b) (U4.of_wf a) (U4.of_wf b) w).mono ?_
 rintro e w' ⟨rfl,hb'⟩
 refine ⟨?_,hb'⟩
 obtain ⟨h1,h2,h3⟩:=qn3 (U4.of_wf a) (U4.of_wf b)
 rw [U4.val_of ha,U4.val_of hb] at h2
 have hl:=U4.val_lt h1
 have e1:u4C (sumW (U4.of a) (U4.of b)).1=uC ((a+b) % two256):=by
  rw [qsl h1,← h2,Nat.add_mul_mod_self_left,Nat.mod_eq_of_lt hl]
 have e2:(((sumW (U4.of a) (U4.of b)).2:Int) == 1)=decide (two256≤a+b):=by
  generalize (sumW (U4.of a) (U4.of b)).2=o at h2 h3 ⊢
  have:o=0∨o=1:=by omega
  rcases this with rfl | rfl
  ·simp;omega
  ·simp;omega
 rw [e1,e2]
theorem subN (a b:Nat) (ha:a < two256) (hb:b < two256) (w:World):Calls Tryz.prog 227 #[.agg (uC a),.agg (uC b)] w fun e w'=>e=.returned (.tuple #[.agg (uC ((a+two256 - b) % two256)),.bool (decide (a < b))])∧Below w.heap.size w w':=by
 refine (qsy (U4.of a) (U4.of b) (U4.of_wf a) (U4.of_wf b) w).mono ?_
 rintro e w' ⟨rfl,hb'⟩
 refine ⟨?_,hb'⟩
 obtain ⟨h1,h2,h3⟩:=qru (U4.of_wf a) (U4.of_wf b)
 rw [U4.val_of ha,U4.val_of hb] at h2
 have hl:=U4.val_lt h1
 have e1:u4C (diffW (U4.of a) (U4.of b)).1=uC ((a+two256 - b) % two256):=by
  rw [qsl h1]
  generalize (diffW (U4.of a) (U4.of b)).1.val=d at h2 hl ⊢
  generalize (diffW (U4.of a) (U4.of b)).2=o at h2 h3
  have:o=0∨o=1:=by omega
  rcases this with rfl | rfl
  ·have:a+two256 - b=d+two256:=by omega
   rw [this,Nat.add_mod_right,Nat.mod_eq_of_lt hl]
  ·have:a+two256 - b=d:=by omega
   rw [this,Nat.mod_eq_of_lt hl]
 have e2:(((diffW (U4.of a) (U4.of b)).2:Int) == 1)=decide (a < b):=by
  generalize (diffW (U4.of a) (U4.of b)).1.val=d at h2 hl
  generalize (diffW (U4.of a) (U4.of b)).2=o at h2 h3 ⊢
  have:o=0∨o=1:=by omega
  rcases this with rfl | rfl
  ·simp;omega
  ·simp;omega
 rw [e1,e2]
theorem mulN (a b:Nat) (ha:a < two256) (hb:b < two256) (w:World):Calls Tryz.prog 257 #[.agg (uC a),.agg (uC b)] w fun e w'=>e=.returned (.tuple #[.agg (uC (a * b % two256)),.agg (uC (a * b / two256))])∧Below w.heap.size w w':=by
 have h:=umul_any (U4.of a) (U4.of b) (U4.of_wf a) (U4.of_wf b) w
 rw [U4.val_of ha,U4.val_of hb] at h
 exact h
theorem cmpNN (a b:Nat) (ha:a < two256) (hb:b < two256) (w:World):Calls Tryz.prog 197 #[.agg (uC a),.agg (uC b)] w fun e w'=>e=.returned (.int .i64 (if a < b then -1 else if b < a then 1 else 0))∧Below w.heap.size w w':=by
 have h:=qp3 (U4.of a) (U4.of b) w
 rw [qns (U4.of_wf a) (U4.of_wf b),U4.val_of ha,U4.val_of hb] at h
 exact h
theorem qe7 (v:Nat):v % two256 < two256:=Nat.mod_lt _ qbt
theorem qqs {a b:Nat} (ha:a < two256) (hb:b < two256):a * b / two256 < two256:=(Nat.div_lt_iff_lt_mul qbt).2 (Nat.mul_lt_mul'' ha hb)
end Go.Proofs.YteoednifdpdbnaaGreat
