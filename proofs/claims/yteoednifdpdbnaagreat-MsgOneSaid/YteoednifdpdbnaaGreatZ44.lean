/- The walks of frame.fields. -/
import Derived.Test.YteoednifdpdbnaaGreatZ25
import Derived.Test.YteoednifdpdbnaaGreatZ02
import Derived.RegionTactic
import Derived.Test.YteoednifdpdbnaaGreatZ05
import Derived.Test.YteoednifdpdbnaaGreatZ21
import Derived.WalkLawsBesides
namespace Go.Proofs.YteoednifdpdbnaaGreat
set_option linter.unusedVariables false
set_option linter.unusedSimpArgs false
open Go.RowKit
set_option maxHeartbeats 4000000
set_option maxRecDepth 100000
/-- the first results, all of them or none -/
def runQ (un:Nat→Option Fd):Nat→Option (List Fd)
 | 0=>some []
 | n+1=>match runQ un n,un n with
  | some l,some f=>some (l ++ [f])
  | _,_=>none
theorem qhq {un:Nat→Option Fd} {i:Nat} (h:un i=none):∀ {n:Nat},i < n→runQ un n=none
 | 0,hn=>by omega
 | n+1,hn=>by
  rw [runQ]
  rcases Nat.lt_or_ge i n with h1 | h1
  ·rw [qhq h h1]
  ·obtain rfl:i=n:=by omega
   rw [h];cases runQ un i <;> rfl
theorem qky {un:Nat→Option Fd} {i:Nat} {l:List Fd} {f:Fd} (h:runQ un i=some l) (hf:un i=some f):runQ un (i+1)=some (l ++ [f]):=by rw [runQ,h,hf]
/-- behind field -/
def FldPost (r:Option Fd) (w:World) (e:Ending) (w':World):Prop :=
 ∃ (f:Fd) (A:Option Addr) (c:Nat) (ok:Bool),e=.returned (.tuple #[.agg #[.int .u64 (f.n:Int),.string (bs f.b),.slice A f.l.length c],.bool ok])∧LfsV (From w.heap.size) w' f.l A c∧(r=none→ok=false)∧(∀ g,r=some g→ok=true∧f=g)∧Below w.heap.size w w'
/-- behind fields -/
def FldsPost (r:Option (List Fd)) (w:World) (e:Ending) (w':World):Prop :=
 ∃ (l:List Fd) (A:Option Addr) (c:Nat) (ok:Bool),e=.returned (.tuple #[.slice A l.length c,.bool ok])∧FdsV (From w.heap.size) w' l A c∧(r=none→ok=false∧l = []∧A=none∧c=0)∧(∀ g,r=some g→ok=true∧l=g)∧Below w.heap.size w w'
theorem qcb {w w':World} {r:Option (List Fd)} (h:r=none) (hb:Below w.heap.size w w'):FldsPost r w (.returned (.tuple #[.slice none 0 0,.bool false])) w' :=
 ⟨[],none,0,false,rfl,Rep.nil_slice 3,(fun _=>⟨rfl,rfl,rfl,rfl⟩),(fun g hg=>by rw [h] at hg;cases hg),hb⟩
theorem qpk (ks:List Kd) (un:Nat→Option Fd) (hkl:ks.length≤1000) (x:Item) (A:Option Addr) (c:Nat) (Ak:Option Addr) (ck:Nat) (w:World) (hkv:KindsV Any w ks Ak ck) (hx:ItemV Any w x A c)
  (hit:∀ (i:Nat) (y:Item) (s:Int) (A1:Option Addr) (n1 c1:Nat) (A2:Option Addr) (c2:Nat) (W:World),x.ks[i]? = some y→i < ks.length→Rep Any W (kdD (ks.getD i noK)) [.int .u8 s,.slice A1 n1 c1]→ItemV Any W y A2 c2 →
   Calls Tryz.prog 151 #[.agg #[.int .u8 s,.slice A1 n1 c1],.agg #[.bool y.l,.string (bs y.b),.slice A2 y.ks.length c2]] W (FldPost (un i) W)) :
  Calls Tryz.prog 97 #[.agg #[.int .u8 40,.slice Ak ks.length ck],.agg #[.bool x.l,.string (bs x.b),.slice A x.ks.length c]] w (FldsPost (if x.l=true∧x.ks.length=ks.length then runQ un x.ks.length else none) w):=by
 obtain ⟨R,hR⟩:∃ R,(if x.l=true∧x.ks.length=ks.length then runQ un x.ks.length else none)=R:=⟨_,rfl⟩
 rw [hR]
 have HRR:=qh hR
 have hb:Below w.heap.size w ((w.alloc (.cells #[.int .u8 40,.slice Ak ks.length ck] 153)).alloc (.cells #[.bool x.l,.string (bs x.b),.slice A x.ks.length c] 53)):=((Below.refl _ _).alloc qn _).alloc (by simp) _
 have hxr:=heap_alloc_new (w.alloc (.cells #[.int .u8 40,.slice Ak ks.length ck] 153)) (.cells #[.bool x.l,.string (bs x.b),.slice A x.ks.length c] 53)
 have hk0:=(heap_alloc_old (w.alloc (.cells #[.int .u8 40,.slice Ak ks.length ck] 153)) (.cells #[.bool x.l,.string (bs x.b),.slice A x.ks.length c] 53) (by simp)).trans (heap_alloc_new w (.cells #[.int .u8 40,.slice Ak ks.length ck] 153))
 simp only [World.size_alloc] at hxr
 have hxl:=(ItemV.len hx)
 simp only [maxLen] at hxl
 have hxl63:(x.ks.length:Int)≤9223372036854775807:=by omega
 have HB:=qh hb
 have HX:=qh hxr
 have HK:=qh hk0
 have HV:=qh hx
 have HIT:=qh hit
 have HKV:=qh hkv
 clear hR hb hxr hk0 hx hit hkv
 obtain ⟨xl,hxle⟩:∃ xl,x.l=xl:=⟨_,rfl⟩
 rw [hxle]
 cases xl with
 | false =>
  have HN:Hid (R=none):=qh (by rw [← HRR.out,if_neg (fun h=>by rw [hxle] at h;cases h.1)])
  clear HIT HV HKV HK HX HRR
  rw [hxle] at HB
  clear hxle
  go_enter Tryz.func97,Tryz.ntmps97
  go_wp2_with fail
  go_ret2
  exact qcb HN.out HB.out
 | true =>
  by_cases hlen:x.ks.length=ks.length
  case neg =>
   have HN:Hid (R=none):=qh (by rw [← HRR.out,if_neg (fun h=>hlen h.2)])
   have hne:(!((x.ks.length:Int) == (ks.length:Int)))=true:=by rw [Bool.not_eq_true',beq_eq_false_iff_ne];omega
   have hlI:((x.ks.length:Int) == (ks.length:Int))=false:=by rw [beq_eq_false_iff_ne];omega
   have hlN:(x.ks.length == ks.length)=false:=by rw [beq_eq_false_iff_ne];exact hlen
   rw [hxle] at HB
   clear HIT HV HKV HK HX HRR hxle hlen
   go_enter Tryz.func97,Tryz.ntmps97
   go_wp2_with fail
   go_ret2
   exact qcb HN.out HB.out
  have HN:Hid (R=runQ un x.ks.length):=qh (by rw [← HRR.out,if_pos ⟨hxle,hlen⟩])
  have HL:=qh hlen
  have hlI:((x.ks.length:Int) == (ks.length:Int))=true:=by rw [beq_iff_eq];omega
  have hlN:(x.ks.length == ks.length)=true:=by rw [beq_iff_eq];exact hlen
  have hlNe:((x.ks.length:Int) != (ks.length:Int))=false:=by rw [bne,hlI];rfl
  rw [hxle] at HB HX HK
  have HXL:=qh hxle
  clear HRR hlen hxle
  go_enter Tryz.func97,Tryz.ntmps97
  go_wp2_with fail
  generalize hW0:((w.alloc (.cells #[.int .u8 40,.slice Ak ks.length ck] 153)).alloc (.cells #[.bool true,.string (bs x.b),.slice A x.ks.length c] 53))=W0 at HB HX HK ⊢
  have hz0:W0.heap.size=w.heap.size+2:=by rw [← hW0];simp
  have HZ0:=qh hz0
  clear hW0 hz0
  go_loopw [6,32] (fun u a wr=>∃ (i:Nat) (l:List Fd) (ys:List Value),a=.int .i64 i∧i≤x.ks.length∧i=l.length∧Hid (runQ un i=some l)∧wr.heap[w.heap.size]? = some (.cells #[.int .u8 40,.slice Ak ks.length ck] 153 (0,0)) ∧
    wr.ownsRow (w.heap.size+2) 81 3 u i ys∧RepN (RowS (w.heap.size+2) u) wr 3 (fdsD l) ys∧Below w.heap.size w wr∧w.heap.size+2≤wr.heap.size) (fun _ a _=>x.ks.length - (intOf a).toNat)
  case atStart=>exact ⟨0,[],[],rfl,Nat.zero_le _,rfl,qh rfl,HK.out,World.ownsRow_nil _ _ _ _,.nil,HB.out,by rw [HZ0.out];omega⟩
  case round =>
   clear HX HK HB HZ0
   obtain ⟨i,l,ys,rfl,hi,hil,hrun,hKd,hown,hrep,hB,hsz⟩:=hrel
   obtain ⟨A',c',rfl⟩:=qa4 hown
   by_cases hlt:i < x.ks.length
   ·obtain ⟨y,hy⟩:=qan hlt
    obtain ⟨g,o,A2,c2,rfl,_,hlv,q0,q1,q2⟩:=ItemV.at_ (HV.out.keep hB) hy
    have hltI:(i:Int) < x.ks.length:=by omega
    have k0:wr.cell? ⟨w.heap.size,0,none⟩=some (.int .u8 40):=rc hKd 0 rfl
    have k1:wr.cell? ⟨w.heap.size,1,none⟩=some (.slice Ak ks.length ck):=rc hKd 1 rfl
    have hlk:=HL.out
    obtain ⟨k0e,hk0e⟩:∃ k,ks[0]? = some k:=qan (by omega)
    obtain ⟨kie,hkie⟩:∃ k,ks[i]? = some k:=qan (by omega)
    obtain ⟨gk,og,s0,A0,n0,c0,hA0,_,z0,z1⟩:=qg0 (Rep.keep HKV.out hB) hk0e
    obtain ⟨gk2,og2,s1,A1,n1,c1,hA1,hrk,y0,y1⟩:=qg0 (Rep.keep HKV.out hB) hkie
    rw [hA0] at hA1
    injection hA1 with hA1
    injection hA1 with e1 e2
    subst e1;subst e2;subst hA0
    simp only [Nat.zero_mul,Nat.add_zero] at z0 z1
    have hikI:(i:Int) < ks.length:=by omega
    have h0kI:(0:Int) < ks.length:=by omega
    have HRK:Hid (Rep Any wr (kdD (ks.getD i noK)) [.int .u8 s1,.slice A1 n1 c1]):=qh (by rw [qa9 hkie];exact hrk)
    have HSM:Hid (i < ks.length):=qh (by omega)
    clear hlk hk0e hkie hrk
    have k1a:=ca k1 (.cells #[.bool y.l,.string (bs y.b),.slice A2 y.ks.length c2] 53)
    have k0b:=ca (ca k0 (.cells #[.bool y.l,.string (bs y.b),.slice A2 y.ks.length c2] 53)) (.cells #[.int .u8 s0,.slice A0 n0 c0] 153)
    have z0a:=ca z0 (.cells #[.bool y.l,.string (bs y.b),.slice A2 y.ks.length c2] 53)
    have z0b:=ca z0a (.cells #[.int .u8 s0,.slice A0 n0 c0] 153)
    have z1a:=ca z1 (.cells #[.bool y.l,.string (bs y.b),.slice A2 y.ks.length c2] 53)
    have z1b:=ca z1a (.cells #[.int .u8 s0,.slice A0 n0 c0] 153)
    have y0a:=ca y0 (.cells #[.bool y.l,.string (bs y.b),.slice A2 y.ks.length c2] 53)
    have y0b:=ca y0a (.cells #[.int .u8 s0,.slice A0 n0 c0] 153)
    have y1a:=ca y1 (.cells #[.bool y.l,.string (bs y.b),.slice A2 y.ks.length c2] 53)
    have y1b:=ca y1a (.cells #[.int .u8 s0,.slice A0 n0 c0] 153)
    have k1b:=ca k1a (.cells #[.int .u8 s0,.slice A0 n0 c0] 153)
    have HF:=qh hy
    have HKD:=qh hKd
    have HW:=qh hown
    have HP:=qh hrep
    have HB:=qh hB
    have HLV:=qh hlv
    have HIL:=qh hil
    clear hy hKd hown hrep hB hlv hil
    go_wp2_with fail
    have hba:Below wr.heap.size wr ((wr.alloc (.cells #[.bool y.l,.string (bs y.b),.slice A2 y.ks.length c2] 53)).alloc (.cells #[.int .u8 s1,.slice A1 n1 c1] 153)):=((Below.refl _ _).alloc qn _).alloc (by simp) _
    have hC:=HIT.out i y _ _ _ _ A2 c2 ((wr.alloc (.cells #[.bool y.l,.string (bs y.b),.slice A2 y.ks.length c2] 53)).alloc (.cells #[.int .u8 s1,.slice A1 n1 c1] 153)) HF.out HSM.out (Rep.keep HRK.out hba) (HLV.out.keep hba)
    have HK1:=qh ((hba.block _ (qg HKD.out)).trans HKD.out)
    have HW1:=qh (qa5 HW.out hba)
    have HP1:=qh (HP.out.keep hba)
    have HB1:=qh (qac HB.out HB.out.size hba)
    have hs1:=Nat.le_trans hsz hba.size
    refine hC.mono ?_
    clear hC hba HKD HW HP HB
    rintro e w4 ⟨f,Af,cf,ok,rfl,hf,hfn,hfs,hb4⟩
    have HK4:=qh ((hb4.block _ (qg HK1.out)).trans HK1.out)
    have HW4:=qh (qa5 HW1.out hb4)
    have HB4:=qh (qac HB1.out HB1.out.size hb4)
    have hs4:=Nat.le_trans hs1 hb4.size
    have HP4:Hid (RepN (RowS (w.heap.size+2) (.slice A' i c')) w4 3 (fdsD (l ++ [f])) (ys ++ [.int .u64 (f.n:Int),.string (bs f.b),.slice Af f.l.length cf])):=qh (by
     rw [qe4]
     exact RepN.snoc (qsk (hf.mono fun b _ hb=>⟨⟨Nat.le_trans hs1 hb,fun e=>by have h1:=(HW1.out.lt _ e).2;have h2:_≤b:=hb;omega⟩,rfl⟩)) rfl (HP1.out.keep hb4))
    clear hf hb4 HK1 HW1 HP1 HB1
    cases hun:un i with
    | none =>
     have HNO:Hid (R=none):=qh (by rw [HN.out];exact qhq hun hlt)
     obtain rfl:ok=false:=hfn hun
     clear hfn hfs hun
     go_wp2_with fail
     go_ret2
     exact qcb HNO.out (HB4.out.alloc (by have:=HB4.out.size;omega) _)
    | some f1 =>
     obtain ⟨rfl,rfl⟩:=hfs f1 hun
     have HRN:Hid (runQ un (i+1)=some (l ++ [f])):=qh (qky hrun.out hun)
     clear hfn hfs hun hrun
     go_wp2_with (at_builtin;refine qa0 qfc rfl rfl (w.heap.size+2) ((HW4.out.alloc _).alloc _) rfl (m:=1) [.int .u64 (f.n:Int),.string (bs f.b),.slice Af f.l.length cf] rfl rfl ?_ ?_ ?_ ?_ ?_ ?_;exact (qco _ _ (by simp) _ _);(intro u hu;simp at hu;rcases hu with rfl | rfl | rfl <;> rfl);(simp only [maxLen];omega);omega;(simp;omega);intro v1 w8 hown1 hg1 hat1;obtain ⟨A3,c3,rfl⟩:=qa4 hown1)
     have hba:Below w4.heap.size w4 ((w4.alloc (.cells #[.int .u64 (f.n:Int),.string (bs f.b),.slice Af f.l.length cf] 81)).alloc (.cells #[.int .u64 (f.n:Int),.string (bs f.b),.slice Af f.l.length cf] 81)):=((Below.refl _ _).alloc qn _).alloc (by simp) _
     have hsz2:w4.heap.size+2=((w4.alloc (.cells #[.int .u64 (f.n:Int),.string (bs f.b),.slice Af f.l.length cf] 81)).alloc (.cells #[.int .u64 (f.n:Int),.string (bs f.b),.slice Af f.l.length cf] 81)).heap.size:=by simp
     have hK8:=(hg1.block w.heap.size (by omega) (fun e=>by have:=(HW4.out.lt _ e.symm).1;omega)).trans ((hba.block w.heap.size (by omega)).trans HK4.out)
     have hB8:=qa7 (qac HB4.out HB4.out.size hba) (qa5 HW4.out hba) hg1 (by omega) (by omega)
     have hP8:=qeq (HP4.out.keep hba) hg1 hat1
     have hs8:=hg1.size
     go_roundw
     case rel=>exact ⟨i+1,l ++ [f],ys ++ [.int .u64 (f.n:Int),.string (bs f.b),.slice Af f.l.length cf],by go_num,by omega,by rw [List.length_append,List.length_singleton,← HIL.out],HRN,hK8,hown1,hP8,hB8,by omega⟩
     case measure=>simp [intOf];omega
   ·obtain rfl:i=x.ks.length:=by omega
    have HRN:Hid (R=some l):=qh (by rw [HN.out];exact hrun.out)
    have HW:=qh hown
    have HP:=qh hrep
    have HB:=qh hB
    have HIL:=qh hil
    clear hown hrep hB hKd hrun hil
    go_wp2_with fail
    go_ret2
    refine ⟨l,A',c',true,by rw [← HIL.out];rfl,?_,(fun h=>by rw [HRN.out] at h;cases h),(fun g h=>by rw [HRN.out] at h;injection h with h;exact ⟨rfl,h⟩),HB.out⟩
    have:=qck (S:=From w.heap.size) HW.out (RepN.mono HP.out fun b _ hb=>⟨by have:=hb.1;show w.heap.size≤b;omega,rfl⟩) (by unfold fdsD;rw [List.length_map,← HIL.out]) (fun b h1 _=>by show w.heap.size≤b;omega)
    unfold FdsV
    rw [← HIL.out]
    exact this
theorem qmx (kc:UInt8) (un:Nat→Option Fd) (x:Item) (hkl:x.ks.length≤100000) (A:Option Addr) (c:Nat) (Ak:Option Addr) (ck:Nat) (w:World) (hkv:∀ W:World,Below w.heap.size w W→∃ gk og,Ak=some ⟨gk,og,none⟩∧W.cell? ⟨gk,og,none⟩=some (.int .u8 kc.toNat)∧W.cell? ⟨gk,og+1,none⟩=some (.slice none 0 0)) (hx:ItemV Any w x A c)
  (hit:∀ (i:Nat) (y:Item) (s:Int) (A1:Option Addr) (n1 c1:Nat) (A2:Option Addr) (c2:Nat) (W:World),x.ks[i]? = some y→Rep Any W (kdD ⟨kc,false⟩) [.int .u8 s,.slice A1 n1 c1]→ItemV Any W y A2 c2 →
   Calls Tryz.prog 151 #[.agg #[.int .u8 s,.slice A1 n1 c1],.agg #[.bool y.l,.string (bs y.b),.slice A2 y.ks.length c2]] W (FldPost (un i) W)) :
  Calls Tryz.prog 97 #[.agg #[.int .u8 42,.slice Ak 1 ck],.agg #[.bool x.l,.string (bs x.b),.slice A x.ks.length c]] w (FldsPost (if x.l=true then runQ un x.ks.length else none) w):=by
 obtain ⟨R,hR⟩:∃ R,(if x.l=true then runQ un x.ks.length else none)=R:=⟨_,rfl⟩
 rw [hR]
 have HRR:=qh hR
 have hb:Below w.heap.size w ((w.alloc (.cells #[.int .u8 42,.slice Ak 1 ck] 153)).alloc (.cells #[.bool x.l,.string (bs x.b),.slice A x.ks.length c] 53)):=((Below.refl _ _).alloc qn _).alloc (by simp) _
 have hxr:=heap_alloc_new (w.alloc (.cells #[.int .u8 42,.slice Ak 1 ck] 153)) (.cells #[.bool x.l,.string (bs x.b),.slice A x.ks.length c] 53)
 have hk0:=(heap_alloc_old (w.alloc (.cells #[.int .u8 42,.slice Ak 1 ck] 153)) (.cells #[.bool x.l,.string (bs x.b),.slice A x.ks.length c] 53) (by simp)).trans (heap_alloc_new w (.cells #[.int .u8 42,.slice Ak 1 ck] 153))
 simp only [World.size_alloc] at hxr
 have hxl:=(ItemV.len hx)
 simp only [maxLen] at hxl
 have hxl63:(x.ks.length:Int)≤9223372036854775807:=by omega
 have HB:=qh hb
 have HX:=qh hxr
 have HK:=qh hk0
 have HV:=qh hx
 have HIT:=qh hit
 have HKV:=qh hkv
 clear hR hb hxr hk0 hx hit hkv
 obtain ⟨xl,hxle⟩:∃ xl,x.l=xl:=⟨_,rfl⟩
 rw [hxle]
 cases xl with
 | false =>
  have HN:Hid (R=none):=qh (by rw [← HRR.out,if_neg (fun h=>by rw [hxle] at h;cases h)])
  clear HIT HV HKV HK HX HRR
  rw [hxle] at HB
  clear hxle
  go_enter Tryz.func97,Tryz.ntmps97
  go_wp2_with fail
  go_ret2
  exact qcb HN.out HB.out
 | true =>
  have HN:Hid (R=runQ un x.ks.length):=qh (by rw [← HRR.out,if_pos hxle])
  rw [hxle] at HB HX HK
  have HXL:=qh hxle
  clear HRR hxle
  go_enter Tryz.func97,Tryz.ntmps97
  go_wp2_with fail
  generalize hW0:((w.alloc (.cells #[.int .u8 42,.slice Ak 1 ck] 153)).alloc (.cells #[.bool true,.string (bs x.b),.slice A x.ks.length c] 53))=W0 at HB HX HK ⊢
  have hz0:W0.heap.size=w.heap.size+2:=by rw [← hW0];simp
  have HZ0:=qh hz0
  clear hW0 hz0
  go_loopw [6,32] (fun u a wr=>∃ (i:Nat) (l:List Fd) (ys:List Value),a=.int .i64 i∧i≤x.ks.length∧i=l.length∧Hid (runQ un i=some l)∧wr.heap[w.heap.size]? = some (.cells #[.int .u8 42,.slice Ak 1 ck] 153 (0,0)) ∧
    wr.ownsRow (w.heap.size+2) 81 3 u i ys∧RepN (RowS (w.heap.size+2) u) wr 3 (fdsD l) ys∧Below w.heap.size w wr∧w.heap.size+2≤wr.heap.size) (fun _ a _=>x.ks.length - (intOf a).toNat)
  case atStart=>exact ⟨0,[],[],rfl,Nat.zero_le _,rfl,qh rfl,HK.out,World.ownsRow_nil _ _ _ _,.nil,HB.out,by rw [HZ0.out];omega⟩
  case round =>
   clear HX HK HB HZ0
   obtain ⟨i,l,ys,rfl,hi,hil,hrun,hKd,hown,hrep,hB,hsz⟩:=hrel
   obtain ⟨A',c',rfl⟩:=qa4 hown
   by_cases hlt:i < x.ks.length
   ·obtain ⟨y,hy⟩:=qan hlt
    obtain ⟨g,o,A2,c2,rfl,_,hlv,q0,q1,q2⟩:=ItemV.at_ (HV.out.keep hB) hy
    have hltI:(i:Int) < x.ks.length:=by omega
    have k0:wr.cell? ⟨w.heap.size,0,none⟩=some (.int .u8 42):=rc hKd 0 rfl
    have k1:wr.cell? ⟨w.heap.size,1,none⟩=some (.slice Ak 1 ck):=rc hKd 1 rfl
    obtain ⟨gk,og,rfl,z0,z1⟩:=HKV.out wr hB
    have HRK:Hid (Rep Any wr (kdD ⟨kc,false⟩) [.int .u8 kc.toNat,.slice none 0 0]):=qh (qf2 kc)
    have k1a:=ca k1 (.cells #[.bool y.l,.string (bs y.b),.slice A2 y.ks.length c2] 53)
    have k0b:=ca (ca k0 (.cells #[.bool y.l,.string (bs y.b),.slice A2 y.ks.length c2] 53)) (.cells #[.int .u8 kc.toNat,.slice none 0 0] 153)
    have z0a:=ca z0 (.cells #[.bool y.l,.string (bs y.b),.slice A2 y.ks.length c2] 53)
    have z0b:=ca z0a (.cells #[.int .u8 kc.toNat,.slice none 0 0] 153)
    have z1a:=ca z1 (.cells #[.bool y.l,.string (bs y.b),.slice A2 y.ks.length c2] 53)
    have z1b:=ca z1a (.cells #[.int .u8 kc.toNat,.slice none 0 0] 153)
    have k1b:=ca k1a (.cells #[.int .u8 kc.toNat,.slice none 0 0] 153)
    have HF:=qh hy
    have HKD:=qh hKd
    have HW:=qh hown
    have HP:=qh hrep
    have HB:=qh hB
    have HLV:=qh hlv
    have HIL:=qh hil
    clear hy hKd hown hrep hB hlv hil
    go_wp2_with fail
    have hba:Below wr.heap.size wr ((wr.alloc (.cells #[.bool y.l,.string (bs y.b),.slice A2 y.ks.length c2] 53)).alloc (.cells #[.int .u8 kc.toNat,.slice none 0 0] 153)):=((Below.refl _ _).alloc qn _).alloc (by simp) _
    have hC:=HIT.out i y _ _ _ _ A2 c2 ((wr.alloc (.cells #[.bool y.l,.string (bs y.b),.slice A2 y.ks.length c2] 53)).alloc (.cells #[.int .u8 kc.toNat,.slice none 0 0] 153)) HF.out (Rep.keep HRK.out hba) (HLV.out.keep hba)
    have HK1:=qh ((hba.block _ (qg HKD.out)).trans HKD.out)
    have HW1:=qh (qa5 HW.out hba)
    have HP1:=qh (HP.out.keep hba)
    have HB1:=qh (qac HB.out HB.out.size hba)
    have hs1:=Nat.le_trans hsz hba.size
    refine hC.mono ?_
    clear hC hba HKD HW HP HB
    rintro e w4 ⟨f,Af,cf,ok,rfl,hf,hfn,hfs,hb4⟩
    have HK4:=qh ((hb4.block _ (qg HK1.out)).trans HK1.out)
    have HW4:=qh (qa5 HW1.out hb4)
    have HB4:=qh (qac HB1.out HB1.out.size hb4)
    have hs4:=Nat.le_trans hs1 hb4.size
    have HP4:Hid (RepN (RowS (w.heap.size+2) (.slice A' i c')) w4 3 (fdsD (l ++ [f])) (ys ++ [.int .u64 (f.n:Int),.string (bs f.b),.slice Af f.l.length cf])):=qh (by
     rw [qe4]
     exact RepN.snoc (qsk (hf.mono fun b _ hb=>⟨⟨Nat.le_trans hs1 hb,fun e=>by have h1:=(HW1.out.lt _ e).2;have h2:_≤b:=hb;omega⟩,rfl⟩)) rfl (HP1.out.keep hb4))
    clear hf hb4 HK1 HW1 HP1 HB1
    cases hun:un i with
    | none =>
     have HNO:Hid (R=none):=qh (by rw [HN.out];exact qhq hun hlt)
     obtain rfl:ok=false:=hfn hun
     clear hfn hfs hun
     go_wp2_with fail
     go_ret2
     exact qcb HNO.out (HB4.out.alloc (by have:=HB4.out.size;omega) _)
    | some f1 =>
     obtain ⟨rfl,rfl⟩:=hfs f1 hun
     have HRN:Hid (runQ un (i+1)=some (l ++ [f])):=qh (qky hrun.out hun)
     clear hfn hfs hun hrun
     go_wp2_with (at_builtin;refine qa0 qfc rfl rfl (w.heap.size+2) ((HW4.out.alloc _).alloc _) rfl (m:=1) [.int .u64 (f.n:Int),.string (bs f.b),.slice Af f.l.length cf] rfl rfl ?_ ?_ ?_ ?_ ?_ ?_;exact (qco _ _ (by simp) _ _);(intro u hu;simp at hu;rcases hu with rfl | rfl | rfl <;> rfl);(simp only [maxLen];omega);omega;(simp;omega);intro v1 w8 hown1 hg1 hat1;obtain ⟨A3,c3,rfl⟩:=qa4 hown1)
     have hba:Below w4.heap.size w4 ((w4.alloc (.cells #[.int .u64 (f.n:Int),.string (bs f.b),.slice Af f.l.length cf] 81)).alloc (.cells #[.int .u64 (f.n:Int),.string (bs f.b),.slice Af f.l.length cf] 81)):=((Below.refl _ _).alloc qn _).alloc (by simp) _
     have hsz2:w4.heap.size+2=((w4.alloc (.cells #[.int .u64 (f.n:Int),.string (bs f.b),.slice Af f.l.length cf] 81)).alloc (.cells #[.int .u64 (f.n:Int),.string (bs f.b),.slice Af f.l.length cf] 81)).heap.size:=by simp
     have hK8:=(hg1.block w.heap.size (by omega) (fun e=>by have:=(HW4.out.lt _ e.symm).1;omega)).trans ((hba.block w.heap.size (by omega)).trans HK4.out)
     have hB8:=qa7 (qac HB4.out HB4.out.size hba) (qa5 HW4.out hba) hg1 (by omega) (by omega)
     have hP8:=qeq (HP4.out.keep hba) hg1 hat1
     have hs8:=hg1.size
     go_roundw
     case rel=>exact ⟨i+1,l ++ [f],ys ++ [.int .u64 (f.n:Int),.string (bs f.b),.slice Af f.l.length cf],by go_num,by omega,by rw [List.length_append,List.length_singleton,← HIL.out],HRN,hK8,hown1,hP8,hB8,by omega⟩
     case measure=>simp [intOf];omega
   ·obtain rfl:i=x.ks.length:=by omega
    have HRN:Hid (R=some l):=qh (by rw [HN.out];exact hrun.out)
    have HW:=qh hown
    have HP:=qh hrep
    have HB:=qh hB
    have HIL:=qh hil
    clear hown hrep hB hKd hrun hil
    go_wp2_with fail
    go_ret2
    refine ⟨l,A',c',true,by rw [← HIL.out];rfl,?_,(fun h=>by rw [HRN.out] at h;cases h),(fun g h=>by rw [HRN.out] at h;injection h with h;exact ⟨rfl,h⟩),HB.out⟩
    have:=qck (S:=From w.heap.size) HW.out (RepN.mono HP.out fun b _ hb=>⟨by have:=hb.1;show w.heap.size≤b;omega,rfl⟩) (by unfold fdsD;rw [List.length_map,← HIL.out]) (fun b h1 _=>by show w.heap.size≤b;omega)
    unfold FdsV
    rw [← HIL.out]
    exact this
/- The walks of frame.field and Read. -/
theorem qtj (x:Item):((valP x).2=0∧valQ x=some (valP x).1)∨((valP x).2=4∧valQ x=none):=by
 unfold valP valQ
 split
 ·exact .inr ⟨rfl,rfl⟩
 ·exact .inl ⟨rfl,rfl⟩
theorem unF_num (x:Item):unF ⟨110,false⟩ x=(valQ x).map fun n=>⟨n,[],[]⟩:=by
 unfold unF unLf
 simp only [if_false,Bool.false_eq_true,if_true,Option.map_map]
 rfl
theorem qhc {c:UInt8} (h:c≠110) (x:Item):unF ⟨c,false⟩ x=if x.l=true then none else some ⟨0,x.b,[]⟩:=by
 unfold unF unLf
 simp only [Bool.false_eq_true,if_false,if_neg h]
 split <;> rfl
theorem unF_star (c:UInt8) (x:Item):unF ⟨c,true⟩ x=if x.l=true then (unLfs c x.ks).map fun l=>⟨0,[],l⟩ else none:=by
 unfold unF
 simp only [if_true]
theorem qhm (w:World) (o0 o1 o2:Obj):(((w.alloc o0).alloc o1).alloc o2).heap[w.heap.size]? = some o0∧(((w.alloc o0).alloc o1).alloc o2).heap[w.heap.size+1]? = some o1∧(((w.alloc o0).alloc o1).alloc o2).heap[w.heap.size+1+1]? = some o2∧Below w.heap.size w (((w.alloc o0).alloc o1).alloc o2)∧(((w.alloc o0).alloc o1).alloc o2).heap.size=w.heap.size+3:=by
 have z1:(w.alloc o0).heap.size=w.heap.size+1:=by simp
 have z2:((w.alloc o0).alloc o1).heap.size=w.heap.size+1+1:=by simp
 have h0:=heap_alloc_new w o0
 have h1:=heap_alloc_new (w.alloc o0) o1
 have h2:=heap_alloc_new ((w.alloc o0).alloc o1) o2
 rw [z1] at h1
 rw [z2] at h2
 refine ⟨?_,?_,h2,?_,by simp⟩
 ·rw [heap_alloc_old _ _ (by omega),heap_alloc_old _ _ (by omega)];exact h0
 ·rw [heap_alloc_old _ _ (by omega)];exact h1
 ·exact (((Below.refl _ _).alloc qn _).alloc (by omega) _).alloc (by omega) _
theorem qh3 {S:Nat→Prop} {w:World}:LfsV S w [] none 0:=Rep.nil_slice 3
theorem field_n (x:Item) (A:Option Addr) (c:Nat) (w:World) :
  Calls Tryz.prog 151 #[.agg #[.int .u8 110,.slice none 0 0],.agg #[.bool x.l,.string (bs x.b),.slice A x.ks.length c]] w (FldPost (unF ⟨110,false⟩ x) w):=by
 rw [unF_num]
 have hv:=qtj x
 generalize hR:((valQ x).map fun n=>(⟨n,[],[]⟩:Fd))=R
 have HV:=qh hv
 have HR:=qh hR
 clear hv hR
 obtain ⟨_,_,hRR,hB,hz⟩:=qhm w (.cells #[.int .u8 110,.slice none 0 0] 153) (.cells #[.bool x.l,.string (bs x.b),.slice A x.ks.length c] 53) (.cells #[.int .u64 0,.string ⟨#[]⟩,.slice none 0 0] 81)
 have HRR:=qh hRR
 have HB:=qh hB
 clear hRR hB hz
 go_enter Tryz.func151,Tryz.ntmps151
 go_wp2_with fail
 refine (qr6 x A c _).mono ?_
 rintro e w1 ⟨rfl,hb1⟩
 have hR1:=(hb1.block _ (qg HRR.out)).trans HRR.out
 have HB1:=qh (qac HB.out HB.out.size hb1)
 have r0:w1.cell? ⟨w.heap.size+1+1,0,none⟩=some (.int .u64 0):=rc0 hR1
 have r1:w1.cell? ⟨w.heap.size+1+1,1,none⟩=some (.string ⟨#[]⟩):=rc1 hR1
 have r2:w1.cell? ⟨w.heap.size+1+1,2,none⟩=some (.slice none 0 0):=rc2 hR1
 have f0:=rf hR1 0
 have f1:=rf hR1 1
 have f2:=rf hR1 2
 have HR1:=qh hR1
 obtain ⟨vn,hvn⟩:∃ vn,(valP x).1=vn:=⟨_,rfl⟩
 rw [hvn]
 have HVN:=qh hvn
 clear hR1 hb1 hvn HB HRR
 rcases HV.out with ⟨hv1,hv2⟩ | ⟨hv1,hv2⟩
 ·rw [hv1]
  have HV2:=qh hv2
  clear hv1 hv2
  go_wp2_with fail
  have hfin:=qaa (qaa (qaa HR1.out (i:=0) (.int .u64 (vn:Int))) (i:=1) (.string ⟨#[]⟩)) (i:=2) (.slice none 0 0)
  refine bodyPost_ret (v:=.tuple #[.agg #[.int .u64 (vn:Int),.string ⟨#[]⟩,.slice none 0 0],.bool true]) (qah rfl _ _ (w.heap.size+1+1) _ _ _ _ rfl hfin _ rfl Tryz.underlying81 rfl infoF) rfl ?_
  refine ⟨⟨vn,[],[]⟩,none,0,true,rfl,qh3,(fun h=>by rw [← HR.out,HV2.out] at h;cases h),(fun g h=>by rw [← HR.out,HV2.out,HVN.out] at h;injection h with h;exact ⟨rfl,h⟩),((HB1.out.setCell (p:=⟨w.heap.size+1+1,_,_⟩) (by simp;omega) _).setCell (p:=⟨w.heap.size+1+1,_,_⟩) (by simp;omega) _).setCell (p:=⟨w.heap.size+1+1,_,_⟩) (by simp;omega) _⟩
 ·rw [hv1]
  have HV2:=qh hv2
  clear hv1 hv2
  go_wp2_with fail
  have hfin:=qaa (qaa (qaa HR1.out (i:=0) (.int .u64 (vn:Int))) (i:=1) (.string ⟨#[]⟩)) (i:=2) (.slice none 0 0)
  refine bodyPost_ret (v:=.tuple #[.agg #[.int .u64 (vn:Int),.string ⟨#[]⟩,.slice none 0 0],.bool false]) (qah rfl _ _ (w.heap.size+1+1) _ _ _ _ rfl hfin _ rfl Tryz.underlying81 rfl infoF) rfl ?_
  refine ⟨⟨vn,[],[]⟩,none,0,false,rfl,qh3,(fun _=>rfl),(fun g h=>by rw [← HR.out,HV2.out] at h;cases h),((HB1.out.setCell (p:=⟨w.heap.size+1+1,_,_⟩) (by simp;omega) _).setCell (p:=⟨w.heap.size+1+1,_,_⟩) (by simp;omega) _).setCell (p:=⟨w.heap.size+1+1,_,_⟩) (by simp;omega) _⟩
theorem qj2 (ci:UInt8) (h1:((ci.toNat:Int) == 110)=false) (h3:((ci.toNat:Int) == 40)=false) (h4:((ci.toNat:Int) == 42)=false) (x:Item) (A:Option Addr) (c:Nat) (w:World) :
  Calls Tryz.prog 151 #[.agg #[.int .u8 ci.toNat,.slice none 0 0],.agg #[.bool x.l,.string (bs x.b),.slice A x.ks.length c]] w (FldPost (if x.l=true then none else some ⟨0,x.b,[]⟩) w):=by
 obtain ⟨R,hR⟩:∃ R,(if x.l=true then none else some (⟨0,x.b,[]⟩:Fd))=R:=⟨_,rfl⟩
 rw [hR]
 obtain ⟨_,hXX,hRR,hB,hz⟩:=qhm w (.cells #[.int .u8 ci.toNat,.slice none 0 0] 153) (.cells #[.bool x.l,.string (bs x.b),.slice A x.ks.length c] 53) (.cells #[.int .u64 0,.string ⟨#[]⟩,.slice none 0 0] 81)
 have HXX:=qh hXX
 have HRR:=qh hRR
 have HB:=qh hB
 have HR:=qh hR
 clear hRR hB hz hXX hR
 go_enter Tryz.func151,Tryz.ntmps151
 go_wp2_with fail
 generalize (((w.alloc (.cells #[.int .u8 ci.toNat,.slice none 0 0] 153)).alloc (.cells #[.bool x.l,.string (bs x.b),.slice A x.ks.length c] 53)).alloc (.cells #[.int .u64 0,.string ⟨#[]⟩,.slice none 0 0] 81))=W0 at HXX HRR HB ⊢
 have x0:W0.cell? ⟨w.heap.size+1,0,none⟩=some (.bool x.l):=rc0 HXX.out
 have x1:W0.cell? ⟨w.heap.size+1,1,none⟩=some (.string (bs x.b)):=rc1 HXX.out
 have r0:W0.cell? ⟨w.heap.size+1+1,0,none⟩=some (.int .u64 0):=rc0 HRR.out
 have r1:W0.cell? ⟨w.heap.size+1+1,1,none⟩=some (.string ⟨#[]⟩):=rc1 HRR.out
 have r2:W0.cell? ⟨w.heap.size+1+1,2,none⟩=some (.slice none 0 0):=rc2 HRR.out
 have f0:=rf HRR.out 0
 have f1:=rf HRR.out 1
 have f2:=rf HRR.out 2
 obtain ⟨xl,hxl⟩:∃ xl,x.l=xl:=⟨_,rfl⟩
 rw [hxl] at x0 ⊢
 have HXL:=qh hxl
 clear hxl
 go_region
 go_wp2_with fail
 have hfin:=qaa (qaa (qaa HRR.out (i:=0) (.int .u64 0)) (i:=1) (.string (bs x.b))) (i:=2) (.slice none 0 0)
 refine bodyPost_ret (v:=.tuple #[.agg #[.int .u64 0,.string (bs x.b),.slice none 0 0],.bool (!xl)]) (qah rfl _ _ (w.heap.size+1+1) _ _ _ _ rfl (by exact hfin) _ rfl Tryz.underlying81 rfl infoF) rfl ?_
 have hb:Below w.heap.size w (((W0.setCell ⟨w.heap.size+1+1,0,none⟩ (.int .u64 0)).setCell ⟨w.heap.size+1+1,1,none⟩ (.string (bs x.b))).setCell ⟨w.heap.size+1+1,2,none⟩ (.slice none 0 0)).drew:=(((HB.out.setCell (p:=⟨w.heap.size+1+1,_,_⟩) (by simp;omega) _).setCell (p:=⟨w.heap.size+1+1,_,_⟩) (by simp;omega) _).setCell (p:=⟨w.heap.size+1+1,_,_⟩) (by simp;omega) _).drew
 cases xl with
 | true=>exact ⟨⟨0,x.b,[]⟩,none,0,false,rfl,qh3,(fun _=>rfl),(fun g h=>by rw [← HR.out,if_pos HXL.out] at h;cases h),hb⟩
 | false=>exact ⟨⟨0,x.b,[]⟩,none,0,true,rfl,qh3,(fun h=>by rw [← HR.out,if_neg (by rw [HXL.out];decide)] at h;cases h),(fun g h=>by rw [← HR.out,if_neg (by rw [HXL.out];decide)] at h;injection h with h;exact ⟨rfl,h⟩),hb⟩
theorem qd9 (kc:UInt8) (hc:okC kc) (x:Item) (A:Option Addr) (c:Nat) (w:World) :
  Calls Tryz.prog 151 #[.agg #[.int .u8 kc.toNat,.slice none 0 0],.agg #[.bool x.l,.string (bs x.b),.slice A x.ks.length c]] w (FldPost (unF ⟨kc,false⟩ x) w):=by
 rcases hc with rfl | rfl | rfl | rfl | rfl
 ·exact field_n x A c w
 ·rw [qhc (by decide)];exact qj2 104 (by decide) (by decide) (by decide) x A c w
 ·rw [qhc (by decide)];exact qj2 97 (by decide) (by decide) (by decide) x A c w
 ·rw [qhc (by decide)];exact qj2 115 (by decide) (by decide) (by decide) x A c w
 ·rw [qhc (by decide)];exact qj2 98 (by decide) (by decide) (by decide) x A c w
theorem qhh (un:Nat→Option Fd):∀ n,runQ un (n+1)=match un 0,runQ (fun i=>un (i+1)) n with
  | some f,some l=>some (f :: l)
  | _,_=>none
 | 0=>by simp only [runQ];cases un 0 <;> rfl
 | n+1=>by
  rw [runQ,qhh un n,runQ]
  cases un 0 with
  | none=>rfl
  | some f =>
   cases runQ (fun i=>un (i+1)) n with
   | none=>rfl
   | some l=>cases un (n+1) <;> rfl
theorem unF_up (c:UInt8) (x:Item):unF ⟨c,false⟩ x=(unLf c x).map upF:=by
 unfold unF
 simp only [Bool.false_eq_true,if_false]
 rfl
theorem qkt (c:UInt8):∀ xs:List Item,runQ (fun i=>(xs[i]?).bind (unF ⟨c,false⟩)) xs.length=(unLfs c xs).map (List.map upF)
 | []=>rfl
 | x :: xs=>by
  rw [List.length_cons,qhh]
  have:=qkt c xs
  simp only [List.getElem?_cons_zero,List.getElem?_cons_succ,Option.bind_some]
  rw [this,unLfs,unF_up]
  cases unLf c x with
  | none=>rfl
  | some f=>cases unLfs c xs <;> rfl
theorem qnd:∀ (ks:List Kd) (xs:List Item),xs.length=ks.length→runQ (fun i=>(xs[i]?).bind (unF (ks.getD i noK))) xs.length=unFs ks xs
 | [],[],_=>rfl
 | [],x :: xs,h=>by cases h
 | k :: ks,[],h=>by cases h
 | k :: ks,x :: xs,h=>by
  rw [List.length_cons,qhh]
  have:=qnd ks xs (by simpa using h)
  simp only [List.getElem?_cons_zero,List.getElem?_cons_succ,Option.bind_some,List.getD_cons_zero,List.getD_cons_succ]
  rw [this,unFs]
  cases unF k x with
  | none=>rfl
  | some f=>cases unFs ks xs <;> rfl
theorem qog:∀ (ks:List Kd) (xs:List Item),xs.length≠ks.length→unFs ks xs=none
 | [],[],h=>absurd rfl h
 | [],x :: xs,_=>rfl
 | k :: ks,[],_=>rfl
 | k :: ks,x :: xs,h=>by
  rw [unFs,qog ks xs (by simpa using h)]
  cases unF k x <;> rfl
theorem qin (kc:UInt8) (hc:okC kc) (x:Item) (hkl:x.ks.length≤100000) (Ak:Option Addr) (n1 ck:Nat) (A:Option Addr) (c:Nat) (w:World) (hrk:Rep Any w (kdD ⟨kc,true⟩) [.int .u8 42,.slice Ak n1 ck]) (hx:ItemV Any w x A c) :
  Calls Tryz.prog 151 #[.agg #[.int .u8 42,.slice Ak n1 ck],.agg #[.bool x.l,.string (bs x.b),.slice A x.ks.length c]] w (FldPost (unF ⟨kc,true⟩ x) w):=by
 obtain ⟨g,o,ck',hcs,z0,z1⟩:=qdw hrk
 obtain ⟨rfl,rfl,rfl⟩:Ak=some ⟨g,o,none⟩∧n1=1∧ck=ck':=by
  injection hcs with h1 h2
  injection h2 with h2 h3
  injection h2 with a b c
  exact ⟨a,b,c⟩
 obtain ⟨R,hR⟩:∃ R,unF ⟨kc,true⟩ x=R:=⟨_,rfl⟩
 rw [hR]
 rw [unF_star] at hR
 obtain ⟨_,hXX,hRR,hB,hz⟩:=qhm w (.cells #[.int .u8 42,.slice (some ⟨g,o,none⟩) 1 ck] 153) (.cells #[.bool x.l,.string (bs x.b),.slice A x.ks.length c] 53) (.cells #[.int .u64 0,.string ⟨#[]⟩,.slice none 0 0] 81)
 have hF:=qmx kc (fun i=>(x.ks[i]?).bind (unF ⟨kc,false⟩)) x hkl A c (some ⟨g,o,none⟩) ck ((((w.alloc (.cells #[.int .u8 42,.slice (some ⟨g,o,none⟩) 1 ck] 153)).alloc (.cells #[.bool x.l,.string (bs x.b),.slice A x.ks.length c] 53)).alloc (.cells #[.int .u64 0,.string ⟨#[]⟩,.slice none 0 0] 81)))
  (fun W hb=>⟨g,o,rfl,(bcell (qac hB hB.size hb)).1 _ _ (qaz z0) |>.trans z0,(bcell (qac hB hB.size hb)).1 _ _ (qaz z1) |>.trans z1⟩) (hx.keep hB)
  (fun i y s A1 n1 c1 A2 c2 W hy hk hv=>by
   have:=qbs (c:=kc) (cs:=[.int .u8 s,.slice A1 n1 c1]) hk
   unfold cellK at this
   injection this with h1 h2
   injection h2 with h2 h3
   injection h1 with h1 h4
   injection h2 with a b c
   subst h4;subst a;subst b;subst c
   show Calls _ _ _ _ (FldPost ((x.ks[i]?).bind (unF ⟨kc,false⟩)) W)
   rw [hy]
   exact qd9 kc hc y A2 c2 W)
 rw [qkt] at hF
 have HRR:=qh hRR
 have HB:=qh hB
 have HR:=qh hR
 have HF:=qh hF
 clear hRR hB hz hXX hR hF hx hrk z0 z1 hcs
 go_enter Tryz.func151,Tryz.ntmps151
 go_wp2_with fail
 refine HF.out.mono ?_
 rintro e w1 ⟨l,Al,cl,ok,rfl,hl,hn,hs,hb1⟩
 have hR1:=(hb1.block _ (qg HRR.out)).trans HRR.out
 have HB1:=qh (qac HB.out HB.out.size hb1)
 have r0:w1.cell? ⟨w.heap.size+1+1,0,none⟩=some (.int .u64 0):=rc0 hR1
 have r1:w1.cell? ⟨w.heap.size+1+1,1,none⟩=some (.string ⟨#[]⟩):=rc1 hR1
 have r2:w1.cell? ⟨w.heap.size+1+1,2,none⟩=some (.slice none 0 0):=rc2 hR1
 have f0:=rf hR1 0
 have f1:=rf hR1 1
 have f2:=rf hR1 2
 have HR1:=qh hR1
 have HL:Hid (FdsV (From (w.heap.size+1+1+1)) w1 l Al cl):=qh (by have h:=hl;simp only [World.size_alloc] at h;exact h)
 have HN:=qh hn
 have HS:=qh hs
 clear hR1 hb1 HB HRR hl hn hs HF
 go_wp2_with fail
 have hfin:=qaa (qaa (qaa HR1.out (i:=0) (.int .u64 0)) (i:=1) (.string ⟨#[]⟩)) (i:=2) (.slice Al l.length cl)
 refine bodyPost_ret (v:=.tuple #[.agg #[.int .u64 0,.string ⟨#[]⟩,.slice Al l.length cl],.bool ok]) (qah rfl _ _ (w.heap.size+1+1) _ _ _ _ rfl (by exact hfin) _ rfl Tryz.underlying81 rfl infoF) rfl ?_
 have hb:Below w.heap.size w (((w1.setCell ⟨w.heap.size+1+1,0,none⟩ (.int .u64 0)).setCell ⟨w.heap.size+1+1,1,none⟩ (.string ⟨#[]⟩)).setCell ⟨w.heap.size+1+1,2,none⟩ (.slice Al l.length cl)):=((HB1.out.setCell (p:=⟨w.heap.size+1+1,_,_⟩) (by simp;omega) _).setCell (p:=⟨w.heap.size+1+1,_,_⟩) (by simp;omega) _).setCell (p:=⟨w.heap.size+1+1,_,_⟩) (by simp;omega) _
 have hlv:∀ m:List Lf,l=m.map upF→LfsV (From w.heap.size) (((w1.setCell ⟨w.heap.size+1+1,0,none⟩ (.int .u64 0)).setCell ⟨w.heap.size+1+1,1,none⟩ (.string ⟨#[]⟩)).setCell ⟨w.heap.size+1+1,2,none⟩ (.slice Al l.length cl)) m Al cl:=fun m hm=>by
  have h:=HL.out
  rw [hm] at h
  unfold FdsV at h
  rw [qm3,List.length_map] at h
  exact Rep.mono h fun b _ hb=>⟨by have h1:_≤b:=hb;show w.heap.size≤b;omega,by have h1:_≤b:=hb;rw [qab (by omega),qab (by omega),qab (by omega)]⟩
 cases hr:(if x.l=true then (unLfs kc x.ks).map (List.map upF) else none:Option (List Fd)) with
 | none =>
  obtain ⟨rfl,rfl,rfl,rfl⟩:=HN.out hr
  have hRn:R=none:=by
   rw [← HR.out]
   split at hr
   ·rename_i hl
    rw [if_pos hl]
    cases hu:unLfs kc x.ks with
    | none=>rfl
    | some m=>rw [hu] at hr;cases hr
   ·rename_i hl
    rw [if_neg hl]
  exact ⟨⟨0,[],[]⟩,none,0,false,rfl,qh3,(fun _=>rfl),(fun g h=>by rw [hRn] at h;cases h),hb⟩
 | some g =>
  obtain ⟨rfl,rfl⟩:=HS.out g hr
  split at hr
  ·rename_i hl
   cases hu:unLfs kc x.ks with
   | none=>rw [hu] at hr;cases hr
   | some m =>
    rw [hu] at hr
    injection hr with hr
    have hRn:R=some ⟨0,[],m⟩:=by rw [← HR.out,if_pos hl,hu];rfl
    have hml:l.length=m.length:=by rw [← hr,List.length_map]
    exact ⟨⟨0,[],m⟩,Al,cl,true,by rw [hml];rfl,hlv m hr.symm,(fun h=>by rw [hRn] at h;cases h),(fun g h=>by rw [hRn] at h;injection h with h;exact ⟨rfl,h⟩),hb⟩
  ·cases hr
theorem qom (k:Kd) (hc:okC k.c) (x:Item) (hkl:x.ks.length≤100000) (s:Int) (A1:Option Addr) (n1 c1:Nat) (A:Option Addr) (c:Nat) (w:World) (hrk:Rep Any w (kdD k) [.int .u8 s,.slice A1 n1 c1]) (hx:ItemV Any w x A c) :
  Calls Tryz.prog 151 #[.agg #[.int .u8 s,.slice A1 n1 c1],.agg #[.bool x.l,.string (bs x.b),.slice A x.ks.length c]] w (FldPost (unF k x) w):=by
 obtain ⟨kc,st⟩:=k
 cases st with
 | false =>
  have:=qbs (c:=kc) (cs:=[.int .u8 s,.slice A1 n1 c1]) hrk
  unfold cellK at this
  injection this with h1 h2
  injection h2 with h2 h3
  injection h1 with h1 h4
  injection h2 with a b c
  subst h4;subst a;subst b;subst c
  exact qd9 kc hc x A _ w
 | true =>
  obtain ⟨g,o,ck',hcs,z0,z1⟩:=qdw hrk
  injection hcs with h1 h2
  injection h2 with h2 h3
  injection h1 with h1 h4
  subst h4
  exact qin kc hc x hkl A1 n1 c1 A c w hrk hx
/-- what Read says -/
def FrPost (ks:List Kd) (s:Bytes) (w:World) (e:Ending) (w':World):Prop :=
 ∃ (l:List Fd) (A:Option Addr) (c no:Nat),e=.returned (.tuple #[.slice A l.length c,.int .i64 no])∧FdsV (From w.heap.size) w' l A c∧FrSaid ks s l no∧Below w.heap.size w w'
theorem qff {ks:List Kd} {s:Bytes} {w w':World} (no:Nat) (h0:0 < no) (h:s.length≤4000→∀ m,fitsP ks m=true→smallF m→s≠writeP (recF ks m)) (hb:Below w.heap.size w w'):FrPost ks s w (.returned (.tuple #[.slice none 0 0,.int .i64 no])) w' :=
 ⟨[],none,0,no,rfl,Rep.nil_slice 3,.inr ⟨h0,rfl,h⟩,hb⟩
theorem qq0 (ks:List Kd) (x:Item):(if x.l=true∧x.ks.length=ks.length then runQ (fun i=>(x.ks[i]?).bind (unF (ks.getD i noK))) x.ks.length else none)=unTop ks x:=by
 unfold unTop
 by_cases h1:x.l=true
 ·by_cases h2:x.ks.length=ks.length
  ·rw [if_pos ⟨h1,h2⟩,if_pos h1,qnd ks x.ks h2]
  ·rw [if_neg (fun h=>h2 h.2),if_pos h1,qog ks x.ks h2]
 ·rw [if_neg (fun h=>h1 h.1),if_neg h1]
theorem qkw (c:UInt8):∀ {xs:List Item} {l:List Lf},unLfs c xs=some l→l.length=xs.length
 | [],l,h=>by simp [unLfs] at h;subst h;rfl
 | x :: xs,l,h=>by
  rw [unLfs] at h
  split at h
  ·rename_i f r hf hr
   injection h with h
   subst h
   simp [qkw c hr]
  ·cases h
theorem unF_kids {k:Kd} {x:Item} {f:Fd} (h:unF k x=some f):f.l.length≤countP x:=by
 unfold unF at h
 split at h
 ·split at h
  ·cases hu:unLfs k.c x.ks with
   | none=>rw [hu] at h;cases h
   | some m =>
    rw [hu] at h
    injection h with h
    subst h
    have h1:=qkw k.c hu
    have h2:=qcj x.ks
    have h3:countP x=1+countsP x.ks:=by cases x;rfl
    show m.length≤_
    omega
  ·cases h
 ·cases hu:unLf k.c x with
  | none=>rw [hu] at h;cases h
  | some m =>
   rw [hu] at h
   injection h with h
   subst h
   exact Nat.zero_le _
theorem qln:∀ {ks:List Kd} {xs:List Item} {l:List Fd},unFs ks xs=some l→∀ f∈l,f.l.length≤countsP xs
 | [],[],l,h,f,hf=>by simp [unFs] at h;subst h;cases hf
 | [],x :: xs,l,h,f,hf=>by simp [unFs] at h
 | k :: ks,[],l,h,f,hf=>by simp [unFs] at h
 | k :: ks,x :: xs,l,h,f,hf=>by
  rw [unFs] at h
  split at h
  ·rename_i g r hg hr
   injection h with h
   subst h
   rw [countsP]
   rcases List.mem_cons.1 hf with rfl | hf
   ·have:=unF_kids hg;omega
   ·have:=qln hr f hf;omega
  ·cases h
/-- of a text that is no item, or one too long or too deep -/
theorem qph {ks:List Kd} {s:Bytes} {x:Item} {no:Nat} (hk:ks.length≤20) (h:DecSaid s x no) (h0:0 < no):s.length≤4000→∀ m,fitsP ks m=true→smallF m→s≠writeP (recF ks m):=by
 intro hs m hm hn e
 obtain ⟨a1,a2,a3,_⟩:=qev hm hn hk
 rcases h with ⟨h,_⟩ | ⟨_,h,_⟩ | ⟨_,_,_,y,hy,e2,hd⟩ | ⟨_,_,_,h⟩
 ·omega
 ·omega
 ·have:=(qbx y (recF ks m) [] [] hy a2 (by rw [← e2];omega) (by omega) (by rw [← e2,← e])).1
  rw [this] at hd
  omega
 ·exact h _ a2 e
theorem qhw {ks:List Kd} {s:Bytes} {x:Item} (hk:ks.length≤20) (hp:pureP x=true) (e:s=writeP x) (hs:s.length≤4000) {m:List Fd} (hm:fitsP ks m=true) (hn:smallF m) (e2:s=writeP (recF ks m)):unTop ks x=some m:=by
 obtain ⟨a1,a2,a3,_⟩:=qev hm hn hk
 have:=(qbx x (recF ks m) [] [] hp a2 (by rw [← e];omega) (by omega) (by rw [← e,← e2])).1
 rw [this]
 exact qhu hm hn
theorem qfo {ks:List Kd} {l:List Fd} (hk:ks.length≤20) (h:fitsP ks l=true) (hn:smallF l) (hl:(writeP (recF ks l)).length≤4000):encR (recF ks l)=(writeP (recF ks l),0):=by
 obtain ⟨a1,a2,a3,a4⟩:=qev h hn hk
 unfold encR wellP
 rw [a2]
 simp only [Bool.true_and]
 rw [if_neg (by simp;omega),if_neg (by omega),if_neg (by omega)]
theorem qlz (ks:List Kd) (hf:OkForm ks) (hl:(formP ks).length≤40) (hk:ks.length≤20) (s:Bytes) (w:World) :
  Calls Tryz.prog 45 #[.string (bs (formP ks)),.string (bs s)] w (FrPost ks s w):=by
 have hK:=qlr ks hf hl w
 have HK:=qh hK
 clear hK
 go_enter Tryz.func45,Tryz.ntmps45
 go_wp2_with fail
 refine HK.out.mono ?_
 rintro e w1 ⟨Ak,ck,rfl,hkv,hb1⟩
 have HKV:=qh (Rep.any hkv)
 have HB1:=qh hb1
 clear hkv hb1 HK
 go_wp2_with fail
 refine (qix s _).mono ?_
 rintro e w2 ⟨hb2,x,A,c,no,rfl,hxv,hsaid⟩
 have HKV2:=qh (Rep.keep HKV.out hb2)
 have HB2:=qh (qac HB1.out HB1.out.size hb2)
 have HXV:=qh (ItemV.keep (hxv.mono (S':=Any) fun b _ _=>⟨trivial,rfl⟩) ((Below.refl w2.heap.size w2).alloc qn (.cells #[.bool x.l,.string (bs x.b),.slice A x.ks.length c] 53)))
 have HS:=qh hsaid
 clear hb2 hxv hsaid HKV HB1
 by_cases h0:no=0
 case neg =>
  have h0I:((no:Int) == 0)=false:=by rw [beq_eq_false_iff_ne];omega
  have h0I2:((no:Int) != 0)=true:=by rw [bne,h0I];rfl
  go_wp2_with fail
  go_ret2
  exact qff no (by omega) (qph hk HS.out (by omega)) (HB2.out.alloc HB2.out.size _)
 subst h0
 obtain ⟨hs4,hp,he⟩:s.length≤4000∧pureP x=true∧s=writeP x:=by
  rcases HS.out with ⟨_,h,_⟩ | ⟨h1,_,h2,h3,_⟩ | ⟨_,h,_⟩ | ⟨_,h,_⟩
  ·omega
  ·exact ⟨h1,h2,h3⟩
  ·omega
  ·omega
 have hcx:=qfw x hp
 rw [← he] at hcx
 have hkx:=qcj x.ks
 have hcx1:countP x=1+countsP x.ks:=by cases x;rfl
 have hba2:Below w2.heap.size w2 (w2.alloc (.cells #[.bool x.l,.string (bs x.b),.slice A x.ks.length c] 53)):=(Below.refl _ _).alloc qn _
 have hF:=qpk ks (fun i=>(x.ks[i]?).bind (unF (ks.getD i noK))) (by omega) x A c Ak ck (w2.alloc (.cells #[.bool x.l,.string (bs x.b),.slice A x.ks.length c] 53)) (Rep.keep HKV2.out hba2) HXV.out (fun i y s A1 n1 c1 A2 c2 W hy hi hrk hv=>by
  show Calls _ _ _ _ (FldPost ((x.ks[i]?).bind (unF (ks.getD i noK))) W)
  rw [hy]
  obtain ⟨k,hki⟩:=qan hi
  rw [qa9 hki] at hrk ⊢
  refine qom k (hf k (List.mem_of_getElem? hki)) y ?_ s A1 n1 c1 A2 c2 W hrk hv
  have h1:=qdf hy
  have h2:=qcj y.ks
  have h3:countP y=1+countsP y.ks:=by cases y;rfl
  omega)
 rw [qq0] at hF
 have HF:=qh hF
 have HB3:=qh (qac HB2.out HB2.out.size hba2)
 have HP:=qh hp
 have HE:=qh he
 have HC:Hid (countsP x.ks≤4000):=qh (by omega)
 have HS4:=qh hs4
 clear hF hp he hcx hkx hcx1 hba2 hs4 HKV2 HB2 HXV HS
 go_wp2_with fail
 refine HF.out.mono ?_
 rintro e w3 ⟨l,Al,cl,ok,rfl,hlv,hn,hs,hb3⟩
 have HB4:=qh (qac HB3.out HB3.out.size hb3)
 have HLV:Hid (FdsV (From w.heap.size) w3 l Al cl):=qh (Rep.mono hlv fun b _ h=>⟨Nat.le_trans HB3.out.size h,rfl⟩)
 clear HF hlv hb3 HB3
 cases hu:unTop ks x with
 | none =>
  obtain ⟨rfl,rfl,rfl,rfl⟩:=hn hu
  have HU:=qh hu
  clear hn hs hu
  go_wp2_with fail
  go_ret2
  exact qff 4 (by decide) (fun h m hm hsm e=>by have:=qhw hk HP.out HE.out h hm hsm e;rw [HU.out] at this;cases this) HB4.out
 | some g =>
  obtain ⟨rfl,rfl⟩:=hs g hu
  obtain ⟨u1,u2,u3⟩:=qpi HP.out hu
  have u4:∀ f∈l,f.l.length≤100000:=fun f hf=>by
   have hu2:=hu
   unfold unTop at hu2
   split at hu2
   ·have:=qln hu2 f hf
    have:=HC.out
    omega
   ·cases hu2
  have hW:=qep ks hf hl hk l u2 (by omega) u4 Al cl w3 (Rep.any HLV.out)
  have HU:=qh hu
  have HU1:=qh u1
  have HU2:=qh u2
  clear hn hs hu u1 u2 u3 u4
  by_cases hfit:fitsP ks l=true
  ·have he:encR (recF ks l)=(s,0):=by rw [qfo hk hfit HU2.out (by rw [← HU1.out,← HE.out];exact HS4.out),← HU1.out,← HE.out]
   have hfw:fwP ks l=(s,0):=by unfold fwP;rw [if_pos hfit,he]
   rw [hfw] at hW
   have HW:=qh hW
   have HFT:=qh hfit
   clear hW he hfw hfit
   go_wp2_with fail
   refine HW.out.mono ?_
   rintro e w4 ⟨rfl,hb4⟩
   have HB5:=qh (qac HB4.out HB4.out.size hb4)
   have HL5:=qh (Rep.keep HLV.out hb4)
   clear hb4 HB4 HLV HW
   go_wp2_with fail
   go_ret2
   exact ⟨l,Al,cl,0,rfl,HL5.out,.inl ⟨rfl,HFT.out,HU2.out,by rw [← HU1.out];exact HE.out,HS4.out⟩,HB5.out⟩
  ·have hfw:fwP ks l=([],1):=by unfold fwP;rw [if_neg hfit]
   rw [hfw] at hW
   have HW:=qh hW
   have HFT:=qh hfit
   clear hW hfw hfit
   go_wp2_with fail
   refine HW.out.mono ?_
   rintro e w4 ⟨rfl,hb4⟩
   have HB5:=qh (qac HB4.out HB4.out.size hb4)
   clear hb4 HB4 HLV HW
   go_wp2_with fail
   go_ret2
   exact qff 4 (by decide) (fun h m hm hsm e=>by
    have:=qhw hk HP.out HE.out h hm hsm e
    rw [HU.out] at this
    injection this with this
    subst this
    exact HFT.out hm) HB5.out
/- The walk of header.addrs. -/
/-- what stands ahead of a place -/
def prevV (l:List Bytes):Nat→Option Bytes
 | 0=>none
 | i+1=>l[i]?
theorem qpc {l:List Bytes} {i:Nat} {a:Bytes} (h:l[i]? = some a):riseV (prevV l i) (l.drop i)=(a.length == 20 && (match prevV l i with | none=>true | some p=>lessB p a) && riseV (prevV l (i+1)) (l.drop (i+1))):=by
 rw [qc0 h]
 show (a.length == 20 && _ && riseV (some a) _)=_
 rw [prevV,h]
 rfl
theorem qow {l:List Bytes}:riseV (prevV l l.length) (l.drop l.length)=true:=by rw [List.drop_length];cases prevV l l.length <;> rfl
theorem qp0 (l:List Bytes) (h63:∀ a∈l,a.length≤9223372036854775807) (A:Option Addr) (c:Nat) (w:World) (hv:StrV Any w l A c) :
  Calls Tryz.prog 218 #[.slice A l.length c] w fun e w'=>e=.returned (.bool (okVals l))∧w=w':=by
 have hl:=(Rep.slice_len hv).2
 simp only [maxLen] at hl
 have hl63:(l.length:Int)≤9223372036854775807:=by omega
 have hok:okVals l=(riseV (prevV l 0) (l.drop 0) && decide (1≤l.length) && decide (l.length≤16)):=by unfold okVals;rfl
 obtain ⟨R,hR⟩:∃ R,okVals l=R:=⟨_,rfl⟩
 rw [hR] at hok ⊢
 have HOK:=qh hok
 have HV:=qh hv
 have H63:=qh h63
 clear hok hv h63 hR hl
 go_enter Tryz.func218,Tryz.ntmps218
 go_wp2_with fail
 go_loop [7] (fun x=>∃ i:Nat,i≤l.length∧x=.int .i64 (i:Int)∧Hid (R=(riseV (prevV l i) (l.drop i) && decide (1≤l.length) && decide (l.length≤16)))) (fun x=>l.length - (intOf x).toNat)
 case atStart=>exact ⟨0,Nat.zero_le _,rfl,HOK⟩
 case round =>
  obtain ⟨i,hi,rfl,HI⟩:=hrel
  clear HOK
  by_cases hlt:i < l.length
  ·obtain ⟨a,ha⟩:=qan hlt
   obtain ⟨g,o,rfl,_,hc⟩:=StrV.at_ HV.out ha
   have hltI:(i:Int) < l.length:=by omega
   have ha63:(a.length:Int)≤9223372036854775807:=by have:=H63.out a (List.mem_of_getElem? ha);omega
   have hst:=HI.out
   rw [qpc ha] at hst
   cases hl20:((a.length:Int) == 20) with
   | false =>
    have hl20n:((a.length:Int) != 20)=true:=by rw [bne,hl20];rfl
    have hR:R=false:=by rw [hst,show (a.length == 20)=false by rw [beq_eq_false_iff_ne] at hl20 ⊢;omega];simp
    have HR:=qh hR
    clear hst hR HI
    go_wp2_with fail
    go_ret
    exact ⟨by rw [HR.out];rfl,rfl⟩
   | true =>
    have hl20n:((a.length:Int) != 20)=false:=by rw [bne,hl20];rfl
    rw [show (a.length == 20)=true by rw [beq_iff_eq] at hl20 ⊢;omega,Bool.true_and] at hst
    cases i with
    | zero =>
     simp only [prevV,Bool.true_and] at hst
     have HST:=qh hst
     clear hst HI ha
     simp only [Nat.add_zero] at hc
     go_wp2_with fail
     go_round
     case rel=>exact ⟨1,hlt,rfl,by have:=HST.out;rw [Nat.zero_add] at this;exact qh this⟩
     case measure=>simp [intOf];omega
    | succ k =>
     obtain ⟨p,hp⟩:=qan (show k < l.length by omega)
     obtain ⟨g2,o2,he,_,hc2⟩:=StrV.at_ HV.out hp
     injection he with he
     injection he with e1 e2
     subst e1;subst e2
     have hkI:(k:Int) < l.length:=by omega
     have hk0:(0:Int) < (k:Int)+1:=by omega
     have hsub:(k:Int)+1 - 1=k:=by omega
     have hkl1:(k:Int)+1 < l.length:=by omega
     simp only [prevV,hp] at hst
     cases hbl:Op.bytesLess p a with
     | false =>
      have hR:R=false:=by rw [hst,← qjy,hbl];simp
      have HR:=qh hR
      clear hst hR HI ha hp
      go_wp2_with fail
      go_ret
      exact ⟨by rw [HR.out];rfl,rfl⟩
     | true =>
      rw [← qjy,hbl,Bool.true_and] at hst
      have HST:=qh hst
      clear hst HI ha hp
      go_wp2_with fail
      go_round
      case rel=>exact ⟨k+1+1,hlt,by go_num,HST⟩
      case measure=>simp [intOf];omega
  ·obtain rfl:i=l.length:=by omega
   have hst:=HI.out
   rw [qow,Bool.true_and] at hst
   have HST:=qh hst
   by_cases h1:(1:Int)≤l.length
   ·by_cases h2:(l.length:Int)≤16
    ·have hR:R=true:=by rw [hst,decide_eq_true (show 1≤l.length by omega),decide_eq_true (show l.length≤16 by omega)];rfl
     have HR:=qh hR
     clear hst HI hR
     go_wp2_with fail
     go_ret
     exact ⟨by rw [HR.out];rfl,rfl⟩
    ·have hR:R=false:=by rw [hst,decide_eq_false (show ¬ l.length≤16 by omega),Bool.and_false]
     have HR:=qh hR
     clear hst HI hR
     go_wp2_with fail
     go_ret
     exact ⟨by rw [HR.out];rfl,rfl⟩
   ·have hR:R=false:=by rw [hst,decide_eq_false (show ¬ 1≤l.length by omega),Bool.false_and]
    have HR:=qh hR
    clear hst HI hR
    go_wp2_with fail
    go_ret
    exact ⟨by rw [HR.out];rfl,rfl⟩
end Go.Proofs.YteoednifdpdbnaaGreat
