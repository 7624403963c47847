/- rlp.Decode: the deferred closure, and the walk. -/
import Derived.Test.YteoednifdpdbnaaGreatZ17
import Derived.Defers
import Derived.Recover
namespace Go.Proofs.YteoednifdpdbnaaGreat
set_option linter.unusedVariables false
set_option linter.unusedSimpArgs false
open Go.RowKit
set_option maxHeartbeats 1000000
theorem ca {w:World} {b o:Nat} {v:Value} (h:w.cell? ⟨b,o,none⟩=some v) (x:Obj):(w.alloc x).cell? ⟨b,o,none⟩=some v:=by
 rw [World.cell?_alloc_lt _ _ _ (qaz h)];exact h
theorem fa {w:World} {b o:Nat} {u:Bool} (hl:b < w.heap.size) (h:w.frozen? ⟨b,o,none⟩=u) (x:Obj):(w.alloc x).frozen? ⟨b,o,none⟩=u:=by
 rw [← h];exact ((bcell ((Below.refl w.heap.size w).alloc qn x)).2 b o hl)
theorem qgn (p q:Addr) (w:World) :
  CallsD Tryz.prog 116 #[.pointer (some p),.pointer (some q)] .returning w fun e u' w'=>e=.returned (.tuple #[])∧u'=.returning∧w'=w:=by
 refine callsD_of_wpS Tryz.func116 rfl fun c₀ cs hu=>?_
 simp only [Tryz.ntmps116,List.size_toArray,List.length_cons,List.length_nil,Nat.reduceAdd,Nat.reduceSub,Array.replicate_succ,Array.replicate_zero,List.push_toArray,List.append_toArray,List.nil_append,List.cons_append]
 apply wpS_seq
 apply wpS_region
 simp [wpOpsS,go_sem,recoverD,hu,Tryz.ntmps116,Exit.thenS]
 refine wpS_of_wp ?_
 go_wp2_with fail
 cases c₀
 simp_all [bodyPostS,results,Tryz.results116]
theorem qrs (p:Nat) (q:Nat) (older:List PanicEntry) (w:World) (u0 u1 u2 u3:Value)
  (h0:w.cell? ⟨p,0,none⟩=some u0) (h1:w.cell? ⟨p,1,none⟩=some u1) (h2:w.cell? ⟨p,2,none⟩=some u2) (h3:w.cell? ⟨q,0,none⟩=some u3)
  (hf:∀ o,w.frozen? ⟨p,o,none⟩=false) (hq:w.frozen? ⟨q,0,none⟩=false) (hpq:¬ p=q) (hqp:¬ q=p) :
   CallsD Tryz.prog 116 #[.pointer (some ⟨p,0,none⟩),.pointer (some ⟨q,0,none⟩)] (.panicking ({ v:=badV,recovered:=false } :: older)) w fun e u' w' =>
    e=.returned (.tuple #[])∧u'=.panicking ({ v:=badV,recovered:=true } :: older) ∧
    (w'.cell? ⟨p,0,none⟩=some (.bool false)∧w'.cell? ⟨p,1,none⟩=some (.string ⟨#[]⟩)∧w'.cell? ⟨p,2,none⟩=some (.slice none 0 0)∧w'.cell? ⟨q,0,none⟩=some (.int .i64 4)) ∧
    (∀ B,B≤p→B≤q→Below B w w'):=by
 have hf0:=hf 0
 have hf1:=hf 1
 have hf2:=hf 2
 obtain ⟨q1,q2⟩:=bcell ((Below.refl w.heap.size w).alloc qn (.cells #[] 173))
 have lp:=qaz h0
 have lq:=qaz h3
 have a0:=(q1 p 0 lp).trans h0
 have a1:=(q1 p 1 lp).trans h1
 have a2:=(q1 p 2 lp).trans h2
 have a3:=(q1 q 0 lq).trans h3
 have af0:=(q2 p 0 lp).trans hf0
 have af1:=(q2 p 1 lp).trans hf1
 have af2:=(q2 p 2 lp).trans hf2
 have aq:=(q2 q 0 lq).trans hq
 clear q1 q2 hf
 have hta:∀ w,(Instr.typeAssert (.iface 173 (.agg #[])) 20 173 true).run Tryz.prog w=.ok (.tuple #[.agg #[],.bool true]) w:=fun w=>by kernel_rfl
 refine callsD_of_wpS Tryz.func116 rfl fun c₀ cs hu=>?_
 simp only [Tryz.ntmps116,List.size_toArray,List.length_cons,List.length_nil,Nat.reduceAdd,Nat.reduceSub,Array.replicate_succ,Array.replicate_zero,List.push_toArray,List.append_toArray,List.nil_append,List.cons_append]
 apply wpS_seq
 apply wpS_region
 unfold badV at hu
 simp [wpOpsS,go_sem,recoverD,hu,Tryz.ntmps116,Exit.thenS]
 refine wpS_of_wp ?_
 go_wp2_with fail
 refine ⟨rfl,_,rfl,_,results_none Tryz.results116 _ _ _,rfl,rfl,⟨?_,?_,?_,?_⟩,fun B hp hq=>?_⟩
 ·rw [World.cell?_alloc_lt _ _ _ (by simpa [World.setCell] using lp)];simp [go_sem,h0,h1,h2,h3,hpq,hqp]
 ·rw [World.cell?_alloc_lt _ _ _ (by simpa [World.setCell] using lp)];simp [go_sem,h0,h1,h2,h3,hpq,hqp]
 ·rw [World.cell?_alloc_lt _ _ _ (by simpa [World.setCell] using lp)];simp [go_sem,h0,h1,h2,h3,hpq,hqp]
 ·rw [World.cell?_alloc_lt _ _ _ (by simpa [World.setCell] using lq)];simp [go_sem,h0,h1,h2,h3,hpq,hqp]
 ·exact (((((Below.refl B w).setCell (p:=⟨p,0,none⟩) hp _).setCell (p:=⟨p,1,none⟩) hp _).setCell (p:=⟨p,2,none⟩) hp _).setCell (p:=⟨q,0,none⟩) hq _).alloc (by simp [World.setCell];omega) _
mutual
theorem qfw:∀ (x:Item),pureP x=true→countP x≤(writeP x).length
 | .mk false b ks,h=>by
  simp [pureP] at h
  obtain ⟨rfl,_⟩:=h
  have:=qcy (.mk false b [])
  simpa [countP,countsP] using this
 | .mk true b ks,h=>by
  simp [pureP] at h
  have h1:=countsP_le ks h.2
  have h2:=qfx 192 (writesP ks).length
  simp only [countP,writeP,List.length_append]
  omega
theorem countsP_le:∀ (ks:List Item),puresP ks=true→countsP ks≤(writesP ks).length
 | [],_=>by simp [countsP,writesP]
 | k :: ks,h=>by
  simp only [puresP,Bool.and_eq_true] at h
  have h1:=qfw k h.1
  have h2:=countsP_le ks h.2
  simp only [countsP,writesP,List.length_append]
  omega
end
def zeroI:Item:=.mk false [] []
/-- what Decode says of a text -/
def DecSaid (s:Bytes) (x:Item) (no:Nat):Prop :=
 (4000 < s.length∧no=2∧x=zeroI)∨(s.length≤4000∧no=0∧pureP x=true∧s=writeP x∧depthP x≤8) ∨
 (s.length≤4000∧no=5∧x=zeroI∧∃ y,pureP y=true∧s=writeP y∧8 < depthP y) ∨
 (s.length≤4000∧no=4∧x=zeroI∧∀ y,pureP y=true→s≠writeP y)
def DecPost (s:Bytes) (w:World) (e:Ending) (w':World):Prop :=
 Below w.heap.size w w'∧∃ (x:Item) (A:Option Addr) (c no:Nat),e=.returned (.tuple #[.agg #[.bool x.l,.string (bs x.b),.slice A x.ks.length c],.int .i64 no]) ∧
  ItemV (Fresh w.heap.size) w' x A c∧DecSaid s x no
theorem qc1 {s:Bytes} {w w':World} (no:Nat) (hb:Below w.heap.size w w') (h:DecSaid s zeroI no):DecPost s w (.returned (.tuple #[.agg #[.bool false,.string (bs []),.slice none 0 0],.int .i64 no])) w' :=
 ⟨hb,zeroI,none,0,no,rfl,ItemV.leaf _ _,h⟩
theorem qix (s:Bytes) (w:World):Calls Tryz.prog 64 #[.string (bs s)] w (DecPost s w):=by
 have hmf:∀ (fn:Fn) (first cap:Array Value) (w:World),(Instr.makeFunc fn first cap).run Tryz.prog w=.ok (.func fn first cap) w:=fun _ _ _ _=>rfl
 by_cases h4:(4000:Int) < s.length
 ·go_enter_defers Tryz.func64,Tryz.ntmps64
  go_wp2_with fail
  refine ⟨.tuple #[.agg #[.bool false,.string (bs []),.slice none 0 0],.int .i64 2],by simp [results,Tryz.results64,go_sem];rfl,?_⟩
  exact qc1 2 (((Below.refl _ _).alloc qn _).alloc (by simp) _) (.inl ⟨by omega,rfl,rfl⟩)
 ·go_enter_defers Tryz.func64,Tryz.ntmps64
  go_wp2_with fail
  refine (read_any 4100 s _ (by omega) (by omega)).mono ?_
  rintro e w1 ⟨hb1,⟨x,rest,A,c,hpx,hsx,rfl,hvx⟩ | ⟨rfl,hno⟩⟩
  ·have hb2:=hb1
   simp at hb2
   obtain ⟨q1,q2⟩:=bcell hb2
   have r0:w1.cell? ⟨w.heap.size,0,none⟩=some (.bool false):=by rw [q1 _ _ (by omega)];simp
   have r1:w1.cell? ⟨w.heap.size,1,none⟩=some (.string ⟨#[]⟩):=by rw [q1 _ _ (by omega)];simp
   have r2:w1.cell? ⟨w.heap.size,2,none⟩=some (.slice none 0 0):=by rw [q1 _ _ (by omega)];simp
   have r3:w1.cell? ⟨w.heap.size+1,0,none⟩=some (.int .i64 0):=by rw [q1 _ _ (by omega)];simp
   have f0:∀ o,w1.frozen? ⟨w.heap.size,o,none⟩=false:=fun o=>by rw [q2 _ _ (by omega)];simp
   have f3:∀ o,w1.frozen? ⟨w.heap.size+1,o,none⟩=false:=fun o=>by rw [q2 _ _ (by omega)];simp
   have l0:=qaz r3
   clear q1 q2
   have hw:Below w.heap.size w w1:=(((Below.refl _ _).alloc qn _).alloc (by simp) _).trans (hb2.mono (by omega))
   have k0:=ca r0 (.cells #[.bool x.l,.string (bs x.b),.slice A x.ks.length c] 53)
   have k1:=ca r1 (.cells #[.bool x.l,.string (bs x.b),.slice A x.ks.length c] 53)
   have k2:=ca r2 (.cells #[.bool x.l,.string (bs x.b),.slice A x.ks.length c] 53)
   have k3:=ca r3 (.cells #[.bool x.l,.string (bs x.b),.slice A x.ks.length c] 53)
   have e0:=fa (qaz r0) (f0 0) (.cells #[.bool x.l,.string (bs x.b),.slice A x.ks.length c] 53)
   have e1:=fa (qaz r0) (f0 1) (.cells #[.bool x.l,.string (bs x.b),.slice A x.ks.length c] 53)
   have e2:=fa (qaz r0) (f0 2) (.cells #[.bool x.l,.string (bs x.b),.slice A x.ks.length c] 53)
   have e3:=fa (qaz r3) (f3 0) (.cells #[.bool x.l,.string (bs x.b),.slice A x.ks.length c] 53)
   have hcl:=qfw x hpx
   have hsl:=congrArg List.length hsx
   rw [List.length_append] at hsl
   have hC:countP x≤1000000:=by omega
   have Hsl:=qh hsl
   have Hsx:=qh hsx
   clear hsl hsx hcl hb1 hb2
   by_cases hr:rest = []
   ·subst hr
    go_wp2_with fail
    refine (qn0 (countP x) x A c _ qn hC hpx ((hvx.alloc _).mono fun b _ _=>⟨trivial,rfl⟩)).mono ?_
    rintro e w2 ⟨rfl,hb3⟩
    have hb3s:=hb3.size
    simp at hb3s
    obtain ⟨q1,q2⟩:=bcell hb3
    have r0:=(q1 _ 0 (by simp;omega)).trans k0
    have r1:=(q1 _ 1 (by simp;omega)).trans k1
    have r2:=(q1 _ 2 (by simp;omega)).trans k2
    have r3:=(q1 _ 0 (by simp;omega)).trans k3
    have f0:=(q2 _ 0 (by simp;omega)).trans e0
    have f1:=(q2 _ 1 (by simp;omega)).trans e1
    have f2:=(q2 _ 2 (by simp;omega)).trans e2
    have f3:=(q2 _ 0 (by simp;omega)).trans e3
    have y0:w2.cell? ⟨w1.heap.size,0,none⟩=some (.bool x.l):=by rw [q1 _ _ (by simp)];simp
    have y1:w2.cell? ⟨w1.heap.size,1,none⟩=some (.string (bs x.b)):=by rw [q1 _ _ (by simp)];simp
    have y2:w2.cell? ⟨w1.heap.size,2,none⟩=some (.slice A x.ks.length c):=by rw [q1 _ _ (by simp)];simp
    have hv2:=(hvx.alloc _).keep (hb3.mono (by simp))
    have hw2:Below w.heap.size w w2:=(hw.alloc (by omega) _).trans (hb3.mono (by simp;omega))
    clear q1 q2 k0 k1 k2 k3 e0 e1 e2 e3
    by_cases hd:(8:Int) < depthP x
    ·go_wp2_with fail
     refine leaves_cons (f:=116) (args:=#[.pointer (some ⟨w.heap.size,0,none⟩),.pointer (some ⟨w.heap.size+1,0,none⟩)]) (by simp) (by simp [go_sem]) ?_
     refine (qgn ⟨w.heap.size,0,none⟩ ⟨w.heap.size+1,0,none⟩ _).mono ?_
     rintro e u' w'' ⟨rfl,rfl,rfl⟩
     refine ⟨.tuple #[.agg #[.bool false,.string (bs []),.slice none 0 0],.int .i64 5],by simp [results,Tryz.results64,go_sem,r0,r1,r2,r3];rfl,?_⟩
     refine qc1 5 ((((hw2.setCell (p:=⟨w.heap.size,0,none⟩) qn _).setCell (p:=⟨w.heap.size,1,none⟩) qn _).setCell (p:=⟨w.heap.size,2,none⟩) qn _).setCell (p:=⟨w.heap.size+1,0,none⟩) (by show w.heap.size≤w.heap.size+1;omega) _) (.inr (.inr (.inl ⟨by omega,rfl,rfl,x,hpx,by rw [Hsx.out,List.append_nil],by omega⟩)))
    ·go_wp2_with fail
     refine leaves_cons (f:=116) (args:=#[.pointer (some ⟨w.heap.size,0,none⟩),.pointer (some ⟨w.heap.size+1,0,none⟩)]) (by simp) (by simp [go_sem]) ?_
     refine (qgn ⟨w.heap.size,0,none⟩ ⟨w.heap.size+1,0,none⟩ _).mono ?_
     rintro e u' w'' ⟨rfl,rfl,rfl⟩
     refine ⟨.tuple #[.agg #[.bool x.l,.string (bs x.b),.slice A x.ks.length c],.int .i64 0],by simp [results,Tryz.results64,go_sem,r0,r1,r2,r3],?_⟩
     refine ⟨((((hw2.setCell (p:=⟨w.heap.size,0,none⟩) qn _).setCell (p:=⟨w.heap.size,1,none⟩) qn _).setCell (p:=⟨w.heap.size,2,none⟩) qn _).setCell (p:=⟨w.heap.size+1,0,none⟩) (by show w.heap.size≤w.heap.size+1;omega) _),x,A,c,0,rfl,?_,.inr (.inl ⟨by omega,rfl,hpx,by rw [Hsx.out,List.append_nil],by omega⟩)⟩
     refine hv2.mono fun b hlt hs=>?_
     have hs':w.heap.size+1+1≤b:=by have:_≤b:=hs;simpa using this
     refine ⟨by show w.heap.size≤b;omega,?_⟩
     rw [Below.heap_setCell _ _ _ _ (by show b≠w.heap.size+1;omega),Below.heap_setCell _ _ _ _ (by show b≠w.heap.size;omega),Below.heap_setCell _ _ _ _ (by show b≠w.heap.size;omega),Below.heap_setCell _ _ _ _ (by show b≠w.heap.size;omega)]
   ·have hne:(rest == [])=false:=by rw [beq_eq_false_iff_ne];exact hr
    clear hC
    have Hr:=qh hr
    clear hr
    go_wp2_with fail
    refine leaves_cons (f:=116) (args:=#[.pointer (some ⟨w.heap.size,0,none⟩),.pointer (some ⟨w.heap.size+1,0,none⟩)]) (by simp) (by simp [go_sem]) ?_
    refine (qgn ⟨w.heap.size,0,none⟩ ⟨w.heap.size+1,0,none⟩ _).mono ?_
    rintro e u' w'' ⟨rfl,rfl,rfl⟩
    refine ⟨.tuple #[.agg #[.bool false,.string (bs []),.slice none 0 0],.int .i64 4],by simp [results,Tryz.results64,go_sem,k0,k1,k2,k3];rfl,?_⟩
    refine qc1 4 ?_ (.inr (.inr (.inr ⟨by omega,rfl,rfl,fun y hy e=>Hr.out ?_⟩)))
    ·exact ((((hw.alloc (by omega) _).setCell (p:=⟨w.heap.size,0,none⟩) qn _).setCell (p:=⟨w.heap.size,1,none⟩) qn _).setCell (p:=⟨w.heap.size,2,none⟩) qn _).setCell (p:=⟨w.heap.size+1,0,none⟩) (by show w.heap.size≤w.heap.size+1;omega) _
    ·have h1:=Hsl.out
     have h2:=congrArg List.length e
     exact (qbx x y rest [] hpx hy (by omega) (by omega) (by rw [List.append_nil,← e];exact Hsx.out.symm)).2
  ·go_wp2_with fail
   simp at hb1
   obtain ⟨q1,q2⟩:=bcell hb1
   have r0:w1.cell? ⟨w.heap.size,0,none⟩=some (.bool false):=by rw [q1 _ _ (by omega)];simp
   have r1:w1.cell? ⟨w.heap.size,1,none⟩=some (.string ⟨#[]⟩):=by rw [q1 _ _ (by omega)];simp
   have r2:w1.cell? ⟨w.heap.size,2,none⟩=some (.slice none 0 0):=by rw [q1 _ _ (by omega)];simp
   have r3:w1.cell? ⟨w.heap.size+1,0,none⟩=some (.int .i64 0):=by rw [q1 _ _ (by omega)];simp
   have f0:∀ o,w1.frozen? ⟨w.heap.size,o,none⟩=false:=fun o=>by rw [q2 _ _ (by omega)];simp
   have f3:∀ o,w1.frozen? ⟨w.heap.size+1,o,none⟩=false:=fun o=>by rw [q2 _ _ (by omega)];simp
   have l0:=qaz r3
   clear q1 q2
   refine leaves_cons (f:=116) (args:=#[.pointer (some ⟨w.heap.size,0,none⟩),.pointer (some ⟨w.heap.size+1,0,none⟩)]) (by simp) (by simp [go_sem]) ?_
   refine (qrs w.heap.size (w.heap.size+1) [] _ _ _ _ _ r0 r1 r2 r3 f0 (f3 0) (by omega) (by omega)).mono ?_
   rintro e u' w'' ⟨rfl,rfl,⟨s0,s1,s2,s3⟩,hbw⟩
   refine ⟨.tuple #[.agg #[.bool false,.string (bs []),.slice none 0 0],.int .i64 4],by simp [results,Tryz.results64,go_sem,s0,s1,s2,s3];rfl,?_⟩
   refine qc1 4 ?_ (.inr (.inr (.inr ⟨by omega,rfl,rfl,fun y hy e=>hno y [] hy (by rw [List.append_nil];exact e)⟩)))
   have hw:Below w.heap.size w w1:=(((Below.refl _ _).alloc qn _).alloc (by simp) _).trans (hb1.mono (by omega))
   exact hw.trans (hbw _ qn (by omega))
/- Numbers: rlp.Value, rlp.Number, rlp.List, the reference's. -/
/-- what Value says -/
def valP (x:Item):Nat×Nat:=if x.l=true∨0 < x.ks.length∨8 < x.b.length∨digs (num x.b)≠x.b then (0,4) else (num x.b,0)
theorem qhb {x:Item} (h:x.l=true∨0 < x.ks.length∨8 < x.b.length∨digs (num x.b)≠x.b):valP x=(0,4):=if_pos h
theorem qk6 {x:Item} (h1:x.l=false) (h2:x.ks.length=0) (h3:x.b.length≤8) (h4:digs (num x.b)=x.b):valP x=(num x.b,0):=by
 unfold valP;rw [if_neg];rintro (h | h | h | h)
 ·rw [h1] at h;cases h
 ·omega
 ·omega
 ·exact h h4
theorem qpw {l:Bytes} {k:Nat} (h:l.length≤8) (hk:k < l.length):num (l.take k) < 72057594037927936:=by
 have h1:=qps (l.take k)
 have h2:(256:Nat) ^ (l.take k).length≤256 ^ 7:=Nat.pow_le_pow_right (by omega) (by rw [List.length_take];omega)
 omega
theorem step_or {l:Bytes} {k:Nat} (hk:k < l.length) (h8:l.length≤8) :
  Value.int .u64 (bits BinOp.or IntKind.u64 (IntKind.u64.wrap ((num (l.take k):Int) * 256)) (IntKind.u64.wrap ((l[k]).toNat:Int)))=.int .u64 (num (l.take (k+1)):Int):=by
 have hm:=qpw h8 hk
 have hd:=(l[k]).toNat_lt
 rw [IntWalk.u64_in _ (by omega),IntWalk.u64_in _ (by omega),qmk _ _ hm (by omega),num_take (d:=l[k]) (by simp)]
 exact congrArg (Value.int .u64) (by omega)
theorem digs_bad {c:UInt8} {r:Bytes} (h:c=0):digs (num (c :: r))≠c :: r:=fun e=>qlh _ _ _ e h
theorem qs7 {c:UInt8} {r:Bytes} (h:c≠0):digs (num (c :: r))=c :: r:=qm7 _ (fun a l e=>by cases e;exact h)
theorem qb6 (n:Int) (h0:0≤n) (hn:n < 18446744073709551616) (w:World) :
  Calls Tryz.prog 200 #[.int .u64 n] w fun e w'=>e=.returned (.agg #[.bool false,.string (bs (digs n.toNat)),.slice none 0 0])∧Below w.heap.size w w':=by
 go_enter Tryz.func200,Tryz.ntmps200
 go_wp2_with fail
 refine (qk9 n h0 hn _).mono ?_
 rintro e w1 ⟨rfl,hb1⟩
 have hw:=qbg (hb1.mono (by simp))
 obtain ⟨q1,q2⟩:=bcell hb1
 have r0:w1.cell? ⟨w.heap.size,0,none⟩=some (.bool false):=by rw [q1 _ _ (by simp)];simp
 have r1:w1.cell? ⟨w.heap.size,1,none⟩=some (.string ⟨#[]⟩):=by rw [q1 _ _ (by simp)];simp
 have r2:w1.cell? ⟨w.heap.size,2,none⟩=some (.slice none 0 0):=by rw [q1 _ _ (by simp)];simp
 have rf:∀ o,w1.frozen? ⟨w.heap.size,o,none⟩=false:=fun o=>by rw [q2 _ _ (by simp)];simp
 clear q1 q2
 go_wp2_with fail
 refine bodyPost_ret (v:=.agg #[.bool false,.string (bs (digs n.toNat)),.slice none 0 0]) (by simp [results,Tryz.results200,go_sem,r0,r1,r2]) rfl ?_
 exact ⟨rfl,((hw.setCell (p:=⟨w.heap.size,0,none⟩) qn _).setCell (p:=⟨w.heap.size,1,none⟩) qn _).setCell (p:=⟨w.heap.size,2,none⟩) qn _⟩
theorem qg9 (A:Option Addr) (m c:Nat) (w:World) :
  Calls Tryz.prog 57 #[.slice A m c] w fun e w'=>e=.returned (.agg #[.bool true,.string (bs []),.slice A m c])∧Below w.heap.size w w':=by
 go_enter Tryz.func57,Tryz.ntmps57
 go_wp2_with fail
 refine bodyPost_ret (v:=.agg #[.bool true,.string (bs []),.slice A m c]) (by simp [results,Tryz.results57,go_sem];rfl) rfl ?_
 exact ⟨rfl,by repeat' first | exact Below.refl _ _ | refine Below.setCell (p:=⟨w.heap.size,_,none⟩) ?_ qn _ | refine Below.alloc ?_ qn _⟩
theorem qr6 (x:Item) (A:Option Addr) (c:Nat) (w:World) :
  Calls Tryz.prog 203 #[.agg #[.bool x.l,.string (bs x.b),.slice A x.ks.length c]] w fun e w' =>
   e=.returned (.tuple #[.int .u64 (valP x).1,.int .i64 (valP x).2])∧Below w.heap.size w w':=by
 cases hl:x.l with
 | true =>
  rw [qhb (.inl hl)]
  clear hl
  go_enter Tryz.func203,Tryz.ntmps203
  go_wp2_with fail
  go_ret2
  exact ⟨rfl,(Below.refl _ _).alloc qn _⟩
 | false =>
  by_cases hk:(0:Int) < x.ks.length
  ·rw [qhb (.inr (.inl (by omega)))]
   have hk2:decide (0 < x.ks.length)=true:=by rw [decide_eq_true_iff];omega
   clear hl
   go_enter Tryz.func203,Tryz.ntmps203
   go_wp2_with fail
   go_ret2
   exact ⟨rfl,(Below.refl _ _).alloc qn _⟩
  ·by_cases h8:(8:Int) < x.b.length
   ·rw [qhb (.inr (.inr (.inl (by omega))))]
    have hk2:decide (0 < x.ks.length)=false:=by rw [decide_eq_false_iff_not];omega
    have hk3:decide (8 < (x.b.length:Int))=true:=by rw [decide_eq_true_iff];omega
    clear hl hk
    go_enter Tryz.func203,Tryz.ntmps203
    go_wp2_with fail
    go_ret2
    exact ⟨rfl,(Below.refl _ _).alloc qn _⟩
   ·have Hh:=qh (And.intro hl (And.intro hk h8))
    have hk2:decide (0 < x.ks.length)=false:=by rw [decide_eq_false_iff_not];omega
    have hk3:decide (8 < (x.b.length:Int))=false:=by rw [decide_eq_false_iff_not];omega
    have h8':(x.b.length:Int)≤8:=by omega
    clear hl hk h8
    generalize hB:x.b=b at *
    have HB:=qh hB
    clear hB
    cases b with
    | nil =>
     have hz:valP x=(0,0):=by rw [qk6 Hh.out.1 (by have:=Hh.out.2.1;omega) (by rw [HB.out];simp) (by rw [HB.out];exact qce),HB.out];rfl
     rw [hz]
     clear hz
     go_enter Tryz.func203,Tryz.ntmps203
     go_wp2_with fail
     refine wp_loop_rounds 1 ?_
     rw [rounds_succ]
     go_wp2_with fail
     go_ret2
     exact ⟨rfl,(Below.refl _ _).alloc qn _⟩
    | cons c0 r =>
     have hr8:(c0 :: r).length≤8:=by omega
     have hr8':(r.length:Int)+1≤8:=by simp only [List.length_cons] at hr8;omega
     have Hr8:=qh hr8
     clear hr8 h8'
     cases hc:((c0.toNat:Int) == 0) with
     | true =>
      have hz:valP x=(0,4):=qhb (.inr (.inr (.inr (by rw [HB.out];exact digs_bad (UInt8.toNat_inj.1 (by rw [beq_iff_eq] at hc;simp only [UInt8.toNat_zero];omega))))))
      rw [hz]
      clear hz
      go_enter Tryz.func203,Tryz.ntmps203
      go_wp2_with fail
      go_ret2
      exact ⟨rfl,(Below.refl _ _).alloc qn _⟩
     | false =>
      have hz:valP x=(num (c0 :: r),0):=by
       rw [qk6 Hh.out.1 (by have:=Hh.out.2.1;omega) (by rw [HB.out];exact Hr8.out) (by rw [HB.out];exact qs7 (fun h=>by subst h;simp at hc)),HB.out]
      rw [hz]
      clear hz
      go_enter Tryz.func203,Tryz.ntmps203
      go_wp2_with fail
      go_loopw [5,33] (fun a i wr=>∃ k:Nat,k≤(c0 :: r).length∧i=.int .i64 k∧a=.int .u64 (num ((c0 :: r).take k))∧wr=w.alloc (.cells #[.bool false,.string (bs (c0 :: r)),.slice A x.ks.length c] 53)) (fun _ i _=>(c0 :: r).length - (intOf i).toNat)
      case atStart=>exact ⟨0,Nat.zero_le _,rfl,rfl,rfl⟩
      case round =>
       obtain ⟨k,hkl,rfl,rfl,rfl⟩:=hrel
       by_cases hlt:k < (c0 :: r).length
       ·have hlt':(k:Int) < (r.length:Int)+1:=by simp only [List.length_cons] at hlt;omega
        have Hlt:=qh hlt
        clear hlt
        go_wp2_with fail
        refine ⟨⟨k+1,Hlt.out,by go_num,step_or Hlt.out Hr8.out,trivial⟩,?_⟩
        have:=Hlt.out
        simp only [intOf]
        omega
       ·obtain rfl:k=(c0 :: r).length:=by omega
        rw [List.take_length]
        have hlt':¬ ((c0 :: r).length:Int) < (r.length:Int)+1:=by simp only [List.length_cons];omega
        clear hlt
        go_wp2_with fail
        go_ret2
        exact ⟨rfl,(Below.refl _ _).alloc qn _⟩
end Go.Proofs.YteoednifdpdbnaaGreat
