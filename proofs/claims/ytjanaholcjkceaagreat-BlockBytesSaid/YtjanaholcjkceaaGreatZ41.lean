/- The walk of header.Read. -/
import Derived.Test.YtjanaholcjkceaaGreatZ38
import Derived.Test.YtjanaholcjkceaaGreatZ40
namespace Go.Proofs.YtjanaholcjkceaaGreat
set_option linter.unusedVariables false
set_option linter.unusedSimpArgs false
open Go.RowKit
set_option maxHeartbeats 4000000
set_option maxRecDepth 100000
theorem infoHd:(Tryz.prog.info? 26).map (·.size)=some 11:=by kernel_rfl
theorem one11 (a b c d e f:Bytes) (h r:Int) (v:Option Addr) (n m:Nat) (t:Bytes) (ad:Bool) (s:Option Addr) (n' m':Nat):(#[.string (bs a),.int .u64 h,.string (bs c),.string (bs d),.string (bs e),.string (bs f),.slice v n m,.string (bs t),.bool ad,.int .u64 r,.slice s n' m']:Array Value).all (·.oneCell')=true:=by simp [Value.oneCell']
theorem one11Z:(zqH:Array Value).all (·.oneCell')=true:=one11 [] [] [] [] [] [] _ _ _ _ _ [] _ _ _ _
theorem fread_hd (s:Bytes) (w:World):Calls Tryz.prog 53 #[.string ⟨#[104,110,104,104,97,98,42,97,98,110,110,42,115]⟩,.string (bs s)] w (FrPost hdK s w):=fRead_any hdK hdK_ok (by decide) (by decide) s w
theorem fits_blen:∀ (ks:List Kd) (l:List Fd),fitsP ks l=true→∀ f∈l,f.b.length≤65
 | [],[],_,f,hf=>by cases hf
 | [],g :: l,h,f,hf=>by simp [fitsP] at h
 | k :: ks,[],h,f,hf=>by cases hf
 | k :: ks,g :: l,h,f,hf=>by
  simp only [fitsP,Bool.and_eq_true] at h
  rcases List.mem_cons.1 hf with rfl | hf
  ·have h1:=h.1
   unfold fitF at h1
   split at h1
   ·simp only [Bool.and_eq_true] at h1
    have:f.b = []:=by simpa using h1.1.1.2
    rw [this];exact Nat.zero_le _
   ·simp only [Bool.and_eq_true] at h1
    have h2:=h1.2
    unfold fitC at h2
    split at h2
    ·have:f.b = []:=by simpa using h2
     rw [this];exact Nat.zero_le _
    ·split at h2
     ·simp at h2;omega
     ·simp at h2;rw [h2.2];unfold sizeC;split
      ·omega
      ·split <;> omega
  ·exact fits_blen ks l h.2 f hf
theorem elSg:ElemOk Tryz.prog 24 53 (.agg zqS) 9 72:=⟨Tryz.underlying24,by kernel_rfl,rfl,by omega⟩
def HdPost (s:Bytes) (w:World) (e:Ending) (w':World):Prop:=∃ (h:Hd) (Av As:Option Addr) (cv cs no:Nat),e=.returned (.tuple #[.agg (hdR h Av cv As cs),.int .i64 no])∧HdV (From w.heap.size) w' h Av cv As cs∧HdSaid s h no∧Below w.heap.size w w'
theorem hdPost_zero {s:Bytes} {w w':World} (h:HdSaid s zeroHd 4) (hb:Below w.heap.size w w'):HdPost s w (.returned (.tuple #[.agg zqH,.int .i64 4])) w':=⟨zeroHd,none,none,0,0,4,rfl,⟨Rep.nil_slice 1,PlV.nil⟩,h,hb⟩
theorem hd_fine {s:Bytes} {h:Hd} {no:Nat} (x:HdSaid s h no):h.Fine:=by
 rcases x with ⟨_,hk,hw,_⟩ | ⟨_,rfl,_⟩
 ·obtain ⟨a,b,c,d,e,f,g,i,j⟩:=hk
  refine ⟨hw,by omega,by omega,by omega,by omega,by omega,?_,fun v hv=>by have:=(okVals_len f).1 v hv;omega⟩
  rcases g with g | ⟨g,_⟩
  ·omega
  ·rw [g];exact Nat.zero_le _
 ·exact ⟨⟨zero64,zero64,fun x hx=>by cases hx⟩,Nat.zero_le _,Nat.zero_le _,Nat.zero_le _,Nat.zero_le _,Nat.zero_le _,Nat.zero_le _,fun v hv=>by cases hv⟩
theorem hread_any (s:Bytes) (w:World):Calls Tryz.prog 26 #[.string (bs s)] w (HdPost s w):=by
 have h0:=heap_alloc_new w (.cells zqH 26)
 have HR:=qh h0
 have HB:=qh ((Below.refl w.heap.size w).alloc qn (.cells zqH 26))
 clear h0
 go_enter Tryz.func26,Tryz.ntmps26
 go_wp2_with fail
 refine (fread_hd s _).mono ?_
 rintro e w1 ⟨l,A,c,no,rfl,hlv,hsaid,hb1⟩
 have HR1:=qh ((hb1.block _ (qg HR.out)).trans HR.out)
 have HB1:=qh (below_call HB.out HB.out.size hb1)
 have HS:=qh hsaid
 have HL:=qh (Rep.any hlv)
 clear hb1 hlv hsaid HR HB
 by_cases hno:no=0
 case neg =>
  have h0I:((no:Int) == 0)=false:=by rw [beq_eq_false_iff_ne];omega
  have h0I2:((no:Int) != 0)=true:=by rw [bne,h0I];rfl
  have HT:=qh (hdSaid_none HS.out (by omega))
  clear HS hno
  go_wp2_with (refine wpList_store_row rfl _ _ _ rfl w.heap.size zqH rfl rfl _ _ HR1.out infoHd rfl one11Z ?_)
  exact bodyPost_ret (v:=.tuple #[.agg zqH,.int .i64 4]) (results_row_tmp rfl _ _ w.heap.size _ _ _ _ rfl (setRow_heap _ _ _ _ _ _ HR1.out) _ rfl Tryz.underlying26 rfl infoHd) rfl (hdPost_zero HT.out (below_setRow HB1.out qn _))
 subst hno
 obtain ⟨hl11,hg6,hg10,hs6,hs10,hwf,hyes,hno1,hno2,hno3⟩:=hdSaid_some HS.out
 obtain ⟨f0,e0⟩:=getElem_ex (show 0 < l.length by omega)
 obtain ⟨f1,e1⟩:=getElem_ex (show 1 < l.length by omega)
 obtain ⟨f2,e2⟩:=getElem_ex (show 2 < l.length by omega)
 obtain ⟨f3,e3⟩:=getElem_ex (show 3 < l.length by omega)
 obtain ⟨f4,e4⟩:=getElem_ex (show 4 < l.length by omega)
 obtain ⟨f5,e5⟩:=getElem_ex (show 5 < l.length by omega)
 obtain ⟨f6,e6⟩:=getElem_ex (show 6 < l.length by omega)
 obtain ⟨f7,e7⟩:=getElem_ex (show 7 < l.length by omega)
 obtain ⟨f8,e8⟩:=getElem_ex (show 8 < l.length by omega)
 obtain ⟨f9,e9⟩:=getElem_ex (show 9 < l.length by omega)
 obtain ⟨f10,e10⟩:=getElem_ex (show 10 < l.length by omega)
 obtain ⟨g,o,A0,c0,rfl,_,lv0,k0⟩:=fds_at HL.out e0
 obtain ⟨g',o',A1,c1,hA1,_,lv1,k1⟩:=fds_at HL.out e1
 injection hA1 with hA1
 injection hA1 with hg1 ho1
 subst hg1;subst ho1
 obtain ⟨g',o',A2,c2,hA2,_,lv2,k2⟩:=fds_at HL.out e2
 injection hA2 with hA2
 injection hA2 with hg2 ho2
 subst hg2;subst ho2
 obtain ⟨g',o',A3,c3,hA3,_,lv3,k3⟩:=fds_at HL.out e3
 injection hA3 with hA3
 injection hA3 with hg3 ho3
 subst hg3;subst ho3
 obtain ⟨g',o',A4,c4,hA4,_,lv4,k4⟩:=fds_at HL.out e4
 injection hA4 with hA4
 injection hA4 with hg4 ho4
 subst hg4;subst ho4
 obtain ⟨g',o',A5,c5,hA5,_,lv5,k5⟩:=fds_at HL.out e5
 injection hA5 with hA5
 injection hA5 with hg5 ho5
 subst hg5;subst ho5
 obtain ⟨g',o',A6,c6,hA6,_,lv6,k6⟩:=fds_at HL.out e6
 injection hA6 with hA6
 injection hA6 with hg6 ho6
 subst hg6;subst ho6
 obtain ⟨g',o',A7,c7,hA7,_,lv7,k7⟩:=fds_at HL.out e7
 injection hA7 with hA7
 injection hA7 with hg7 ho7
 subst hg7;subst ho7
 obtain ⟨g',o',A8,c8,hA8,_,lv8,k8⟩:=fds_at HL.out e8
 injection hA8 with hA8
 injection hA8 with hg8 ho8
 subst hg8;subst ho8
 obtain ⟨g',o',A9,c9,hA9,_,lv9,k9⟩:=fds_at HL.out e9
 injection hA9 with hA9
 injection hA9 with hg9 ho9
 subst hg9;subst ho9
 obtain ⟨g',o',A10,c10,hA10,_,lv10,k10⟩:=fds_at HL.out e10
 injection hA10 with hA10
 injection hA10 with hg10 ho10
 subst hg10;subst ho10
 have m0:w1.cell? ⟨g,o+1,none⟩=some (.string (bs f0.b)):=by simpa [Nat.add_assoc] using k0 1 (.string (bs f0.b)) rfl
 have m1:w1.cell? ⟨g,o+3,none⟩=some (.int .u64 (f1.n:Int)):=by simpa [Nat.add_assoc] using k1 0 (.int .u64 (f1.n:Int)) rfl
 have m2:w1.cell? ⟨g,o+7,none⟩=some (.string (bs f2.b)):=by simpa [Nat.add_assoc] using k2 1 (.string (bs f2.b)) rfl
 have m3:w1.cell? ⟨g,o+10,none⟩=some (.string (bs f3.b)):=by simpa [Nat.add_assoc] using k3 1 (.string (bs f3.b)) rfl
 have m4:w1.cell? ⟨g,o+13,none⟩=some (.string (bs f4.b)):=by simpa [Nat.add_assoc] using k4 1 (.string (bs f4.b)) rfl
 have m5:w1.cell? ⟨g,o+16,none⟩=some (.string (bs f5.b)):=by simpa [Nat.add_assoc] using k5 1 (.string (bs f5.b)) rfl
 have m6:w1.cell? ⟨g,o+20,none⟩=some (.slice A6 f6.l.length c6):=by simpa [Nat.add_assoc] using k6 2 (.slice A6 f6.l.length c6) rfl
 have m7:w1.cell? ⟨g,o+22,none⟩=some (.string (bs f7.b)):=by simpa [Nat.add_assoc] using k7 1 (.string (bs f7.b)) rfl
 have m8:w1.cell? ⟨g,o+24,none⟩=some (.int .u64 (f8.n:Int)):=by simpa [Nat.add_assoc] using k8 0 (.int .u64 (f8.n:Int)) rfl
 have m9:w1.cell? ⟨g,o+27,none⟩=some (.int .u64 (f9.n:Int)):=by simpa [Nat.add_assoc] using k9 0 (.int .u64 (f9.n:Int)) rfl
 have m10:w1.cell? ⟨g,o+32,none⟩=some (.slice A10 f10.l.length c10):=by simpa [Nat.add_assoc] using k10 2 (.slice A10 f10.l.length c10) rfl
 rw [hl11]
 have hfb:=fits_blen hdK l (by rcases HS.out with ⟨_,h,_⟩ | ⟨h,_⟩;exact h;omega)
 have HFB:Hid (f0.b.length≤9223372036854775807∧f2.b.length≤9223372036854775807∧f3.b.length≤9223372036854775807∧f4.b.length≤9223372036854775807∧f5.b.length≤9223372036854775807∧f7.b.length≤9223372036854775807):=qh ⟨by have:=hfb f0 (List.mem_of_getElem? e0);omega,by have:=hfb f2 (List.mem_of_getElem? e2);omega,by have:=hfb f3 (List.mem_of_getElem? e3);omega,by have:=hfb f4 (List.mem_of_getElem? e4);omega,by have:=hfb f5 (List.mem_of_getElem? e5);omega,by have:=hfb f7 (List.mem_of_getElem? e7);omega⟩
 clear hfb
 have d0:fdAt l 0=f0:=getD_some e0
 have d1:fdAt l 1=f1:=getD_some e1
 have d2:fdAt l 2=f2:=getD_some e2
 have d3:fdAt l 3=f3:=getD_some e3
 have d4:fdAt l 4=f4:=getD_some e4
 have d5:fdAt l 5=f5:=getD_some e5
 have d6:fdAt l 6=f6:=getD_some e6
 have d7:fdAt l 7=f7:=getD_some e7
 have d8:fdAt l 8=f8:=getD_some e8
 have d9:fdAt l 9=f9:=getD_some e9
 have d10:fdAt l 10=f10:=getD_some e10
 have hof:hdOf l=⟨f0.b,f1.n,f2.b,f3.b,f4.b,f5.b,f6.l.map (·.2),f7.b,f8.n == 1,f9.n,f10.l.map fun x=>sgOf x.2⟩:=by unfold hdOf;rw [d0,d1,d2,d3,d4,d5,d6,d7,d8,d9,d10]
 obtain ⟨ad,had⟩:∃ ad,(f8.n == 1)=ad:=⟨_,rfl⟩
 have hadI:((f8.n:Int) == 1)=ad:=by rw [← had,Bool.eq_iff_iff];simp only [beq_iff_eq];omega
 rw [hof,had,d10,d8] at hyes
 rw [d10] at hg10 hs10 hno1
 rw [d6] at hg6 hs6
 rw [d8] at hno2
 rw [hof,had] at hno3 hwf
 have HY:=qh hyes
 have HN1:=qh hno1
 have HN2:=qh hno2
 have HN3:=qh hno3
 have HG6:=qh hg6
 have HG10:=qh hg10
 have HWF:=qh hwf
 have LV6:=qh lv6
 have LV10:=qh lv10
 have h6I:(f6.l.length:Int)≤40:=by omega
 have h10I:(f10.l.length:Int)≤40:=by omega
 clear hyes hno1 hno2 hno3 hg6 hg10 hwf e0 e1 e2 e3 e4 e5 e6 e7 e8 e9 e10 k0 k1 k2 k3 k4 k5 k6 k7 k8 k9 k10 d0 d1 d2 d3 d4 d5 d6 d7 d8 d9 d10 lv0 lv1 lv2 lv3 lv4 lv5 lv6 lv7 lv8 lv9 lv10 hof had HS HL hl11 hs6 hs10
 go_wp2_with fail
 have hS:w1.drew.heap[g]? = w1.heap[g]?:=rfl
 have hgl:g < w1.heap.size:=lt_of_cell m0
 have hwl:w.heap.size < w1.heap.size:=(qg HR1.out)
 have hR:w1.drew.heap[w.heap.size]? = some (.cells zqH 26 (0,0)):=HR1.out
 have hB:Below w.heap.size w w1.drew:=HB1.out.drew
 refine wp_region_R [(99,fun w'=>w'.heap[g]? = w1.heap[g]?)] (by kernel_rfl) ?_
 refine R_p (i:=0) (v:=.slice (some ⟨g,o,none⟩) 11 c) (Meets.here hS Meets.nil) ?_
 refine R_p (i:=4) (v:=.slice (some ⟨g,o,none⟩) 11 c) (Meets.here hS Meets.nil) ?_
 refine R_p (i:=8) (v:=.slice (some ⟨g,o,none⟩) 11 c) (Meets.here hS Meets.nil) ?_
 refine R_p (i:=12) (v:=.slice (some ⟨g,o,none⟩) 11 c) (Meets.here hS Meets.nil) ?_
 refine R_p (i:=16) (v:=.slice (some ⟨g,o,none⟩) 11 c) (Meets.here hS Meets.nil) ?_
 refine R_p (i:=20) (v:=.slice (some ⟨g,o,none⟩) 11 c) (Meets.here hS Meets.nil) ?_
 refine R_p (i:=24) (v:=.slice (some ⟨g,o,none⟩) 11 c) (Meets.here hS Meets.nil) ?_
 refine R_p (i:=28) (v:=.slice (some ⟨g,o,none⟩) 11 c) (Meets.here hS Meets.nil) ?_
 refine R_p (i:=33) (v:=.slice (some ⟨g,o,none⟩) 11 c) (Meets.here hS Meets.nil) ?_
 refine R_p (i:=1) (v:=.pointer (some ⟨g,o,none⟩)) (Meets.here hS Meets.nil) ?_
 refine R_p (i:=5) (v:=.pointer (some ⟨g,o+3,none⟩)) (Meets.here hS Meets.nil) ?_
 refine R_p (i:=9) (v:=.pointer (some ⟨g,o+6,none⟩)) (Meets.here hS Meets.nil) ?_
 refine R_p (i:=13) (v:=.pointer (some ⟨g,o+9,none⟩)) (Meets.here hS Meets.nil) ?_
 refine R_p (i:=17) (v:=.pointer (some ⟨g,o+12,none⟩)) (Meets.here hS Meets.nil) ?_
 refine R_p (i:=21) (v:=.pointer (some ⟨g,o+15,none⟩)) (Meets.here hS Meets.nil) ?_
 refine R_p (i:=25) (v:=.pointer (some ⟨g,o+21,none⟩)) (Meets.here hS Meets.nil) ?_
 refine R_p (i:=29) (v:=.pointer (some ⟨g,o+24,none⟩)) (Meets.here hS Meets.nil) ?_
 refine R_p (i:=34) (v:=.pointer (some ⟨g,o+27,none⟩)) (Meets.here hS Meets.nil) ?_
 refine R_p (i:=2) (v:=.pointer (some ⟨g,o+1,none⟩)) (Meets.here hS Meets.nil) ?_
 refine R_p (i:=6) (v:=.pointer (some ⟨g,o+3,none⟩)) (Meets.here hS Meets.nil) ?_
 refine R_p (i:=10) (v:=.pointer (some ⟨g,o+7,none⟩)) (Meets.here hS Meets.nil) ?_
 refine R_p (i:=14) (v:=.pointer (some ⟨g,o+10,none⟩)) (Meets.here hS Meets.nil) ?_
 refine R_p (i:=18) (v:=.pointer (some ⟨g,o+13,none⟩)) (Meets.here hS Meets.nil) ?_
 refine R_p (i:=22) (v:=.pointer (some ⟨g,o+16,none⟩)) (Meets.here hS Meets.nil) ?_
 refine R_p (i:=26) (v:=.pointer (some ⟨g,o+22,none⟩)) (Meets.here hS Meets.nil) ?_
 refine R_p (i:=30) (v:=.pointer (some ⟨g,o+24,none⟩)) (Meets.here hS Meets.nil) ?_
 refine R_p (i:=35) (v:=.pointer (some ⟨g,o+27,none⟩)) (Meets.here hS Meets.nil) ?_
 refine R_l (i:=3) (v:=.string (bs f0.b)) 99 _ List.mem_cons_self rfl (yieldsIf_load_cell rfl rfl rfl (fun w' hS=>(World.cell?_of_block (a:=⟨g,o+1,none⟩) hS).trans m0) Tryz.underlying9 rfl) (Meets.here hS Meets.nil) ?_
 refine R_l (i:=7) (v:=.int .u64 (f1.n:Int)) 99 _ List.mem_cons_self rfl (yieldsIf_load_cell rfl rfl rfl (fun w' hS=>(World.cell?_of_block (a:=⟨g,o+3,none⟩) hS).trans m1) Tryz.underlying22 rfl) (Meets.here hS Meets.nil) ?_
 refine R_l (i:=11) (v:=.string (bs f2.b)) 99 _ List.mem_cons_self rfl (yieldsIf_load_cell rfl rfl rfl (fun w' hS=>(World.cell?_of_block (a:=⟨g,o+7,none⟩) hS).trans m2) Tryz.underlying9 rfl) (Meets.here hS Meets.nil) ?_
 refine R_l (i:=15) (v:=.string (bs f3.b)) 99 _ List.mem_cons_self rfl (yieldsIf_load_cell rfl rfl rfl (fun w' hS=>(World.cell?_of_block (a:=⟨g,o+10,none⟩) hS).trans m3) Tryz.underlying9 rfl) (Meets.here hS Meets.nil) ?_
 refine R_l (i:=19) (v:=.string (bs f4.b)) 99 _ List.mem_cons_self rfl (yieldsIf_load_cell rfl rfl rfl (fun w' hS=>(World.cell?_of_block (a:=⟨g,o+13,none⟩) hS).trans m4) Tryz.underlying9 rfl) (Meets.here hS Meets.nil) ?_
 refine R_l (i:=23) (v:=.string (bs f5.b)) 99 _ List.mem_cons_self rfl (yieldsIf_load_cell rfl rfl rfl (fun w' hS=>(World.cell?_of_block (a:=⟨g,o+16,none⟩) hS).trans m5) Tryz.underlying9 rfl) (Meets.here hS Meets.nil) ?_
 refine R_l (i:=27) (v:=.string (bs f7.b)) 99 _ List.mem_cons_self rfl (yieldsIf_load_cell rfl rfl rfl (fun w' hS=>(World.cell?_of_block (a:=⟨g,o+22,none⟩) hS).trans m7) Tryz.underlying9 rfl) (Meets.here hS Meets.nil) ?_
 refine R_l (i:=31) (v:=.int .u64 (f8.n:Int)) 99 _ List.mem_cons_self rfl (yieldsIf_load_cell rfl rfl rfl (fun w' hS=>(World.cell?_of_block (a:=⟨g,o+24,none⟩) hS).trans m8) Tryz.underlying22 rfl) (Meets.here hS Meets.nil) ?_
 refine R_l (i:=36) (v:=.int .u64 (f9.n:Int)) 99 _ List.mem_cons_self rfl (yieldsIf_load_cell rfl rfl rfl (fun w' hS=>(World.cell?_of_block (a:=⟨g,o+27,none⟩) hS).trans m9) Tryz.underlying22 rfl) (Meets.here hS Meets.nil) ?_
 refine R_p (i:=32) (v:=.bool ad) (Meets.here hS Meets.nil) ?_
 refine R_p (i:=37) (v:=.agg #[.string (bs f0.b),.int .u64 (f1.n:Int),.string (bs f2.b),.string (bs f3.b),.string (bs f4.b),.string (bs f5.b),.slice none 0 0,.string (bs f7.b),.bool ad,.int .u64 (f9.n:Int),.slice none 0 0]) (Meets.here hS Meets.nil) ?_
 refine R_now 38 fun K hK=>?_
 refine ite_wanted (by rfl) ?_
 have hbb:Below w1.drew.heap.size w1.drew (w1.alloc (.cells zqH 26)).drew:=show Below w1.drew.heap.size w1.drew (w1.drew.alloc (.cells zqH 26)) from (Below.refl _ _).alloc qn _
 have hbw:Below w1.heap.size w1 (w1.alloc (.cells zqH 26)).drew:=((Below.refl _ w1).alloc qn _).drew
 have hRow:(w1.alloc (.cells zqH 26)).drew.heap[w1.heap.size]? = some (.cells zqH 26):=heap_alloc_new w1 _
 have hO:∀ q,q < w1.heap.size→(w1.alloc (.cells zqH 26)).drew.heap[q]? = w1.heap[q]?:=fun q hq=>heap_alloc_old w1 _ hq
 have hsz:(w1.alloc (.cells zqH 26)).drew.heap.size=w1.heap.size+1:=by simp
 replace hS:=(hbb.block g hgl).trans hS
 replace hR:=(hbb.block _ (qg hR)).trans hR
 replace hB:=below_call hB hB.size hbb
 have HH:=qh (And.intro hRow (And.intro hO (And.intro hsz (And.intro hbw (And.intro hS (And.intro hR hB))))))
 clear hRow hO hsz hS hR hB hbb hbw
 go_simp
 generalize (w1.alloc (.cells zqH 26)).drew=w38 at HH ⊢
 obtain ⟨hRow,hO,hsz,hbw,hS,hR,hB⟩:=HH.out
 clear HH
 refine hK.out _ _ (Meets.here hS Meets.nil) (fun hMeets=>?_)
 clear hK K hMeets
 refine lay_R ?_
 refine R_now 39 fun K hK=>?_
 refine ite_wanted (by rfl) ?_
 refine wp_store_row _ _ _ rfl w1.heap.size #[.string (bs f0.b),.int .u64 (f1.n:Int),.string (bs f2.b),.string (bs f3.b),.string (bs f4.b),.string (bs f5.b),.slice none 0 0,.string (bs f7.b),.bool ad,.int .u64 (f9.n:Int),.slice none 0 0] rfl rfl _ zqH hRow infoHd rfl (one11 _ [] _ _ _ _ _ _ _ _ _ _ _ _ _ _) ?_
 have hS9:=(heap_setRow_ne w38 (show g≠w1.heap.size by omega) #[.string (bs f0.b),.int .u64 (f1.n:Int),.string (bs f2.b),.string (bs f3.b),.string (bs f4.b),.string (bs f5.b),.slice none 0 0,.string (bs f7.b),.bool ad,.int .u64 (f9.n:Int),.slice none 0 0]).trans hS
 have hR9:=(heap_setRow_ne w38 (show w.heap.size≠w1.heap.size by omega) #[.string (bs f0.b),.int .u64 (f1.n:Int),.string (bs f2.b),.string (bs f3.b),.string (bs f4.b),.string (bs f5.b),.slice none 0 0,.string (bs f7.b),.bool ad,.int .u64 (f9.n:Int),.slice none 0 0]).trans hR
 have hB9:=below_setRow hB (show w.heap.size≤w1.heap.size by omega) #[.string (bs f0.b),.int .u64 (f1.n:Int),.string (bs f2.b),.string (bs f3.b),.string (bs f4.b),.string (bs f5.b),.slice none 0 0,.string (bs f7.b),.bool ad,.int .u64 (f9.n:Int),.slice none 0 0]
 have hbw9:=below_setRow hbw qn #[.string (bs f0.b),.int .u64 (f1.n:Int),.string (bs f2.b),.string (bs f3.b),.string (bs f4.b),.string (bs f5.b),.slice none 0 0,.string (bs f7.b),.bool ad,.int .u64 (f9.n:Int),.slice none 0 0]
 have hY9:=setRow_heap w38 w1.heap.size _ #[.string (bs f0.b),.int .u64 (f1.n:Int),.string (bs f2.b),.string (bs f3.b),.string (bs f4.b),.string (bs f5.b),.slice none 0 0,.string (bs f7.b),.bool ad,.int .u64 (f9.n:Int),.slice none 0 0] _ _ hRow
 have hk1:∀ q,q < w1.heap.size→(w38.setRow w1.heap.size #[.string (bs f0.b),.int .u64 (f1.n:Int),.string (bs f2.b),.string (bs f3.b),.string (bs f4.b),.string (bs f5.b),.slice none 0 0,.string (bs f7.b),.bool ad,.int .u64 (f9.n:Int),.slice none 0 0]).heap[q]? = w1.heap[q]?:=fun q hq=>(heap_setRow_ne w38 (by omega) #[.string (bs f0.b),.int .u64 (f1.n:Int),.string (bs f2.b),.string (bs f3.b),.string (bs f4.b),.string (bs f5.b),.slice none 0 0,.string (bs f7.b),.bool ad,.int .u64 (f9.n:Int),.slice none 0 0]).trans (hO q hq)
 have hsz9:(w38.setRow w1.heap.size #[.string (bs f0.b),.int .u64 (f1.n:Int),.string (bs f2.b),.string (bs f3.b),.string (bs f4.b),.string (bs f5.b),.slice none 0 0,.string (bs f7.b),.bool ad,.int .u64 (f9.n:Int),.slice none 0 0]).heap.size=w1.heap.size+1:=by rw [setRow_size];exact hsz
 generalize w38.setRow w1.heap.size #[.string (bs f0.b),.int .u64 (f1.n:Int),.string (bs f2.b),.string (bs f3.b),.string (bs f4.b),.string (bs f5.b),.slice none 0 0,.string (bs f7.b),.bool ad,.int .u64 (f9.n:Int),.slice none 0 0]=W9 at hS9 hR9 hB9 hY9 hk1 hsz9 hbw9 ⊢
 clear hS hR hB hRow hO hsz hbw
 have hS:=hS9
 clear hS9
 refine hK.out _ _ (Meets.here hS Meets.nil) (fun hMeets=>?_)
 clear hK K hMeets
 refine lay_R ?_
 refine R_done (by kernel_rfl) ?_ _
 have HS9:=qh hS
 have HY9:=qh hY9
 have HR9:=qh hR9
 have HB9:=qh hB9
 have HW9:=qh hbw9
 have hsz9':w1.heap.size+1≤W9.heap.size:=by omega
 have p6:=(World.cell?_of_block (a:=⟨g,o+20,none⟩) hS).trans m6
 clear hS hY9 hR9 hB9 hbw9 hk1 hsz9
 go_wp2_with fail
 go_loopw [64] (fun x wr=>∃ (i:Nat) (u:Value),x=.int .i64 (i:Int)∧i≤f6.l.length∧wr.heap[w1.heap.size]? = some (.cells #[.string (bs f0.b),.int .u64 (f1.n:Int),.string (bs f2.b),.string (bs f3.b),.string (bs f4.b),.string (bs f5.b),u,.string (bs f7.b),.bool ad,.int .u64 (f9.n:Int),.slice none 0 0] 26 (0,0))∧wr.ownsRow (w1.heap.size+1) 9 1 u i (strL ((f6.l.take i).map (·.2)))∧Below w1.heap.size w1 wr∧w1.heap.size+1≤wr.heap.size) (fun x _=>f6.l.length - (intOf x).toNat)
 case atStart=>exact ⟨0,_,rfl,Nat.zero_le _,HY9.out,World.ownsRow_nil _ _ _ _,HW9.out,hsz9'⟩
 case round =>
  clear HS9 HY9 HR9 HB9 HW9 hsz9' p6
  obtain ⟨i,u,rfl,hi,hY,hown,hB,hsz⟩:=hrel
  obtain ⟨A',c',rfl⟩:=own_form hown
  have hYl:=(qg hY)
  by_cases hlt:i < f6.l.length
  ·obtain ⟨x,hx⟩:=getElem_ex hlt
   obtain ⟨g6,o6,Ax,cx,rfl,_,_,kx⟩:=lfs_at (Rep.keep LV6.out hB) hx
   have hltI:(i:Int) < f6.l.length:=by omega
   have q0:=kx 0 (.int .u64 (x.1:Int)) rfl
   have q1:=kx 1 (.string (bs x.2)) rfl
   have q2:=kx 2 (.slice Ax 0 cx) rfl
   simp only [Nat.add_zero] at q0
   have y6:wr.cell? ⟨w1.heap.size,6,none⟩=some (.slice A' i c'):=rc hY 6 rfl
   have HA:=qh (take_snoc hx)
   have HYY:=qh hY
   have HO:=qh hown
   have HBB:=qh hB
   have y6a:=ca y6 (.cells #[.int .u64 (x.1:Int),.string (bs x.2),.slice Ax 0 cx] 79)
   clear hY hown hB hx kx
   go_wp2_with (at_builtin;refine wpl_append elStr rfl rfl (w1.heap.size+1) ((HO.out.alloc _).alloc _) rfl (m:=1) [.string (bs x.2)] rfl rfl ?_ ?_ ?_ ?_ ?_ ?_;exact (lies_new' _ _ (by simp) _ _);(intro u hu;simp at hu;rcases hu with rfl;rfl);(simp only [maxLen];omega);omega;(simp;omega);intro v1 w8 hown1 hg1 hat1;obtain ⟨A3,c3,rfl⟩:=own_form hown1;have hY8:=(hg1.block w1.heap.size (by simp;omega) (fun e=>by have:=(HO.out.lt _ e.symm).1;omega)).trans ((heap_alloc_old _ _ (by simp;omega)).trans ((heap_alloc_old _ _ hYl).trans HYY.out));have d6:=rc (u:=.slice A' i c') hY8 6 rfl;have df:=rf hY8 6;have HY8:=qh hY8;clear hY8)
   have hba:Below wr.heap.size wr ((wr.alloc (.cells #[.int .u64 (x.1:Int),.string (bs x.2),.slice Ax 0 cx] 79)).alloc (.cells #[.string (bs x.2)] 9)):=((Below.refl _ _).alloc qn _).alloc (by simp) _
   have hB8:=below_app (below_call HBB.out HBB.out.size hba) (own_keep HO.out hba) hg1 (by simp;omega) (by omega)
   have hs8:w1.heap.size+1≤w8.heap.size:=Nat.le_trans hsz (Nat.le_trans hba.size hg1.size)
   rw [show strL ((f6.l.take i).map (·.2)) ++ [.string (bs x.2)]=strL ((f6.l.take (i+1)).map (·.2)) by rw [HA.out,List.map_append,List.map_singleton,strL_snoc]] at hown1
   have HO1:=qh hown1
   clear hown1
   go_roundw
   case rel=>exact ⟨i+1,_,by go_num,hlt,heap_setCell_here HY8.out (i:=6) _,own_setOther HO1.out (Nat.lt_succ_self _) _,hB8.setCell (p:=⟨w1.heap.size,6,none⟩) qn _,by simpa [World.setCell] using hs8⟩
   case measure=>simp [intOf];omega
  ·obtain rfl:i=f6.l.length:=by omega
   rw [List.take_of_length_le qn] at hown
   have p10:=(hB.cell (p:=⟨g,o+32,none⟩) hgl).trans m10
   have p8:=(hB.cell (p:=⟨g,o+24,none⟩) hgl).trans m8
   have HY1:=qh hY
   have HO1:=qh hown
   have HB1':=qh hB
   have hNl:w1.heap.size < wr.heap.size:=hsz
   have hRq:=(hB.block w.heap.size hwl).trans HR1.out
   have HRq:=qh hRq
   have hSV:StrV (fun b=>w1.heap.size+1≤b∧b < wr.heap.size) wr (f6.l.map (·.2)) A' c':=by
    have:=rep_own (S:=fun b=>w1.heap.size+1≤b∧b < wr.heap.size) (es:=strsD (f6.l.map (·.2))) hown (repN_strL _) (by simp [strsD]) (fun b h1 h2=>⟨h1,h2⟩)
    unfold StrV
    rw [List.length_map]
    exact this
   have HSV:=qh hSV
   clear hY hown hB hRq hSV
   go_wp2_with fail
   rename World=>wq
   go_loopw [81] (fun x wr=>∃ (i:Nat) (u:Value),x=.int .i64 (i:Int)∧i≤f10.l.length∧wr.heap[w1.heap.size]? = some (.cells #[.string (bs f0.b),.int .u64 (f1.n:Int),.string (bs f2.b),.string (bs f3.b),.string (bs f4.b),.string (bs f5.b),.slice A' f6.l.length c',.string (bs f7.b),.bool ad,.int .u64 (f9.n:Int),u] 26 (0,0))∧wr.ownsRow wq.heap.size 53 9 u i ((((f10.l.take i).map fun x=>sgOf x.2).map sgL).flatten)∧Hid (∀ x∈f10.l.take i,okSg (sgOf x.2)=true)∧Kp wq.heap.size w1.heap.size wq wr∧Below w1.heap.size w1 wr∧wq.heap.size≤wr.heap.size) (fun x _=>f10.l.length - (intOf x).toNat)
   case atStart=>exact ⟨0,_,rfl,Nat.zero_le _,HY1.out,World.ownsRow_nil _ _ _ _,qh (fun x hx=>by cases hx),(fun _ _ _=>rfl),HB1'.out,Nat.le_refl _⟩
   case round =>
    clear HY1 HO1 HB1'
    obtain ⟨i,u,rfl,hi,hY,hown,hall,hkp,hB,hsz2⟩:=hrel
    obtain ⟨A2',c2',rfl⟩:=own_form hown
    have hYl:=(qg hY)
    have hRr:=(hB.block w.heap.size hwl).trans HR1.out
    by_cases hlt:i < f10.l.length
    ·obtain ⟨x,hx⟩:=getElem_ex hlt
     obtain ⟨g6,o6,Ax,cx,rfl,_,_,kx⟩:=lfs_at (Rep.keep LV10.out hB) hx
     have hltI:(i:Int) < f10.l.length:=by omega
     have q0:=kx 0 (.int .u64 (x.1:Int)) rfl
     have q1:=kx 1 (.string (bs x.2)) rfl
     have q2:=kx 2 (.slice Ax 0 cx) rfl
     simp only [Nat.add_zero] at q0
     have hx65:=(HG10.out x (List.mem_of_getElem? hx)).2
     have HA:=qh (take_snoc hx)
     have HMX:=qh (List.mem_of_getElem? hx)
     have hpp:sfromP x.2=if okSg (sgOf x.2)=true then (sgOf x.2,0) else (zeroSg,4):=by
      unfold sfromP
      cases hk:okSg (sgOf x.2) with
      | true=>rw [if_pos ⟨hx65,rfl⟩,if_pos rfl]
      | false=>rw [if_neg (fun h=>by cases h.2),if_neg (by decide)]
     obtain ⟨z,nz,hz⟩:∃ z nz,sfromP x.2=(z,nz):=⟨_,_,rfl⟩
     have hF:=fun W:World=>sfrom_any x.2 W
     rw [hz] at hpp hF
     simp only [] at hF
     have HF:=qh hF
     have HPP:=qh hpp
     have HYY:=qh hY
     have HO:=qh hown
     have HBB:=qh hB
     have HRR:=qh hRr
     clear hY hown hB hx kx hF hpp hz hx65 hRr
     go_wp2_with fail
     refine (HF.out _).mono ?_
     rintro e w2 ⟨rfl,hb2⟩
     have hba:Below wr.heap.size wr w2:=below_call ((Below.refl _ _).alloc qn _) (by simp) hb2
     have hY2:=(hba.block _ hYl).trans HYY.out
     have hR2:=(hba.block _ (qg HRR.out)).trans HRR.out
     have HO2:=qh (own_keep HO.out hba)
     have HB2:=qh (below_call HBB.out HBB.out.size hba)
     have hkp2:Kp wq.heap.size w1.heap.size wq w2:=fun b h1 h2=>(hba.block b (by omega)).trans (hkp b h1 h2)
     have hsz3:=Nat.le_trans hsz2 hba.size
     have hYl2:=(qg hY2)
     have hR3:=(heap_alloc_old w2 (.cells (sgR z) 53) (qg hR2)).trans hR2
     have y10:=rc (u:=.slice A2' i c2') hY2 10 rfl
     have y10a:=ca y10 (.cells (sgR z) 53)
     have HY2:=qh hY2
     have HR3:=qh hR3
     clear hb2 hba HYY HO HBB HRR hY2 hR2 hR3 hkp
     cases hk:okSg (sgOf x.2) with
     | false =>
      have hp:=HPP.out
      rw [hk,if_neg (by decide)] at hp
      injection hp with hp1 hp2
      subst hp2
      have HT:=qh (HN1.out ⟨x,HMX.out,hk⟩)
      clear hk hp1
      go_wp2_with (refine wpList_store_row rfl _ _ _ rfl w.heap.size zqH rfl rfl _ _ HR3.out infoHd rfl one11Z ?_)
      exact bodyPost_ret (v:=.tuple #[.agg zqH,.int .i64 4]) (results_row_tmp rfl _ _ w.heap.size _ _ _ _ rfl (setRow_heap _ _ _ _ _ _ HR3.out) _ rfl Tryz.underlying26 rfl infoHd) rfl (hdPost_zero HT.out (below_setRow ((HB1.out.trans (HB2.out.mono HB1.out.size)).alloc (Nat.le_trans HB1.out.size HB2.out.size) _) qn _))
     | true =>
      have hp:=HPP.out
      rw [hk,if_pos rfl] at hp
      injection hp with hp1 hp2
      subst hp2
      have HALL:Hid (∀ x∈f10.l.take (i+1),okSg (sgOf x.2)=true):=qh (by rw [HA.out];intro y hy;rcases List.mem_append.1 hy with hy | hy;exact hall.out y hy;rw [List.mem_singleton] at hy;subst hy;exact hk)
      have HP1:=qh hp1
      clear hk hp1 hall
      go_wp2_with (at_builtin;refine wpl_append elSg rfl rfl wq.heap.size ((HO2.out.alloc _).alloc _) rfl (m:=1) (sgL z) rfl rfl ?_ ?_ ?_ ?_ ?_ ?_;exact (lies_new' _ _ (by simp) _ _);exact (sgL_ok z).2;(simp only [maxLen];omega);omega;(simp;omega);intro v1 w8 hown1 hg1 hat1;obtain ⟨A3,c3,rfl⟩:=own_form hown1;have hY8:=(hg1.block w1.heap.size (by simp;omega) (fun e=>by have:=(HO2.out.lt _ e.symm).1;omega)).trans ((heap_alloc_old _ _ (by simp;omega)).trans ((heap_alloc_old _ _ hYl2).trans HY2.out));have d6:=rc (u:=.slice A2' i c2') hY8 10 rfl;have df:=rf hY8 10;have HY8:=qh hY8;clear hY8)
      have hba:Below w2.heap.size w2 ((w2.alloc (.cells (sgR z) 53)).alloc (.cells (sgR z) 53)):=((Below.refl _ _).alloc qn _).alloc (by simp) _
      have hB8:=below_app (below_call HB2.out HB2.out.size hba) (own_keep HO2.out hba) hg1 (by simp;omega) (by omega)
      have hs8:wq.heap.size≤w8.heap.size:=Nat.le_trans hsz3 (Nat.le_trans hba.size hg1.size)
      have hkp8:Kp wq.heap.size w1.heap.size wq w8:=fun b h1 h2=>(hg1.block b (Nat.lt_of_lt_of_le (Nat.lt_of_lt_of_le h1 hsz3) hba.size) (fun e=>by have:=(HO2.out.lt _ e.symm).1;omega)).trans ((hba.block b (by omega)).trans (hkp2 b h1 h2))
      rw [show (((f10.l.take i).map fun x=>sgOf x.2).map sgL).flatten ++ sgL z=(((f10.l.take (i+1)).map fun x=>sgOf x.2).map sgL).flatten by rw [HA.out,HP1.out];simp] at hown1
      have HO8:=qh hown1
      clear hown1
      go_roundw
      case rel=>exact ⟨i+1,_,by go_num,hlt,heap_setCell_here HY8.out (i:=10) _,own_setOther HO8.out hNl _,HALL,fun b h1 h2=>(heap_set_ne h2 _).trans (hkp8 b h1 h2),hB8.setCell (p:=⟨w1.heap.size,10,none⟩) qn _,by simpa [World.setCell] using hs8⟩
      case measure=>simp [intOf];omega
    ·obtain rfl:i=f10.l.length:=by omega
     rw [List.take_of_length_le qn] at hown hall
     have p8':=(hB.cell (p:=⟨g,o+24,none⟩) hgl).trans m8
     obtain ⟨h,hh⟩:∃ h:Hd,(⟨f0.b,f1.n,f2.b,f3.b,f4.b,f5.b,f6.l.map (·.2),f7.b,ad,f9.n,f10.l.map fun x=>sgOf x.2⟩:Hd)=h:=⟨_,rfl⟩
     have hvv:HdV (From (w.heap.size+1)) wr h A' c' A2' c2':=by
      rw [← hh]
      refine ⟨Rep.mono HSV.out fun b _ hb=>⟨by show w.heap.size+1≤b;omega,hkp b hb.2 (by omega)⟩,?_⟩
      have:=PlV.own (S:=From (w.heap.size+1)) hown (by simp) (fun l hl=>by obtain ⟨y,_,rfl⟩:=List.mem_map.1 hl;exact sgL_ok y) (fun b h1 _=>by show w.heap.size+1≤b;omega)
      exact this
     have hfine:h.Fine:=by
      rw [← hh]
      exact ⟨HWF.out,HFB.out.1,HFB.out.2.1,HFB.out.2.2.1,HFB.out.2.2.2.1,HFB.out.2.2.2.2.1,HFB.out.2.2.2.2.2,fun a ha=>by
       obtain ⟨y,hy,rfl⟩:=List.mem_map.1 ha
       have:=(HG6.out y hy).2
       omega⟩
     have hc:=fun (W:World) (hb:Below wr.heap.size wr W)=>hright_any h hfine A' A2' c' c2' W (HdV.keep ⟨StrV.any hvv.vals,PlV.any hvv.seals⟩ hb)
     have hy:=HY.out
     have hn:=HN3.out
     rw [hh] at hy hn
     have HHV:=qh hvv
     have HH:=qh hh
     have HYH:=qh hy
     have HNH:=qh hn
     subst hh
     simp only [List.length_map] at hc
     obtain ⟨rb,hrb⟩:∃ rb,okHd (⟨f0.b,f1.n,f2.b,f3.b,f4.b,f5.b,f6.l.map (·.2),f7.b,ad,f9.n,f10.l.map fun x=>sgOf x.2⟩:Hd)=rb:=⟨_,rfl⟩
     rw [hrb] at hc
     have HRB:=qh hrb
     have HC:=qh hc
     have HYY:=qh hY
     have HRR:=qh hRr
     have HBB:=qh hB
     clear hY hown hB hkp hvv hfine hc hy hn hrb hRr
     by_cases h8:(1:Int) < f8.n
     ·have HT:=qh (HN2.out (by omega))
      go_wp2_with (refine wpList_store_row rfl _ _ _ rfl w.heap.size zqH rfl rfl _ _ HRR.out infoHd rfl one11Z ?_)
      exact bodyPost_ret (v:=.tuple #[.agg zqH,.int .i64 4]) (results_row_tmp rfl _ _ w.heap.size _ _ _ _ rfl (setRow_heap _ _ _ _ _ _ HRR.out) _ rfl Tryz.underlying26 rfl infoHd) rfl (hdPost_zero HT.out (below_setRow (HB1.out.trans (HBB.out.mono HB1.out.size)) qn _))
     ·have H8:=qh h8
      have y0:=rc (u:=.string (bs f0.b)) HYY.out 0 rfl
      have y1:=rc (u:=.int .u64 (f1.n:Int)) HYY.out 1 rfl
      have y2:=rc (u:=.string (bs f2.b)) HYY.out 2 rfl
      have y3:=rc (u:=.string (bs f3.b)) HYY.out 3 rfl
      have y4:=rc (u:=.string (bs f4.b)) HYY.out 4 rfl
      have y5:=rc (u:=.string (bs f5.b)) HYY.out 5 rfl
      have y6:=rc (u:=.slice A' f6.l.length c') HYY.out 6 rfl
      have y7:=rc (u:=.string (bs f7.b)) HYY.out 7 rfl
      have y8:=rc (u:=.bool ad) HYY.out 8 rfl
      have y9:=rc (u:=.int .u64 (f9.n:Int)) HYY.out 9 rfl
      have y10:=rc (u:=.slice A2' f10.l.length c2') HYY.out 10 rfl
      go_wp2_with fail
      refine (HC.out _ (Below.refl _ _)).mono ?_
      rintro e w9 ⟨rfl,hb9⟩
      have HY9:=qh ((hb9.block _ (qg HYY.out)).trans HYY.out)
      have HR9:=qh ((hb9.block _ (qg HRR.out)).trans HRR.out)
      have HB9:=qh (HB1.out.trans ((below_call HBB.out HBB.out.size hb9).mono HB1.out.size))
      have HV9:=qh (HHV.out.keep hb9)
      clear hb9 HYY HRR HBB HHV y0 y1 y2 y3 y4 y5 y6 y7 y8 y9 y10
      cases rb with
      | false =>
       have HT:=qh (HNH.out (fun hk=>by rw [(okHd_iff _).2 hk] at HRB;cases HRB.out))
       go_wp2_with (refine wpList_store_row rfl _ _ _ rfl w.heap.size zqH rfl rfl _ _ HR9.out infoHd rfl one11Z ?_)
       exact bodyPost_ret (v:=.tuple #[.agg zqH,.int .i64 4]) (results_row_tmp rfl _ _ w.heap.size _ _ _ _ rfl (setRow_heap _ _ _ _ _ _ HR9.out) _ rfl Tryz.underlying26 rfl infoHd) rfl (hdPost_zero HT.out (below_setRow HB9.out qn _))
      | true =>
       have HT:=qh (HYH.out hall.out (by omega) ((okHd_iff _).1 HRB.out))
       go_wp2_with (first | (refine wpList_load_row rfl _ _ rfl w1.heap.size rfl _ _ _ _ HY9.out Tryz.underlying26 rfl infoHd ?_) | (refine wpList_store_row rfl _ _ _ rfl w.heap.size #[.string (bs f0.b),.int .u64 (f1.n:Int),.string (bs f2.b),.string (bs f3.b),.string (bs f4.b),.string (bs f5.b),.slice A' f6.l.length c',.string (bs f7.b),.bool ad,.int .u64 (f9.n:Int),.slice A2' f10.l.length c2'] rfl rfl _ _ HR9.out infoHd rfl (one11 _ [] _ _ _ _ _ _ _ _ _ _ _ _ _ _) ?_))
       refine bodyPost_ret (v:=.tuple #[.agg #[.string (bs f0.b),.int .u64 (f1.n:Int),.string (bs f2.b),.string (bs f3.b),.string (bs f4.b),.string (bs f5.b),.slice A' f6.l.length c',.string (bs f7.b),.bool ad,.int .u64 (f9.n:Int),.slice A2' f10.l.length c2'],.int .i64 0]) (results_row_tmp rfl _ _ w.heap.size _ _ _ _ rfl (setRow_heap _ _ _ _ _ _ HR9.out) _ rfl Tryz.underlying26 rfl infoHd) rfl ?_
       refine ⟨⟨f0.b,f1.n,f2.b,f3.b,f4.b,f5.b,f6.l.map (·.2),f7.b,ad,f9.n,f10.l.map fun x=>sgOf x.2⟩,A',A2',c',c2',0,by simp only [hdR,List.length_map];rfl,?_,HT.out,below_setRow HB9.out qn _⟩
       have hm:∀ b,b < w9.heap.size→From (w.heap.size+1) b→From w.heap.size b∧(w9.setRow w.heap.size #[.string (bs f0.b),.int .u64 (f1.n:Int),.string (bs f2.b),.string (bs f3.b),.string (bs f4.b),.string (bs f5.b),.slice A' f6.l.length c',.string (bs f7.b),.bool ad,.int .u64 (f9.n:Int),.slice A2' f10.l.length c2']).heap[b]? = w9.heap[b]?:=fun b _ hb=>⟨Nat.le_of_succ_le hb,heap_setRow_ne _ (by have h1:w.heap.size+1≤b:=hb;omega) _⟩
       exact ⟨Rep.mono HV9.out.vals hm,Rep.mono HV9.out.seals hm⟩
/- The walks of keccak.Of, block.Sum. -/
theorem map_bs (ps:List Bytes):(ps.map bs).map (·.data.toList)=ps:=by
 rw [List.map_map];conv=>rhs;rw [← List.map_id ps]
 exact List.map_congr_left fun a _=>by simp [bs]
theorem join_flat:∀ ps:List Bytes,Lib.join ps []=ps.flatten
 | []=>rfl
 | [a]=>by simp [Lib.join]
 | a :: b :: ps=>by
  have:=join_flat (b :: ps)
  simp [Lib.join] at this ⊢
  exact this
theorem join_any (ps:List Bytes) (hN:ps.length≤100000) (hl:ps.flatten.length≤1000000) (A:Option Addr) (c:Nat) (w:World) (hv:StrV Any w ps A c) :
  Calls Tryz.prog 50 #[.slice A ps.length c,.string ⟨#[]⟩] w fun e w'=>e=.returned (.string (bs ps.flatten))∧Below w.heap.size w w':=by
 cases ps with
 | nil=>exact (joinNone A c _ w).mono fun e w' ⟨h1,h2⟩=>⟨h1,by rw [h2];exact Below.refl _ _⟩
 | cons a l =>
  have hc:(a :: l).length≤c:=(Rep.slice_len hv).2.1
  obtain ⟨g,o,rfl,_,h0⟩:=StrV.at_ hv (i:=0) (p:=a) rfl
  have h:=joinSome g o c ((a :: l).map bs) (bs []) w (fun j x hj=>by
   rw [List.getElem?_map,Option.map_eq_some_iff] at hj
   obtain ⟨y,hy,rfl⟩:=hj
   obtain ⟨g1,o1,h1,_,h2⟩:=StrV.at_ hv hy
   injection h1 with h1
   injection h1 with h1 h3
   subst h1;subst h3
   exact h2) (lt_of_cell h0) (by rw [List.length_map];omega) (by rw [List.length_map];exact hc) (by
    rw [map_bs,show (bs []).data.toList = [] from rfl,join_flat];omega)
  rw [map_bs,List.length_map,show (bs []).data.toList = [] from rfl,join_flat] at h
  exact h
theorem of_any (ps:List Bytes) (hN:ps.length≤100000) (hl:ps.flatten.length≤1000000) (A:Option Addr) (c:Nat) (w:World) (hv:StrV Any w ps A c) :
  Calls Tryz.prog 23 #[.slice A ps.length c] w fun e w'=>e=.returned (.string (bs (sumK ps.flatten)))∧Below w.heap.size w w':=by
 have HJ:=qh (join_any ps hN hl A c w hv)
 have HS:=qh (fun W:World=>sum_any ps.flatten (by omega) W)
 clear hN hl hv
 go_enter Tryz.func23,Tryz.ntmps23
 go_wp2_with fail
 refine HJ.out.mono ?_
 rintro e w1 ⟨rfl,hb1⟩
 have HB1:=qh hb1
 clear hb1
 go_wp2_with fail
 refine (HS.out _).mono ?_
 rintro e w2 ⟨rfl,hb2⟩
 have HB2:=qh (below_call HB1.out HB1.out.size hb2)
 clear hb2
 go_wp2_with fail
 go_ret
 exact ⟨rfl,HB2.out⟩
def trL (t:Tr):List Value:=[.string (bs t.to),.int .u64 (t.am:Int),.int .u64 (t.no:Int),.int .u64 (t.sg.r.a:Int),.int .u64 (t.sg.r.b:Int),.int .u64 (t.sg.r.c:Int),.int .u64 (t.sg.r.d:Int),.int .u64 (t.sg.s.a:Int),.int .u64 (t.sg.s.b:Int),.int .u64 (t.sg.s.c:Int),.int .u64 (t.sg.s.d:Int),.int .i64 t.sg.v]
theorem trL_ok (t:Tr):(trL t).length=12∧∀ u∈trL t,u.oneCell'=true:=⟨rfl,fun u hu=>by
 simp only [trL,List.mem_cons,List.not_mem_nil,or_false] at hu
 rcases hu with rfl | rfl | rfl | rfl | rfl | rfl | rfl | rfl | rfl | rfl | rfl | rfl <;> rfl⟩
def TrsV (S:Nat→Prop) (w:World) (l:List Tr) (A:Option Addr) (c:Nat):Prop:=PlV S w 12 (l.map trL) A c
theorem trs_at {S:Nat→Prop} {w:World} {l:List Tr} {A:Option Addr} {c i:Nat} {t:Tr} (h:TrsV S w l A c) (hi:l[i]? = some t):∃ g o,A=some ⟨g,o,none⟩∧∀ j u,(trL t)[j]? = some u→w.cell? ⟨g,o+i * 12+j,none⟩=some u:=by
 obtain ⟨g,o,hA,_,_,hc⟩:=PlV.at_ h (by decide) (i:=i) (cs:=trL t) (by rw [List.getElem?_map,hi];rfl)
 exact ⟨g,o,hA,hc⟩
structure Tr.Fine (t:Tr):Prop where
 wf:t.Wf
 to:t.to.length≤9223372036854775807
def bsumP (l:List Tr):Bytes×Nat:=if l.all okTr=true then (sumsT l,0) else ([],1)
theorem bsum_any (l:List Tr) (hl:l.length≤10000) (hf:∀ t∈l,t.Fine) (A:Option Addr) (c:Nat) (w:World) (hv:TrsV Any w l A c) :
  Calls Tryz.prog 6 #[.slice A l.length c] w fun e w'=>e=.returned (.tuple #[.string (bs (bsumP l).1),.int .i64 (bsumP l).2])∧Below w.heap.size w w':=by
 obtain ⟨r,n,hrn⟩:∃ r n,bsumP l=(r,n):=⟨_,_,rfl⟩
 rw [hrn]
 simp only []
 unfold bsumP at hrn
 have HRN:=qh hrn
 have HV:=qh hv
 have HF:=qh hf
 have hlI:(l.length:Int)≤10000:=by omega
 clear hrn hv hf
 go_enter Tryz.func6,Tryz.ntmps6
 go_wp2_with fail
 go_loopw [4,11] (fun u a wr=>∃ i:Nat,a=.int .i64 (i:Int)∧i≤l.length∧wr.ownsRow w.heap.size 9 1 u i (strL ((l.take i).map sumT))∧Hid ((l.take i).all okTr=true)∧Below w.heap.size w wr) (fun _ a _=>l.length - (intOf a).toNat)
 case atStart=>exact ⟨0,rfl,Nat.zero_le _,World.ownsRow_nil _ _ _ _,qh rfl,Below.refl _ _⟩
 case round =>
  obtain ⟨i,rfl,hi,hown,hall,hB⟩:=hrel
  obtain ⟨A',c',rfl⟩:=own_form hown
  by_cases hlt:i < l.length
  ·obtain ⟨t,ht⟩:=getElem_ex hlt
   obtain ⟨g,o,rfl,kc⟩:=trs_at (PlV.keep HV.out hB) ht
   have hltI:(i:Int) < l.length:=by omega
   have q0:=kc 0 (.string (bs t.to)) rfl
   have q1:=kc 1 (.int .u64 (t.am:Int)) rfl
   have q2:=kc 2 (.int .u64 (t.no:Int)) rfl
   have q3:=kc 3 (.int .u64 (t.sg.r.a:Int)) rfl
   have q4:=kc 4 (.int .u64 (t.sg.r.b:Int)) rfl
   have q5:=kc 5 (.int .u64 (t.sg.r.c:Int)) rfl
   have q6:=kc 6 (.int .u64 (t.sg.r.d:Int)) rfl
   have q7:=kc 7 (.int .u64 (t.sg.s.a:Int)) rfl
   have q8:=kc 8 (.int .u64 (t.sg.s.b:Int)) rfl
   have q9:=kc 9 (.int .u64 (t.sg.s.c:Int)) rfl
   have q10:=kc 10 (.int .u64 (t.sg.s.d:Int)) rfl
   have q11:=kc 11 (.int .i64 t.sg.v) rfl
   simp only [Nat.add_zero] at q0
   have hfine:=HF.out t (List.mem_of_getElem? ht)
   have HA:=qh (take_snoc ht)
   have HM:=qh (List.mem_of_getElem? ht)
   have HO:=qh hown
   have HB:=qh hB
   cases hok:okTr t with
   | false =>
    have hz:(r,n)=([],1):=by rw [← HRN.out,if_neg (fun h=>by rw [List.all_eq_true.1 h t HM.out] at hok;cases hok)]
    injection hz with hz1 hz2
    subst hz1;subst hz2
    have HC:=qh (fun W:World=>tsum_no t hfine.wf hfine.to hok W)
    clear hok hown hB kc ht hfine hall
    go_wp2_with fail
    refine (HC.out _).mono ?_
    rintro e w1 ⟨rfl,hb1⟩
    have HB1:=qh (below_call (HB.out.alloc HB.out.size _) (Nat.le_trans HB.out.size (by simp)) hb1)
    clear hb1
    go_wp2_with fail
    go_ret2
    exact ⟨rfl,HB1.out⟩
   | true =>
    have HC:=qh (fun W:World=>tsum_yes t hfine.wf hok W)
    have HALL:Hid ((l.take (i+1)).all okTr=true):=qh (by rw [HA.out,List.all_append,hall.out];simp [hok])
    clear hok hown hB kc ht hfine hall
    go_wp2_with fail
    refine (HC.out _).mono ?_
    rintro e w1 ⟨rfl,hb1⟩
    have hba:Below wr.heap.size wr w1:=below_call ((Below.refl _ _).alloc qn _) (by simp) hb1
    have HB1:=qh (below_call HB.out HB.out.size hba)
    have HO1:=qh (own_keep HO.out hba)
    clear hb1 hba HO HB
    go_wp2_with (at_builtin;refine wpl_append elStr rfl rfl w.heap.size (HO1.out.alloc _) rfl (m:=1) [.string (bs (sumK (trB t)))] rfl rfl (lies_new _ _ _) ?_ ?_ ?_ ?_ ?_;(intro u hu;simp at hu;rcases hu with rfl;rfl);(simp only [maxLen];omega);omega;(simp;have:=HB1.out.size;omega);intro v1 w8 hown1 hg1 hat1;obtain ⟨A3,c3,rfl⟩:=own_form hown1)
    have hba:Below w1.heap.size w1 (w1.alloc (.cells #[.string (bs (sumK (trB t)))] 9)):=(Below.refl _ _).alloc qn _
    have hB8:=below_app (below_call HB1.out HB1.out.size hba) (own_keep HO1.out hba) hg1 (by simp;have:=HB1.out.size;omega) qn
    rw [show strL ((l.take i).map sumT) ++ [.string (bs (sumK (trB t)))]=strL ((l.take (i+1)).map sumT) by rw [HA.out,List.map_append,List.map_singleton,strL_snoc];rfl] at hown1
    go_roundw
    case rel=>exact ⟨i+1,by go_num,hlt,hown1,HALL,hB8⟩
    case measure=>simp [intOf];omega
  ·obtain rfl:i=l.length:=by omega
   rw [List.take_of_length_le qn] at hown hall
   have hz:(r,n)=(sumsT l,0):=by rw [← HRN.out,if_pos hall.out]
   injection hz with hz1 hz2
   have hflat:∀ m:List Tr,(m.map sumT).flatten.length=32 * m.length:=fun m=>by
    induction m with
    | nil=>rfl
    | cons a m ih=>rw [List.map_cons,List.flatten_cons,List.length_append,ih,List.length_cons];unfold sumT;rw [sumK_len];omega
   have hsv:StrV Any wr (l.map sumT) A' c':=by
    have:=rep_own (S:=Any) (es:=strsD (l.map sumT)) hown (repN_strL _) (by simp [strsD]) (fun _ _ _=>trivial)
    unfold StrV
    rw [List.length_map]
    exact this
   have hC:=of_any (l.map sumT) (by rw [List.length_map];omega) (by rw [hflat];omega) A' c' wr hsv
   rw [List.length_map] at hC
   have HC:=qh hC
   have HB:=qh hB
   have HZ1:=qh hz1
   subst hz2
   clear hC hB hown hsv hz1 hflat hall
   go_wp2_with fail
   refine HC.out.mono ?_
   rintro e w1 ⟨rfl,hb1⟩
   have HB1:=qh (below_call HB.out HB.out.size hb1)
   clear hb1
   go_wp2_with fail
   go_ret2
   exact ⟨by rw [HZ1.out];rfl,HB1.out⟩
/- The walks of block.Right, Bytes. -/
structure BkV (S:Nat→Prop) (w:World) (b:Bk) (Av:Option Addr) (cv:Nat) (As:Option Addr) (cs:Nat) (At:Option Addr) (ct:Nat):Prop where
 hd:HdV S w b.hd Av cv As cs
 txs:TrsV S w b.txs At ct
theorem BkV.keep {S:Nat→Prop} {w w':World} {b:Bk} {Av As At:Option Addr} {cv cs ct:Nat} (x:BkV S w b Av cv As cs At ct) (hb:Below w.heap.size w w'):BkV S w' b Av cv As cs At ct:=⟨x.hd.keep hb,PlV.keep x.txs hb⟩
structure Bk.Fine (b:Bk):Prop where
 hd:b.hd.Fine
 txs:∀ t∈b.txs,t.Fine
 len:b.txs.length≤10000
theorem okBk_eq (b:Bk):okBk b=(okHd b.hd && (decide (b.txs.length≤4) && (b.txs.all okTr && sumsT b.txs == b.hd.txs))):=by
 unfold okBk;simp only [Bool.and_assoc]
theorem bright_any (b:Bk) (hf:b.Fine) (Av As At:Option Addr) (cv cs ct:Nat) (w:World) (hv:BkV Any w b Av cv As cs At ct) :
  Calls Tryz.prog 10 #[.agg (bkR b Av cv As cs At ct)] w fun e w'=>e=.returned (.bool (okBk b))∧Below w.heap.size w w':=by
 have hp:=okBk_eq b
 obtain ⟨R,hR⟩:∃ R,okBk b=R:=⟨_,rfl⟩
 rw [hR] at hp ⊢
 have h0:=heap_alloc_new w (.cells (bkR b Av cv As cs At ct) 29)
 have hb:=(Below.refl w.heap.size w).alloc qn (.cells (bkR b Av cv As cs At ct) 29)
 have hH:=fun (W:World) (hb:Below w.heap.size w W)=>hright_any b.hd hf.hd Av As cv cs W (hv.hd.keep hb)
 have hS:=fun (W:World) (hb:Below w.heap.size w W)=>bsum_any b.txs hf.len hf.txs At ct W (PlV.keep hv.txs hb)
 obtain ⟨hk,hhk⟩:∃ hk,okHd b.hd=hk:=⟨_,rfl⟩
 rw [hhk] at hH hp
 have hlI:(b.txs.length:Int)≤10000:=by have:=hf.len;omega
 have HOK:=qh hp
 have HX:=qh h0
 have HB:=qh hb
 have HH:=qh hH
 have HS:=qh hS
 have x0:=rc (u:=.string (bs b.hd.parent)) h0 0 rfl
 have x1:=rc (u:=.int .u64 (b.hd.height:Int)) h0 1 rfl
 have x2:=rc (u:=.string (bs b.hd.root)) h0 2 rfl
 have x3:=rc (u:=.string (bs b.hd.txs)) h0 3 rfl
 have x4:=rc (u:=.string (bs b.hd.prop)) h0 4 rfl
 have x5:=rc (u:=.string (bs b.hd.van)) h0 5 rfl
 have x6:=rc (u:=.slice Av b.hd.vals.length cv) h0 6 rfl
 have x7:=rc (u:=.string (bs b.hd.vote)) h0 7 rfl
 have x8:=rc (u:=.bool b.hd.add) h0 8 rfl
 have x9:=rc (u:=.int .u64 (b.hd.round:Int)) h0 9 rfl
 have x10:=rc (u:=.slice As b.hd.seals.length cs) h0 10 rfl
 have x11:=rc (u:=.slice At b.txs.length ct) h0 11 rfl
 clear hp hR h0 hb hH hS hhk hv hf
 cases hk with
 | false =>
  have hR:R=false:=by rw [HOK.out];rfl
  have HR:=qh hR
  clear hR
  go_enter Tryz.func10,Tryz.ntmps10
  go_wp2_with fail
  refine (HH.out _ HB.out).mono ?_
  rintro e w1 ⟨rfl,hb1⟩
  have HB1:=qh (below_call HB.out HB.out.size hb1)
  clear hb1 x0 x1 x2 x3 x4 x5 x6 x7 x8 x9 x10 x11
  go_wp2_with fail
  go_ret
  exact ⟨by rw [HR.out];rfl,HB1.out⟩
 | true =>
  have hp:=HOK.out
  rw [Bool.true_and] at hp
  have HOK:=qh hp
  clear hp
  by_cases h4:(4:Int) < b.txs.length
  ·have hR:R=false:=by rw [HOK.out,decide_eq_false (show ¬ b.txs.length≤4 by omega)];rfl
   have HR:=qh hR
   clear hR
   go_enter Tryz.func10,Tryz.ntmps10
   go_wp2_with fail
   refine (HH.out _ HB.out).mono ?_
   rintro e w1 ⟨rfl,hb1⟩
   have hX1:=(hb1.block _ (qg HX.out)).trans HX.out
   have HB1:=qh (below_call HB.out HB.out.size hb1)
   have y11:=rc (u:=.slice At b.txs.length ct) hX1 11 rfl
   clear hb1 hX1 x0 x1 x2 x3 x4 x5 x6 x7 x8 x9 x10 x11
   go_wp2_with fail
   go_ret
   exact ⟨by rw [HR.out];rfl,HB1.out⟩
  ·have hp:=HOK.out
   rw [decide_eq_true (show b.txs.length≤4 by omega),Bool.true_and] at hp
   have hS:=HS.out
   unfold bsumP at hS
   obtain ⟨ak,hak⟩:∃ ak,b.txs.all okTr=ak:=⟨_,rfl⟩
   rw [hak] at hp hS
   obtain ⟨q,hq⟩:∃ q,(sumsT b.txs == b.hd.txs)=q:=⟨_,rfl⟩
   rw [hq] at hp
   have HQ:=qh hq
   have HOK:=qh hp
   clear hp hak hq
   cases ak with
   | false =>
    rw [if_neg (by decide)] at hS
    have hR:R=false:=by rw [HOK.out];rfl
    have HR:=qh hR
    have HS:=qh hS
    clear hR hS
    go_enter Tryz.func10,Tryz.ntmps10
    go_wp2_with fail
    refine (HH.out _ HB.out).mono ?_
    rintro e w1 ⟨rfl,hb1⟩
    have hX1:=(hb1.block _ (qg HX.out)).trans HX.out
    have HB1:=qh (below_call HB.out HB.out.size hb1)
    have y11:=rc (u:=.slice At b.txs.length ct) hX1 11 rfl
    clear hb1 hX1 x0 x1 x2 x3 x4 x5 x6 x7 x8 x9 x10 x11
    go_wp2_with fail
    refine (HS.out _ HB1.out).mono ?_
    rintro e w2 ⟨rfl,hb2⟩
    have HB2:=qh (below_call HB1.out HB1.out.size hb2)
    clear hb2 y11
    go_wp2_with fail
    go_ret
    exact ⟨by rw [HR.out];rfl,HB2.out⟩
   | true =>
    rw [if_pos rfl] at hS
    have hR:R=q:=by rw [HOK.out,Bool.true_and]
    have HR:=qh hR
    have HS:=qh hS
    clear hR hS
    go_enter Tryz.func10,Tryz.ntmps10
    go_wp2_with fail
    refine (HH.out _ HB.out).mono ?_
    rintro e w1 ⟨rfl,hb1⟩
    have hX1:=(hb1.block _ (qg HX.out)).trans HX.out
    have HB1:=qh (below_call HB.out HB.out.size hb1)
    have y11:=rc (u:=.slice At b.txs.length ct) hX1 11 rfl
    have HX1:=qh hX1
    clear hb1 hX1 x0 x1 x2 x3 x4 x5 x6 x7 x8 x9 x10 x11
    go_wp2_with fail
    refine (HS.out _ HB1.out).mono ?_
    rintro e w2 ⟨rfl,hb2⟩
    have hX2:=(hb2.block _ (qg HX1.out)).trans HX1.out
    have HB2:=qh (below_call HB1.out HB1.out.size hb2)
    have y3:=rc (u:=.string (bs b.hd.txs)) hX2 3 rfl
    have hqe:=HQ.out
    obtain ⟨st,hst⟩:∃ st,sumsT b.txs=st:=⟨_,rfl⟩
    obtain ⟨ht,hht⟩:∃ ht,b.hd.txs=ht:=⟨_,rfl⟩
    rw [hst,hht] at hqe
    rw [hht] at y3
    rw [hst]
    clear hb2 hX2 y11 hst hht
    go_wp2_with fail
    go_ret
    exact ⟨by rw [HR.out];rfl,HB2.out⟩
def itC (s:Bytes):List Value:=[.bool false,.string (bs s),.slice none 0 0]
def itsC (l:List Bytes):List Value:=l.flatMap itC
theorem itsC_snoc (l:List Bytes) (a:Bytes):itsC (l ++ [a])=itsC l ++ itC a:=by simp [itsC]
theorem repN_itsC {S:Nat→Prop} {w:World}:∀ l:List Bytes,RepN S w 3 (itemsD (l.map leafIt)) (itsC l)
 | []=>.nil
 | a :: l=>.cons (cs:=itC a) (ItemV.leaf (S:=S) (w:=w) a false) rfl (repN_itsC l)
def bkTs (b:Bk):List Bytes:=hdB b.hd :: b.txs.map trB
theorem bkL_ts (b:Bk):bkL b=(bkTs b).map leafIt:=by unfold bkL bkTs;rw [List.map_cons,List.map_map];rfl
theorem encR_bk {b:Bk} (hk:OkBk b) (hw:b.Wf):encR (bkI b)=(bkB b,0):=by
 obtain ⟨h1,h2⟩:=bkB_len hk hw
 obtain ⟨h3,h4⟩:=bkI_fine b
 unfold bkB at h1
 unfold encR wellP
 rw [h3]
 simp only [Bool.true_and]
 rw [if_neg (by simp;omega),if_neg (by omega),if_neg (by omega)]
 rfl
theorem bbytes_no (b:Bk) (hf:b.Fine) (hk:okBk b=false) (Av As At:Option Addr) (cv cs ct:Nat) (w:World) (hv:BkV Any w b Av cv As cs At ct) :
  Calls Tryz.prog 5 #[.agg (bkR b Av cv As cs At ct)] w fun e w'=>e=.returned (.tuple #[.string (bs []),.int .i64 1])∧Below w.heap.size w w':=by
 have hb:=(Below.refl w.heap.size w).alloc qn (.cells (bkR b Av cv As cs At ct) 29)
 have hR:=bright_any b hf Av As At cv cs ct (w.alloc (.cells (bkR b Av cv As cs At ct) 29)) (hv.keep hb)
 rw [hk] at hR
 have HR:=qh hR
 have HB:=qh hb
 clear hR hb hk hf hv
 go_enter Tryz.func5,Tryz.ntmps5
 go_wp2_with fail
 refine HR.out.mono ?_
 rintro e w1 ⟨rfl,hb1⟩
 have HB1:=qh (below_call HB.out HB.out.size hb1)
 clear hb1
 go_wp2_with fail
 go_ret2
 exact ⟨rfl,HB1.out⟩
theorem bbytes_yes (b:Bk) (hf:b.Fine) (hk:OkBk b) (Av As At:Option Addr) (cv cs ct:Nat) (w:World) (hv:BkV Any w b Av cv As cs At ct) :
  Calls Tryz.prog 5 #[.agg (bkR b Av cv As cs At ct)] w fun e w'=>e=.returned (.tuple #[.string (bs (bkB b)),.int .i64 0])∧Below w.heap.size w w':=by
 have hwf:b.Wf:=⟨hf.hd.wf,fun t ht=>(hf.txs t ht).wf⟩
 have h0:=heap_alloc_new w (.cells (bkR b Av cv As cs At ct) 29)
 have hb:=(Below.refl w.heap.size w).alloc qn (.cells (bkR b Av cv As cs At ct) 29)
 have hR:=bright_any b hf Av As At cv cs ct (w.alloc (.cells (bkR b Av cv As cs At ct) 29)) (hv.keep hb)
 rw [(okBk_iff b).2 hk] at hR
 have HR:=qh hR
 have HH:=qh (fun (W:World) (hb:Below w.heap.size w W)=>hbytes_yes b.hd hf.hd hk.hd Av As cv cs W (hv.hd.keep hb))
 have HT:=qh (fun t ht (W:World)=>tbytes_yes t (hf.txs t ht).wf (hk.each t ht) W)
 have HE:=qh (fun A c (W:World) hv=>Encode_any (bkI b) A c W (by have:=(bkB_len hk hwf).1;unfold bkB at this;omega) hv)
 have HEN:=qh (encR_bk hk hwf)
 have HV:=qh hv
 have HX:=qh h0
 have HB:=qh hb
 have h4:=hk.len
 have h4I:(b.txs.length:Int)≤4:=by omega
 clear hR h0 hb hv hf hk hwf
 go_enter Tryz.func5,Tryz.ntmps5
 go_wp2_with fail
 refine HR.out.mono ?_
 rintro e w1 ⟨rfl,hb1⟩
 have hX1:=(hb1.block _ (qg HX.out)).trans HX.out
 have HB1:=qh (below_call HB.out HB.out.size hb1)
 have y0:=rc (u:=.string (bs b.hd.parent)) hX1 0 rfl
 have y1:=rc (u:=.int .u64 (b.hd.height:Int)) hX1 1 rfl
 have y2:=rc (u:=.string (bs b.hd.root)) hX1 2 rfl
 have y3:=rc (u:=.string (bs b.hd.txs)) hX1 3 rfl
 have y4:=rc (u:=.string (bs b.hd.prop)) hX1 4 rfl
 have y5:=rc (u:=.string (bs b.hd.van)) hX1 5 rfl
 have y6:=rc (u:=.slice Av b.hd.vals.length cv) hX1 6 rfl
 have y7:=rc (u:=.string (bs b.hd.vote)) hX1 7 rfl
 have y8:=rc (u:=.bool b.hd.add) hX1 8 rfl
 have y9:=rc (u:=.int .u64 (b.hd.round:Int)) hX1 9 rfl
 have y10:=rc (u:=.slice As b.hd.seals.length cs) hX1 10 rfl
 have y11:=rc (u:=.slice At b.txs.length ct) hX1 11 rfl
 have HX1:=qh hX1
 clear hb1 hX1 HX HB
 go_wp2_with fail
 refine (HH.out _ HB1.out).mono ?_
 rintro e w2 ⟨rfl,hb2⟩
 have hX2:=(hb2.block _ (qg HX1.out)).trans HX1.out
 have HB2:=qh (below_call HB1.out HB1.out.size hb2)
 have z11:=rc (u:=.slice At b.txs.length ct) hX2 11 rfl
 have z11a:=ca z11 (.cells #[.bool false,.string (bs (hdB b.hd)),.slice none 0 0] 49)
 have HO0:=qh (World.ownsRow_lit (base:=w2.heap.size) (e:=49) (size:=3) w2 #[.bool false,.string (bs (hdB b.hd)),.slice none 0 0] 1 qn (by simp [maxLen]) rfl)
 have HB2a:=qh (HB2.out.alloc HB2.out.size (.cells #[.bool false,.string (bs (hdB b.hd)),.slice none 0 0] 49))
 have hw2:w.heap.size≤w2.heap.size:=HB2.out.size
 clear hb2 hX2 HB1 HX1 y0 y1 y2 y3 y4 y5 y6 y7 y8 y9 y10 y11
 go_wp2_with fail
 go_loopw [6,29] (fun u a wr=>∃ i:Nat,a=.int .i64 (i:Int)∧i≤b.txs.length∧wr.ownsRow w2.heap.size 49 3 u (i+1) (itsC ((bkTs b).take (i+1)))∧Below w.heap.size w wr∧w2.heap.size≤wr.heap.size) (fun _ a _=>b.txs.length - (intOf a).toNat)
 case atStart=>exact ⟨0,rfl,Nat.zero_le _,HO0.out,HB2a.out,by simp⟩
 case round =>
  clear HO0 HB2a HB2 z11 z11a
  obtain ⟨i,rfl,hi,hown,hB,hsz⟩:=hrel
  obtain ⟨A',c',rfl⟩:=own_form hown
  by_cases hlt:i < b.txs.length
  ·obtain ⟨t,ht⟩:=getElem_ex hlt
   obtain ⟨g,o,rfl,kc⟩:=trs_at (PlV.keep HV.out.txs hB) ht
   have hltI:(i:Int) < b.txs.length:=by omega
   have q0:=kc 0 (.string (bs t.to)) rfl
   have q1:=kc 1 (.int .u64 (t.am:Int)) rfl
   have q2:=kc 2 (.int .u64 (t.no:Int)) rfl
   have q3:=kc 3 (.int .u64 (t.sg.r.a:Int)) rfl
   have q4:=kc 4 (.int .u64 (t.sg.r.b:Int)) rfl
   have q5:=kc 5 (.int .u64 (t.sg.r.c:Int)) rfl
   have q6:=kc 6 (.int .u64 (t.sg.r.d:Int)) rfl
   have q7:=kc 7 (.int .u64 (t.sg.s.a:Int)) rfl
   have q8:=kc 8 (.int .u64 (t.sg.s.b:Int)) rfl
   have q9:=kc 9 (.int .u64 (t.sg.s.c:Int)) rfl
   have q10:=kc 10 (.int .u64 (t.sg.s.d:Int)) rfl
   have q11:=kc 11 (.int .i64 t.sg.v) rfl
   simp only [Nat.add_zero] at q0
   have HC:=qh (HT.out t (List.mem_of_getElem? ht))
   have HA:Hid ((bkTs b).take (i+1+1)=(bkTs b).take (i+1) ++ [trB t]):=qh (take_snoc (by unfold bkTs;rw [List.getElem?_cons_succ,List.getElem?_map,ht];rfl))
   have HO:=qh hown
   have HB:=qh hB
   clear hown hB kc ht
   go_wp2_with fail
   refine (HC.out _).mono ?_
   rintro e w3 ⟨rfl,hb3⟩
   have hba:Below wr.heap.size wr w3:=below_call ((Below.refl _ _).alloc qn _) (by simp) hb3
   have HB3:=qh (below_call HB.out HB.out.size hba)
   have HO3:=qh (own_keep HO.out hba)
   have hs3:=Nat.le_trans hsz hba.size
   clear hb3 hba HO HB
   go_wp2_with (at_builtin;refine wpl_append elItem rfl rfl w2.heap.size (HO3.out.alloc _) rfl (m:=1) [.bool false,.string (bs (trB t)),.slice none 0 0] rfl rfl (lies_new _ _ _) ?_ ?_ ?_ ?_ ?_;(intro u hu;simp at hu;rcases hu with rfl | rfl | rfl <;> rfl);(simp only [maxLen];omega);omega;(simp;omega);intro v1 w8 hown1 hg1 hat1;obtain ⟨A3,c3,rfl⟩:=own_form hown1)
   have hba:Below w3.heap.size w3 (w3.alloc (.cells #[.bool false,.string (bs (trB t)),.slice none 0 0] 49)):=(Below.refl _ _).alloc qn _
   have hB8:=below_app (below_call HB3.out HB3.out.size hba) (own_keep HO3.out hba) hg1 (by simp;omega) (by omega)
   have hs8:=Nat.le_trans hs3 (Nat.le_trans hba.size hg1.size)
   rw [show itsC ((bkTs b).take (i+1)) ++ [.bool false,.string (bs (trB t)),.slice none 0 0]=itsC ((bkTs b).take (i+1+1)) by rw [HA.out,itsC_snoc];rfl] at hown1
   go_roundw
   case rel=>exact ⟨i+1,by go_num,hlt,hown1,hB8,hs8⟩
   case measure=>simp [intOf];omega
  ·obtain rfl:i=b.txs.length:=by omega
   have hln:(bkTs b).length=b.txs.length+1:=by unfold bkTs;simp
   rw [List.take_of_length_le (by omega)] at hown
   have hiv:ItemV Any wr (bkI b) A' c':=by
    have h1:=rep_own (S:=Any) (es:=itemsD ((bkTs b).map leafIt)) hown (repN_itsC _) (by rw [itemsD_len,List.length_map,hln]) (fun _ _ _=>trivial)
    rw [← bkL_ts] at h1
    refine itemV_mk ?_
    show Rep Any wr (.sl 3 (itemsD (bkL b))) [.slice A' (bkL b).length c']
    rw [show (bkL b).length=b.txs.length+1 by unfold bkL;simp]
    exact h1
   have hkl:(bkI b).ks.length=b.txs.length+1:=by show (bkL b).length=_;unfold bkL;simp
   have HIV:=qh hiv
   have HB:=qh hB
   have hL:=fun W:World=>List_any A' (b.txs.length+1) c' W
   have HL:=qh hL
   have hE:=fun (W:World) (hb:Below wr.heap.size wr W)=>HE.out A' c' W (ItemV.keep HIV.out hb)
   rw [HEN.out,hkl] at hE
   have HE:=qh hE
   clear hiv hB hown hL hE hkl hln
   go_wp2_with fail
   refine (HL.out _).mono ?_
   rintro e w4 ⟨rfl,hb4⟩
   have HB4:=qh (below_call HB.out HB.out.size hb4)
   have HB44:=qh hb4
   clear hb4
   go_wp2_with fail
   refine (HE.out _ HB44.out).mono ?_
   rintro e w5 ⟨rfl,hb5⟩
   have HB5:=qh (below_call HB4.out HB4.out.size hb5)
   clear hb5
   go_wp2_with fail
   go_ret2
   exact ⟨rfl,HB5.out⟩
/- The walk of block.Read. -/
theorem bk_item {s:Bytes} {x:Item} (hp:pureP x=true) (e:s=writeP x) (hs:s.length≤4000) {u:Bk} (hk:OkBk u) (hw:u.Wf) (e2:s=bkB u):x=bkI u:=by
 have h1:=(bkB_len hk hw).1
 unfold bkB at h1 e2
 exact (writeP_inj x (bkI u) [] [] hp (bkI_fine u).1 (by rw [← e];omega) (by omega) (by rw [← e,← e2])).1
theorem bk_dec {s:Bytes} {x:Item} {no:Nat} (h:DecSaid s x no) (h0:0 < no):∀ u:Bk,OkBk u→u.Wf→s≠bkB u:=by
 intro u hk hw e
 have h1:=(bkB_len hk hw).1
 have h2:=bkI_fine u
 unfold bkB at h1 e
 have h3:=congrArg List.length e
 rcases h with ⟨h,_⟩ | ⟨_,h,_⟩ | ⟨_,_,_,y,hy,e2,hd⟩ | ⟨_,_,_,h⟩
 ·omega
 ·omega
 ·have:=(writeP_inj y (bkI u) [] [] hy h2.1 (by rw [← e2];omega) (by omega) (by rw [← e2,← e])).1
  rw [this] at hd
  omega
 ·exact h _ h2.1 e
/-- what is read behind i items -/
def BkPre (x:Item) (i:Nat) (h:Hd) (ts:List Tr):Prop:=(i=0∧h=zeroHd∧ts = [])∨(0 < i∧ts.length+1=i∧OkHd h∧h.Wf∧(∀ t∈ts,okTr t=true∧t.Wf)∧x.ks.take i=leafIt (hdB h) :: ts.map fun t=>leafIt (trB t))
theorem bkI_kid {u:Bk} {i:Nat} {k:Item} (h:(bkI u).ks[i]? = some k):k.l=false∧(i=0→k=leafIt (hdB u.hd))∧(∀ j,i=j+1→∃ t,u.txs[j]? = some t∧k=leafIt (trB t)):=by
 have h:(bkL u)[i]? = some k:=h
 unfold bkL at h
 cases i with
 | zero =>
  simp at h
  subst h
  exact ⟨rfl,fun _=>rfl,fun j e=>by omega⟩
 | succ j =>
  rw [List.getElem?_cons_succ,List.getElem?_map,Option.map_eq_some_iff] at h
  obtain ⟨t,ht,rfl⟩:=h
  exact ⟨rfl,fun e=>by omega,fun j' e=>by
   obtain rfl:j=j':=by omega
   exact ⟨t,ht,rfl⟩⟩
theorem bk_fin {x:Item} {h:Hd} {ts:List Tr} (hp:pureP x=true) (hl:x.l=true) (hn:0 < x.ks.length) (hpre:BkPre x x.ks.length h ts) :
  x=bkI ⟨h,ts⟩∧h.Wf∧(∀ t∈ts,t.Wf)∧OkHd h∧(∀ t∈ts,okTr t=true):=by
 rcases hpre with ⟨h0,_⟩ | ⟨_,_,hk,hw,ht,e⟩
 ·omega
 ·rw [List.take_of_length_le qn] at e
  refine ⟨(listIt_eta hp hl).trans ?_,hw,fun t h=>(ht t h).2,hk,fun t h=>(ht t h).1⟩
  rw [e]
  rfl
theorem bk_right {s:Bytes} {x:Item} {h:Hd} {ts:List Tr} (hp:pureP x=true) (e:s=writeP x) (hs:s.length≤4000) (hl:x.l=true) (hn:0 < x.ks.length) (hpre:BkPre x x.ks.length h ts) :
  (okBk ⟨h,ts⟩=true→BkSaid s ⟨h,ts⟩ 0)∧(okBk ⟨h,ts⟩=false→BkSaid s zeroBk 4):=by
 obtain ⟨hx,hw,htw,hk,htk⟩:=bk_fin hp hl hn hpre
 refine ⟨fun ho=>.inl ⟨rfl,(okBk_iff _).1 ho,⟨hw,htw⟩,by rw [e,hx];rfl⟩,fun ho=>.inr ⟨rfl,rfl,fun u hu huw eu=>?_⟩⟩
 have hxu:=bk_item hp e hs hu huw eu
 rw [hx] at hxu
 have hL:bkL ⟨h,ts⟩=bkL u:=by unfold bkI listIt at hxu;injection hxu
 unfold bkL at hL
 injection hL with hL1 hL2
 have hh:h=u.hd:=hdB_inj hk hw hu.hd huw.hd (by unfold leafIt at hL1;injection hL1)
 have key:∀ (l m:List Tr),(∀ t∈l,okTr t=true∧t.Wf)→(∀ t∈m,okTr t=true∧t.Wf)→(l.map fun t=>leafIt (trB t))=(m.map fun t=>leafIt (trB t))→l=m:=by
  intro l
  induction l with
  | nil=>intro m _ _ h;cases m with
   | nil=>rfl
   | cons a m=>cases h
  | cons a l ih=>intro m hl hm h;cases m with
   | nil=>cases h
   | cons c m =>
    simp only [List.map_cons,List.cons.injEq] at h
    have:a=c:=trB_inj (hl a (by simp)).1 (hl a (by simp)).2 (hm c (by simp)).1 (hm c (by simp)).2 (by have:=h.1;unfold leafIt at this;injection this)
    rw [this,ih m (fun t ht=>hl t (by simp [ht])) (fun t ht=>hm t (by simp [ht])) h.2]
 have ht:=key ts u.txs (fun t h=>⟨htk t h,htw t h⟩) (fun t h=>⟨hu.each t h,huw.txs t h⟩) hL2
 have hb:(⟨h,ts⟩:Bk)=u:=by rw [hh,ht]
 rw [hb,(okBk_iff u).2 hu] at ho
 cases ho
/-- an item that cannot be -/
theorem bk_kid {s:Bytes} {x k:Item} {i:Nat} (hp:pureP x=true) (e:s=writeP x) (hs:s.length≤4000) (hk:x.ks[i]? = some k)
  (hbad:k.l=true∨(i=0∧∀ u:Hd,OkHd u→u.Wf→k.b≠hdB u)∨(0 < i∧∀ u:Tr,okTr u=true→u.Wf→k.b≠trB u)):BkSaid s zeroBk 4 :=
 .inr ⟨rfl,rfl,fun u hu huw eu=>by
  rw [bk_item hp e hs hu huw eu] at hk
  obtain ⟨h1,h2,h3⟩:=bkI_kid hk
  rcases hbad with h | ⟨h,hb⟩ | ⟨h,hb⟩
  ·rw [h1] at h;cases h
  ·exact hb u.hd hu.hd huw.hd (by rw [h2 h];rfl)
  ·obtain ⟨t,ht,hkt⟩:=h3 (i - 1) (by omega)
   exact hb t (hu.each t (List.mem_of_getElem? ht)) (huw.txs t (List.mem_of_getElem? ht)) (by rw [hkt];rfl)⟩
theorem bk_shape {s:Bytes} {x:Item} (hp:pureP x=true) (e:s=writeP x) (hs:s.length≤4000) (hbad:x.l=false∨x.ks.length=0):BkSaid s zeroBk 4 :=
 .inr ⟨rfl,rfl,fun u hu huw eu=>by
  have:=bk_item hp e hs hu huw eu
  rcases hbad with h | h
  ·rw [this] at h;cases h
  ·rw [this] at h
   have h:(bkL u).length=0:=h
   unfold bkL at h
   simp at h⟩
def BkPost (s:Bytes) (w:World) (e:Ending) (w':World):Prop:=∃ (b:Bk) (Av As At:Option Addr) (cv cs ct no:Nat),e=.returned (.tuple #[.agg (bkR b Av cv As cs At ct),.int .i64 no])∧BkV (From w.heap.size) w' b Av cv As cs At ct∧BkSaid s b no∧Below w.heap.size w w'
theorem bkPost_zero {s:Bytes} {w w':World} (h:BkSaid s zeroBk 4) (hb:Below w.heap.size w w'):BkPost s w (.returned (.tuple #[.agg zqB,.int .i64 4])) w':=⟨zeroBk,none,none,none,0,0,0,4,rfl,⟨⟨Rep.nil_slice 1,PlV.nil⟩,PlV.nil⟩,h,hb⟩
theorem infoBk:(Tryz.prog.info? 29).map (·.size)=some 12:=by kernel_rfl
theorem one12B (a c d e f:Bytes) (h r:Int) (v:Option Addr) (n m:Nat) (t:Bytes) (ad:Bool) (s:Option Addr) (n' m':Nat) (p:Option Addr) (n'' m'':Nat):(#[.string (bs a),.int .u64 h,.string (bs c),.string (bs d),.string (bs e),.string (bs f),.slice v n m,.string (bs t),.bool ad,.int .u64 r,.slice s n' m',.slice p n'' m'']:Array Value).all (·.oneCell')=true:=by simp [Value.oneCell']
theorem one12BZ:(zqB:Array Value).all (·.oneCell')=true:=one12B [] [] [] [] [] _ _ _ _ _ [] _ _ _ _ _ _ _
theorem bno_any (w:World):Calls Tryz.prog 24 #[] w fun e w'=>e=.returned (.tuple #[.agg zqB,.int .i64 4])∧Below w.heap.size w w':=by
 have HX:=qh (heap_alloc_new w (.cells zqB 29))
 have HB:=qh ((Below.refl w.heap.size w).alloc qn (.cells zqB 29))
 go_enter Tryz.func24,Tryz.ntmps24
 go_wp2_with (refine wpList_store_row rfl _ _ _ rfl w.heap.size zqB rfl rfl _ _ HX.out infoBk rfl one12BZ ?_)
 exact bodyPost_ret (v:=.tuple #[.agg zqB,.int .i64 4]) (results_row_tmp rfl _ _ w.heap.size _ _ _ _ rfl (setRow_heap _ _ _ _ _ _ HX.out) _ rfl Tryz.underlying29 rfl infoBk) rfl ⟨rfl,below_setRow HB.out qn _⟩
/- The walk of block.Read. -/
theorem elTr:ElemOk Tryz.prog 27 55 (.agg zqT) 12 104:=⟨Tryz.underlying27,by kernel_rfl,rfl,by omega⟩
theorem zeroHd_fine:zeroHd.Fine:=⟨⟨zero64,zero64,fun x hx=>by cases hx⟩,Nat.zero_le _,Nat.zero_le _,Nat.zero_le _,Nat.zero_le _,Nat.zero_le _,Nat.zero_le _,fun v hv=>by cases hv⟩
theorem bread_any (s:Bytes) (w:World):Calls Tryz.prog 7 #[.string (bs s)] w (BkPost s w):=by
 have h0:=heap_alloc_new w (.cells zqB 29)
 have HR:=qh h0
 have HB:=qh ((Below.refl w.heap.size w).alloc qn (.cells zqB 29))
 clear h0
 go_enter Tryz.func7,Tryz.ntmps7
 go_wp2_with fail
 refine (Decode_any s _).mono ?_
 rintro e w1 ⟨hb1,x,A,c,no,rfl,hxv,hsaid⟩
 have HR1:=qh ((hb1.block _ (qg HR.out)).trans HR.out)
 have HB1:=qh (below_call HB.out HB.out.size hb1)
 have hwl:=(qg HR1.out)
 have HRX:=qh ((heap_alloc_old w1 (.cells #[.bool x.l,.string (bs x.b),.slice A x.ks.length c] 49) hwl).trans HR1.out)
 have HBX:=qh (HB1.out.alloc HB1.out.size (.cells #[.bool x.l,.string (bs x.b),.slice A x.ks.length c] 49))
 have HXV:=qh (hxv.mono (S':=Any) fun b _ _=>⟨trivial,rfl⟩)
 have HS:=qh hsaid
 clear hb1 hxv hsaid HR HB
 by_cases hno:no=0
 case neg =>
  have h0I:((no:Int) == 0)=false:=by rw [beq_eq_false_iff_ne];omega
  have h0I2:((no:Int) != 0)=true:=by rw [bne,h0I];rfl
  have HT:Hid (BkSaid s zeroBk 4):=qh (.inr ⟨rfl,rfl,bk_dec HS.out (by omega)⟩)
  clear HS hno
  go_wp2_with fail
  refine (bno_any _).mono ?_
  rintro e wz ⟨rfl,hbz⟩
  have HRz:=qh ((hbz.block _ (qg HRX.out)).trans HRX.out)
  have HBz:=qh (below_call HBX.out (HBX.out).size hbz)
  clear hbz
  go_wp2_with (refine wpList_store_row rfl _ _ _ rfl w.heap.size zqB rfl rfl _ _ HRz.out infoBk rfl one12BZ ?_)
  exact bodyPost_ret (v:=.tuple #[.agg zqB,.int .i64 4]) (results_row_tmp rfl _ _ w.heap.size _ _ _ _ rfl (setRow_heap _ _ _ _ _ _ HRz.out) _ rfl Tryz.underlying29 rfl infoBk) rfl (bkPost_zero HT.out (below_setRow HBz.out qn _))
 subst hno
 obtain ⟨hs4,hp,he⟩:s.length≤4000∧pureP x=true∧s=writeP x:=by
  rcases HS.out with ⟨_,h,_⟩ | ⟨h1,_,h2,h3,_⟩ | ⟨_,h,_⟩ | ⟨_,h,_⟩
  ·omega
  ·exact ⟨h1,h2,h3⟩
  ·omega
  ·omega
 have hcx:=countP_le x hp
 rw [← he] at hcx
 have hkx:=countsP_ge x.ks
 have hcx1:countP x=1+countsP x.ks:=by cases x;rfl
 have HKX:Hid (x.ks.length≤4000):=qh (by omega)
 have HS4:=qh hs4
 have HP:=qh hp
 have HE:=qh he
 clear hs4 hp he hcx hkx hcx1 HS
 cases hl:x.l with
 | false =>
  have HT:=qh (bk_shape HP.out HE.out HS4.out (.inl hl))
  rw [hl] at HRX HBX
  clear hl
  go_wp2_with fail
  refine (bno_any _).mono ?_
  rintro e wz ⟨rfl,hbz⟩
  have HRz:=qh ((hbz.block _ (qg HRX.out)).trans HRX.out)
  have HBz:=qh (below_call HBX.out (HBX.out).size hbz)
  clear hbz
  go_wp2_with (refine wpList_store_row rfl _ _ _ rfl w.heap.size zqB rfl rfl _ _ HRz.out infoBk rfl one12BZ ?_)
  exact bodyPost_ret (v:=.tuple #[.agg zqB,.int .i64 4]) (results_row_tmp rfl _ _ w.heap.size _ _ _ _ rfl (setRow_heap _ _ _ _ _ _ HRz.out) _ rfl Tryz.underlying29 rfl infoBk) rfl (bkPost_zero HT.out (below_setRow HBz.out qn _))
 | true =>
  by_cases hk:x.ks.length=0
  ·have HT:=qh (bk_shape HP.out HE.out HS4.out (.inr hk))
   have hkI:((x.ks.length:Int) == 0)=true:=by rw [hk];rfl
   rw [hl] at HRX HBX
   clear hl hk
   go_wp2_with fail
   refine (bno_any _).mono ?_
   rintro e wz ⟨rfl,hbz⟩
   have HRz:=qh ((hbz.block _ (qg HRX.out)).trans HRX.out)
   have HBz:=qh (below_call HBX.out (HBX.out).size hbz)
   clear hbz
   go_wp2_with (refine wpList_store_row rfl _ _ _ rfl w.heap.size zqB rfl rfl _ _ HRz.out infoBk rfl one12BZ ?_)
   exact bodyPost_ret (v:=.tuple #[.agg zqB,.int .i64 4]) (results_row_tmp rfl _ _ w.heap.size _ _ _ _ rfl (setRow_heap _ _ _ _ _ _ HRz.out) _ rfl Tryz.underlying29 rfl infoBk) rfl (bkPost_zero HT.out (below_setRow HBz.out qn _))
  have hkI:((x.ks.length:Int) == 0)=false:=by rw [beq_eq_false_iff_ne];omega
  have HL:=qh hl
  rw [hl] at HRX HBX
  have hHY:=heap_alloc_new (w1.alloc (.cells #[.bool true,.string (bs x.b),.slice A x.ks.length c] 49)) (.cells zqB 29)
  rw [show (w1.alloc (.cells #[.bool true,.string (bs x.b),.slice A x.ks.length c] 49)).heap.size=w1.heap.size+1 by simp] at hHY
  have HY:=qh hHY
  have HBY:=qh (((Below.refl w1.heap.size w1).alloc qn (.cells #[.bool true,.string (bs x.b),.slice A x.ks.length c] 49)).alloc (by simp) (.cells zqB 29))
  clear hl hHY
  go_wp2_with fail
  have hk4I:(x.ks.length:Int)≤4000:=by have:=HKX.out;omega
  go_loopw [36] (fun a wr=>∃ (i M:Nat) (h:Hd) (ts:List Tr) (Av As:Option Addr) (cv cs:Nat) (u:Value),a=.int .i64 (i:Int)∧i≤x.ks.length∧wr.heap[w1.heap.size+1]? = some (.cells (hbR h Av cv As cs u) 29 (0,0))∧HdV (fun b=>w1.heap.size+2≤b∧b < M) wr h Av cv As cs∧w1.heap.size+2≤M∧M≤wr.heap.size∧wr.ownsRow M 55 12 u ts.length (ts.map trL).flatten∧Hid (BkPre x i h ts)∧Hid h.Fine∧Hid (i=0→u=.slice none 0 0)∧Below w1.heap.size w1 wr) (fun a _=>x.ks.length - (intOf a).toNat)
  case atStart=>exact ⟨0,w1.heap.size+2,zeroHd,[],none,none,0,0,_,rfl,Nat.zero_le _,HY.out,⟨Rep.nil_slice 1,PlV.nil⟩,Nat.le_refl _,by simp,World.ownsRow_nil _ _ _ _,qh (.inl ⟨rfl,rfl,rfl⟩),qh zeroHd_fine,qh fun _=>rfl,HBY.out⟩
  case round =>
   clear HY HBY HRX HBX
   obtain ⟨i,M,hq,ts,Av,As,cv,cs,u,rfl,hi,hY,hhv,hM,hM2,hown,hpre,hfine,hu0,hB⟩:=hrel
   obtain ⟨At,ct,rfl⟩:=own_form hown
   have hYl:=(qg hY)
   have hRr:=(hB.block _ hwl).trans HR1.out
   by_cases hlt:i < x.ks.length
   ·obtain ⟨y,hy⟩:=getElem_ex hlt
    obtain ⟨g,o,A2,c2,rfl,_,hyv,q0,q1,q2⟩:=ItemV.at_ (HXV.out.keep hB) hy
    have hltI:(i:Int) < x.ks.length:=by omega
    have HKY:=qh hy
    have HYY:=qh hY
    have HO:=qh hown
    have HHV:=qh hhv
    have HBW:=qh (HB1.out.trans (hB.mono HB1.out.size))
    have HBB:=qh hB
    have HRR:=qh hRr
    clear hY hown hhv hB hRr hy hyv
    cases hyl:y.l with
    | true =>
     rw [hyl] at q0
     have HT:=qh (bk_kid HP.out HE.out HS4.out HKY.out (.inl hyl))
     have HRZ:=qh ((heap_alloc_old wr (.cells #[.bool true,.string (bs y.b),.slice A2 y.ks.length c2] 49) (qg HRR.out)).trans HRR.out)
     have HBZ:=qh (HBW.out.alloc HBW.out.size (.cells #[.bool true,.string (bs y.b),.slice A2 y.ks.length c2] 49))
     clear hyl
     go_wp2_with fail
     refine (bno_any _).mono ?_
     rintro e wz ⟨rfl,hbz⟩
     have HRz:=qh ((hbz.block _ (qg HRZ.out)).trans HRZ.out)
     have HBz:=qh (below_call HBZ.out (HBZ.out).size hbz)
     clear hbz
     go_wp2_with (refine wpList_store_row rfl _ _ _ rfl w.heap.size zqB rfl rfl _ _ HRz.out infoBk rfl one12BZ ?_)
     exact bodyPost_ret (v:=.tuple #[.agg zqB,.int .i64 4]) (results_row_tmp rfl _ _ w.heap.size _ _ _ _ rfl (setRow_heap _ _ _ _ _ _ HRz.out) _ rfl Tryz.underlying29 rfl infoBk) rfl (bkPost_zero HT.out (below_setRow HBz.out qn _))
    | false =>
     rw [hyl] at q0
     have HYL:=qh hyl
     clear hyl
     have hY2:=(heap_alloc_old wr (.cells #[.bool false,.string (bs y.b),.slice A2 y.ks.length c2] 49) hYl).trans HYY.out
     have hR2:=(heap_alloc_old wr (.cells #[.bool false,.string (bs y.b),.slice A2 y.ks.length c2] 49) (qg HRR.out)).trans HRR.out
     have HY2:=qh hY2
     have HR2:=qh hR2
     clear hY2 hR2
     by_cases hi0:i=0
     ·have hi0I:((i:Int) == 0)=true:=by rw [hi0];rfl
      have hun:=hu0.out hi0
      injection hun with hun1 hun2 hun3
      subst hun1;subst hun3
      rcases hpre.out with ⟨hz0,rfl,rfl⟩ | ⟨h0,_⟩
      case inr=>omega
      have HI0:=qh hi0
      clear hun2 hi0 hz0
      go_wp2_with fail
      refine (hread_any y.b _).mono ?_
      rintro e w2 ⟨h',Av',As',cv',cs',no',rfl,hv',hsaid',hb2⟩
      have HY3:=qh ((hb2.block _ (qg HY2.out)).trans HY2.out)
      have HR3:=qh ((hb2.block _ (qg HR2.out)).trans HR2.out)
      have hba:Below wr.heap.size wr w2:=below_call ((Below.refl _ _).alloc qn (.cells #[.bool false,.string (bs y.b),.slice A2 y.ks.length c2] 49)) (by simp) hb2
      have HBA:=qh hba
      have HB3:=qh (below_call HBW.out HBW.out.size hba)
      have HBB3:=qh (below_call HBB.out HBB.out.size hba)
      have HV3:=qh hv'
      have HSD:=qh hsaid'
      clear hb2 hba hv' hsaid' HYY HRR HY2 HR2 HBW HBB q0 q1 q2
      have HSE:Hid (((hbR zeroHd Av cv As cs (.slice none 0 0)):Array Value).toList.take 0 ++ ((hdR h' Av' cv' As' cs'):Array Value).toList ++ ((hbR zeroHd Av cv As cs (.slice none 0 0)):Array Value).toList.drop (0+((hdR h' Av' cv' As' cs'):Array Value).size)=((hbR h' Av' cv' As' cs' (.slice none 0 0)):Array Value).toList):=qh rfl
      have HSZ:Hid (0+((hdR h' Av' cv' As' cs'):Array Value).size≤((hbR zeroHd Av cv As cs (.slice none 0 0)):Array Value).size):=qh (Nat.le_succ 11)
      have HY4:=qh (setRow_heap w2 (w1.heap.size+1) (hbR zeroHd Av cv As cs (.slice none 0 0)) (hbR h' Av' cv' As' cs' (.slice none 0 0)) 29 (0,0) HY3.out)
      have hn11:=one11 h'.parent [] h'.root h'.txs h'.prop h'.van h'.height h'.round Av' h'.vals.length cv' h'.vote h'.add As' h'.seals.length cs'
      have HR4:=qh ((heap_setRow_ne w2 (show w.heap.size≠w1.heap.size+1 by omega) (hbR h' Av' cv' As' cs' (.slice none 0 0))).trans HR3.out)
      have HB4:=qh (below_setRow HB3.out (show w.heap.size≤w1.heap.size+1 by omega) (hbR h' Av' cv' As' cs' (.slice none 0 0)))
      have HBB4:=qh (below_setRow HBB3.out (show w1.heap.size≤w1.heap.size+1 by omega) (hbR h' Av' cv' As' cs' (.slice none 0 0)))
      clear HR3 HB3 HBB3
      rcases HSD.out with ⟨rfl,hk1,hw1,he1⟩ | ⟨rfl,hz1,hne⟩
      ·go_wp2_with (refine wpl_store_at rfl _ _ _ rfl (w1.heap.size+1) 0 (hdR h' Av' cv' As' cs') (hbR h' Av' cv' As' cs' (.slice none 0 0)) rfl rfl 29 (hbR zeroHd Av cv As cs (.slice none 0 0)) HY3.out infoHd HSZ.out hn11 HSE.out ?_)
       go_roundw
       case rel =>
        have hk4:=HKX.out
        refine ⟨i+1,w2.heap.size,h',[],Av',As',cv',cs',.slice none 0 0,by go_num,hlt,HY4.out,?_,?_,?_,World.ownsRow_nil _ _ _ _,?_,qh (hd_fine HSD.out),qh fun h=>absurd h (Nat.succ_ne_zero _),HBB4.out⟩
        ·have hm:∀ b,b < w2.heap.size→From (wr.heap.size+1) b→(w1.heap.size+2≤b∧b < w2.heap.size)∧(w2.setRow (w1.heap.size+1) (hbR h' Av' cv' As' cs' (.slice none 0 0))).heap[b]? = w2.heap[b]?:=fun b h1 h2=>by
          have h2:wr.heap.size+1≤b:=h2
          exact ⟨⟨by omega,h1⟩,heap_setRow_ne _ (by omega) _⟩
         have hv3:=HV3.out
         rw [show (wr.alloc (.cells #[.bool false,.string (bs y.b),.slice A2 y.ks.length c2] 49)).heap.size=wr.heap.size+1 by simp] at hv3
         exact ⟨Rep.mono hv3.vals hm,Rep.mono hv3.seals hm⟩
        ·have:=HBA.out.size;omega
        ·rw [setRow_size];exact Nat.le_refl _
        ·refine qh (.inr ⟨by omega,by show 0+1=i+1;rw [HI0.out],hk1,hw1,(fun t ht=>by cases ht),?_⟩)
         have hky:=HKY.out
         rw [HI0.out] at hky ⊢
         rw [take_snoc hky,← he1,← leafIt_eta ((pures_iff _).1 (pure_kids HP.out) _ (List.mem_of_getElem? hky)) HYL.out]
         rfl
       case measure=>have:=HKX.out;simp [intOf];omega
      ·have HT:=qh (bk_kid HP.out HE.out HS4.out HKY.out (.inr (.inl ⟨HI0.out,hne⟩)))
       clear hz1 hne
       go_wp2_with (refine wpl_store_at rfl _ _ _ rfl (w1.heap.size+1) 0 (hdR h' Av' cv' As' cs') (hbR h' Av' cv' As' cs' (.slice none 0 0)) rfl rfl 29 (hbR zeroHd Av cv As cs (.slice none 0 0)) HY3.out infoHd HSZ.out hn11 HSE.out ?_)
       go_wp2_with fail
       refine (bno_any _).mono ?_
       rintro e wz ⟨rfl,hbz⟩
       have HRz:=qh ((hbz.block _ (qg HR4.out)).trans HR4.out)
       have HBz:=qh (below_call HB4.out (HB4.out).size hbz)
       clear hbz
       go_wp2_with (refine wpList_store_row rfl _ _ _ rfl w.heap.size zqB rfl rfl _ _ HRz.out infoBk rfl one12BZ ?_)
       exact bodyPost_ret (v:=.tuple #[.agg zqB,.int .i64 4]) (results_row_tmp rfl _ _ w.heap.size _ _ _ _ rfl (setRow_heap _ _ _ _ _ _ HRz.out) _ rfl Tryz.underlying29 rfl infoBk) rfl (bkPost_zero HT.out (below_setRow HBz.out qn _))
     ·have hi0I:((i:Int) == 0)=false:=by rw [beq_eq_false_iff_ne];omega
      rcases hpre.out with ⟨h0,_⟩ | ⟨_,hlen,hkh,hwh,htsk,htk⟩
      case inl=>omega
      have HI0:Hid (0 < i):=qh (by omega)
      have HPK:=qh (And.intro hkh (And.intro hwh (And.intro htsk htk)))
      have hts4:ts.length≤4000:=by have:=HKX.out;omega
      have HLEN:=qh hlen
      clear hlen
      have hTZ:=heap_alloc_new (wr.alloc (.cells #[.bool false,.string (bs y.b),.slice A2 y.ks.length c2] 49)) (.cells zqT 55)
      rw [show (wr.alloc (.cells #[.bool false,.string (bs y.b),.slice A2 y.ks.length c2] 49)).heap.size=wr.heap.size+1 by simp] at hTZ
      have HTZ:=qh hTZ
      have HY5:=qh ((heap_alloc_old (wr.alloc (.cells #[.bool false,.string (bs y.b),.slice A2 y.ks.length c2] 49)) (.cells zqT 55) (qg HY2.out)).trans HY2.out)
      have HR5:=qh ((heap_alloc_old (wr.alloc (.cells #[.bool false,.string (bs y.b),.slice A2 y.ks.length c2] 49)) (.cells zqT 55) (qg HR2.out)).trans HR2.out)
      clear hi0 hkh hwh htsk htk hTZ hpre HY2 HR2 HYY HRR hu0 HBW
      go_wp2_with fail
      refine (tread_any y.b _).mono ?_
      rintro e w2 ⟨t,no',rfl,hsaid',hb2⟩
      have HT3:=qh ((hb2.block _ (qg HTZ.out)).trans HTZ.out)
      have HY3:=qh ((hb2.block _ (qg HY5.out)).trans HY5.out)
      have HR3:=qh ((hb2.block _ (qg HR5.out)).trans HR5.out)
      have hba:Below wr.heap.size wr w2:=below_call (((Below.refl _ _).alloc qn (.cells #[.bool false,.string (bs y.b),.slice A2 y.ks.length c2] 49)).alloc (by simp) (.cells zqT 55)) (by simp;omega) hb2
      have HSD:=qh hsaid'
      have hT4:=setRow_heap w2 (wr.heap.size+1) zqT (trR t) 55 (0,0) HT3.out
      have hlY:w1.heap.size+1 < wr.heap.size:=hYl
      have hY4:=(heap_setRow_ne w2 (show w1.heap.size+1≠wr.heap.size+1 by omega) (trR t)).trans HY3.out
      have hlW:w.heap.size < wr.heap.size:=by have:=HB1.out.size;omega
      have hR4:=(heap_setRow_ne w2 (show w.heap.size≠wr.heap.size+1 by omega) (trR t)).trans HR3.out
      have hba4:Below wr.heap.size wr (w2.setRow (wr.heap.size+1) (trR t)):=below_setRow hba (Nat.le_succ _) _
      clear hb2 hba hsaid' HTZ HY5 HR5 HY3 HR3 q0 q1 q2
      rcases HSD.out with ⟨rfl,hk1,hw1,he1⟩ | ⟨rfl,hz1,hne⟩
      ·go_wp2_with (first | (refine wpList_store_row rfl _ _ _ rfl (wr.heap.size+1) (trR t) rfl rfl _ _ HT3.out infoTr rfl (one12 _ _ _ _ _ _ _ _ _ _ _ _) ?_;generalize w2.setRow (wr.heap.size+1) (trR t)=W3 at hT4 hY4 hR4 hba4 ⊢;have HBB4:=qh (below_call HBB.out HBB.out.size hba4);have HO4:=qh (own_keep HO.out hba4);have HT4:=qh hT4;have HY4:=qh hY4;have HR4:=qh hR4;have hs4:=hba4.size;have y11:=rc (u:=.slice At ts.length ct) hY4 11 rfl;have hYl4:=(qg hY4);have hRl4:=(qg hR4);have HHV4:Hid (∀ b,b < M→w1.heap.size+2≤b→W3.heap[b]? = wr.heap[b]?):=qh (fun b h1 _=>hba4.block b (by omega));clear hT4 hY4 hR4 hba4 HT3 HO HBB) | (refine wpList_load_row rfl _ _ rfl (wr.heap.size+1) rfl _ _ _ _ HT4.out Tryz.underlying55 rfl infoTr ?_) | (at_builtin;refine wpl_append elTr rfl rfl M (HO4.out.alloc _) rfl (m:=1) (trL t) rfl rfl ?_ ?_ ?_ ?_ ?_ ?_;exact (lies_new _ _ _);exact (trL_ok t).2;(simp only [maxLen];omega);omega;(simp;omega);intro v1 w8 hown1 hg1 hat1;obtain ⟨A3,c3,rfl⟩:=own_form hown1;have hg8:=qh hg1;have hY8:=(hg1.block (w1.heap.size+1) (by simp;omega) (fun e=>by have:=(HO4.out.lt _ e.symm).1;omega)).trans ((heap_alloc_old _ _ hYl4).trans HY4.out);have d11:=rc (u:=.slice At ts.length ct) hY8 11 rfl;have df:=rf hY8 11;have HY8:=qh hY8;have HO8:=qh hown1;clear hY8 hown1 hg1))
       have hba:Below W3.heap.size W3 (W3.alloc (.cells (trR t) 55)):=(Below.refl _ _).alloc qn _
       have HBB8:=qh (below_app (below_call HBB4.out HBB4.out.size hba) (own_keep HO4.out hba) hg8.out (by simp;omega) (by omega))
       have HR8:=qh ((hg8.out.block w.heap.size (by simp;omega) (fun e=>by have:=(HO4.out.lt _ e.symm).1;omega)).trans ((heap_alloc_old _ _ hRl4).trans HR4.out))
       have hs8:M≤w8.heap.size:=Nat.le_trans hM2 (Nat.le_trans hs4 (Nat.le_trans hba.size hg8.out.size))
       have HH8:Hid (∀ b,b < M→w1.heap.size+2≤b→(w8.setCell ⟨w1.heap.size+1,11,none⟩ (.slice A3 (ts.length+1) c3)).heap[b]? = wr.heap[b]?):=qh fun b h1 h2=>(heap_set_ne (by omega) _).trans ((hg8.out.block b (by simp;omega) (fun e=>by have:=(HO4.out.lt _ e.symm).1;omega)).trans ((heap_alloc_old _ _ (by omega)).trans (HHV4.out b h1 h2)))
       go_roundw
       case rel =>
        refine ⟨i+1,M,hq,ts ++ [t],Av,As,cv,cs,_,by have:=HKX.out;go_num,hlt,heap_setCell_here HY8.out (i:=11) _,?_,hM,?_,?_,?_,hfine,qh fun h=>absurd h (Nat.succ_ne_zero _),HBB8.out.setCell (p:=⟨w1.heap.size+1,11,none⟩) (Nat.le_succ _) _⟩
        ·exact ⟨Rep.mono HHV.out.vals fun b _ hb=>⟨hb,HH8.out b hb.2 hb.1⟩,Rep.mono HHV.out.seals fun b _ hb=>⟨hb,HH8.out b hb.2 hb.1⟩⟩
        ·rw [show (w8.setCell ⟨w1.heap.size+1,11,none⟩ (.slice A3 (ts.length+1) c3)).heap.size=w8.heap.size by simp [World.setCell]];exact hs8
        ·rw [show (ts ++ [t]).length=ts.length+1 by simp,show ((ts ++ [t]).map trL).flatten=(ts.map trL).flatten ++ trL t by simp]
         exact own_setOther HO8.out (by omega) _
        ·obtain ⟨hkh,hwh,htsk,htk⟩:=HPK.out
         refine qh (.inr ⟨by omega,by have:=HLEN.out;simp;omega,hkh,hwh,fun t' ht'=>?_,?_⟩)
         ·rcases List.mem_append.1 ht' with h | h
          ·exact htsk t' h
          ·rw [List.mem_singleton] at h;subst h;exact ⟨hk1,hw1⟩
         ·have hky:=HKY.out
          rw [take_snoc hky,htk,List.map_append,List.map_singleton,← he1,← leafIt_eta ((pures_iff _).1 (pure_kids HP.out) _ (List.mem_of_getElem? hky)) HYL.out]
          rfl
       case measure=>have:=HKX.out;simp [intOf];omega
      ·have HT:=qh (bk_kid HP.out HE.out HS4.out HKY.out (.inr (.inr ⟨HI0.out,hne⟩)))
       clear hz1 hne
       go_wp2_with (first | (refine wpList_store_row rfl _ _ _ rfl (wr.heap.size+1) (trR t) rfl rfl _ _ HT3.out infoTr rfl (one12 _ _ _ _ _ _ _ _ _ _ _ _) ?_;generalize w2.setRow (wr.heap.size+1) (trR t)=W3 at hT4 hY4 hR4 hba4 ⊢;have HBB4:=qh (below_call HBB.out HBB.out.size hba4);have HO4:=qh (own_keep HO.out hba4);have HT4:=qh hT4;have HY4:=qh hY4;have HR4:=qh hR4;have hs4:=hba4.size;have y11:=rc (u:=.slice At ts.length ct) hY4 11 rfl;have hYl4:=(qg hY4);have hRl4:=(qg hR4);have HHV4:Hid (∀ b,b < M→w1.heap.size+2≤b→W3.heap[b]? = wr.heap[b]?):=qh (fun b h1 _=>hba4.block b (by omega));clear hT4 hY4 hR4 hba4 HT3 HO HBB) | (refine wpList_load_row rfl _ _ rfl (wr.heap.size+1) rfl _ _ _ _ HT4.out Tryz.underlying55 rfl infoTr ?_) | (at_builtin;refine wpl_append elTr rfl rfl M (HO4.out.alloc _) rfl (m:=1) (trL t) rfl rfl ?_ ?_ ?_ ?_ ?_ ?_;exact (lies_new _ _ _);exact (trL_ok t).2;(simp only [maxLen];omega);omega;(simp;omega);intro v1 w8 hown1 hg1 hat1;obtain ⟨A3,c3,rfl⟩:=own_form hown1;have hg8:=qh hg1;have hY8:=(hg1.block (w1.heap.size+1) (by simp;omega) (fun e=>by have:=(HO4.out.lt _ e.symm).1;omega)).trans ((heap_alloc_old _ _ hYl4).trans HY4.out);have d11:=rc (u:=.slice At ts.length ct) hY8 11 rfl;have df:=rf hY8 11;have HY8:=qh hY8;have HO8:=qh hown1;clear hY8 hown1 hg1))
       have hba:Below W3.heap.size W3 (W3.alloc (.cells (trR t) 55)):=(Below.refl _ _).alloc qn _
       have HBB8:=qh (below_app (below_call HBB4.out HBB4.out.size hba) (own_keep HO4.out hba) hg8.out (by simp;omega) (by omega))
       have HR8:=qh ((hg8.out.block w.heap.size (by simp;omega) (fun e=>by have:=(HO4.out.lt _ e.symm).1;omega)).trans ((heap_alloc_old _ _ hRl4).trans HR4.out))
       have hs8:M≤w8.heap.size:=Nat.le_trans hM2 (Nat.le_trans hs4 (Nat.le_trans hba.size hg8.out.size))
       have HH8:Hid (∀ b,b < M→w1.heap.size+2≤b→(w8.setCell ⟨w1.heap.size+1,11,none⟩ (.slice A3 (ts.length+1) c3)).heap[b]? = wr.heap[b]?):=qh fun b h1 h2=>(heap_set_ne (by omega) _).trans ((hg8.out.block b (by simp;omega) (fun e=>by have:=(HO4.out.lt _ e.symm).1;omega)).trans ((heap_alloc_old _ _ (by omega)).trans (HHV4.out b h1 h2)))
       have HR9:=qh ((heap_set_ne (w:=w8) (b:=w1.heap.size+1) (i:=11) (show w.heap.size≠w1.heap.size+1 by omega) (.slice A3 (ts.length+1) c3)).trans HR8.out)
       have HB9:=qh ((HB1.out.trans (HBB8.out.mono HB1.out.size)).setCell (p:=⟨w1.heap.size+1,11,none⟩) (show w.heap.size≤w1.heap.size+1 by omega) (.slice A3 (ts.length+1) c3))
       go_wp2_with fail
       refine (bno_any _).mono ?_
       rintro e wz ⟨rfl,hbz⟩
       have HRz:=qh ((hbz.block _ (qg HR9.out)).trans HR9.out)
       have HBz:=qh (below_call HB9.out (HB9.out).size hbz)
       clear hbz
       go_wp2_with (refine wpList_store_row rfl _ _ _ rfl w.heap.size zqB rfl rfl _ _ HRz.out infoBk rfl one12BZ ?_)
       exact bodyPost_ret (v:=.tuple #[.agg zqB,.int .i64 4]) (results_row_tmp rfl _ _ w.heap.size _ _ _ _ rfl (setRow_heap _ _ _ _ _ _ HRz.out) _ rfl Tryz.underlying29 rfl infoBk) rfl (bkPost_zero HT.out (below_setRow HBz.out qn _))
   ·obtain rfl:i=x.ks.length:=by omega
    have hltI:((x.ks.length:Int) < x.ks.length)=False:=by simp
    obtain ⟨hx,hhw,htw,hhk,htk⟩:=bk_fin HP.out HL.out (by omega) hpre.out
    obtain ⟨hyes,hno⟩:=bk_right HP.out HE.out HS4.out HL.out (by omega) hpre.out
    have hts4:ts.length≤4000:=by
     rcases hpre.out with ⟨h0,_⟩ | ⟨_,hl,_⟩
     ·omega
     ·have:=HKX.out;omega
    have hfn:(⟨hq,ts⟩:Bk).Fine:=⟨hfine.out,fun t ht=>⟨htw t ht,by have:=htk t ht;unfold okTr at this;simp only [Bool.and_eq_true,beq_iff_eq] at this;omega⟩,by show ts.length≤10000;omega⟩
    have htv:∀ S:Nat→Prop,(∀ b,M≤b→S b)→TrsV S wr ts At ct:=fun S hS=>PlV.own hown (by simp) (fun l hl=>by obtain ⟨y,_,rfl⟩:=List.mem_map.1 hl;exact trL_ok y) (fun b h1 _=>hS b h1)
    have hbv:BkV Any wr ⟨hq,ts⟩ Av cv As cs At ct:=⟨⟨StrV.any hhv.vals,PlV.any hhv.seals⟩,htv Any fun _ _=>trivial⟩
    have hbf:BkV (From (w.heap.size+1)) wr ⟨hq,ts⟩ Av cv As cs At ct:=⟨⟨Rep.mono hhv.vals fun b _ hb=>⟨by show w.heap.size+1≤b;omega,rfl⟩,Rep.mono hhv.seals fun b _ hb=>⟨by show w.heap.size+1≤b;omega,rfl⟩⟩,htv _ fun b hb=>by show w.heap.size+1≤b;omega⟩
    have hc:=bright_any ⟨hq,ts⟩ hfn Av As At cv cs ct wr hbv
    obtain ⟨rb,hrb⟩:∃ rb,okBk ⟨hq,ts⟩=rb:=⟨_,rfl⟩
    rw [hrb] at hc hyes hno
    have HC:=qh hc
    have HBF:=qh hbf
    have HYS:=qh hyes
    have HNS:=qh hno
    have HYY:=qh hY
    have HRR:=qh hRr
    have HBB:=qh (HB1.out.trans (hB.mono HB1.out.size))
    clear hc hbf hyes hno hY hRr hB hown hhv hpre hfine hu0 hx hhw htw hhk htk hfn htv hbv hrb
    go_wp2_with (refine wpList_load_row rfl _ _ rfl (w1.heap.size+1) rfl _ _ _ _ HYY.out Tryz.underlying29 rfl infoBk ?_)
    refine HC.out.mono ?_
    rintro e w9 ⟨rfl,hb9⟩
    have HY9:=qh ((hb9.block _ (qg HYY.out)).trans HYY.out)
    have HR9:=qh ((hb9.block _ (qg HRR.out)).trans HRR.out)
    have HB9:=qh (below_call HBB.out HBB.out.size hb9)
    have HV9:=qh (HBF.out.keep hb9)
    clear hb9 HYY HRR HBB HBF HC
    cases rb with
    | false =>
     have HT:=qh (HNS.out rfl)
     go_wp2_with fail
     refine (bno_any _).mono ?_
     rintro e wz ⟨rfl,hbz⟩
     have HRz:=qh ((hbz.block _ (qg HR9.out)).trans HR9.out)
     have HBz:=qh (below_call HB9.out (HB9.out).size hbz)
     clear hbz
     go_wp2_with (refine wpList_store_row rfl _ _ _ rfl w.heap.size zqB rfl rfl _ _ HRz.out infoBk rfl one12BZ ?_)
     exact bodyPost_ret (v:=.tuple #[.agg zqB,.int .i64 4]) (results_row_tmp rfl _ _ w.heap.size _ _ _ _ rfl (setRow_heap _ _ _ _ _ _ HRz.out) _ rfl Tryz.underlying29 rfl infoBk) rfl (bkPost_zero HT.out (below_setRow HBz.out qn _))
    | true =>
     have HT:=qh (HYS.out rfl)
     go_wp2_with (first | (refine wpList_load_row rfl _ _ rfl (w1.heap.size+1) rfl _ _ _ _ HY9.out Tryz.underlying29 rfl infoBk ?_) | (refine wpList_store_row rfl _ _ _ rfl w.heap.size (hbR hq Av cv As cs (.slice At ts.length ct)) rfl rfl _ _ HR9.out infoBk rfl (one12B _ _ _ _ _ _ _ _ _ _ _ _ _ _ _ _ _ _) ?_))
     refine bodyPost_ret (v:=.tuple #[.agg (hbR hq Av cv As cs (.slice At ts.length ct)),.int .i64 0]) (results_row_tmp rfl _ _ w.heap.size _ _ _ _ rfl (setRow_heap _ _ _ _ _ _ HR9.out) _ rfl Tryz.underlying29 rfl infoBk) rfl ?_
     refine ⟨⟨hq,ts⟩,Av,As,At,cv,cs,ct,0,rfl,?_,HT.out,below_setRow HB9.out qn _⟩
     have hm:∀ b,b < w9.heap.size→From (w.heap.size+1) b→From w.heap.size b∧(w9.setRow w.heap.size (hbR hq Av cv As cs (.slice At ts.length ct))).heap[b]? = w9.heap[b]?:=fun b _ hb=>⟨Nat.le_of_succ_le hb,heap_setRow_ne _ (by have h1:w.heap.size+1≤b:=hb;omega) _⟩
     exact ⟨⟨Rep.mono HV9.out.hd.vals hm,Rep.mono HV9.out.hd.seals hm⟩,Rep.mono HV9.out.txs hm⟩
/- The walks of Like at headers, Same at transfers, Like at blocks: of equal data. -/
theorem eqF_cons {P:Program} {w:World} {d:Nat} {xs ys:Array Value} {f:Field} {fs:List Field} (hne:f.name ≠ "_") {a b:Value} (ha:(part f.type xs f.offset).run P w=.ok a w) (hb:(part f.type ys f.offset).run P w=.ok b w)
  (hr:(Op.equalIn d f.type a b).run P w=.ok true w) (h:(Op.eqFields d xs ys fs).run P w=.ok true w):(Op.eqFields d xs ys (f :: fs)).run P w=.ok true w:=by
 rw [Op.eqFields,if_pos hne]
 simp [Sem.run_bind,ha,hb,hr,h]
theorem part_agg {P:Program} {t:TypeId} {d:TypeDesc} {n o:Nat} {xs ys:Array Value} (hu:P.underlying t=some d) (hd:(match d with | .struct _ | .array _ _=>true | _=>false)=true) (hs:P.cellsOf t=n) (hx:xs.extract o (o+n)=ys) (w:World):(part t xs o).run P w=.ok (.agg ys) w:=by
 have hz:(sizeOf t).run P w=.ok n w:=by
  obtain ⟨i,hi⟩:=info_of_underlying hu
  rw [run_sizeOf w hi,hs]
 have ha:(isAgg t).run P w=.ok true w:=by
  unfold isAgg
  rw [Sem.run_bind,run_underlying hu w]
  cases d <;> simp_all
 simp only [part,Sem.run_bind,ha,Result.andThen_ok,Sem.run_pure,if_true,hz,hx]
theorem fieldsTr:Tryz.prog.underlying 55 = some (.struct (Tryz.prog.fieldsOf 55)):=by kernel_rfl
theorem stoodTr:Tryz.prog.stoodInHeld 55 = false:=by kernel_rfl
theorem guardTr:Tryz.prog.eqGuardType Tryz.prog.depth 55 = false:=by kernel_rfl
theorem eqI_refl (d:Nat) (k:Int) (w:World):(Op.equalIn (d+1) 3 (.int .i64 k) (.int .i64 k)).run Tryz.prog w=.ok true w:=by
 rw [run_equalIn_int w d _ .i64 .i64 _ _ Tryz.underlying3];simp
theorem eqN_refl (d:Nat) (k:Int) (w:World):(Op.equalIn (d+1) 22 (.int .u64 k) (.int .u64 k)).run Tryz.prog w=.ok true w:=by
 rw [run_equalIn_int w d _ .u64 .u64 _ _ Tryz.underlying22];simp
theorem eqS_refl (d:Nat) (s:ByteArray) (w:World):(Op.equalIn (d+1) 9 (.string s) (.string s)).run Tryz.prog w=.ok true w:=by
 rw [run_equalIn_string w d _ _ _ Tryz.underlying9];simp
theorem eqU_refl (d:Nat) (x:U4) (w:World):(Op.equalIn (d+2) 51 (.agg #[.int .u64 (x.a:Int),.int .u64 (x.b:Int),.int .u64 (x.c:Int),.int .u64 (x.d:Int)]) (.agg #[.int .u64 (x.a:Int),.int .u64 (x.b:Int),.int .u64 (x.c:Int),.int .u64 (x.d:Int)])).run Tryz.prog w=.ok true w:=by
 have:=run_eqU d x x w
 rw [show eqU x x=true by unfold eqU;exact decide_eq_true rfl] at this
 exact this
theorem eqSg_refl (d:Nat) (x:Sg) (w:World):(Op.equalIn (d+3) 53 (.agg (sgL x).toArray) (.agg (sgL x).toArray)).run Tryz.prog w=.ok true w:=by
 have p0:(part 51 (sgL x).toArray 0).run Tryz.prog w=.ok (.agg #[.int .u64 (x.r.a:Int),.int .u64 (x.r.b:Int),.int .u64 (x.r.c:Int),.int .u64 (x.r.d:Int)]) w:=part_agg (n:=4) (o:=0) (xs:=(sgL x).toArray) Tryz.underlying51 rfl (by kernel_rfl) rfl w
 have p1:(part 51 (sgL x).toArray 4).run Tryz.prog w=.ok (.agg #[.int .u64 (x.s.a:Int),.int .u64 (x.s.b:Int),.int .u64 (x.s.c:Int),.int .u64 (x.s.d:Int)]) w:=part_agg (n:=4) (o:=4) (xs:=(sgL x).toArray) Tryz.underlying51 rfl (by kernel_rfl) rfl w
 have p2:(part 3 (sgL x).toArray 8).run Tryz.prog w=.ok (.int .i64 x.v) w:=by simp [part,isAgg,run_underlying Tryz.underlying3,sgL,Sem.run_bind]
 have hm:(Op.eqFields (d+2) (sgL x).toArray (sgL x).toArray (Tryz.prog.fieldsOf 53).toList).run Tryz.prog w=.ok true w:=by
  simp only [Program.fieldsOf,Tryz.underlying53]
  refine eqF_cons (by decide) p0 p0 (eqU_refl d _ w) ?_
  refine eqF_cons (by decide) p1 p1 (eqU_refl d _ w) ?_
  refine eqF_cons (by decide) p2 p2 (eqI_refl (d+1) _ w) ?_
  rfl
 rw [run_equalIn_agg w (d+2) _ _ _ fieldsSg stoodSg,hm]
theorem eqTr_refl (d:Nat) (t:Tr) (w:World):(Op.equalIn (d+4) 55 (.agg (trL t).toArray) (.agg (trL t).toArray)).run Tryz.prog w=.ok true w:=by
 have p0:(part 9 (trL t).toArray 0).run Tryz.prog w=.ok (.string (bs t.to)) w:=by simp [part,isAgg,run_underlying Tryz.underlying9,trL,Sem.run_bind]
 have p1:(part 22 (trL t).toArray 1).run Tryz.prog w=.ok (.int .u64 (t.am:Int)) w:=by simp [part,isAgg,run_underlying Tryz.underlying22,trL,Sem.run_bind]
 have p2:(part 22 (trL t).toArray 2).run Tryz.prog w=.ok (.int .u64 (t.no:Int)) w:=by simp [part,isAgg,run_underlying Tryz.underlying22,trL,Sem.run_bind]
 have p3:(part 53 (trL t).toArray 3).run Tryz.prog w=.ok (.agg (sgL t.sg).toArray) w:=part_agg (n:=9) (o:=3) (xs:=(trL t).toArray) Tryz.underlying53 rfl (by kernel_rfl) rfl w
 have hm:(Op.eqFields (d+3) (trL t).toArray (trL t).toArray (Tryz.prog.fieldsOf 55).toList).run Tryz.prog w=.ok true w:=by
  simp only [Program.fieldsOf,Tryz.underlying55]
  refine eqF_cons (by decide) p0 p0 (eqS_refl (d+2) _ w) ?_
  refine eqF_cons (by decide) p1 p1 (eqN_refl (d+2) _ w) ?_
  refine eqF_cons (by decide) p2 p2 (eqN_refl (d+2) _ w) ?_
  refine eqF_cons (by decide) p3 p3 (eqSg_refl d _ w) ?_
  rfl
 rw [run_equalIn_agg w (d+3) _ _ _ fieldsTr stoodTr,hm]
theorem neqSg (x:Sg) (w:World):(binOp .neq 53 (.agg (sgL x).toArray) (.agg (sgL x).toArray)).run Tryz.prog w=.ok (.bool false) w:=by
 rw [run_neq_struct,eqSg_refl 9997 x w];rfl
theorem neqTr (x:Tr) (w:World):(binOp .neq 55 (.agg (trL x).toArray) (.agg (trL x).toArray)).run Tryz.prog w=.ok (.bool false) w:=by
 rw [run_neq_struct,eqTr_refl 9996 x w];rfl
theorem like17_any (h:Hd) (Av As Aw At:Option Addr) (cv cs cw ct:Nat) (w:World) (hv:HdV Any w h Av cv As cs) (hv':HdV Any w h Aw cw At ct) :
  Calls Tryz.prog 31 #[.agg (hdR h Av cv As cs),.agg (hdR h Aw cw At ct)] w fun e w'=>e=.returned (.bool true)∧Below w.heap.size w w':=by
 have h0:=(heap_alloc_old (w.alloc (.cells (hdR h Av cv As cs) 26)) (.cells (hdR h Aw cw At ct) 26) (by simp)).trans (heap_alloc_new w (.cells (hdR h Av cv As cs) 26))
 have h1:=heap_alloc_new (w.alloc (.cells (hdR h Av cv As cs) 26)) (.cells (hdR h Aw cw At ct) 26)
 rw [show (w.alloc (.cells (hdR h Av cv As cs) 26)).heap.size=w.heap.size+1 by simp] at h1
 have hb:Below w.heap.size w ((w.alloc (.cells (hdR h Av cv As cs) 26)).alloc (.cells (hdR h Aw cw At ct) 26)):=((Below.refl _ _).alloc qn _).alloc (by simp) _
 have HV1:=qh (hv.keep hb)
 have HV2:=qh (hv'.keep hb)
 have HB:=qh hb
 have HX:=qh h0
 have HY:=qh h1
 have hn1:(h.vals.length:Int)≤9223372036854775807:=by have:=(Rep.slice_len hv.vals).2;simp only [maxLen] at this;omega
 have hn2:(h.seals.length:Int)≤9223372036854775807:=by have:=PlV.len hv.seals;simp only [maxLen,List.length_map] at this;omega
 have x0:=rc (u:=.string (bs h.parent)) h0 0 rfl
 have x1:=rc (u:=.int .u64 (h.height:Int)) h0 1 rfl
 have x2:=rc (u:=.string (bs h.root)) h0 2 rfl
 have x3:=rc (u:=.string (bs h.txs)) h0 3 rfl
 have x4:=rc (u:=.string (bs h.prop)) h0 4 rfl
 have x5:=rc (u:=.string (bs h.van)) h0 5 rfl
 have x6:=rc (u:=.slice Av h.vals.length cv) h0 6 rfl
 have x7:=rc (u:=.string (bs h.vote)) h0 7 rfl
 have x8:=rc (u:=.bool h.add) h0 8 rfl
 have x9:=rc (u:=.int .u64 (h.round:Int)) h0 9 rfl
 have x10:=rc (u:=.slice As h.seals.length cs) h0 10 rfl
 have y0:=rc (u:=.string (bs h.parent)) h1 0 rfl
 have y1:=rc (u:=.int .u64 (h.height:Int)) h1 1 rfl
 have y2:=rc (u:=.string (bs h.root)) h1 2 rfl
 have y3:=rc (u:=.string (bs h.txs)) h1 3 rfl
 have y4:=rc (u:=.string (bs h.prop)) h1 4 rfl
 have y5:=rc (u:=.string (bs h.van)) h1 5 rfl
 have y6:=rc (u:=.slice Aw h.vals.length cw) h1 6 rfl
 have y7:=rc (u:=.string (bs h.vote)) h1 7 rfl
 have y8:=rc (u:=.bool h.add) h1 8 rfl
 have y9:=rc (u:=.int .u64 (h.round:Int)) h1 9 rfl
 have y10:=rc (u:=.slice At h.seals.length ct) h1 10 rfl
 clear h0 h1 hb hv hv'
 go_enter Tryz.func31,Tryz.ntmps31
 go_wp2_with fail
 clear x0 y0 x1 y1 x2 y2 x3 y3 x4 y4 x5 y5 x6 y6 x7 y7 x8 y8 x9 y9 x10 y10
 generalize (w.alloc (.cells (hdR h Av cv As cs) 26)).alloc (.cells (hdR h Aw cw At ct) 26)=W2 at *
 go_loopw [87] (fun a wr=>∃ i:Nat,a=.int .i64 (i:Int)∧i≤h.vals.length∧Below W2.heap.size W2 wr) (fun a _=>h.vals.length - (intOf a).toNat)
 case atStart=>exact ⟨0,rfl,Nat.zero_le _,Below.refl _ _⟩
 case round =>
  obtain ⟨i,rfl,hi,hB⟩:=hrel
  have hX:=(hB.block _ (qg HX.out)).trans HX.out
  have hY:=(hB.block _ (qg HY.out)).trans HY.out
  by_cases hlt:i < h.vals.length
  ·obtain ⟨x,hx⟩:=getElem_ex hlt
   have x6:=rc (u:=.slice Av h.vals.length cv) hX 6 rfl
   have y6:=rc (u:=.slice Aw h.vals.length cw) hY 6 rfl
   obtain ⟨g,o,rfl,_,k1⟩:=StrV.at_ (StrV.keep HV1.out.vals hB) hx
   obtain ⟨g',o',rfl,_,k2⟩:=StrV.at_ (StrV.keep HV2.out.vals hB) hx
   have hltI:(i:Int) < h.vals.length:=by omega
   have HBB:=qh hB
   clear hx hX hY hB
   go_wp2_with fail
   go_quiet (fail)
   go_wp2_with fail
   go_roundw
   case rel=>exact ⟨i+1,by go_num,hlt,below_drewN HBB.out _⟩
   case measure=>simp [intOf];omega
  ·obtain rfl:i=h.vals.length:=by omega
   have x10:=rc (u:=.slice As h.seals.length cs) hX 10 rfl
   have y10:=rc (u:=.slice At h.seals.length ct) hY 10 rfl
   have HB1:=qh hB
   clear hX hY hB
   go_wp2_with fail
   rename World=>wq
   go_loopw [105] (fun a wr=>∃ i:Nat,a=.int .i64 (i:Int)∧i≤h.seals.length∧Below W2.heap.size W2 wr) (fun a _=>h.seals.length - (intOf a).toNat)
   case atStart=>exact ⟨0,rfl,Nat.zero_le _,HB1.out⟩
   case round =>
    clear x10 y10
    obtain ⟨i,rfl,hi,hB⟩:=hrel
    have hX:=(hB.block _ (qg HX.out)).trans HX.out
    have hY:=(hB.block _ (qg HY.out)).trans HY.out
    by_cases hlt:i < h.seals.length
    ·obtain ⟨x,hx⟩:=getElem_ex hlt
     have x10:=rc (u:=.slice As h.seals.length cs) hX 10 rfl
     have y10:=rc (u:=.slice At h.seals.length ct) hY 10 rfl
     obtain ⟨g,o,rfl,k1⟩:=sgs_at (PlV.keep HV1.out.seals hB) hx
     obtain ⟨g',o',rfl,k2⟩:=sgs_at (PlV.keep HV2.out.seals hB) hx
     have hltI:(i:Int) < h.seals.length:=by omega
     have HBB:=qh hB
     clear hx hX hY hB
     go_wp2_with fail
     have hSS:(fun w'=>(∀ j u,(sgL x)[j]? = some u→w'.cell? ⟨g,o+i * 9+j,none⟩=some u)∧(∀ j u,(sgL x)[j]? = some u→w'.cell? ⟨g',o'+i * 9+j,none⟩=some u)∧w'.cell? ⟨w.heap.size,10,none⟩=some (.slice (some ⟨g,o,none⟩) h.seals.length cs)∧w'.cell? ⟨w.heap.size+1,10,none⟩=some (.slice (some ⟨g',o',none⟩) h.seals.length ct)) wr.drew:=⟨k1,k2,x10,y10⟩
     refine wp_region_R [(99,fun w'=>(∀ j u,(sgL x)[j]? = some u→w'.cell? ⟨g,o+i * 9+j,none⟩=some u)∧(∀ j u,(sgL x)[j]? = some u→w'.cell? ⟨g',o'+i * 9+j,none⟩=some u)∧w'.cell? ⟨w.heap.size,10,none⟩=some (.slice (some ⟨g,o,none⟩) h.seals.length cs)∧w'.cell? ⟨w.heap.size+1,10,none⟩=some (.slice (some ⟨g',o',none⟩) h.seals.length ct))] (by kernel_rfl) ?_
     refine R_p (i:=0) (v:=.pointer (some ⟨w.heap.size,10,none⟩)) (Meets.here hSS Meets.nil) ?_
     refine R_l (i:=1) (v:=.slice (some ⟨g,o,none⟩) h.seals.length cs) 99 _ List.mem_cons_self rfl (yieldsIf_load_cell rfl rfl rfl (fun w' hS=>hS.2.2.1) Tryz.underlying24 rfl) (Meets.here hSS Meets.nil) ?_
     refine R_p (i:=2) (v:=.int .i64 (i:Int)) (Meets.here hSS Meets.nil) ?_
     refine R_p (i:=3) (v:=.pointer (some ⟨g,o+i * 9,none⟩)) (Meets.here hSS Meets.nil) ?_
     refine R_l (i:=4) (v:=.agg (sgL x).toArray) 99 _ List.mem_cons_self rfl (yieldsIf_load_at rfl rfl rfl (sgL x) (fun w' hS=>hS.1) Tryz.underlying53 rfl infoSg) (Meets.here hSS Meets.nil) ?_
     refine R_p (i:=5) (v:=.pointer (some ⟨w.heap.size+1,10,none⟩)) (Meets.here hSS Meets.nil) ?_
     refine R_l (i:=6) (v:=.slice (some ⟨g',o',none⟩) h.seals.length ct) 99 _ List.mem_cons_self rfl (yieldsIf_load_cell rfl rfl rfl (fun w' hS=>hS.2.2.2) Tryz.underlying24 rfl) (Meets.here hSS Meets.nil) ?_
     refine R_p (i:=7) (v:=.int .i64 (i:Int)) (Meets.here hSS Meets.nil) ?_
     refine R_p (i:=8) (v:=.pointer (some ⟨g',o'+i * 9,none⟩)) (Meets.here hSS Meets.nil) ?_
     refine R_l (i:=9) (v:=.agg (sgL x).toArray) 99 _ List.mem_cons_self rfl (yieldsIf_load_at rfl rfl rfl (sgL x) (fun w' hS=>hS.2.1) Tryz.underlying53 rfl infoSg) (Meets.here hSS Meets.nil) ?_
     refine R_p (i:=10) (v:=.bool false) (Meets.here hSS Meets.nil) ?_ (hy:=by intro w';have h1:=neqSg x w';have h2:=fun aa bb=>run_eqGuard_agg w' .neq 53 aa bb (sgL x).toArray (sgL x).toArray guardSg;generalize Value.agg (sgL x).toArray=VV at h1 h2 ⊢;go_simp)
     refine R_done (by kernel_rfl) ?_ _
     go_wp2_with fail
     go_roundw
     case rel=>exact ⟨i+1,by go_num,hlt,HBB.out.drew⟩
     case measure=>simp [intOf];omega
    ·have hltI:¬ (i:Int) < h.seals.length:=by omega
     have HBB:=qh hB
     clear hX hY hB
     go_wp2_with fail
     go_ret
     exact ⟨rfl,HB.out.trans (HBB.out.mono HB.out.size)⟩
theorem same16_any (l:List Tr) (A A':Option Addr) (c c':Nat) (w:World) (hv:TrsV Any w l A c) (hv':TrsV Any w l A' c') :
  Calls Tryz.prog 32 #[.slice A l.length c,.slice A' l.length c'] w fun e w'=>e=.returned (.bool true)∧Below w.heap.size w w':=by
 have hn1:(l.length:Int)≤9223372036854775807:=by have:=PlV.len hv;simp only [maxLen,List.length_map] at this;omega
 have HV1:=qh hv
 have HV2:=qh hv'
 clear hv hv'
 go_enter Tryz.func32,Tryz.ntmps32
 go_wp2_with fail
 go_loopw [13] (fun a wr=>∃ i:Nat,a=.int .i64 (i:Int)∧i≤l.length∧Below w.heap.size w wr) (fun a _=>l.length - (intOf a).toNat)
 case atStart=>exact ⟨0,rfl,Nat.zero_le _,Below.refl _ _⟩
 case round =>
  obtain ⟨i,rfl,hi,hB⟩:=hrel
  by_cases hlt:i < l.length
  ·obtain ⟨x,hx⟩:=getElem_ex hlt
   obtain ⟨g,o,rfl,k1⟩:=trs_at (PlV.keep HV1.out hB) hx
   obtain ⟨g',o',rfl,k2⟩:=trs_at (PlV.keep HV2.out hB) hx
   have hltI:(i:Int) < l.length:=by omega
   have HBB:=qh hB
   clear hx hB
   go_wp2_with fail
   have hSS:(fun w'=>(∀ j u,(trL x)[j]? = some u→w'.cell? ⟨g,o+i * 12+j,none⟩=some u)∧(∀ j u,(trL x)[j]? = some u→w'.cell? ⟨g',o'+i * 12+j,none⟩=some u)) wr.drew:=⟨k1,k2⟩
   refine wp_region_R [(99,fun w'=>(∀ j u,(trL x)[j]? = some u→w'.cell? ⟨g,o+i * 12+j,none⟩=some u)∧(∀ j u,(trL x)[j]? = some u→w'.cell? ⟨g',o'+i * 12+j,none⟩=some u))] (by kernel_rfl) ?_
   refine R_p (i:=0) (v:=.slice (some ⟨g,o,none⟩) l.length c) (Meets.here hSS Meets.nil) ?_
   refine R_p (i:=1) (v:=.int .i64 (i:Int)) (Meets.here hSS Meets.nil) ?_
   refine R_p (i:=2) (v:=.pointer (some ⟨g,o+i * 12,none⟩)) (Meets.here hSS Meets.nil) ?_
   refine R_l (i:=3) (v:=.agg (trL x).toArray) 99 _ List.mem_cons_self rfl (yieldsIf_load_at rfl rfl rfl (trL x) (fun w' hS=>hS.1) Tryz.underlying55 rfl infoTr) (Meets.here hSS Meets.nil) ?_
   refine R_p (i:=4) (v:=.slice (some ⟨g',o',none⟩) l.length c') (Meets.here hSS Meets.nil) ?_
   refine R_p (i:=5) (v:=.int .i64 (i:Int)) (Meets.here hSS Meets.nil) ?_
   refine R_p (i:=6) (v:=.pointer (some ⟨g',o'+i * 12,none⟩)) (Meets.here hSS Meets.nil) ?_
   refine R_l (i:=7) (v:=.agg (trL x).toArray) 99 _ List.mem_cons_self rfl (yieldsIf_load_at rfl rfl rfl (trL x) (fun w' hS=>hS.2) Tryz.underlying55 rfl infoTr) (Meets.here hSS Meets.nil) ?_
   refine R_p (i:=8) (v:=.bool false) (Meets.here hSS Meets.nil) ?_ (hy:=by intro w';have h1:=neqTr x w';have h2:=fun aa bb=>run_eqGuard_agg w' .neq 55 aa bb (trL x).toArray (trL x).toArray guardTr;generalize Value.agg (trL x).toArray=VV at h1 h2 ⊢;go_simp)
   refine R_done (by kernel_rfl) ?_ _
   go_wp2_with fail
   go_roundw
   case rel=>exact ⟨i+1,by go_num,hlt,HBB.out.drew⟩
   case measure=>simp [intOf];omega
  ·have hltI:¬ (i:Int) < l.length:=by omega
   have HBB:=qh hB
   clear hB
   go_wp2_with fail
   go_ret
   exact ⟨rfl,HBB.out⟩
/- The walks of few$1, txs and few. -/
theorem cut50_any (s:Bytes) (hs:s.length≤9223372036854775807) (w:World):Calls Tryz.prog 16 #[.string (bs s)] w fun e w'=>e=.returned (.string (bs (s.take 50)))∧Below w.heap.size w w':=by
 obtain ⟨m,hm,hmm⟩:∃ m:Nat,min (s.length:Int) 50=m∧m=min s.length 50:=⟨min s.length 50,by omega,rfl⟩
 have hm1:(m:Int)≤s.length:=by omega
 have Hm:=qh (show s.take 50=s.take m by rw [hmm,List.take_eq_take_min];rw [Nat.min_comm])
 rw [Hm.out]
 clear hmm
 go_enter Tryz.func16,Tryz.ntmps16
 go_wp2_with fail
 go_ret
 exact ⟨rfl,Below.refl _ _⟩
theorem strL_len (ps:List Bytes):(strL ps).length=ps.length:=by simp [strL]
theorem strL_get {ps:List Bytes} {i:Nat} {p:Bytes} (h:ps[i]? = some p):(strL ps)[i]? = some (.string (bs p)):=by simp [strL,h]
theorem strL_of {S:Nat→Prop} {w:World}:∀ (ps:List Bytes) (cs:List Value),RepN S w 1 (strsD ps) cs→cs=strL ps
 | [],_,h=>by cases h;rfl
 | p :: ps,_,h=>by
  cases h with
  | cons h0 _ h1 =>
   have h0:Rep S w (.v (.string (bs p))) _:=h0
   rw [h0.v_form,strL_of ps _ h1];rfl
theorem StrV.lies {S:Nat→Prop} {w:World} {ps:List Bytes} {A:Option Addr} {c:Nat} (h:StrV S w ps A c):Lies S w A (strL ps):=by
 obtain ⟨css,h1,h2,_,_⟩:=Rep.slice_open h
 rwa [strL_of _ _ h1] at h2
theorem Lies.take {S:Nat→Prop} {w:World} {A:Option Addr} {cs:List Value} (h:Lies S w A cs) (n:Nat):Lies S w A (cs.take n):=by
 rw [← List.take_append_drop n cs] at h
 exact Lies.take' h
theorem strV_of {S:Nat→Prop} {w:World} {ps:List Bytes} {A:Option Addr} {c:Nat} (h:Lies S w A (strL ps)) (h1:ps.length≤c) (h2:c≤maxLen):StrV S w ps A c :=
 .sl (repN_strL ps) (by simp [strsD]) h h1 h2
theorem one_strL (ps:List Bytes):∀ u∈strL ps,u.oneCell'=true:=by
 intro u hu;obtain ⟨p,_,rfl⟩:=List.mem_map.1 hu;rfl
theorem wpl_load_cs {P:Program} {ops:Array Oper} {rest:List Oper} {op:Oper} {a:Act} {w:World} {Q:Exit→Act→World→Prop} (hgd:op.guard=none) {ty:TypeId} {x:Operand} (ho:op.op=.load ty x)
  {g o:Nat} (hx:a.eval x=.pointer (some ⟨g,o,none⟩)) (cs:List Value) {d:TypeDesc} (hc:∀ j u,cs[j]? = some u→w.cell? ⟨g,o+j,none⟩=some u)
  (hu:P.underlying ty=some d) (hd:(match d with | .struct _ | .array _ _=>true | _=>false)=true) (hi:(P.info? ty).map (·.size)=some cs.length)
  (h:wpList P ops Q rest (a.put op.dst (.agg cs.toArray)) w):wpList P ops Q (op :: rest) a w :=
 wpList_plain hgd fun _ hK=>by
  unfold Oper.wp execOp
  simp only [ho,hx,Instr.loadAt,Instr.sureAddr,Sem.run_bind,Sem.run_pure,Result.andThen_ok,run_loadVar_at w g o ty cs d hc hu hd hi]
  exact hK _ _ h
def cutTr (t:Tr):Tr:=⟨t.to.take 40,t.am,t.no,t.sg⟩
def cutHd (h:Hd):Hd:=⟨h.parent.take 50,h.height,h.root.take 50,h.txs.take 50,h.prop.take 50,h.van.take 50,(h.vals.take 20).map (·.take 50),h.vote.take 50,h.add,h.round,h.seals.take 20⟩
def cutBk (b:Bk):Bk:=⟨cutHd b.hd,(b.txs.take 8).map cutTr⟩
theorem flat_get {sz:Nat}:∀ {ls:List (List Value)} {i:Nat} {cs:List Value},(∀ l∈ls,l.length=sz)→ls[i]? = some cs→∀ j u,cs[j]? = some u→ls.flatten[i * sz+j]? = some u
 | b :: l,0,a,hl,h,j,u,hj=>by
  simp at h;subst h
  have h1:=(List.getElem?_eq_some_iff.1 hj).1
  rw [Nat.zero_mul,Nat.zero_add,List.flatten_cons,List.getElem?_append_left h1];exact hj
 | b :: l,i+1,a,hl,h,j,u,hj=>by
  simp at h
  have hb:=hl b (by simp)
  rw [List.flatten_cons,List.getElem?_append_right (by rw [Nat.add_mul];omega),show (i+1) * sz+j - b.length=i * sz+j by rw [Nat.add_mul];omega]
  exact flat_get (fun l h=>hl l (by simp [h])) h j u hj
theorem trs_flat_len (l:List Tr):((l.map trL).flatten).length=l.length * 12:=by
 induction l with
 | nil=>rfl
 | cons a l ih=>rw [List.map_cons,List.flatten_cons,List.length_append,ih,List.length_cons,Nat.add_mul];show 12+_=_;omega
theorem trs_one (l:List Tr):∀ u∈(l.map trL).flatten,u.oneCell'=true:=fun u hu=>by
 obtain ⟨a,ha,hu⟩:=List.mem_flatten.1 hu
 obtain ⟨t,_,rfl⟩:=List.mem_map.1 ha
 exact (trL_ok t).2 u hu
/-- transfers of which so many are cut -/
def cutsT (k:Nat) (l:List Tr):List Tr:=(l.take k).map cutTr ++ l.drop k
theorem cutsT_all (l:List Tr):cutsT l.length l=l.map cutTr:=by simp [cutsT]
theorem cutsT_get {k:Nat} {l:List Tr} {a:Tr} (h:l[k]? = some a):(cutsT k l)[k]? = some a:=by
 have hk:=(List.getElem?_eq_some_iff.1 h).1
 unfold cutsT
 rw [List.getElem?_append_right (by simp;omega)]
 simp [Nat.min_eq_left (Nat.le_of_lt hk),h]
theorem cutsT_set {k:Nat} {l:List Tr} {a:Tr} (h:l[k]? = some a):((cutsT k l).map trL).flatten.set (k * 12) (.string (bs (a.to.take 40)))=((cutsT (k+1) l).map trL).flatten:=by
 have hk:=(List.getElem?_eq_some_iff.1 h).1
 have hl:(((l.take k).map cutTr).map trL).flatten.length=k * 12:=by rw [trs_flat_len];simp;omega
 unfold cutsT
 rw [take_snoc h,drop_cons h]
 simp only [List.map_append,List.flatten_append,List.map_cons,List.flatten_cons,List.map_nil,List.flatten_nil,List.append_nil]
 rw [List.set_append_right _ _ (by omega),hl,Nat.sub_self,List.append_assoc]
 rfl
/-- texts of which so many are cut -/
def cutsS (k:Nat) (l:List Bytes):List Bytes:=(l.take k).map (·.take 50) ++ l.drop k
theorem cutsS_all (l:List Bytes):cutsS l.length l=l.map (·.take 50):=by simp [cutsS]
theorem cutsS_get {k:Nat} {l:List Bytes} {a:Bytes} (h:l[k]? = some a):(cutsS k l)[k]? = some a:=by
 have hk:=(List.getElem?_eq_some_iff.1 h).1
 unfold cutsS
 rw [List.getElem?_append_right (by simp;omega)]
 simp [Nat.min_eq_left (Nat.le_of_lt hk),h]
theorem strL_append (a b:List Bytes):strL (a ++ b)=strL a ++ strL b:=by simp [strL]
theorem cutsS_set {k:Nat} {l:List Bytes} {a:Bytes} (h:l[k]? = some a):(strL (cutsS k l)).set k (.string (bs (a.take 50)))=strL (cutsS (k+1) l):=by
 have hk:=(List.getElem?_eq_some_iff.1 h).1
 unfold cutsS
 rw [take_snoc h,drop_cons h,List.map_append,strL_append,strL_append,strL_append]
 have hl:(strL ((l.take k).map (·.take 50))).length=k:=by rw [strL_len];simp;omega
 rw [List.set_append_right _ _ (by omega),hl,Nat.sub_self,List.append_assoc]
 rfl
theorem PlV.take {S:Nat→Prop} {w:World} {sz:Nat} {ls:List (List Value)} {A:Option Addr} {c:Nat} (h:PlV S w sz ls A c) (hl:∀ l∈ls,l.length=sz∧∀ u∈l,u.oneCell'=true) (n:Nat):PlV S w sz (ls.take n) A c:=by
 have h1:=h.lies
 rw [← List.take_append_drop n ls,List.flatten_append] at h1
 have h2:=h.len
 exact .sl (plN_rep fun l hx=>hl l (List.mem_of_mem_take hx)) (by simp) (Lies.take' h1) (by rw [List.length_take];omega) h2.2
theorem txs18_any (l:List Tr) (hf:∀ t∈l,t.Fine) (A:Option Addr) (c:Nat) (w:World) (hv:TrsV Any w l A c) :
  Calls Tryz.prog 17 #[.slice A l.length c] w fun e w'=>∃ A2 c2,e=.returned (.slice A2 ((l.take 8).map cutTr).length c2)∧TrsV (From w.heap.size) w' ((l.take 8).map cutTr) A2 c2∧Below w.heap.size w w':=by
 have hl:=PlV.len hv
 simp only [maxLen,List.length_map] at hl
 obtain ⟨m,hm,hmm⟩:∃ m:Nat,min (l.length:Int) 8=m∧m=min l.length 8:=⟨min l.length 8,by omega,rfl⟩
 have hlen63:(l.length:Int)≤9223372036854775807:=by omega
 have hm1:(m:Int)≤l.length:=by omega
 have hm2:(m:Int)≤c:=by omega
 have hm3:(m:Int)≤8:=by omega
 have hmq:l.take 8=l.take m:=by rw [hmm,List.take_eq_take_min,Nat.min_comm]
 have hq:(l.take m).length=m:=by rw [List.length_take];omega
 have hown0:(w.alloc (.cells #[] 55)).ownsRow w.heap.size 55 12 (.slice (some ⟨w.heap.size,0,none⟩) 0 0) 0 []:=World.ownsRow_lit w _ 0 qn (by simp [maxLen]) rfl
 have hnews:Lies Any (w.alloc (.cells #[] 55)) A ((l.take m).map trL).flatten:=by
  have h0:=PlV.lies (PlV.take (Rep.alloc hv (.cells #[] 55)) (fun x hx=>by obtain ⟨y,_,rfl⟩:=List.mem_map.1 hx;exact trL_ok y) m)
  rw [← List.map_take] at h0
  exact h0
 have hqp:∀ p∈l.take m,p.Fine:=fun p h=>hf p (List.mem_of_mem_take h)
 rw [hmq]
 clear hmm hf hmq
 generalize l.take m=qs at hq hnews hqp ⊢
 subst hq
 have HL:=qh (trs_flat_len qs)
 have HP:=qh hqp
 clear hqp
 go_enter Tryz.func17,Tryz.ntmps17
 go_wp2_with (at_builtin;refine wpl_append elTr rfl rfl w.heap.size hown0 rfl (m:=qs.length) ((qs.map trL).flatten) rfl HL.out hnews (trs_one _) (by simp only [maxLen];omega) (by omega) (by simp) ?_;intro v1 w1 hown1 hg1 hat1;rw [Nat.zero_add] at hown1;obtain ⟨A1,c1,rfl⟩:=own_form hown1)
 have hb1:Below w.heap.size w w1:=below_app ((Below.refl _ _).alloc qn _) hown0 hg1 (by simp) qn
 clear hm hown0 hnews hg1 hat1
 go_loopw [14] (fun i wr=>∃ j:Nat,j≤qs.length∧i=.int .i64 j∧wr.ownsRow w.heap.size 55 12 (.slice A1 qs.length c1) qs.length ((cutsT j qs).map trL).flatten∧Below w.heap.size w wr) (fun i _=>qs.length - (intOf i).toNat)
 case atStart=>exact ⟨0,Nat.zero_le _,rfl,hown1,hb1⟩
 case round =>
  obtain ⟨j,hj,rfl,hown,hb⟩:=hrel
  clear hown1 hb1
  by_cases hlt:j < qs.length
  ·obtain ⟨g,rfl,hg0,hg1⟩:=own_ptr hown (by omega)
   obtain ⟨t,ha⟩:=getElem_ex hlt
   have hpl:=(HP.out t (List.mem_of_getElem? ha)).to
   have Hs:=qh (cutsT_set ha)
   have kk:=fun j' u hj'=>own_cell hown (flat_get (fun x hx=>by obtain ⟨y,_,rfl⟩:=List.mem_map.1 hx;exact (trL_ok y).1) (by rw [List.getElem?_map,cutsT_get ha];rfl:((cutsT j qs).map trL)[j]? = some (trL t)) j' u hj')
   have HK:=qh kk
   have HA:=qh ha
   have hlt':(j:Int) < qs.length:=by omega
   obtain ⟨m,hm,hmm⟩:∃ m:Nat,min (t.to.length:Int) 40=m∧m=min t.to.length 40:=⟨min t.to.length 40,by omega,rfl⟩
   have hm1:(m:Int)≤t.to.length:=by omega
   have hto63:(t.to.length:Int)≤9223372036854775807:=by omega
   have Hm:=qh (show t.to.take 40=t.to.take m by rw [hmm,List.take_eq_take_min];rw [Nat.min_comm])
   have HO:=qh hown
   have hZ:=heap_alloc_new wr (.cells zqT 55)
   have HZ:=qh hZ
   have hba:=below_setRow ((Below.refl wr.heap.size wr).alloc qn (.cells zqT 55)) (Nat.le_refl wr.heap.size) (trR t)
   have hT:=setRow_heap (wr.alloc (.cells zqT 55)) wr.heap.size _ (trR t) _ _ hZ
   clear ha hmm hown kk hZ
   go_wp2_with (first | (refine wpl_load_cs rfl rfl rfl [.string (bs t.to),.int .u64 (t.am:Int),.int .u64 (t.no:Int),.int .u64 (t.sg.r.a:Int),.int .u64 (t.sg.r.b:Int),.int .u64 (t.sg.r.c:Int),.int .u64 (t.sg.r.d:Int),.int .u64 (t.sg.s.a:Int),.int .u64 (t.sg.s.b:Int),.int .u64 (t.sg.s.c:Int),.int .u64 (t.sg.s.d:Int),.int .i64 t.sg.v] HK.out Tryz.underlying55 rfl infoTr ?_) | (refine wpList_store_row rfl _ _ _ rfl wr.heap.size (trR t) rfl rfl _ _ HZ.out infoTr rfl (one12 _ _ _ _ _ _ _ _ _ _ _ _) ?_;generalize (wr.alloc (.cells zqT 55)).setRow wr.heap.size (trR t)=W3 at hba hT ⊢;have hO3:=own_keep HO.out hba;have hB3:=below_call hb hb.size hba;have hs:=hba.size;have x0:=rc (u:=.string (bs t.to)) hT 0 rfl;have hf3:=own_free hO3 (j * 12);have kc:=own_cell hO3 (j:=j * 12) (flat_get (fun x hx=>by obtain ⟨y,_,rfl⟩:=List.mem_map.1 hx;exact (trL_ok y).1) (by rw [List.getElem?_map,cutsT_get HA.out];rfl:((cutsT j qs).map trL)[j]? = some (trL t)) 0 (.string (bs t.to)) rfl);have hgl:g < W3.heap.size:=(Nat.lt_of_lt_of_le hg1 hs);have HO3:=qh hO3;clear hT hO3 HO HZ hba))
   go_roundw
   case rel =>
    have h:=own_set HO3.out (j * 12) (.string (bs (t.to.take 40)))
    rw [Hs.out,Hm.out] at h
    exact ⟨j+1,hlt,by go_num,h,hB3.setCell (p:=⟨g,j * 12,none⟩) hg0 _⟩
   case measure=>simp [intOf];omega
  ·obtain rfl:j=qs.length:=by omega
   rw [cutsT_all] at hown
   have hv':TrsV (From w.heap.size) wr (qs.map cutTr) A1 c1:=PlV.own hown (by simp) (fun x hx=>by obtain ⟨y,_,rfl⟩:=List.mem_map.1 hx;exact trL_ok y) (fun b h1 _=>h1)
   have HV:=qh hv'
   have HB:=qh hb
   clear hown hb hv'
   go_wp2_with fail
   go_ret
   exact ⟨A1,c1,by rw [show (qs.map cutTr).length=qs.length by simp];rfl,HV.out,HB.out⟩
theorem few18_any {S:Nat→Prop} (b:Bk) (hh:b.hd.Fine) (ht:∀ t∈b.txs,t.Fine) (Av As At:Option Addr) (cv cs ct:Nat) (w:World) (hv:BkV S w b Av cv As cs At ct) :
  Calls Tryz.prog 4 #[.agg (bkR b Av cv As cs At ct)] w fun e w'=>∃ (Av' As' At':Option Addr) (cv' cs' ct':Nat),e=.returned (.agg #[.string (bs (cutBk b).hd.parent),.int .u64 ((cutBk b).hd.height:Int),.string (bs (cutBk b).hd.root),.string (bs (cutBk b).hd.txs),.string (bs (cutBk b).hd.prop),.string (bs (cutBk b).hd.van),.slice Av' (cutBk b).hd.vals.length cv',.string (bs (cutBk b).hd.vote),.bool (cutBk b).hd.add,.int .u64 ((cutBk b).hd.round:Int),.slice As' (cutBk b).hd.seals.length cs',.slice At' (cutBk b).txs.length ct'])∧BkV (fun g=>S g∨w.heap.size≤g) w' (cutBk b) Av' cv' As' cs' At' ct'∧Below w.heap.size w w':=by
 have hvl:=(Rep.slice_len hv.hd.vals).2
 have hsl:=PlV.len hv.hd.seals
 simp only [maxLen,List.length_map] at hvl hsl
 obtain ⟨mv,hmv,hmv0⟩:∃ m:Nat,min (b.hd.vals.length:Int) 20=m∧m=min b.hd.vals.length 20:=⟨min b.hd.vals.length 20,by omega,rfl⟩
 obtain ⟨ms,hms,hms0⟩:∃ m:Nat,min (b.hd.seals.length:Int) 20=m∧m=min b.hd.seals.length 20:=⟨min b.hd.seals.length 20,by omega,rfl⟩
 have hv1:(mv:Int)≤b.hd.vals.length:=by omega
 have hv2:(mv:Int)≤cv:=by omega
 have hv3:(mv:Int)≤20:=by omega
 have hs1:(ms:Int)≤b.hd.seals.length:=by omega
 have hs2:(ms:Int)≤cs:=by omega
 have hvl63:(b.hd.vals.length:Int)≤9223372036854775807:=by omega
 have hsl63:(b.hd.seals.length:Int)≤9223372036854775807:=by omega
 have hvq:b.hd.vals.take 20=b.hd.vals.take mv:=by rw [hmv0,List.take_eq_take_min,Nat.min_comm]
 have hsq:b.hd.seals.take 20=b.hd.seals.take ms:=by rw [hms0,List.take_eq_take_min,Nat.min_comm]
 have hql:(b.hd.vals.take mv).length=mv:=by rw [List.length_take];omega
 have hsl':(b.hd.seals.take ms).length=ms:=by rw [List.length_take];omega
 have HC:Hid (cutBk b=⟨⟨b.hd.parent.take 50,b.hd.height,b.hd.root.take 50,b.hd.txs.take 50,b.hd.prop.take 50,b.hd.van.take 50,(b.hd.vals.take mv).map (·.take 50),b.hd.vote.take 50,b.hd.add,b.hd.round,b.hd.seals.take ms⟩,(b.txs.take 8).map cutTr⟩):=qh (by unfold cutBk cutHd;rw [hvq,hsq])
 have HF:=qh hh
 have HT:=qh ht
 have HV:=qh hv
 have HQP:Hid (∀ a∈b.hd.vals.take mv,a.length≤9223372036854775807):=qh fun a ha=>hh.vals a (List.mem_of_mem_take ha)
 have HQV:Hid (StrV Any w (b.hd.vals.take mv) Av cv):=qh (strV_of (by have:=(StrV.lies (StrV.any hv.hd.vals)).take mv;unfold strL at this ⊢;rwa [List.map_take]) (by omega) (by have:=(Rep.slice_len hv.hd.vals).2;omega))
 have HSV:Hid (SgsV S w (b.hd.seals.take ms) As cs):=qh (by have:=PlV.take hv.hd.seals (fun x hx=>by obtain ⟨y,_,rfl⟩:=List.mem_map.1 hx;exact sgL_ok y) ms;unfold SgsV;rwa [List.map_take])
 have HQL:=qh hql
 have HSL:=qh hsl'
 clear hvq hsq hql hsl' hmv0 hms0 hh ht hv hvl hsl
 generalize b.hd.vals.take mv=qs at *
 obtain rfl:=HQL.out
 have HLN:Hid ((strL qs).length=qs.length * 1):=qh (by rw [strL_len];omega)
 have hA0:=heap_alloc_new w (.cells (bkR b Av cv As cs At ct) 29)
 have hA1:=heap_alloc_new (w.alloc (.cells (bkR b Av cv As cs At ct) 29)) (.cells zqB 29)
 rw [show (w.alloc (.cells (bkR b Av cv As cs At ct) 29)).heap.size=w.heap.size+1 by simp] at hA1
 have hA2:=heap_alloc_new ((w.alloc (.cells (bkR b Av cv As cs At ct) 29)).alloc (.cells zqB 29)) (.cells zqH 26)
 rw [show ((w.alloc (.cells (bkR b Av cv As cs At ct) 29)).alloc (.cells zqB 29)).heap.size=w.heap.size+1+1 by simp] at hA2
 have hA01:=(heap_alloc_old (w.alloc (.cells (bkR b Av cv As cs At ct) 29)) (.cells zqB 29) (by simp)).trans hA0
 have hA02:=(heap_alloc_old ((w.alloc (.cells (bkR b Av cv As cs At ct) 29)).alloc (.cells zqB 29)) (.cells zqH 26) (by simp;omega)).trans hA01
 have hA12:=(heap_alloc_old ((w.alloc (.cells (bkR b Av cv As cs At ct) 29)).alloc (.cells zqB 29)) (.cells zqH 26) (by simp)).trans hA1
 have hX0:=(heap_setRow_ne (((w.alloc (.cells (bkR b Av cv As cs At ct) 29)).alloc (.cells zqB 29)).alloc (.cells zqH 26)) (show w.heap.size≠w.heap.size+1+1 by omega) (hdR b.hd Av cv As cs)).trans hA02
 have hX1:=(heap_setRow_ne (((w.alloc (.cells (bkR b Av cv As cs At ct) 29)).alloc (.cells zqB 29)).alloc (.cells zqH 26)) (show w.heap.size+1≠w.heap.size+1+1 by omega) (hdR b.hd Av cv As cs)).trans hA12
 have hX2:=setRow_heap (((w.alloc (.cells (bkR b Av cv As cs At ct) 29)).alloc (.cells zqB 29)).alloc (.cells zqH 26)) (w.heap.size+1+1) _ (hdR b.hd Av cv As cs) _ _ hA2
 have hB:Below w.heap.size w ((((w.alloc (.cells (bkR b Av cv As cs At ct) 29)).alloc (.cells zqB 29)).alloc (.cells zqH 26)).setRow (w.heap.size+1+1) (hdR b.hd Av cv As cs)):=below_setRow ((((Below.refl _ _).alloc qn _).alloc (by simp) _).alloc (by simp;omega) _) (by omega) _
 have HA2:=qh hA2
 have HK0:Hid (∀ j u,([.string (bs b.hd.parent),.int .u64 (b.hd.height:Int),.string (bs b.hd.root),.string (bs b.hd.txs),.string (bs b.hd.prop),.string (bs b.hd.van),.slice Av b.hd.vals.length cv,.string (bs b.hd.vote),.bool b.hd.add,.int .u64 (b.hd.round:Int),.slice As b.hd.seals.length cs]:List Value)[j]? = some u→((w.alloc (.cells (bkR b Av cv As cs At ct) 29)).alloc (.cells zqB 29)).cell? ⟨w.heap.size,0+j,none⟩=some u):=qh fun j u hj=>by
  rw [Nat.zero_add]
  refine rc hA01 j ?_
  have:=(List.getElem?_eq_some_iff.1 hj).1
  match j,this with
  | 0,_=>exact hj
  | 1,_=>exact hj
  | 2,_=>exact hj
  | 3,_=>exact hj
  | 4,_=>exact hj
  | 5,_=>exact hj
  | 6,_=>exact hj
  | 7,_=>exact hj
  | 8,_=>exact hj
  | 9,_=>exact hj
  | 10,_=>exact hj
 have HX0:=qh hX0
 have HX1:=qh hX1
 have HX2:=qh hX2
 have HB:=qh hB
 clear hA0 hA1 hA2 hA01 hA02 hA12 hX0 hX1 hX2 hB
 go_enter Tryz.func4,Tryz.ntmps4
 go_wp2_with (first | (refine wpl_load_cs rfl rfl rfl [.string (bs b.hd.parent),.int .u64 (b.hd.height:Int),.string (bs b.hd.root),.string (bs b.hd.txs),.string (bs b.hd.prop),.string (bs b.hd.van),.slice Av b.hd.vals.length cv,.string (bs b.hd.vote),.bool b.hd.add,.int .u64 (b.hd.round:Int),.slice As b.hd.seals.length cs] HK0.out Tryz.underlying26 rfl infoHd ?_) | (refine wpList_store_row rfl _ _ _ rfl (w.heap.size+1+1) (hdR b.hd Av cv As cs) rfl rfl _ _ HA2.out infoHd rfl (one11 _ [] _ _ _ _ _ _ _ _ _ _ _ _ _ _) ?_))
 clear HK0 HA2
 generalize (((w.alloc (.cells (bkR b Av cv As cs At ct) 29)).alloc (.cells zqB 29)).alloc (.cells zqH 26)).setRow (w.heap.size+1+1) (hdR b.hd Av cv As cs)=W3 at HX0 HX1 HX2 HB ⊢
 obtain ⟨X0,hX0e⟩:∃ X0,w.heap.size=X0:=⟨_,rfl⟩
 obtain ⟨X1,hX1e⟩:∃ X1,w.heap.size+1=X1:=⟨_,rfl⟩
 obtain ⟨X2,hX2e⟩:∃ X2,w.heap.size+1+1=X2:=⟨_,rfl⟩
 have hX0:=HX0.out
 have hX1:=HX1.out
 have hX2:=HX2.out
 have hB:=HB.out
 rw [hX2e] at hX2 ⊢
 rw [hX1e] at hX1 ⊢
 rw [hX0e] at hX0 ⊢
 have h01:X0 < X1:=by omega
 have h12:X1 < X2:=by omega
 have hw0:w.heap.size≤X0:=by omega
 clear HX0 HX1 HX2 HB hX0e hX1e hX2e
 replace hX0:=(show W3.drew.heap[X0]? = W3.heap[X0]? from rfl).trans hX0
 replace hX1:=(show W3.drew.heap[X1]? = W3.heap[X1]? from rfl).trans hX1
 replace hX2:=(show W3.drew.heap[X2]? = W3.heap[X2]? from rfl).trans hX2
 replace hB:=hB.drew
 refine wp_region_R [(25,fun w'=>w'.heap[X2]? = some (.cells (hdR b.hd Av cv As cs) 26 (0,0)))] (by kernel_rfl) ?_
 generalize W3.drew=WD at hX0 hX1 hX2 hB ⊢
 refine R_p (i:=0) (v:=.func (.func 16) #[] #[]) (Meets.here hX2 Meets.nil) ?_
 refine R_p (i:=1) (v:=.pointer (some ⟨X2,0,none⟩)) (Meets.here hX2 Meets.nil) ?_
 refine R_p (i:=4) (v:=.func (.func 16) #[] #[]) (Meets.here hX2 Meets.nil) ?_
 refine R_p (i:=5) (v:=.pointer (some ⟨X2,2,none⟩)) (Meets.here hX2 Meets.nil) ?_
 refine R_p (i:=8) (v:=.func (.func 16) #[] #[]) (Meets.here hX2 Meets.nil) ?_
 refine R_p (i:=9) (v:=.pointer (some ⟨X2,3,none⟩)) (Meets.here hX2 Meets.nil) ?_
 refine R_p (i:=12) (v:=.func (.func 16) #[] #[]) (Meets.here hX2 Meets.nil) ?_
 refine R_p (i:=13) (v:=.pointer (some ⟨X2,4,none⟩)) (Meets.here hX2 Meets.nil) ?_
 refine R_p (i:=16) (v:=.func (.func 16) #[] #[]) (Meets.here hX2 Meets.nil) ?_
 refine R_p (i:=17) (v:=.pointer (some ⟨X2,5,none⟩)) (Meets.here hX2 Meets.nil) ?_
 refine R_p (i:=20) (v:=.func (.func 16) #[] #[]) (Meets.here hX2 Meets.nil) ?_
 refine R_p (i:=21) (v:=.pointer (some ⟨X2,7,none⟩)) (Meets.here hX2 Meets.nil) ?_
 refine R_l (i:=2) (v:=.string (bs b.hd.parent)) 25 _ List.mem_cons_self rfl (yieldsIf_load_cell rfl rfl rfl (fun w' hS=>rc hS 0 rfl) Tryz.underlying9 rfl) (Meets.here hX2 Meets.nil) ?_
 refine R_l (i:=6) (v:=.string (bs b.hd.root)) 25 _ List.mem_cons_self rfl (yieldsIf_load_cell rfl rfl rfl (fun w' hS=>rc hS 2 rfl) Tryz.underlying9 rfl) (Meets.here hX2 Meets.nil) ?_
 refine R_l (i:=10) (v:=.string (bs b.hd.txs)) 25 _ List.mem_cons_self rfl (yieldsIf_load_cell rfl rfl rfl (fun w' hS=>rc hS 3 rfl) Tryz.underlying9 rfl) (Meets.here hX2 Meets.nil) ?_
 refine R_l (i:=14) (v:=.string (bs b.hd.prop)) 25 _ List.mem_cons_self rfl (yieldsIf_load_cell rfl rfl rfl (fun w' hS=>rc hS 4 rfl) Tryz.underlying9 rfl) (Meets.here hX2 Meets.nil) ?_
 refine R_l (i:=18) (v:=.string (bs b.hd.van)) 25 _ List.mem_cons_self rfl (yieldsIf_load_cell rfl rfl rfl (fun w' hS=>rc hS 5 rfl) Tryz.underlying9 rfl) (Meets.here hX2 Meets.nil) ?_
 refine R_l (i:=22) (v:=.string (bs b.hd.vote)) 25 _ List.mem_cons_self rfl (yieldsIf_load_cell rfl rfl rfl (fun w' hS=>rc hS 7 rfl) Tryz.underlying9 rfl) (Meets.here hX2 Meets.nil) ?_
 refine R_now 3 fun K hK=>?_
 go_simp
 refine (cut50_any b.hd.parent (by have:=HF.out.parent;omega) _).mono ?_
 rintro e w3 ⟨rfl,hb3⟩
 replace hX0:=(hb3.block _ (qg hX0)).trans hX0
 replace hX1:=(hb3.block _ (qg hX1)).trans hX1
 replace hX2:=(hb3.block _ (qg hX2)).trans hX2
 replace hB:=below_call hB hB.size hb3
 clear hb3
 refine hK.out _ _ (Meets.here hX2 Meets.nil) (fun hMeets=>?_)
 clear hK K hMeets
 refine lay_R ?_
 refine R_p (i:=24) (v:=.pointer (some ⟨X2,0,none⟩)) (Meets.here hX2 Meets.nil) ?_
 refine R_now 7 fun K hK=>?_
 go_simp
 refine (cut50_any b.hd.root (by have:=HF.out.root;omega) _).mono ?_
 rintro e w7 ⟨rfl,hb7⟩
 replace hX0:=(hb7.block _ (qg hX0)).trans hX0
 replace hX1:=(hb7.block _ (qg hX1)).trans hX1
 replace hX2:=(hb7.block _ (qg hX2)).trans hX2
 replace hB:=below_call hB hB.size hb7
 clear hb7
 refine hK.out _ _ (Meets.here hX2 Meets.nil) (fun hMeets=>?_)
 clear hK K hMeets
 refine lay_R ?_
 refine R_now 11 fun K hK=>?_
 go_simp
 refine (cut50_any b.hd.txs (by have:=HF.out.txs;omega) _).mono ?_
 rintro e w11 ⟨rfl,hb11⟩
 replace hX0:=(hb11.block _ (qg hX0)).trans hX0
 replace hX1:=(hb11.block _ (qg hX1)).trans hX1
 replace hX2:=(hb11.block _ (qg hX2)).trans hX2
 replace hB:=below_call hB hB.size hb11
 clear hb11
 refine hK.out _ _ (Meets.here hX2 Meets.nil) (fun hMeets=>?_)
 clear hK K hMeets
 refine lay_R ?_
 refine R_now 15 fun K hK=>?_
 go_simp
 refine (cut50_any b.hd.prop (by have:=HF.out.prop;omega) _).mono ?_
 rintro e w15 ⟨rfl,hb15⟩
 replace hX0:=(hb15.block _ (qg hX0)).trans hX0
 replace hX1:=(hb15.block _ (qg hX1)).trans hX1
 replace hX2:=(hb15.block _ (qg hX2)).trans hX2
 replace hB:=below_call hB hB.size hb15
 clear hb15
 refine hK.out _ _ (Meets.here hX2 Meets.nil) (fun hMeets=>?_)
 clear hK K hMeets
 refine lay_R ?_
 refine R_now 19 fun K hK=>?_
 go_simp
 refine (cut50_any b.hd.van (by have:=HF.out.van;omega) _).mono ?_
 rintro e w19 ⟨rfl,hb19⟩
 replace hX0:=(hb19.block _ (qg hX0)).trans hX0
 replace hX1:=(hb19.block _ (qg hX1)).trans hX1
 replace hX2:=(hb19.block _ (qg hX2)).trans hX2
 replace hB:=below_call hB hB.size hb19
 clear hb19
 refine hK.out _ _ (Meets.here hX2 Meets.nil) (fun hMeets=>?_)
 clear hK K hMeets
 refine lay_R ?_
 refine R_now 23 fun K hK=>?_
 go_simp
 refine (cut50_any b.hd.vote (by have:=HF.out.vote;omega) _).mono ?_
 rintro e w23 ⟨rfl,hb23⟩
 replace hX0:=(hb23.block _ (qg hX0)).trans hX0
 replace hX1:=(hb23.block _ (qg hX1)).trans hX1
 replace hX2:=(hb23.block _ (qg hX2)).trans hX2
 replace hB:=below_call hB hB.size hb23
 clear hb23
 refine hK.out _ _ (Meets.here hX2 Meets.nil) (fun hMeets=>?_)
 clear hK K hMeets
 refine lay_R ?_
 refine R_now 25 fun K hK=>?_
 have d:=rc (u:=.string (bs b.hd.parent)) hX2 0 rfl
 have df:=rf hX2 0
 have hlX:=(qg hX2)
 go_simp
 have hrn:(w23.setCell ⟨X2,0,none⟩ (.string (bs (b.hd.parent.take 50)))).heap[X2]? = some (.cells #[.string (bs (b.hd.parent.take 50)),.int .u64 (b.hd.height:Int),.string (bs b.hd.root),.string (bs b.hd.txs),.string (bs b.hd.prop),.string (bs b.hd.van),.slice Av b.hd.vals.length cv,.string (bs b.hd.vote),.bool b.hd.add,.int .u64 (b.hd.round:Int),.slice As b.hd.seals.length cs] 26 (0,0)):=heap_setCell_here hX2 (i:=0) _
 replace hX0:=(heap_set_ne (w:=w23) (b:=X2) (i:=0) (show X0≠X2 by omega) (.string (bs (b.hd.parent.take 50)))).trans hX0
 replace hX1:=(heap_set_ne (w:=w23) (b:=X2) (i:=0) (show X1≠X2 by omega) (.string (bs (b.hd.parent.take 50)))).trans hX1
 replace hB:=hB.setCell (p:=⟨X2,0,none⟩) (show w.heap.size≤X2 by omega) (.string (bs (b.hd.parent.take 50)))
 generalize w23.setCell ⟨X2,0,none⟩ (.string (bs (b.hd.parent.take 50)))=w25 at hrn hX0 hX1 hB ⊢
 clear hX2 d df hlX
 have hX2:=hrn
 clear hrn
 refine hK.out _ _ (Meets.past (by kernel_rfl) Meets.nil) (fun hMeets=>?_)
 clear hK K hMeets
 refine lay_R ?_
 refine R_p (i:=26) (v:=.pointer (some ⟨X2,2,none⟩)) (Meets.past (by kernel_rfl) Meets.nil) ?_
 refine R_now 27 fun K hK=>?_
 have d:=rc (u:=.string (bs b.hd.root)) hX2 2 rfl
 have df:=rf hX2 2
 have hlX:=(qg hX2)
 go_simp
 have hrn:(w25.setCell ⟨X2,2,none⟩ (.string (bs (b.hd.root.take 50)))).heap[X2]? = some (.cells #[.string (bs (b.hd.parent.take 50)),.int .u64 (b.hd.height:Int),.string (bs (b.hd.root.take 50)),.string (bs b.hd.txs),.string (bs b.hd.prop),.string (bs b.hd.van),.slice Av b.hd.vals.length cv,.string (bs b.hd.vote),.bool b.hd.add,.int .u64 (b.hd.round:Int),.slice As b.hd.seals.length cs] 26 (0,0)):=heap_setCell_here hX2 (i:=2) _
 replace hX0:=(heap_set_ne (w:=w25) (b:=X2) (i:=2) (show X0≠X2 by omega) (.string (bs (b.hd.root.take 50)))).trans hX0
 replace hX1:=(heap_set_ne (w:=w25) (b:=X2) (i:=2) (show X1≠X2 by omega) (.string (bs (b.hd.root.take 50)))).trans hX1
 replace hB:=hB.setCell (p:=⟨X2,2,none⟩) (show w.heap.size≤X2 by omega) (.string (bs (b.hd.root.take 50)))
 generalize w25.setCell ⟨X2,2,none⟩ (.string (bs (b.hd.root.take 50)))=w27 at hrn hX0 hX1 hB ⊢
 clear hX2 d df hlX
 have hX2:=hrn
 clear hrn
 refine hK.out _ _ (Meets.past (by kernel_rfl) Meets.nil) (fun hMeets=>?_)
 clear hK K hMeets
 refine lay_R ?_
 refine R_p (i:=28) (v:=.pointer (some ⟨X2,3,none⟩)) (Meets.past (by kernel_rfl) Meets.nil) ?_
 refine R_now 29 fun K hK=>?_
 have d:=rc (u:=.string (bs b.hd.txs)) hX2 3 rfl
 have df:=rf hX2 3
 have hlX:=(qg hX2)
 go_simp
 have hrn:(w27.setCell ⟨X2,3,none⟩ (.string (bs (b.hd.txs.take 50)))).heap[X2]? = some (.cells #[.string (bs (b.hd.parent.take 50)),.int .u64 (b.hd.height:Int),.string (bs (b.hd.root.take 50)),.string (bs (b.hd.txs.take 50)),.string (bs b.hd.prop),.string (bs b.hd.van),.slice Av b.hd.vals.length cv,.string (bs b.hd.vote),.bool b.hd.add,.int .u64 (b.hd.round:Int),.slice As b.hd.seals.length cs] 26 (0,0)):=heap_setCell_here hX2 (i:=3) _
 replace hX0:=(heap_set_ne (w:=w27) (b:=X2) (i:=3) (show X0≠X2 by omega) (.string (bs (b.hd.txs.take 50)))).trans hX0
 replace hX1:=(heap_set_ne (w:=w27) (b:=X2) (i:=3) (show X1≠X2 by omega) (.string (bs (b.hd.txs.take 50)))).trans hX1
 replace hB:=hB.setCell (p:=⟨X2,3,none⟩) (show w.heap.size≤X2 by omega) (.string (bs (b.hd.txs.take 50)))
 generalize w27.setCell ⟨X2,3,none⟩ (.string (bs (b.hd.txs.take 50)))=w29 at hrn hX0 hX1 hB ⊢
 clear hX2 d df hlX
 have hX2:=hrn
 clear hrn
 refine hK.out _ _ (Meets.past (by kernel_rfl) Meets.nil) (fun hMeets=>?_)
 clear hK K hMeets
 refine lay_R ?_
 refine R_p (i:=30) (v:=.pointer (some ⟨X2,4,none⟩)) (Meets.past (by kernel_rfl) Meets.nil) ?_
 refine R_now 31 fun K hK=>?_
 have d:=rc (u:=.string (bs b.hd.prop)) hX2 4 rfl
 have df:=rf hX2 4
 have hlX:=(qg hX2)
 go_simp
 have hrn:(w29.setCell ⟨X2,4,none⟩ (.string (bs (b.hd.prop.take 50)))).heap[X2]? = some (.cells #[.string (bs (b.hd.parent.take 50)),.int .u64 (b.hd.height:Int),.string (bs (b.hd.root.take 50)),.string (bs (b.hd.txs.take 50)),.string (bs (b.hd.prop.take 50)),.string (bs b.hd.van),.slice Av b.hd.vals.length cv,.string (bs b.hd.vote),.bool b.hd.add,.int .u64 (b.hd.round:Int),.slice As b.hd.seals.length cs] 26 (0,0)):=heap_setCell_here hX2 (i:=4) _
 replace hX0:=(heap_set_ne (w:=w29) (b:=X2) (i:=4) (show X0≠X2 by omega) (.string (bs (b.hd.prop.take 50)))).trans hX0
 replace hX1:=(heap_set_ne (w:=w29) (b:=X2) (i:=4) (show X1≠X2 by omega) (.string (bs (b.hd.prop.take 50)))).trans hX1
 replace hB:=hB.setCell (p:=⟨X2,4,none⟩) (show w.heap.size≤X2 by omega) (.string (bs (b.hd.prop.take 50)))
 generalize w29.setCell ⟨X2,4,none⟩ (.string (bs (b.hd.prop.take 50)))=w31 at hrn hX0 hX1 hB ⊢
 clear hX2 d df hlX
 have hX2:=hrn
 clear hrn
 refine hK.out _ _ (Meets.past (by kernel_rfl) Meets.nil) (fun hMeets=>?_)
 clear hK K hMeets
 refine lay_R ?_
 refine R_p (i:=32) (v:=.pointer (some ⟨X2,5,none⟩)) (Meets.past (by kernel_rfl) Meets.nil) ?_
 refine R_now 33 fun K hK=>?_
 have d:=rc (u:=.string (bs b.hd.van)) hX2 5 rfl
 have df:=rf hX2 5
 have hlX:=(qg hX2)
 go_simp
 have hrn:(w31.setCell ⟨X2,5,none⟩ (.string (bs (b.hd.van.take 50)))).heap[X2]? = some (.cells #[.string (bs (b.hd.parent.take 50)),.int .u64 (b.hd.height:Int),.string (bs (b.hd.root.take 50)),.string (bs (b.hd.txs.take 50)),.string (bs (b.hd.prop.take 50)),.string (bs (b.hd.van.take 50)),.slice Av b.hd.vals.length cv,.string (bs b.hd.vote),.bool b.hd.add,.int .u64 (b.hd.round:Int),.slice As b.hd.seals.length cs] 26 (0,0)):=heap_setCell_here hX2 (i:=5) _
 replace hX0:=(heap_set_ne (w:=w31) (b:=X2) (i:=5) (show X0≠X2 by omega) (.string (bs (b.hd.van.take 50)))).trans hX0
 replace hX1:=(heap_set_ne (w:=w31) (b:=X2) (i:=5) (show X1≠X2 by omega) (.string (bs (b.hd.van.take 50)))).trans hX1
 replace hB:=hB.setCell (p:=⟨X2,5,none⟩) (show w.heap.size≤X2 by omega) (.string (bs (b.hd.van.take 50)))
 generalize w31.setCell ⟨X2,5,none⟩ (.string (bs (b.hd.van.take 50)))=w33 at hrn hX0 hX1 hB ⊢
 clear hX2 d df hlX
 have hX2:=hrn
 clear hrn
 refine hK.out _ _ (Meets.past (by kernel_rfl) Meets.nil) (fun hMeets=>?_)
 clear hK K hMeets
 refine lay_R ?_
 refine R_p (i:=34) (v:=.pointer (some ⟨X2,7,none⟩)) (Meets.past (by kernel_rfl) Meets.nil) ?_
 refine R_now 35 fun K hK=>?_
 have d:=rc (u:=.string (bs b.hd.vote)) hX2 7 rfl
 have df:=rf hX2 7
 have hlX:=(qg hX2)
 go_simp
 have hrn:(w33.setCell ⟨X2,7,none⟩ (.string (bs (b.hd.vote.take 50)))).heap[X2]? = some (.cells #[.string (bs (b.hd.parent.take 50)),.int .u64 (b.hd.height:Int),.string (bs (b.hd.root.take 50)),.string (bs (b.hd.txs.take 50)),.string (bs (b.hd.prop.take 50)),.string (bs (b.hd.van.take 50)),.slice Av b.hd.vals.length cv,.string (bs (b.hd.vote.take 50)),.bool b.hd.add,.int .u64 (b.hd.round:Int),.slice As b.hd.seals.length cs] 26 (0,0)):=heap_setCell_here hX2 (i:=7) _
 replace hX0:=(heap_set_ne (w:=w33) (b:=X2) (i:=7) (show X0≠X2 by omega) (.string (bs (b.hd.vote.take 50)))).trans hX0
 replace hX1:=(heap_set_ne (w:=w33) (b:=X2) (i:=7) (show X1≠X2 by omega) (.string (bs (b.hd.vote.take 50)))).trans hX1
 replace hB:=hB.setCell (p:=⟨X2,7,none⟩) (show w.heap.size≤X2 by omega) (.string (bs (b.hd.vote.take 50)))
 generalize w33.setCell ⟨X2,7,none⟩ (.string (bs (b.hd.vote.take 50)))=w35 at hrn hX0 hX1 hB ⊢
 clear hX2 d df hlX
 have hX2:=hrn
 clear hrn
 refine hK.out _ _ (Meets.past (by kernel_rfl) Meets.nil) (fun hMeets=>?_)
 clear hK K hMeets
 refine lay_R ?_
 refine R_done (by kernel_rfl) ?_ _
 go_wp2_with fail
 have hX2l:=(qg hX2)
 obtain ⟨B4,hB4⟩:∃ B4,w35.heap.size=B4:=⟨_,rfl⟩
 have hX2B:X2 < B4:=by omega
 have hB4w:w.heap.size≤B4:=by omega
 replace hX0:=(show w35.drew.heap[X0]? = w35.heap[X0]? from rfl).trans hX0
 replace hX1:=(show w35.drew.heap[X1]? = w35.heap[X1]? from rfl).trans hX1
 replace hX2:=(show w35.drew.heap[X2]? = w35.heap[X2]? from rfl).trans hX2
 replace hB:=hB.drew
 have hle:B4≤w35.drew.heap.size:=Nat.le_of_eq hB4.symm
 have hlies:=StrV.keep HQV.out hB
 refine wp_region_R [(17,fun w'=>w'.heap[X2]? = some (.cells #[.string (bs (b.hd.parent.take 50)),.int .u64 (b.hd.height:Int),.string (bs (b.hd.root.take 50)),.string (bs (b.hd.txs.take 50)),.string (bs (b.hd.prop.take 50)),.string (bs (b.hd.van.take 50)),.slice Av b.hd.vals.length cv,.string (bs (b.hd.vote.take 50)),.bool b.hd.add,.int .u64 (b.hd.round:Int),.slice As b.hd.seals.length cs] 26 (0,0)))] (by kernel_rfl) ?_
 generalize w35.drew=WD at hX0 hX1 hX2 hB hle hlies ⊢
 refine R_p (i:=1) (v:=.pointer (some ⟨X2,6,none⟩)) (Meets.here hX2 Meets.nil) ?_
 refine R_p (i:=3) (v:=.pointer (some ⟨X2,6,none⟩)) (Meets.here hX2 Meets.nil) ?_
 refine R_p (i:=9) (v:=.pointer (some ⟨X2,10,none⟩)) (Meets.here hX2 Meets.nil) ?_
 refine R_p (i:=11) (v:=.pointer (some ⟨X2,10,none⟩)) (Meets.here hX2 Meets.nil) ?_
 refine R_l (i:=2) (v:=.slice Av b.hd.vals.length cv) 17 _ List.mem_cons_self rfl (yieldsIf_load_cell rfl rfl rfl (fun w' hS=>rc hS 6 rfl) Tryz.underlying23 rfl) (Meets.here hX2 Meets.nil) ?_
 refine R_l (i:=4) (v:=.slice Av b.hd.vals.length cv) 17 _ List.mem_cons_self rfl (yieldsIf_load_cell rfl rfl rfl (fun w' hS=>rc hS 6 rfl) Tryz.underlying23 rfl) (Meets.here hX2 Meets.nil) ?_
 refine R_l (i:=10) (v:=.slice As b.hd.seals.length cs) 17 _ List.mem_cons_self rfl (yieldsIf_load_cell rfl rfl rfl (fun w' hS=>rc hS 10 rfl) Tryz.underlying24 rfl) (Meets.here hX2 Meets.nil) ?_
 refine R_l (i:=12) (v:=.slice As b.hd.seals.length cs) 17 _ List.mem_cons_self rfl (yieldsIf_load_cell rfl rfl rfl (fun w' hS=>rc hS 10 rfl) Tryz.underlying24 rfl) (Meets.here hX2 Meets.nil) ?_
 refine R_p (i:=5) (v:=.int .i64 (b.hd.vals.length:Int)) (Meets.here hX2 Meets.nil) ?_
 refine R_p (i:=13) (v:=.int .i64 (b.hd.seals.length:Int)) (Meets.here hX2 Meets.nil) ?_
 refine R_p (i:=6) (v:=.int .i64 (qs.length:Int)) (Meets.here hX2 Meets.nil) ?_
 refine R_p (i:=14) (v:=.int .i64 (ms:Int)) (Meets.here hX2 Meets.nil) ?_
 refine R_p (i:=7) (v:=.slice Av qs.length cv) (Meets.here hX2 Meets.nil) ?_
 refine R_p (i:=15) (v:=.slice As ms cs) (Meets.here hX2 Meets.nil) ?_
 refine R_now 0 fun K hK=>?_
 have hbb:Below WD.heap.size WD (WD.alloc (.cells #[] 9)):=(Below.refl _ _).alloc qn _
 have hown:=World.ownsRow_lit (base:=B4) (e:=9) (size:=1) WD #[] 0 hle (by simp [maxLen]) rfl
 have hn0:∀ k,(Value.slice (some ⟨WD.heap.size,0,none⟩) 0 0).ownBlock=some k→B4≤k:=fun k e=>(hown.lt k e).1
 replace hX0:=(hbb.block _ (qg hX0)).trans hX0
 replace hX1:=(hbb.block _ (qg hX1)).trans hX1
 replace hX2:=(hbb.block _ (qg hX2)).trans hX2
 replace hB:=below_call hB hB.size hbb
 replace hle:=Nat.le_trans hle hbb.size
 replace hlies:=StrV.keep hlies hbb
 go_simp
 obtain ⟨N0,hN0⟩:∃ N0,WD.heap.size=N0:=⟨_,rfl⟩
 rw [hN0] at hown hn0 ⊢
 generalize WD.alloc (.cells #[] 9)=w0 at hown hX0 hX1 hX2 hB hle hlies ⊢
 clear hbb hN0
 refine hK.out _ _ (Meets.here hX2 Meets.nil) (fun hMeets=>?_)
 clear hK K hMeets
 refine lay_R ?_
 refine R_now 8 fun K hK=>?_
 refine stl_append elStr rfl rfl B4 hown rfl (m:=qs.length) (strL qs) rfl HLN.out (StrV.lies hlies) ?_ ?_ ?_ hle ?_
 ·exact one_strL _
 ·simp only [maxLen];omega
 ·omega
 intro v1 w8 hown1 hg1 hat1
 rw [Nat.zero_add] at hown1
 obtain ⟨A8,c8,rfl⟩:=own_form hown1
 have hbp:=below_app (Below.refl B4 _) hown hg1 hle qn
 replace hX0:=(hg1.block X0 (qg hX0) (fun e=>by have:=hn0 _ e.symm;omega)).trans hX0
 replace hX1:=(hg1.block X1 (qg hX1) (fun e=>by have:=hn0 _ e.symm;omega)).trans hX1
 replace hX2:=(hg1.block X2 (qg hX2) (fun e=>by have:=hn0 _ e.symm;omega)).trans hX2
 replace hB:=hB.trans (hbp.mono hB4w)
 replace hle:=Nat.le_trans hle hbp.size
 clear hown hlies
 have hown:=hown1
 clear hown1 hg1 hat1 hbp hn0
 refine hK.out _ _ (Meets.here hX2 Meets.nil) (fun hMeets=>?_)
 clear hK K hMeets
 refine lay_R ?_
 refine R_p (i:=16) (v:=.pointer (some ⟨X2,6,none⟩)) (Meets.here hX2 Meets.nil) ?_
 refine R_now 17 fun K hK=>?_
 have d:=rc (u:=.slice Av b.hd.vals.length cv) hX2 6 rfl
 have df:=rf hX2 6
 have hlX:=(qg hX2)
 go_simp
 have hrn:(w8.setCell ⟨X2,6,none⟩ (.slice A8 qs.length c8)).heap[X2]? = some (.cells #[.string (bs (b.hd.parent.take 50)),.int .u64 (b.hd.height:Int),.string (bs (b.hd.root.take 50)),.string (bs (b.hd.txs.take 50)),.string (bs (b.hd.prop.take 50)),.string (bs (b.hd.van.take 50)),.slice A8 qs.length c8,.string (bs (b.hd.vote.take 50)),.bool b.hd.add,.int .u64 (b.hd.round:Int),.slice As b.hd.seals.length cs] 26 (0,0)):=heap_setCell_here hX2 (i:=6) _
 replace hX0:=(heap_set_ne (w:=w8) (b:=X2) (i:=6) (show X0≠X2 by omega) (.slice A8 qs.length c8)).trans hX0
 replace hX1:=(heap_set_ne (w:=w8) (b:=X2) (i:=6) (show X1≠X2 by omega) (.slice A8 qs.length c8)).trans hX1
 replace hB:=hB.setCell (p:=⟨X2,6,none⟩) (show w.heap.size≤X2 by omega) (.slice A8 qs.length c8)
 replace hown:=own_setOther hown (show X2 < B4 by omega) (i:=6) (.slice A8 qs.length c8)
 generalize w8.setCell ⟨X2,6,none⟩ (.slice A8 qs.length c8)=w17 at hrn hX0 hX1 hB hown ⊢
 clear hX2 d df hlX
 have hX2:=hrn
 clear hrn
 refine hK.out _ _ (Meets.past (by kernel_rfl) Meets.nil) (fun hMeets=>?_)
 clear hK K hMeets
 refine lay_R ?_
 refine R_p (i:=18) (v:=.pointer (some ⟨X2,10,none⟩)) (Meets.past (by kernel_rfl) Meets.nil) ?_
 refine R_now 19 fun K hK=>?_
 have d:=rc (u:=.slice As b.hd.seals.length cs) hX2 10 rfl
 have df:=rf hX2 10
 have hlX:=(qg hX2)
 go_simp
 have hrn:(w17.setCell ⟨X2,10,none⟩ (.slice As ms cs)).heap[X2]? = some (.cells #[.string (bs (b.hd.parent.take 50)),.int .u64 (b.hd.height:Int),.string (bs (b.hd.root.take 50)),.string (bs (b.hd.txs.take 50)),.string (bs (b.hd.prop.take 50)),.string (bs (b.hd.van.take 50)),.slice A8 qs.length c8,.string (bs (b.hd.vote.take 50)),.bool b.hd.add,.int .u64 (b.hd.round:Int),.slice As ms cs] 26 (0,0)):=heap_setCell_here hX2 (i:=10) _
 replace hX0:=(heap_set_ne (w:=w17) (b:=X2) (i:=10) (show X0≠X2 by omega) (.slice As ms cs)).trans hX0
 replace hX1:=(heap_set_ne (w:=w17) (b:=X2) (i:=10) (show X1≠X2 by omega) (.slice As ms cs)).trans hX1
 replace hB:=hB.setCell (p:=⟨X2,10,none⟩) (show w.heap.size≤X2 by omega) (.slice As ms cs)
 replace hown:=own_setOther hown (show X2 < B4 by omega) (i:=10) (.slice As ms cs)
 generalize w17.setCell ⟨X2,10,none⟩ (.slice As ms cs)=w19 at hrn hX0 hX1 hB hown ⊢
 clear hX2 d df hlX
 have hX2:=hrn
 clear hrn
 refine hK.out _ _ (Meets.past (by kernel_rfl) Meets.nil) (fun hMeets=>?_)
 clear hK K hMeets
 refine lay_R ?_
 refine R_done (by kernel_rfl) ?_ _
 replace hown:w19.ownsRow B4 9 1 (.slice A8 qs.length c8) qs.length (strL qs):=by simpa using hown
 have x6:=rc (u:=.slice A8 qs.length c8) hX2 6 rfl
 clear hX2l hB4 hle
 go_wp2_with fail
 go_loopw [60] (fun i wr=>∃ j:Nat,j≤qs.length∧i=.int .i64 j∧wr.ownsRow B4 9 1 (.slice A8 qs.length c8) qs.length (strL (cutsS j qs))∧wr.heap[X0]? = some (.cells (bkR b Av cv As cs At ct) 29 (0,0))∧wr.heap[X1]? = some (.cells zqB 29 (0,0))∧wr.heap[X2]? = some (.cells #[.string (bs (b.hd.parent.take 50)),.int .u64 (b.hd.height:Int),.string (bs (b.hd.root.take 50)),.string (bs (b.hd.txs.take 50)),.string (bs (b.hd.prop.take 50)),.string (bs (b.hd.van.take 50)),.slice A8 qs.length c8,.string (bs (b.hd.vote.take 50)),.bool b.hd.add,.int .u64 (b.hd.round:Int),.slice As ms cs] 26 (0,0))∧Below w.heap.size w wr) (fun i _=>qs.length - (intOf i).toNat)
 case atStart=>exact ⟨0,Nat.zero_le _,rfl,hown,hX0,hX1,hX2,hB⟩
 case round =>
  clear hown hX0 hX1 hX2 hB x6
  obtain ⟨j,hj,rfl,hown,hX0,hX1,hX2,hB⟩:=hrel
  by_cases hlt:j < qs.length
  ·obtain ⟨g,rfl,hg0,hg1⟩:=own_ptr hown (by omega)
   obtain ⟨a,ha⟩:=getElem_ex hlt
   have q0:=own_cell hown (strL_get (cutsS_get ha))
   have hal:=HQP.out a (List.mem_of_getElem? ha)
   have hlt':(j:Int) < qs.length:=by omega
   have HA:=qh ha
   clear ha
   go_wp2_with fail
   clear q0
   replace hX0:=(show wr.drew.heap[X0]? = wr.heap[X0]? from rfl).trans hX0
   replace hX1:=(show wr.drew.heap[X1]? = wr.heap[X1]? from rfl).trans hX1
   replace hX2:=(show wr.drew.heap[X2]? = wr.heap[X2]? from rfl).trans hX2
   replace hB:=hB.drew
   replace hown:=own_keep hown (Below.refl wr.heap.size wr).drew
   refine wp_region_R [(7,fun w'=>w'.heap[X2]? = some (.cells #[.string (bs (b.hd.parent.take 50)),.int .u64 (b.hd.height:Int),.string (bs (b.hd.root.take 50)),.string (bs (b.hd.txs.take 50)),.string (bs (b.hd.prop.take 50)),.string (bs (b.hd.van.take 50)),.slice (some ⟨g,0,none⟩) qs.length c8,.string (bs (b.hd.vote.take 50)),.bool b.hd.add,.int .u64 (b.hd.round:Int),.slice As ms cs] 26 (0,0)))] (by kernel_rfl) ?_
   generalize wr.drew=WD at hX0 hX1 hX2 hB hown ⊢
   refine R_p (i:=0) (v:=.pointer (some ⟨X2,6,none⟩)) (Meets.here hX2 Meets.nil) ?_
   refine R_p (i:=2) (v:=.int .i64 (j:Int)) (Meets.here hX2 Meets.nil) ?_
   refine R_p (i:=3) (v:=.func (.func 16) #[] #[]) (Meets.here hX2 Meets.nil) ?_
   refine R_p (i:=4) (v:=.string (bs a)) (Meets.here hX2 Meets.nil) ?_
   refine R_l (i:=1) (v:=.slice (some ⟨g,0,none⟩) qs.length c8) 7 _ List.mem_cons_self rfl (yieldsIf_load_cell rfl rfl rfl (fun w' hS=>rc hS 6 rfl) Tryz.underlying23 rfl) (Meets.here hX2 Meets.nil) ?_
   refine R_now 5 fun K hK=>?_
   go_simp
   refine (cut50_any a (by omega) _).mono ?_
   rintro e w5 ⟨rfl,hb5⟩
   replace hX0:=(hb5.block _ (qg hX0)).trans hX0
   replace hX1:=(hb5.block _ (qg hX1)).trans hX1
   replace hX2:=(hb5.block _ (qg hX2)).trans hX2
   replace hB:=below_call hB hB.size hb5
   replace hown:=own_keep hown hb5
   clear hb5
   refine hK.out _ _ (Meets.here hX2 Meets.nil) (fun hMeets=>?_)
   clear hK K hMeets
   refine lay_R ?_
   refine R_p (i:=6) (v:=.pointer (some ⟨g,j,none⟩)) (Meets.here hX2 Meets.nil) ?_
   refine R_now 7 fun K hK=>?_
   have d:=own_cell hown (j:=j) (strL_get (cutsS_get HA.out))
   have df:=own_free hown j
   have hgl:=lt_of_cell d
   go_simp
   replace hown:=own_set hown j (.string (bs (a.take 50)))
   rw [cutsS_set HA.out] at hown
   replace hX0:=(heap_set_ne (w:=w5) (b:=g) (i:=j) (show X0≠g by omega) (.string (bs (a.take 50)))).trans hX0
   replace hX1:=(heap_set_ne (w:=w5) (b:=g) (i:=j) (show X1≠g by omega) (.string (bs (a.take 50)))).trans hX1
   replace hX2:=(heap_set_ne (w:=w5) (b:=g) (i:=j) (show X2≠g by omega) (.string (bs (a.take 50)))).trans hX2
   replace hB:=hB.setCell (p:=⟨g,j,none⟩) (show w.heap.size≤g by omega) (.string (bs (a.take 50)))
   generalize w5.setCell ⟨g,j,none⟩ (.string (bs (a.take 50)))=w7 at hown hX0 hX1 hX2 hB ⊢
   clear d df hgl
   refine hK.out _ _ (Meets.past (by kernel_rfl) Meets.nil) (fun hMeets=>?_)
   clear hK K hMeets
   refine lay_R ?_
   refine R_done (by kernel_rfl) ?_ _
   go_wp2_with fail
   go_roundw
   case rel=>exact ⟨j+1,hlt,by go_num,hown,hX0,hX1,hX2,hB⟩
   case measure=>simp [intOf];omega
  ·obtain rfl:j=qs.length:=by omega
   rw [cutsS_all] at hown
   have hvv:StrV (fun b=>X1 < b) wr (qs.map (·.take 50)) A8 c8:=by
    have:=rep_own (S:=fun b=>X1 < b) (es:=strsD (qs.map (·.take 50))) hown (repN_strL _) (by simp [strsD]) (fun b h1 _=>by show X1 < b;omega)
    unfold StrV
    rw [List.length_map]
    exact this
   clear hown
   go_wp2_with fail
   replace hX0:=(show wr.drew.heap[X0]? = wr.heap[X0]? from rfl).trans hX0
   replace hX1:=(show wr.drew.heap[X1]? = wr.heap[X1]? from rfl).trans hX1
   replace hX2:=(show wr.drew.heap[X2]? = wr.heap[X2]? from rfl).trans hX2
   replace hB:=hB.drew
   replace hvv:=StrV.keep hvv (Below.refl wr.heap.size wr).drew
   refine wp_region_R [(5,fun w'=>w'.heap[X2]? = some (.cells #[.string (bs (b.hd.parent.take 50)),.int .u64 (b.hd.height:Int),.string (bs (b.hd.root.take 50)),.string (bs (b.hd.txs.take 50)),.string (bs (b.hd.prop.take 50)),.string (bs (b.hd.van.take 50)),.slice A8 qs.length c8,.string (bs (b.hd.vote.take 50)),.bool b.hd.add,.int .u64 (b.hd.round:Int),.slice As ms cs] 26 (0,0))∧w'.heap[X0]? = some (.cells (bkR b Av cv As cs At ct) 29 (0,0)))] (by kernel_rfl) ?_
   generalize wr.drew=WD at hX0 hX1 hX2 hB hvv ⊢
   have hX1l:X1 < WD.heap.size:=(qg hX1)
   refine R_l (i:=0) (v:=.agg #[.string (bs (b.hd.parent.take 50)),.int .u64 (b.hd.height:Int),.string (bs (b.hd.root.take 50)),.string (bs (b.hd.txs.take 50)),.string (bs (b.hd.prop.take 50)),.string (bs (b.hd.van.take 50)),.slice A8 qs.length c8,.string (bs (b.hd.vote.take 50)),.bool b.hd.add,.int .u64 (b.hd.round:Int),.slice As ms cs]) 5 _ List.mem_cons_self rfl (yieldsIf_load_row rfl rfl rfl (fun w' hS=>hS.1) Tryz.underlying26 rfl infoHd) (Meets.here ⟨hX2,hX0⟩ Meets.nil) ?_
   refine R_p (i:=1) (v:=.pointer (some ⟨X0,11,none⟩)) (Meets.here ⟨hX2,hX0⟩ Meets.nil) ?_
   refine R_l (i:=2) (v:=.slice At b.txs.length ct) 5 _ List.mem_cons_self rfl (yieldsIf_load_cell rfl rfl rfl (fun w' hS=>rc hS.2 11 rfl) Tryz.underlying27 rfl) (Meets.here ⟨hX2,hX0⟩ Meets.nil) ?_
   refine R_now 3 fun K hK=>?_
   go_simp
   refine (txs18_any b.txs HT.out At ct _ (PlV.keep (PlV.any HV.out.txs) hB)).mono ?_
   rintro e w3 ⟨A3,c3,rfl,htv,hb3⟩
   replace hX0:=(hb3.block _ (qg hX0)).trans hX0
   replace hX1:=(hb3.block _ (qg hX1)).trans hX1
   replace hX2:=(hb3.block _ (qg hX2)).trans hX2
   replace hB:=below_call hB hB.size hb3
   replace hvv:=StrV.keep hvv hb3
   replace htv:TrsV (fun b=>X1 < b) w3 ((b.txs.take 8).map cutTr) A3 c3:=Rep.mono htv fun b _ hb=>⟨by show X1 < b;have hb:WD.heap.size≤b:=hb;omega,rfl⟩
   clear hb3
   refine hK.out _ _ (Meets.here ⟨hX2,hX0⟩ Meets.nil) (fun hMeets=>?_)
   clear hK K hMeets
   refine lay_R ?_
   refine R_p (i:=4) (v:=.agg #[.string (bs (b.hd.parent.take 50)),.int .u64 (b.hd.height:Int),.string (bs (b.hd.root.take 50)),.string (bs (b.hd.txs.take 50)),.string (bs (b.hd.prop.take 50)),.string (bs (b.hd.van.take 50)),.slice A8 qs.length c8,.string (bs (b.hd.vote.take 50)),.bool b.hd.add,.int .u64 (b.hd.round:Int),.slice As ms cs,.slice A3 ((b.txs.take 8).map cutTr).length c3]) (Meets.here ⟨hX2,hX0⟩ Meets.nil) ?_
   refine R_now 5 fun K hK=>?_
   refine ite_wanted (by rfl) ?_
   refine wp_store_row _ _ _ rfl X1 #[.string (bs (b.hd.parent.take 50)),.int .u64 (b.hd.height:Int),.string (bs (b.hd.root.take 50)),.string (bs (b.hd.txs.take 50)),.string (bs (b.hd.prop.take 50)),.string (bs (b.hd.van.take 50)),.slice A8 qs.length c8,.string (bs (b.hd.vote.take 50)),.bool b.hd.add,.int .u64 (b.hd.round:Int),.slice As ms cs,.slice A3 ((b.txs.take 8).map cutTr).length c3] rfl rfl _ zqB hX1 infoBk rfl (one12B _ _ _ _ _ _ _ _ _ _ _ _ _ _ _ _ _ _) ?_
   have hXn:=setRow_heap w3 X1 _ #[.string (bs (b.hd.parent.take 50)),.int .u64 (b.hd.height:Int),.string (bs (b.hd.root.take 50)),.string (bs (b.hd.txs.take 50)),.string (bs (b.hd.prop.take 50)),.string (bs (b.hd.van.take 50)),.slice A8 qs.length c8,.string (bs (b.hd.vote.take 50)),.bool b.hd.add,.int .u64 (b.hd.round:Int),.slice As ms cs,.slice A3 ((b.txs.take 8).map cutTr).length c3] _ _ hX1
   have hBn:=below_setRow hB (show w.heap.size≤X1 by omega) #[.string (bs (b.hd.parent.take 50)),.int .u64 (b.hd.height:Int),.string (bs (b.hd.root.take 50)),.string (bs (b.hd.txs.take 50)),.string (bs (b.hd.prop.take 50)),.string (bs (b.hd.van.take 50)),.slice A8 qs.length c8,.string (bs (b.hd.vote.take 50)),.bool b.hd.add,.int .u64 (b.hd.round:Int),.slice As ms cs,.slice A3 ((b.txs.take 8).map cutTr).length c3]
   have htn:TrsV (fun g=>S g∨w.heap.size≤g) (w3.setRow X1 #[.string (bs (b.hd.parent.take 50)),.int .u64 (b.hd.height:Int),.string (bs (b.hd.root.take 50)),.string (bs (b.hd.txs.take 50)),.string (bs (b.hd.prop.take 50)),.string (bs (b.hd.van.take 50)),.slice A8 qs.length c8,.string (bs (b.hd.vote.take 50)),.bool b.hd.add,.int .u64 (b.hd.round:Int),.slice As ms cs,.slice A3 ((b.txs.take 8).map cutTr).length c3]) ((b.txs.take 8).map cutTr) A3 c3:=Rep.mono htv fun b _ hb=>⟨.inr (by have hb:X1 < b:=hb;omega),heap_setRow_ne _ (by have hb:X1 < b:=hb;omega) _⟩
   have hvn:StrV (fun g=>S g∨w.heap.size≤g) (w3.setRow X1 #[.string (bs (b.hd.parent.take 50)),.int .u64 (b.hd.height:Int),.string (bs (b.hd.root.take 50)),.string (bs (b.hd.txs.take 50)),.string (bs (b.hd.prop.take 50)),.string (bs (b.hd.van.take 50)),.slice A8 qs.length c8,.string (bs (b.hd.vote.take 50)),.bool b.hd.add,.int .u64 (b.hd.round:Int),.slice As ms cs,.slice A3 ((b.txs.take 8).map cutTr).length c3]) (qs.map (·.take 50)) A8 c8:=Rep.mono hvv fun b _ hb=>⟨.inr (by have hb:X1 < b:=hb;omega),heap_setRow_ne _ (by have hb:X1 < b:=hb;omega) _⟩
   generalize w3.setRow X1 #[.string (bs (b.hd.parent.take 50)),.int .u64 (b.hd.height:Int),.string (bs (b.hd.root.take 50)),.string (bs (b.hd.txs.take 50)),.string (bs (b.hd.prop.take 50)),.string (bs (b.hd.van.take 50)),.slice A8 qs.length c8,.string (bs (b.hd.vote.take 50)),.bool b.hd.add,.int .u64 (b.hd.round:Int),.slice As ms cs,.slice A3 ((b.txs.take 8).map cutTr).length c3]=W9 at hXn hBn htn hvn ⊢
   clear hB hX0 hX1 hX2 htv hvv
   refine hK.out _ _ (Meets.past (by kernel_rfl) Meets.nil) (fun hMeets=>?_)
   clear hK K hMeets
   refine lay_R ?_
   refine R_done (by kernel_rfl) ?_ _
   go_wp2_with fail
   refine bodyPost_ret (v:=.agg #[.string (bs (b.hd.parent.take 50)),.int .u64 (b.hd.height:Int),.string (bs (b.hd.root.take 50)),.string (bs (b.hd.txs.take 50)),.string (bs (b.hd.prop.take 50)),.string (bs (b.hd.van.take 50)),.slice A8 qs.length c8,.string (bs (b.hd.vote.take 50)),.bool b.hd.add,.int .u64 (b.hd.round:Int),.slice As ms cs,.slice A3 ((b.txs.take 8).map cutTr).length c3]) (results_cell_row rfl _ _ X1 _ _ _ _ rfl hXn Tryz.underlying29 rfl infoBk) rfl ?_
   refine ⟨A8,As,A3,c8,cs,c3,?_,?_,hBn⟩
   ·rw [HC.out]
    simp only [List.length_map]
    rw [HSL.out]
   ·rw [HC.out]
    exact ⟨⟨hvn,Rep.mono (PlV.keep HSV.out hBn) fun b _ h=>⟨.inl h,rfl⟩⟩,htn⟩
/- The walks of Like at blocks, and alive. -/
theorem sumK_nil:(sumK []).take 4 = [197,210,70,1]:=by kernel_rfl
theorem like18_any (b:Bk) (Av As At Aw Ax Ay:Option Addr) (cv cs ct cw cx cy:Nat) (w:World) (hv:BkV Any w b Av cv As cs At ct) (hv':BkV Any w b Aw cw Ax cx Ay cy) :
  Calls Tryz.prog 9 #[.agg (bkR b Av cv As cs At ct),.agg (bkR b Aw cw Ax cx Ay cy)] w fun e w'=>e=.returned (.bool true)∧Below w.heap.size w w':=by
 have h0:=(heap_alloc_old (w.alloc (.cells (bkR b Av cv As cs At ct) 29)) (.cells (bkR b Aw cw Ax cx Ay cy) 29) (by simp)).trans (heap_alloc_new w (.cells (bkR b Av cv As cs At ct) 29))
 have h1:=heap_alloc_new (w.alloc (.cells (bkR b Av cv As cs At ct) 29)) (.cells (bkR b Aw cw Ax cx Ay cy) 29)
 rw [show (w.alloc (.cells (bkR b Av cv As cs At ct) 29)).heap.size=w.heap.size+1 by simp] at h1
 have hb:Below w.heap.size w ((w.alloc (.cells (bkR b Av cv As cs At ct) 29)).alloc (.cells (bkR b Aw cw Ax cx Ay cy) 29)):=((Below.refl _ _).alloc qn _).alloc (by simp) _
 have HV1:=qh (hv.keep hb)
 have HV2:=qh (hv'.keep hb)
 have HB:=qh hb
 have HX:=qh h0
 have HY:=qh h1
 have HK0:Hid (∀ j u,([.string (bs b.hd.parent),.int .u64 (b.hd.height:Int),.string (bs b.hd.root),.string (bs b.hd.txs),.string (bs b.hd.prop),.string (bs b.hd.van),.slice Av b.hd.vals.length cv,.string (bs b.hd.vote),.bool b.hd.add,.int .u64 (b.hd.round:Int),.slice As b.hd.seals.length cs]:List Value)[j]? = some u→((w.alloc (.cells (bkR b Av cv As cs At ct) 29)).alloc (.cells (bkR b Aw cw Ax cx Ay cy) 29)).cell? ⟨w.heap.size,0+j,none⟩=some u):=qh fun j u hj=>by
  rw [Nat.zero_add]
  refine rc h0 j ?_
  have:=(List.getElem?_eq_some_iff.1 hj).1
  match j,this with
  | 0,_=>exact hj
  | 1,_=>exact hj
  | 2,_=>exact hj
  | 3,_=>exact hj
  | 4,_=>exact hj
  | 5,_=>exact hj
  | 6,_=>exact hj
  | 7,_=>exact hj
  | 8,_=>exact hj
  | 9,_=>exact hj
  | 10,_=>exact hj
 have HK1:Hid (∀ j u,([.string (bs b.hd.parent),.int .u64 (b.hd.height:Int),.string (bs b.hd.root),.string (bs b.hd.txs),.string (bs b.hd.prop),.string (bs b.hd.van),.slice Aw b.hd.vals.length cw,.string (bs b.hd.vote),.bool b.hd.add,.int .u64 (b.hd.round:Int),.slice Ax b.hd.seals.length cx]:List Value)[j]? = some u→((w.alloc (.cells (bkR b Av cv As cs At ct) 29)).alloc (.cells (bkR b Aw cw Ax cx Ay cy) 29)).cell? ⟨w.heap.size+1,0+j,none⟩=some u):=qh fun j u hj=>by
  rw [Nat.zero_add]
  refine rc h1 j ?_
  have:=(List.getElem?_eq_some_iff.1 hj).1
  match j,this with
  | 0,_=>exact hj
  | 1,_=>exact hj
  | 2,_=>exact hj
  | 3,_=>exact hj
  | 4,_=>exact hj
  | 5,_=>exact hj
  | 6,_=>exact hj
  | 7,_=>exact hj
  | 8,_=>exact hj
  | 9,_=>exact hj
  | 10,_=>exact hj
 clear h0 h1 hb hv hv'
 go_enter Tryz.func9,Tryz.ntmps9
 go_wp2_with (first | (refine wpl_load_cs rfl rfl rfl [.string (bs b.hd.parent),.int .u64 (b.hd.height:Int),.string (bs b.hd.root),.string (bs b.hd.txs),.string (bs b.hd.prop),.string (bs b.hd.van),.slice Av b.hd.vals.length cv,.string (bs b.hd.vote),.bool b.hd.add,.int .u64 (b.hd.round:Int),.slice As b.hd.seals.length cs] HK0.out Tryz.underlying26 rfl infoHd ?_) | (refine wpl_load_cs rfl rfl rfl [.string (bs b.hd.parent),.int .u64 (b.hd.height:Int),.string (bs b.hd.root),.string (bs b.hd.txs),.string (bs b.hd.prop),.string (bs b.hd.van),.slice Aw b.hd.vals.length cw,.string (bs b.hd.vote),.bool b.hd.add,.int .u64 (b.hd.round:Int),.slice Ax b.hd.seals.length cx] HK1.out Tryz.underlying26 rfl infoHd ?_))
 refine (like17_any b.hd Av As Aw Ax cv cs cw cx _ HV1.out.hd HV2.out.hd).mono ?_
 rintro e w1 ⟨rfl,hb1⟩
 have HB1:=qh (below_call HB.out HB.out.size hb1)
 have hX:=(hb1.block _ (qg HX.out)).trans HX.out
 have hY:=(hb1.block _ (qg HY.out)).trans HY.out
 have x11:=rc (u:=.slice At b.txs.length ct) hX 11 rfl
 have y11:=rc (u:=.slice Ay b.txs.length cy) hY 11 rfl
 have HT1:=qh (PlV.keep HV1.out.txs hb1)
 have HT2:=qh (PlV.keep HV2.out.txs hb1)
 clear hb1 hX hY HX HY HK0 HK1
 go_wp2_with fail
 refine (same16_any b.txs At Ay ct cy _ HT1.out HT2.out).mono ?_
 rintro e w2 ⟨rfl,hb2⟩
 have HB2:=qh (below_call HB1.out HB1.out.size hb2)
 clear hb2 x11 y11
 go_wp2_with fail
 go_ret
 exact ⟨rfl,HB2.out⟩
theorem alive18_any (w:World):Calls Tryz.prog 12 #[] w fun e w'=>e=.returned (.bool true)∧Below w.heap.size w w':=by
 have hS:=bsum_any [] (by decide) (fun t ht=>by cases ht) none 0 w PlV.nil
 rw [show bsumP []=(sumsT [],0) from rfl] at hS
 obtain ⟨s,hs⟩:∃ s,sumsT []=s:=⟨_,rfl⟩
 have hs2:s.length=32:=by rw [← hs];exact sumK_len _
 have hs3:s.take 4 = [197,210,70,1]:=by rw [← hs];exact sumK_nil
 rw [hs] at hS
 simp only [List.length_nil] at hS
 have HS:=qh hS
 clear hS hs
 go_enter Tryz.func12,Tryz.ntmps12
 go_wp2_with fail
 refine HS.out.mono ?_
 rintro e w1 ⟨rfl,hb1⟩
 have HB1:=qh hb1
 clear hb1
 go_wp2_with fail
 go_ret
 exact ⟨rfl,HB1.out⟩
end Go.Proofs.YtjanaholcjkceaaGreat
