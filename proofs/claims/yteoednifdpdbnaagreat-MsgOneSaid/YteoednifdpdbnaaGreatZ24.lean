/- The walk of the reference's told, out of item's. -/
import Derived.Test.YteoednifdpdbnaaGreatZ21
import Derived.Test.YteoednifdpdbnaaGreatZ08
import Derived.Test.YteoednifdpdbnaaGreatZ23
import Derived.Outline
import Derived.Deep.DeepMust
namespace Go.Proofs.YteoednifdpdbnaaGreat
set_option linter.unusedVariables false
set_option linter.unusedSimpArgs false
open Go.RowKit
set_option maxHeartbeats 4000000
set_option maxRecDepth 100000
/-- blocks from a number on -/
def From (B:Nat):Nat→Prop:=fun b=>B≤b
/- Kinds in memory; the walks of frame.one, some, kinds at forms of plain kinds and of lists of these. -/
theorem infoK:(Tryz.prog.info? 153).map (·.size)=some 2:=by kernel_rfl
theorem elKind:ElemOk Tryz.prog 146 153 (.agg #[.int .u8 0,.slice none 0 0]) 2 32:=⟨Tryz.underlying146,by kernel_rfl,rfl,by omega⟩
/-- three results, the first one a row -/
theorem qbh {P:Program} {fn:Func} {p u v:Tmp} {ty:TypeId} (h:fn.results=#[.cell p ty,.tmp u,.tmp v]) (tmps:Array Value) (w:World) (g:Nat) (t:TypeId) (cs:Array Value) (fr:Nat×Nat) (d:TypeDesc)
  (hp:tmps.getD p undef=.pointer (some ⟨g,0,none⟩)) (hg:w.heap[g]? = some (.cells cs t fr)) (x y:Value) (hx:tmps.getD u undef=x) (hy:tmps.getD v undef=y)
  (hu:P.underlying ty=some d) (hd:(match d with | .struct _ | .array _ _=>true | _=>false)=true) (hi:(P.info? ty).map (·.size)=some cs.size) :
  (results fn tmps).run P w=.ok (.tuple #[.agg cs,x,y]) w:=by
 rw [Array.getD_eq_getD_getElem?] at hp hx hy
 unfold results
 rw [h]
 simp [hp,hx,hy,asAddr,Sem.run_bind,Sem.run_pure,run_loadVar_row w g t ty cs fr d hg hu hd hi]
def cellK (c:UInt8):List Value:=[.int .u8 c.toNat,.slice none 0 0]
def plainD (c:UInt8):D:=.st [.v (.int .u8 c.toNat),.v (.slice none 0 0)]
def kdD (k:Kd):D:=if k.star then .st [.v (.int .u8 42),.sl 2 [plainD k.c]] else plainD k.c
theorem qf2 {S:Nat→Prop} {w:World} (c:UInt8):Rep S w (plainD c) (cellK c):=.st (.cons (.v _ rfl) (.cons (cs':=[]) (.v _ rfl) .nil))
theorem qbs {S:Nat→Prop} {w:World} {c:UInt8} {cs:List Value} (h:Rep S w (plainD c) cs):cs=cellK c:=by
 obtain ⟨a,b,rfl,h1,h2⟩:=h.st_form.cons_form
 obtain ⟨c0,d0,rfl,h3,h4⟩:=h2.cons_form
 rw [h1.v_form,h3.v_form,h4.nil_form];rfl
theorem rep_star {S:Nat→Prop} {w:World} {g:Nat} {c:UInt8} {fr:Nat×Nat} {e:TypeId} (h:w.heap[g]? = some (.cells (cellK c).toArray e fr)) (hS:S g):Rep S w (.st [.v (.int .u8 42),.sl 2 [plainD c]]) [.int .u8 42,.slice (some ⟨g,0,none⟩) 1 1] :=
 .st (.cons (.v _ rfl) (.cons (cs':=[]) (.sl (.cons (qf2 c) rfl .nil) rfl (fun _=>⟨g,0,rfl,hS,fun j u hj=>by rw [Nat.zero_add,cell_of_row _ _ _ _ _ _ h];simpa using hj⟩) qn (by simp [maxLen])) .nil))
theorem kd_len {S:Nat→Prop} {w:World} {k:Kd} {cs:List Value} (h:Rep S w (kdD k) cs):∃ n A m c,cs = [.int .u8 n,.slice A m c]:=by
 unfold kdD at h
 split at h
 ·obtain ⟨a,b,rfl,h1,h2⟩:=h.st_form.cons_form
  obtain ⟨c0,d0,rfl,h3,h4⟩:=h2.cons_form
  obtain ⟨A,m,c,rfl⟩:=h3.slice_form
  rw [h1.v_form,h4.nil_form]
  exact ⟨_,_,_,_,rfl⟩
 ·rw [qbs h];exact ⟨_,_,_,_,rfl⟩
/-- behind one kind that is read -/
def OnePost (k:Kd) (w:World) (e:Ending) (w':World):Prop :=
 ∃ s A n c,e=.returned (.tuple #[.agg #[.int .u8 s,.slice A n c],.int .i64 k.txt.length,.bool true])∧Rep (From w.heap.size) w' (kdD k) [.int .u8 s,.slice A n c]∧Below w.heap.size w w'
theorem qld (c:UInt8) (hc:okC c) (t:Bytes) (d:Int) (h0:0≤d) (h1:d≤4) (w:World) :
  Calls Tryz.prog 199 #[.string (bs (c :: t)),.int .i64 d] w fun e w'=>e=.returned (.tuple #[.agg (cellK c).toArray,.int .i64 1,.bool true])∧Below w.heap.size w w':=by
 have hb:Below w.heap.size w (w.alloc (.cells #[.int .u8 0,.slice none 0 0] 153)):=(Below.refl _ _).alloc qn _
 have hr:(w.alloc (.cells #[.int .u8 0,.slice none 0 0] 153)).heap[w.heap.size]? = some (.cells #[.int .u8 0,.slice none 0 0] 153 (0,0)):=heap_alloc_new w _
 have HB:=qh hb
 have HR:=qh hr
 clear hb hr
 have hd:¬ 4 < d:=by omega
 rcases hc with rfl | rfl | rfl | rfl | rfl
 all_goals
  go_enter Tryz.func199,Tryz.ntmps199
  go_wp2_with fail
 ·exact bodyPost_ret (v:=.tuple #[.agg #[.int .u8 110,.slice none 0 0],.int .i64 1,.bool true]) (qbh rfl _ _ w.heap.size _ _ _ _ rfl (heap_alloc_new w _) _ _ rfl rfl Tryz.underlying153 rfl infoK) rfl ⟨rfl,(Below.refl _ _).alloc qn _⟩
 ·exact bodyPost_ret (v:=.tuple #[.agg #[.int .u8 104,.slice none 0 0],.int .i64 1,.bool true]) (qbh rfl _ _ w.heap.size _ _ _ _ rfl (heap_alloc_new w _) _ _ rfl rfl Tryz.underlying153 rfl infoK) rfl ⟨rfl,(Below.refl _ _).alloc qn _⟩
 ·exact bodyPost_ret (v:=.tuple #[.agg #[.int .u8 97,.slice none 0 0],.int .i64 1,.bool true]) (qbh rfl _ _ w.heap.size _ _ _ _ rfl (heap_alloc_new w _) _ _ rfl rfl Tryz.underlying153 rfl infoK) rfl ⟨rfl,(Below.refl _ _).alloc qn _⟩
 ·exact bodyPost_ret (v:=.tuple #[.agg #[.int .u8 115,.slice none 0 0],.int .i64 1,.bool true]) (qbh rfl _ _ w.heap.size _ _ _ _ rfl (heap_alloc_new w _) _ _ rfl rfl Tryz.underlying153 rfl infoK) rfl ⟨rfl,(Below.refl _ _).alloc qn _⟩
 ·exact bodyPost_ret (v:=.tuple #[.agg #[.int .u8 98,.slice none 0 0],.int .i64 1,.bool true]) (qbh rfl _ _ w.heap.size _ _ _ _ rfl (heap_alloc_new w _) _ _ rfl rfl Tryz.underlying153 rfl infoK) rfl ⟨rfl,(Below.refl _ _).alloc qn _⟩
theorem one_nil (w:World):Calls Tryz.prog 199 #[.string (bs []),.int .i64 0] w fun e w'=>e=.returned (.tuple #[.agg #[.int .u8 0,.slice none 0 0],.int .i64 0,.bool false])∧Below w.heap.size w w':=by
 go_enter Tryz.func199,Tryz.ntmps199
 go_wp2_with fail
 exact bodyPost_ret (v:=.tuple #[.agg #[.int .u8 0,.slice none 0 0],.int .i64 0,.bool false]) (qbh rfl _ _ w.heap.size _ _ _ _ rfl (heap_alloc_new w _) _ _ rfl rfl Tryz.underlying153 rfl infoK) rfl ⟨rfl,(Below.refl _ _).alloc qn _⟩
theorem one_any (k:Kd) (hc:okC k.c) (t:Bytes) (w:World):Calls Tryz.prog 199 #[.string (bs (k.txt ++ t)),.int .i64 0] w (OnePost k w):=by
 obtain ⟨c,st⟩:=k
 cases st with
 | false =>
  have h:(⟨c,false⟩:Kd).txt ++ t=c :: t:=rfl
  rw [h]
  refine (qld c hc t 0 (by omega) (by omega) w).mono ?_
  rintro e w' ⟨rfl,hb⟩
  exact ⟨_,_,_,_,rfl,qf2 c,hb⟩
 | true =>
  have h:(⟨c,true⟩:Kd).txt ++ t=42 :: c :: t:=rfl
  rw [h]
  have hb:Below w.heap.size w (w.alloc (.cells #[.int .u8 0,.slice none 0 0] 153)):=(Below.refl _ _).alloc qn _
  have hr:(w.alloc (.cells #[.int .u8 0,.slice none 0 0] 153)).heap[w.heap.size]? = some (.cells #[.int .u8 0,.slice none 0 0] 153 (0,0)):=heap_alloc_new w _
  have HC:=qh (qld c hc t 1 (by omega) (by omega) (w.alloc (.cells #[.int .u8 0,.slice none 0 0] 153)))
  have HB:=qh hb
  have HR:=qh hr
  have hdr:List.take (t.length+1) (c :: t)=c :: t:=List.take_of_length_le (by simp)
  clear hb hr hc h
  go_enter Tryz.func199,Tryz.ntmps199
  go_wp2_with fail
  refine HC.out.mono ?_
  clear HC hdr
  rintro e w1 ⟨rfl,hb1⟩
  have hr1:=(hb1.block _ (qg HR.out)).trans HR.out
  have hB1:=qac HB.out HB.out.size hb1
  have hRl:=(qg hr1)
  obtain ⟨kc,hkc⟩:∃ kc:Int,kc=c.toNat:=⟨_,rfl⟩
  have hck:(cellK c).toArray=#[.int .u8 kc,.slice none 0 0]:=by rw [hkc];rfl
  rw [hck]
  have HKC:=qh hkc
  clear hck hkc
  have d0:w1.cell? ⟨w.heap.size,0,none⟩=some (.int .u8 0):=rc hr1 0 rfl
  have d1:w1.cell? ⟨w.heap.size,1,none⟩=some (.slice none 0 0):=rc hr1 1 rfl
  have f0:=rf hr1 0
  have f1:=rf hr1 1
  have HR1:=qh hr1
  have HB1:=qh hB1
  clear hr1 hB1 hb1 HB HR
  go_wp2_with fail
  have hfin:=qaa (qaa HR1.out (i:=0) (.int .u8 42)) (i:=1) (.slice (some ⟨w1.heap.size+1,0,none⟩) 1 1)
  have hfin1:=(heap_alloc_old _ (.cells #[.int .u8 kc,.slice none 0 0] 153) (by simp;omega)).trans hfin
  have hfin2:=(heap_alloc_old _ (.cells #[.int .u8 kc,.slice none 0 0] 153) (by simp;omega)).trans hfin1
  refine bodyPost_ret (v:=.tuple #[.agg #[.int .u8 42,.slice (some ⟨w1.heap.size+1,0,none⟩) 1 1],.int .i64 2,.bool true]) (qbh rfl _ _ w.heap.size _ _ _ _ rfl hfin2 _ _ rfl rfl Tryz.underlying153 rfl infoK) rfl ?_
  refine ⟨42,_,_,_,rfl,?_,?_⟩
  ·refine rep_star (g:=w1.heap.size+1) (c:=c) (fr:=(0,0)) (e:=153) ?_ (by show w.heap.size≤_;omega)
   rw [show (cellK c).toArray=#[.int .u8 kc,.slice none 0 0] by rw [HKC.out];rfl]
   have:=heap_alloc_new (((w1.setCell ⟨w.heap.size,0,none⟩ (.int .u8 42)).setCell ⟨w.heap.size,1,none⟩ (.slice (some ⟨w1.heap.size+1,0,none⟩) 1 1)).alloc (.cells #[.int .u8 kc,.slice none 0 0] 153)) (.cells #[.int .u8 kc,.slice none 0 0] 153)
   simpa using this
  ·exact ((((HB1.out.setCell (p:=⟨w.heap.size,_,_⟩) qn _).setCell (p:=⟨w.heap.size,_,_⟩) qn _).alloc (by have:=HB1.out.size;simp;omega) _).alloc (by have:=HB1.out.size;simp;omega) _)
/- The walks of frame.some and kinds. -/
def kindsD (ks:List Kd):List D:=ks.map kdD
/-- kinds in memory -/
def KindsV (S:Nat→Prop) (w:World) (ks:List Kd) (A:Option Addr) (c:Nat):Prop:=Rep S w (.sl 2 (kindsD ks)) [.slice A ks.length c]
theorem qtx {ks:List Kd} {i:Nat} {k:Kd} (h:ks[i]? = some k):(formP ks).drop (formP (ks.take i)).length=k.txt ++ formP (ks.drop (i+1)):=by
 obtain ⟨hi,hk⟩:=List.getElem?_eq_some_iff.1 h
 have hs:ks=ks.take i ++ k :: ks.drop (i+1):=by rw [← hk,List.getElem_cons_drop,List.take_append_drop]
 have hF:formP ks=formP (ks.take i) ++ (k.txt ++ formP (ks.drop (i+1))):=by
  conv=>lhs;rw [hs]
  rw [qd2];rfl
 rw [hF,List.drop_left]
theorem qe3 {ks:List Kd} {i:Nat} {k:Kd} (h:ks[i]? = some k):(formP (ks.take (i+1))).length=(formP (ks.take i)).length+k.txt.length:=by
 rw [qbk h,qd2,List.length_append];simp [formP]
theorem qkl (ks:List Kd) (i:Nat):(formP (ks.take i)).length≤(formP ks).length:=by
 conv=>rhs;rw [← List.take_append_drop i ks]
 rw [qd2,List.length_append];omega
/-- behind kinds that are read -/
def SomePost (ks:List Kd) (w:World) (e:Ending) (w':World):Prop :=
 ∃ A c,e=.returned (.tuple #[.slice A ks.length c,.int .i64 (formP ks).length])∧KindsV (From w.heap.size) w' ks A c∧Below w.heap.size w w'
theorem some_any (ks:List Kd) (hf:OkForm ks) (hl:ks.length≤1000) (w:World):Calls Tryz.prog 146 #[.string (bs (formP ks)),.int .i64 0] w (SomePost ks w):=by
 have hFl:=(qki ks).2
 obtain ⟨F,hF⟩:∃ F,formP ks=F:=⟨_,rfl⟩
 have hFl':F.length≤2 * ks.length:=by rw [← hF];exact hFl
 rw [hF]
 have HF:=qh hF
 have HOK:=qh hf
 clear hF hFl hf
 go_enter Tryz.func146,Tryz.ntmps146
 go_wp2_with fail
 go_step3
 go_wp2_with fail
 go_step3
 go_wp2_with fail
 go_loopw [6,7] (fun o at' wr=>∃ (i a:Nat) (ys:List Value),at'=.int .i64 a∧i≤ks.length∧Hid (a=(formP (ks.take i)).length)∧a≤F.length∧wr.ownsRow w.heap.size 153 2 o i ys∧RepN (RowS w.heap.size o) wr 2 (kindsD (ks.take i)) ys∧Below w.heap.size w wr) (fun _ at' _=>F.length - (intOf at').toNat)
 case atStart=>exact ⟨0,0,[],rfl,Nat.zero_le _,qh rfl,Nat.zero_le _,World.ownsRow_nil _ _ _ _,.nil,Below.refl _ _⟩
 case round =>
  obtain ⟨i,a,ys,rfl,hi,ha,hal,hown,hrep,hB⟩:=hrel
  obtain ⟨A',c',rfl⟩:=qa4 hown
  have hBs:=hB.size
  by_cases hlt:i < ks.length
  ·obtain ⟨k,hk⟩:=qan hlt
   have hd:List.take (F.length - a) (List.drop a F)=k.txt ++ formP (ks.drop (i+1)):=by
    rw [List.take_of_length_le (by simp),← HF.out,ha.out,qtx hk]
   obtain ⟨t,ht⟩:∃ t,k.txt ++ formP (ks.drop (i+1))=t:=⟨_,rfl⟩
   have hC:=one_any k (HOK.out k (List.mem_of_getElem? hk)) (formP (ks.drop (i+1))) wr
   rw [ht] at hd hC
   have hal2:(formP (ks.take (i+1))).length≤F.length:=by rw [← HF.out];exact qkl ks (i+1)
   rw [qe3 hk,← ha.out] at hal2
   have hkl:=qt6 k
   have HT1:=qh (qe3 hk)
   obtain ⟨n,hn⟩:∃ n,k.txt.length=n:=⟨_,rfl⟩
   rw [hn] at hal2 hkl HT1
   unfold OnePost at hC
   rw [hn] at hC
   have HC:=qh hC
   have HK:=qh hk
   have HW:=qh hown
   have HP:=qh hrep
   have HB:=qh hB
   have halI:(a:Int)≤F.length:=by omega
   clear hC hk hown hrep hB ht hn
   go_wp2_with fail
   refine HC.out.mono ?_
   clear HC hd
   rintro e w1 ⟨s1,A1,n1,c1,rfl,hr1,hb1⟩
   have hB1:=qac HB.out HB.out.size hb1
   have hown1:=qa5 HW.out hb1
   have hb1s:=hb1.size
   have hP1:RepN (RowS w.heap.size (.slice A' i c')) w1 2 (kindsD (ks.take (i+1))) (ys ++ [.int .u8 s1,.slice A1 n1 c1]):=by
    unfold kindsD
    rw [qbk HK.out,List.map_append]
    refine RepN.snoc (hr1.mono fun b _ hb=>⟨⟨Nat.le_trans hBs hb,fun e=>by have h1:=(HW.out.lt _ e).2;have h2:wr.heap.size≤b:=hb;omega⟩,rfl⟩) rfl (HP.out.keep hb1)
   have HB1:=qh hB1
   have HW1:=qh hown1
   have HP1:=qh hP1
   clear hB1 hown1 hP1 hb1 HW HP HB hr1
   go_wp2_with (at_builtin;refine qa0 elKind rfl rfl w.heap.size ((HW1.out.alloc _).alloc _) rfl (m:=1) [.int .u8 s1,.slice A1 n1 c1] rfl rfl ?_ ?_ ?_ ?_ ?_ ?_;exact (qco _ _ (by simp) _ _);(intro u hu;simp at hu;rcases hu with rfl | rfl <;> rfl);(simp only [maxLen];omega);omega;(simp;omega);intro v1 w4 hown4 hg4 hat4;obtain ⟨A2,c2,rfl⟩:=qa4 hown4)
   go_roundw
   case rel =>
    refine ⟨i+1,a+n,ys ++ [.int .u8 s1,.slice A1 n1 c1],by go_num,by omega,qh (by rw [HT1.out,ha.out]),hal2,hown4,?_,?_⟩
    ·exact qeq ((HP1.out.keep ((Below.refl _ _).alloc qn _)).keep ((Below.refl _ _).alloc qn _)) hg4 hat4
    ·exact qa7 ((HB1.out.alloc (by omega) _).alloc (by simp;omega) _) ((HW1.out.alloc _).alloc _) hg4 (by simp;omega) qn
   case measure=>simp [intOf];omega
  ·obtain rfl:i=ks.length:=by omega
   have haF:a=F.length:=by rw [ha.out,List.take_length,HF.out]
   subst haF
   have hd:List.take 0 (List.drop F.length F) = []:=rfl
   have HW:=qh hown
   have HP:=qh hrep
   have HB:=qh hB
   clear hown hrep hB
   go_wp2_with fail
   refine (show Calls Tryz.prog 199 #[.string ByteArray.empty,.int .i64 0] wr _ from one_nil wr).mono ?_
   rintro e w1 ⟨rfl,hb1⟩
   have HR1:Hid (KindsV (From w.heap.size) w1 ks A' c'):=qh (by
    have hp:=HP.out.keep hb1
    rw [List.take_length] at hp
    exact qck (qa5 HW.out hb1) (RepN.mono hp fun b _ hb=>⟨hb.1,rfl⟩) (by simp [kindsD]) (fun g h1 _=>h1))
   have HB1:=qh (qac HB.out HB.out.size hb1)
   clear hb1 HP HW HB hd
   go_wp2_with fail
   rw [Exit.noGoto_ret]
   go_ret2
   rw [← HF.out]
   exact ⟨A',c',rfl,Rep.alloc HR1.out _,HB1.out.alloc HB1.out.size _⟩
/-- behind a form's kinds -/
def KindsPost (ks:List Kd) (w:World) (e:Ending) (w':World):Prop :=
 ∃ A c,e=.returned (.tuple #[.slice A ks.length c,.bool true])∧KindsV (From w.heap.size) w' ks A c∧Below w.heap.size w w'
theorem qlr (ks:List Kd) (hf:OkForm ks) (hl:(formP ks).length≤40) (w:World):Calls Tryz.prog 93 #[.string (bs (formP ks))] w (KindsPost ks w):=by
 have hC:=some_any ks hf (by have:=(qki ks).1;omega) w
 have hlI:¬ (40:Int) < (formP ks).length:=by omega
 unfold SomePost at hC
 obtain ⟨F,hF⟩:∃ F,formP ks=F:=⟨_,rfl⟩
 rw [hF] at hC hlI ⊢
 have HC:=qh hC
 clear hC hF hf hl
 go_enter Tryz.func93,Tryz.ntmps93
 go_wp2_with fail
 refine HC.out.mono ?_
 rintro e w1 ⟨A,c,rfl,hr,hb⟩
 have HR:=qh hr
 have HB:=qh hb
 clear hr hb
 go_wp2_with fail
 go_ret2
 exact ⟨A,c,by simp,HR.out,HB.out⟩
/- Fields in memory; the walk of frame.count. -/
def lfD (x:Lf):D:=.st [.v (.int .u64 (x.1:Int)),.v (.string (bs x.2)),.sl 3 []]
def fdD (f:Fd):D:=.st [.v (.int .u64 (f.n:Int)),.v (.string (bs f.b)),.sl 3 (f.l.map lfD)]
def upF (x:Lf):Fd:=⟨x.1,x.2,[]⟩
theorem fdD_up (x:Lf):fdD (upF x)=lfD x:=rfl
def fdsD (fs:List Fd):List D:=fs.map fdD
theorem qe4 (a b:List Fd):fdsD (a ++ b)=fdsD a ++ fdsD b:=by simp [fdsD]
theorem qm3 (l:List Lf):fdsD (l.map upF)=l.map lfD:=by simp [fdsD,fdD_up]
/-- a field's cells -/
def fdC (f:Fd) (A:Option Addr) (c:Nat):List Value:=[.int .u64 (f.n:Int),.string (bs f.b),.slice A f.l.length c]
/-- a row of plain fields; of fields -/
def LfsV (S:Nat→Prop) (w:World) (l:List Lf) (A:Option Addr) (c:Nat):Prop:=Rep S w (.sl 3 (l.map lfD)) [.slice A l.length c]
def FdsV (S:Nat→Prop) (w:World) (fs:List Fd) (A:Option Addr) (c:Nat):Prop:=Rep S w (.sl 3 (fdsD fs)) [.slice A fs.length c]
theorem qp1 {S:Nat→Prop} {w:World} {f:Fd} {cs:List Value} (h:Rep S w (fdD f) cs):∃ A c,cs=fdC f A c∧LfsV S w f.l A c:=by
 obtain ⟨a,b,rfl,h1,h2⟩:=h.st_form.cons_form
 obtain ⟨a2,b2,rfl,h3,h4⟩:=h2.cons_form
 obtain ⟨a3,b3,rfl,h5,h6⟩:=h4.cons_form
 obtain ⟨A,n,c,rfl⟩:=h5.slice_form
 have hn:=h5.slice_len.1
 rw [List.length_map] at hn
 subst hn
 rw [h1.v_form,h3.v_form,h6.nil_form]
 exact ⟨A,c,rfl,h5⟩
theorem qsk {S:Nat→Prop} {w:World} {f:Fd} {A:Option Addr} {c:Nat} (h:LfsV S w f.l A c):Rep S w (fdD f) (fdC f A c) :=
 .st (.cons (.v _ rfl) (.cons (cs':=[.slice A f.l.length c]) (.v _ rfl) (.cons (cs':=[]) h .nil)))
theorem infoF:(Tryz.prog.info? 81).map (·.size)=some 3:=by kernel_rfl
theorem qfc:ElemOk Tryz.prog 78 81 (.agg #[.int .u64 0,.string (bs []),.slice none 0 0]) 3 48:=⟨Tryz.underlying78,by kernel_rfl,rfl,by omega⟩
theorem qr5 {S:Nat→Prop} {w wr:World} {base:Nat} {e:TypeId} {A:Option Addr} {n c:Nat} {q:List Fd} {xs:List Value} {i:Nat} {f:Fd}
  (hown:wr.ownsRow base e 3 (.slice A n c) n xs) (hr:RepN S w 3 (fdsD q) xs) (hi:q[i]? = some f) :
  ∃ g A' c',A=some ⟨g,0,none⟩∧LfsV S w f.l A' c'∧wr.cell? ⟨g,i * 3,none⟩=some (.int .u64 (f.n:Int))∧wr.cell? ⟨g,i * 3+1,none⟩=some (.string (bs f.b)) ∧
   wr.cell? ⟨g,i * 3+2,none⟩=some (.slice A' f.l.length c'):=by
 obtain ⟨ci,r1,r2,r3⟩:=hr.at_ (i:=i) (d:=fdD f) (by unfold fdsD;rw [List.getElem?_map,hi];rfl)
 obtain ⟨A',c',rfl,hv⟩:=qp1 r1
 have h0:=r3 0 _ rfl
 obtain ⟨g,o,hA,_,hc⟩:=qdl (S:=Any) hown (fun _ _ _=>trivial) (by intro he;rw [he] at h0;simp at h0)
 subst hA
 have ho:o=0:=by
  rcases hown.2 with ⟨hv,_⟩ | ⟨g',cap,cur,hv,_⟩
  ·simp at hv
  ·simp at hv;exact hv.1.2
 subst ho
 exact ⟨g,A',c',rfl,hv,by simpa using hc _ _ h0,by simpa [Nat.add_assoc] using hc _ _ (r3 1 _ rfl),by simpa [Nat.add_assoc] using hc _ _ (r3 2 _ rfl)⟩
/-- a field at a place of a row of fields -/
theorem qcq {S:Nat→Prop} {w:World} {fs:List Fd} {A:Option Addr} {c i:Nat} {f:Fd} (h:FdsV S w fs A c) (hi:fs[i]? = some f) :
  ∃ g o A' c',A=some ⟨g,o,none⟩∧S g∧LfsV S w f.l A' c'∧∀ j u,(fdC f A' c')[j]? = some u→w.cell? ⟨g,o+i * 3+j,none⟩=some u:=by
 obtain ⟨g,o,ci,hA,hs,r1,r2,r3⟩:=Rep.slice_at h (by omega) (i:=i) (d:=fdD f) (by unfold fdsD;rw [List.getElem?_map,hi];rfl)
 obtain ⟨A',c',rfl,hv⟩:=qp1 r1
 exact ⟨g,o,A',c',hA,hs,hv,fun j u hj=>by rw [Nat.add_assoc];exact r3 j u hj⟩
theorem lfs_at {S:Nat→Prop} {w:World} {l:List Lf} {A:Option Addr} {c i:Nat} {f:Lf} (h:LfsV S w l A c) (hi:l[i]? = some f) :
  ∃ g o A' c',A=some ⟨g,o,none⟩∧S g∧LfsV S w [] A' c'∧∀ j u,(fdC (upF f) A' c')[j]? = some u→w.cell? ⟨g,o+i * 3+j,none⟩=some u:=by
 obtain ⟨g,o,ci,hA,hs,r1,r2,r3⟩:=Rep.slice_at h (by omega) (i:=i) (d:=lfD f) (by rw [List.getElem?_map,hi];rfl)
 obtain ⟨A',c',rfl,hv⟩:=qp1 (f:=upF f) r1
 exact ⟨g,o,A',c',hA,hs,hv,fun j u hj=>by rw [Nat.add_assoc];exact r3 j u hj⟩
/-- blocks that are there -/
def Old (w:World):Nat→Prop:=fun b=>b < w.heap.size
theorem Rep.old {S:Nat→Prop} {w:World} {d:D} {cs:List Value} (h:Rep S w d cs):Rep (Old w) w d cs:=h.mono fun b hb _=>⟨hb,rfl⟩
theorem RepN.old {S:Nat→Prop} {w:World} {n:Nat} {d:List D} {cs:List Value} (h:RepN S w n d cs):RepN (Old w) w n d cs:=h.mono fun b hb _=>⟨hb,rfl⟩
def sumL:List Fd→Nat
 | []=>0
 | f :: fs=>f.l.length+sumL fs
theorem qm4 (a b:List Fd):sumL (a ++ b)=sumL a+sumL b:=by
 induction a with
 | nil=>simp [sumL]
 | cons f a ih=>simp [sumL,ih];omega
theorem sumL_up (l:List Lf):sumL (l.map upF)=0:=by
 induction l with
 | nil=>rfl
 | cons f a ih=>simp [sumL,ih,upF]
def totF (fs:List Fd):Nat:=fs.length+sumL fs
/-- behind count -/
def CountPost (fs:List Fd) (w:World) (e:Ending) (w':World):Prop:=∃ b,e=.returned (.bool b)∧(totF fs≤1000→b=true)∧Below w.heap.size w w'
theorem qr3 (fs:List Fd) (hl:fs.length≤1000) (A:Option Addr) (c:Nat) (w:World) (hv:FdsV Any w fs A c) :
  Calls Tryz.prog 94 #[.slice A fs.length c] w (CountPost fs w):=by
 obtain ⟨css,hr0,hlies,hcl,hone⟩:=Rep.slice_open hv
 have hlc:=(Rep.slice_len hv).2.1
 have hcm:=(Rep.slice_len hv).2.2
 have hrep0:=hr0.old
 have hmin:min (fs.length:Int) 1000=fs.length:=by omega
 have hlI:(fs.length:Int)≤c:=by omega
 have hl1:(fs.length:Int)≤1000:=by omega
 have hcI:(c:Int)≤9223372036854775807:=by simp only [maxLen] at hcm;omega
 have hO:(w.alloc (.cells #[] 81)).ownsRow w.heap.size 81 3 (.slice (some ⟨w.heap.size,0,none⟩) 0 0) 0 []:=World.ownsRow_lit w #[] 0 qn (Nat.zero_le _) rfl
 have hb:Below w.heap.size w (w.alloc (.cells #[] 81)):=(Below.refl _ _).alloc qn _
 have HO:=qh hO
 have HB:=qh hb
 have HL:=qh (hlies.mono (S':=Any) (w':=w.alloc (.cells #[] 81)) fun b hbl _=>⟨trivial,hb.block b hbl⟩)
 have HC:=qh hcl
 have H1:=qh hone
 have HR:=qh hrep0
 clear hv hr0 hlies hcl hone hrep0 hO hb
 go_enter Tryz.func94,Tryz.ntmps94
 go_wp2_with (at_builtin;refine qa0 qfc rfl rfl w.heap.size HO.out rfl (m:=fs.length) css rfl HC.out HL.out H1.out (by simp only [maxLen];omega) (by omega) (by simp) ?_;intro v1 w1 hown1 hg1 hat1)
 have hB1:=qa7 HB.out HO.out hg1 (by simp) qn
 simp only [Nat.zero_add,List.nil_append] at hown1
 have HB1:=qh hB1
 have HW1:=qh hown1
 clear hown1 hB1 hg1 hat1 HB HL HO H1
 go_loopw [3,4] (fun q a wr=>∃ (i:Nat) (Q:List Fd) (ys:List Value),a=.int .i64 i∧i≤Q.length∧Q.length≤1000∧Hid (Q.length+sumL (Q.drop i)=totF fs)∧wr.ownsRow w.heap.size 81 3 q Q.length ys∧RepN (Old w) w 3 (fdsD Q) ys∧Below w.heap.size w wr) (fun _ a _=>1000 - (intOf a).toNat)
 case atStart=>exact ⟨0,fs,css,rfl,Nat.zero_le _,hl,qh rfl,HW1.out,HR.out,HB1.out⟩
 case round =>
  clear HB1 HW1 HR HC
  obtain ⟨i,Q,ys,rfl,hi,hQ,hsum,hown,hrep,hB⟩:=hrel
  obtain ⟨A',c',rfl⟩:=qa4 hown
  have hBs:=hB.size
  by_cases hlt:i < Q.length
  ·obtain ⟨f,hf⟩:=qan hlt
   obtain ⟨g,A1,c1,rfl,hlv,d0,d1,d2⟩:=qr5 hown hrep hf
   have hltI:(i:Int) < Q.length:=by omega
   have hQI:(Q.length:Int)≤1000:=by omega
   have hdr:sumL (Q.drop i)=f.l.length+sumL (Q.drop (i+1)):=by
    obtain ⟨hi',hfe⟩:=List.getElem?_eq_some_iff.1 hf
    rw [← List.getElem_cons_drop (h:=hi'),hfe];rfl
   by_cases hgt:f.l.length≤1000 - Q.length
   ·have hgI:¬ (1000 - (Q.length:Int)) < (f.l.length:Int):=by omega
    obtain ⟨css1,hr1,hlies1,hcl1,hone1⟩:=Rep.slice_open hlv
    have hs1:Q.length+f.l.length+sumL ((Q ++ f.l.map upF).drop (i+1))=totF fs:=by
     rw [List.drop_append_of_le_length (by omega),qm4,sumL_up]
     have:=hsum.out;omega
    have HS1:=qh hs1
    have HL1:=qh (hlies1.mono (S':=Any) (w':=wr) fun b hbl _=>⟨trivial,hB.block b hbl⟩)
    have HR1:Hid (RepN (Old w) w 3 (fdsD (Q ++ f.l.map upF)) (ys ++ css1)):=qh (by rw [qe4,qm3];exact RepN.append hr1 hrep)
    have HC1:=qh hcl1
    have HO1:=qh hone1
    have HW:=qh hown
    have HB:=qh hB
    clear hr1 hlies1 hcl1 hone1 hlv hown hrep hB hsum hdr hs1 hf d0 d1
    go_wp2_with (at_builtin;refine qa0 qfc rfl rfl w.heap.size HW.out rfl (m:=f.l.length) css1 rfl HC1.out HL1.out HO1.out (by simp only [maxLen];omega) (by omega) hBs ?_;intro v1 w4 hown4 hg4 hat4;obtain ⟨A2,c2,rfl⟩:=qa4 hown4)
    go_roundw
    case rel=>exact ⟨i+1,Q ++ f.l.map upF,ys ++ css1,by go_num,by simp;omega,by simp;omega,qh (by rw [List.length_append,List.length_map];exact HS1.out),by rw [List.length_append,List.length_map];exact hown4,HR1.out,qa7 HB.out HW.out hg4 hBs qn⟩
    case measure=>simp [intOf];omega
   ·have hgI:(1000 - (Q.length:Int)) < (f.l.length:Int):=by omega
    have hno:Hid (¬ totF fs≤1000):=qh (by have:=hsum.out;omega)
    clear hsum hdr hf hlv hrep d0 d1
    go_wp2_with fail
    go_ret
    exact ⟨false,rfl,fun h=>absurd h hno.out,hB⟩
  ·obtain rfl:i=Q.length:=by omega
   go_wp2_with fail
   go_ret
   exact ⟨true,by simp,fun _=>rfl,hB⟩
end Go.Proofs.YteoednifdpdbnaaGreat
