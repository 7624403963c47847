/- A chain's beginning in plain Lean: which may be, and what its head is known by; of no program. -/
import Derived.Test.YtdfmheademcbkaaGreatZ07
import Derived.Test.YtdfmheademcbkaaGreatZ06
import Derived.Test.YtdfmheademcbkaaGreatZ36
import Derived.Test.YtdfmheademcbkaaGreatZ30
import Derived.Test.YtdfmheademcbkaaGreatZ40
namespace Go.Proofs.YtdfmheademcbkaaGreat
set_option linter.unusedVariables false
set_option linter.unusedSimpArgs false
open Go.RowKit
theorem encR_fine2 {ks:List Kd} {l:List Fd} (hk:ks.length≤20) (h:fitsP ks l=true) (hn:smallF l) (hl:(writeP (recF ks l)).length≤4000):encR (recF ks l)=(writeP (recF ks l),0):=by
 obtain ⟨a1,a2,a3,a4⟩:=rec_fine h hn hk
 unfold encR wellP
 rw [a2]
 simp only [Bool.true_and]
 rw [if_neg (by simp;omega),if_neg (by omega),if_neg (by omega)]
theorem rootP_len (l:List KV):(rootP l).length=32:=by
 unfold rootP;split <;> exact sumK_len _
/-- may a chain begin so? -/
def okBg (e:Nat) (l:List Ac) (s:List Bytes):Bool:=decide (0 < e) && (rightS l && okVals s)
def bgK:List Kd:=[⟨98,false⟩,⟨110,false⟩,⟨104,false⟩,⟨97,true⟩]
theorem bgK_ok:OkForm bgK:=by
 intro k hk
 simp only [bgK,List.mem_cons,List.not_mem_nil,or_false] at hk
 rcases hk with rfl | rfl | rfl | rfl <;> simp [okC]
def genB:Bytes:=[103,101,110,101,115,105,115]
def bgF (e:Nat) (r:Bytes) (s:List Bytes):List Fd:=[⟨0,genB,[]⟩,⟨e,[],[]⟩,⟨0,r,[]⟩,⟨0,[],s.map valF⟩]
def bgB (e:Nat) (r:Bytes) (s:List Bytes):Bytes:=writeP (recF bgK (bgF e r s))
theorem bgF_fits {e:Nat} {r:Bytes} {s:List Bytes} (hr:r.length=32) (hs:okVals s=true):fitsP bgK (bgF e r s)=true:=by
 obtain ⟨f1,f2⟩:=okVals_len hs
 have h1:(s.map valF).all (fitC 97)=true:=by
  rw [List.all_eq_true]
  intro x hx
  obtain ⟨y,hy,rfl⟩:=List.mem_map.1 hx
  simp [valF,fitC,sizeC,f1 y hy]
 have l1:(s.map valF).length≤40:=by rw [List.length_map];omega
 unfold bgK bgF
 generalize s.map valF=V at h1 l1 ⊢
 have e1:fitF ⟨97,true⟩ ⟨0,[],V⟩=true:=by simp only [fitF,if_true,h1,decide_eq_true l1];rfl
 simp only [fitsP,e1]
 simp [fitF,fitC,sizeC,hr,genB]
theorem bgF_small {e:Nat} {r:Bytes} {s:List Bytes} (he:e < 18446744073709551616):smallF (bgF e r s):=by
 intro f hf
 have hv:∀ x∈s.map valF,x.1 < 18446744073709551616:=fun x hx=>by
  obtain ⟨y,_,rfl⟩:=List.mem_map.1 hx
  show (0:Nat) < _;omega
 have hz:∀ x∈([]:List Lf),x.1 < 18446744073709551616:=fun x hx=>by cases hx
 simp only [bgF,List.mem_cons,List.not_mem_nil,or_false] at hf
 rcases hf with rfl | rfl | rfl | rfl
 ·exact ⟨zero64,hz⟩
 ·exact ⟨he,hz⟩
 ·exact ⟨zero64,hz⟩
 ·exact ⟨zero64,hv⟩
theorem bgB_len {e:Nat} {r:Bytes} {s:List Bytes} (he:e < 18446744073709551616) (hr:r.length=32) (hs:okVals s=true):(bgB e r s).length≤1000:=by
 obtain ⟨f1,f2⟩:=okVals_len hs
 have p1:=leaf_len55 genB (by decide)
 have p2:=leaf_num he
 have p3:=leaf_len55 r (by omega)
 have q1:=writes_le ((s.map valF).map (lfI 97)) 21 (fun x hx=>by
  obtain ⟨y,hy,rfl⟩:=List.mem_map.1 hx
  obtain ⟨z,hz,rfl⟩:=List.mem_map.1 hy
  have:=leaf_len55 z (by rw [f1 z hz];decide)
  rw [f1 z hz] at this
  exact this)
 simp only [List.length_map] at q1
 have hg:genB.length=7:=rfl
 have r1:=headP_len_le 192 _ (show (writesP ((s.map valF).map (lfI 97))).length < 65536 by omega)
 have p4:=list_len ((s.map valF).map (lfI 97))
 have hl:(writesP (itemsF bgK (bgF e r s))).length=(writeP (leafIt genB)).length+((writeP (leafIt (digs e))).length+((writeP (leafIt r)).length+(writeP (listIt ((s.map valF).map (lfI 97)))).length)):=by
  simp only [bgK,bgF,itemsF,itemF,lfI,writesP,List.length_append,List.length_nil]
  rfl
 unfold bgB recF
 rw [list_len]
 have:=headP_len_le 192 (writesP (itemsF bgK (bgF e r s))).length (by omega)
 omega
theorem bg_write {e:Nat} {r:Bytes} {s:List Bytes} (he:e < 18446744073709551616) (hr:r.length=32) (hs:okVals s=true):fwP bgK (bgF e r s)=(bgB e r s,0):=by
 unfold fwP
 rw [if_pos (bgF_fits hr hs),encR_fine2 (by decide) (bgF_fits hr hs) (bgF_small he) (by have:=bgB_len he hr hs;unfold bgB at this;omega)]
 rfl
/-- what a chain's head is known by, ahead of all blocks -/
def headC (e:Nat) (l:List Ac) (s:List Bytes):Bytes:=sumK (bgB e (rootP (pairsA l)) s)
theorem headC_len (e:Nat) (l:List Ac) (s:List Bytes):(headC e l s).length=32:=sumK_len _
end Go.Proofs.YtdfmheademcbkaaGreat
