/- Signatures, transfers, headers and blocks in plain Lean: which may be, their bytes, and back; of no program. -/
import Derived.Test.YtdfmheademcbkaaGreatZ05
import Derived.Test.YtdfmheademcbkaaGreatZ01
import Derived.Test.YtdfmheademcbkaaGreatZ06
namespace Go.Proofs.YtdfmheademcbkaaGreat
set_option linter.unusedVariables false
set_option linter.unusedSimpArgs false
theorem zero64:(0:Nat) < 18446744073709551616:=by decide
/-- a signature -/
structure Sg where
 r:U4
 s:U4
 v:Int
deriving DecidableEq
structure Sg.Wf (x:Sg):Prop where
 r:x.r.Wf
 s:x.s.Wf
 v0:-9223372036854775808≤x.v
 v1:x.v≤9223372036854775807
/-- a transfer -/
structure Tr where
 to:Bytes
 am:Nat
 no:Nat
 sg:Sg
deriving DecidableEq
structure Tr.Wf (t:Tr):Prop where
 am:t.am < 18446744073709551616
 no:t.no < 18446744073709551616
 sg:t.sg.Wf
theorem leaf_num {n:Nat} (h:n < 18446744073709551616):(writeP (leafIt (digs n))).length≤9:=by
 have:=digs_len_lt 8 n (by omega)
 have:=leaf_len55 (digs n) (by omega)
 omega
/- Headers and blocks in plain Lean: which may be, their bytes, and back; of no program. -/
/-- a header -/
structure Hd where
 parent:Bytes
 height:Nat
 root:Bytes
 txs:Bytes
 prop:Bytes
 van:Bytes
 vals:List Bytes
 vote:Bytes
 add:Bool
 round:Nat
 seals:List Sg
structure Hd.Wf (h:Hd):Prop where
 height:h.height < 18446744073709551616
 round:h.round < 18446744073709551616
 seals:∀ x∈h.seals,x.Wf
/-- do addresses rise? -/
def riseV:Option Bytes→List Bytes→Bool
 | _,[]=>true
 | prev,a :: l=>a.length == 20 && (match prev with | none=>true | some p=>lessB p a) && riseV (some a) l
def okVals (l:List Bytes):Bool:=riseV none l && decide (1≤l.length) && decide (l.length≤16)
theorem riseV_len:∀ (l:List Bytes) (p:Option Bytes),riseV p l=true→∀ a∈l,a.length=20
 | [],_,_,a,h=>by cases h
 | b :: l,p,h,a,ha=>by
  simp only [riseV,Bool.and_eq_true,beq_iff_eq] at h
  rcases List.mem_cons.1 ha with rfl | ha
  ·exact h.1.1
  ·exact riseV_len l _ h.2 a ha
theorem okVals_len {l:List Bytes} (h:okVals l=true):(∀ a∈l,a.length=20)∧l.length≤16:=by
 unfold okVals at h
 simp only [Bool.and_eq_true,decide_eq_true_eq] at h
 exact ⟨riseV_len l _ h.1.1,h.2⟩
def valF (a:Bytes):Lf:=(0,a)
/-- a block -/
structure Bk where
 hd:Hd
 txs:List Tr
structure Bk.Wf (b:Bk):Prop where
 hd:b.hd.Wf
 txs:∀ t∈b.txs,t.Wf
end Go.Proofs.YtdfmheademcbkaaGreat
