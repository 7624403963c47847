/-
  No cell of these rows narrows 'for every input' (looked for: loops, veiled, ifaces, maps, wideKeys, modest, calm, conditions, laid).
  DERIVED. THE GIVEN ROWS OF THIS SEAT. 4 by the template 'for every input the law returns true; each argument reads behind the call as it read before'; 0 by the template 'total and deterministic' (their statements: YteoednifdpdbnaaGreatTotals.lean).
  GIVEN WITH THE SEED: the statements are not yours to turn. If you find one false, say at which input.
  Laid BY PROGRAM, IN A SANDBOX (cutbox-rows.mjs): the forced cells as the released guide's own fill.sh prints them over the translation 69502cbcdd3c6f1a… (all of the seat's roots in one cut). By AI agents, Wed Nov 11 2026. No macro, syntax, notation, axiom, sorry.
-/
import Derived.Test.YteoednifdpdbnaaGreatChecked
import GoSem.Claim
import GoSem.ClaimJoined
import GoSem.ClaimMapViews
import Derived.JoinedTies
import Derived.KernelRfl
namespace Go.Proofs.YteoednifdpdbnaaGreat
/- THE CELL 'sum', in the pinned program and in every row, IS THE sha256 OF THE DUMP (.gsa) THAT YteoednifdpdbnaaGreatProg.lean LOADS. Nothing in Lean hashes anything: it is a label: what it is worth is what the hold of that sum in a sandbox is worth. -/
noncomputable def Tryz.pinned : Pinned := { name := "yteoednifdpdbnaagreat", sum := "69502cbcdd3c6f1a28aac8c94f4a49f94e3eefcf8922830c68caca085f5a0062", checked := Tryz.checked }
namespace Rows
def none {H : Type} : Left H := { results := [], args := [] }

/-- 'ecclesialaw14.TxBytes': WHATEVER THE INPUT: true; the input reads as it did. -/
def txBytesSpec : ChangeSpec := { name := "txBytes", fn := fun _ => fun
  | [d1, d2] => { results := [.lit (.bool true)], args := [d1, d2] }
  | _ => none }
def txBytesRow : OpenClaim := { program := "yteoednifdpdbnaagreat", sum := "69502cbcdd3c6f1a28aac8c94f4a49f94e3eefcf8922830c68caca085f5a0062", func := "ecclesia/ecclesialaw14.TxBytes", spec := "txBytes", inPlace := ["math/bits.Sub64", "math/bits.Add64", "internal/abi.NoEscape", "internal/bytealg.MakeNoZero"], unfollowed := true, recurses := true, apart := false }
def TxBytesSaid : Prop := txBytesRow.holds Tryz.pinned (OpenSpec.ofChange txBytesSpec)

/-- ITS FALSE NEIGHBOUR: 'it returns false'. Refute it at one input. -/
def txBytesWrong : ChangeSpec := { name := "txBytes", fn := fun _ => fun
  | [d1, d2] => { results := [.lit (.bool false)], args := [d1, d2] }
  | _ => none }
def TxBytesWrongFalsely : Prop := txBytesRow.holds Tryz.pinned (OpenSpec.ofChange txBytesWrong)

/-- 'ecclesialaw21.MsgOne': WHATEVER THE INPUT: true; the input reads as it did. -/
def msgOneSpec : ChangeSpec := { name := "msgOne", fn := fun _ => fun
  | [d1, d2] => { results := [.lit (.bool true)], args := [d1, d2] }
  | _ => none }
def msgOneRow : OpenClaim := { program := "yteoednifdpdbnaagreat", sum := "69502cbcdd3c6f1a28aac8c94f4a49f94e3eefcf8922830c68caca085f5a0062", func := "ecclesia/ecclesialaw21.MsgOne", spec := "msgOne", inPlace := ["math/bits.Sub64", "math/bits.Add64", "internal/abi.NoEscape", "internal/bytealg.MakeNoZero"], unfollowed := true, recurses := true, apart := false }
def MsgOneSaid : Prop := msgOneRow.holds Tryz.pinned (OpenSpec.ofChange msgOneSpec)

/-- ITS FALSE NEIGHBOUR: 'it returns false'. Refute it at one input. -/
def msgOneWrong : ChangeSpec := { name := "msgOne", fn := fun _ => fun
  | [d1, d2] => { results := [.lit (.bool false)], args := [d1, d2] }
  | _ => none }
def MsgOneWrongFalsely : Prop := msgOneRow.holds Tryz.pinned (OpenSpec.ofChange msgOneWrong)

/-- 'ecclesialaw21.MsgBytes': WHATEVER THE INPUT: true; the input reads as it did. -/
def msgBytesSpec : ChangeSpec := { name := "msgBytes", fn := fun _ => fun
  | [d1, d2] => { results := [.lit (.bool true)], args := [d1, d2] }
  | _ => none }
def msgBytesRow : OpenClaim := { program := "yteoednifdpdbnaagreat", sum := "69502cbcdd3c6f1a28aac8c94f4a49f94e3eefcf8922830c68caca085f5a0062", func := "ecclesia/ecclesialaw21.MsgBytes", spec := "msgBytes", inPlace := ["math/bits.Sub64", "math/bits.Add64", "internal/abi.NoEscape", "internal/bytealg.MakeNoZero"], unfollowed := true, recurses := true, apart := false }
def MsgBytesSaid : Prop := msgBytesRow.holds Tryz.pinned (OpenSpec.ofChange msgBytesSpec)

/-- ITS FALSE NEIGHBOUR: 'it returns false'. Refute it at one input. -/
def msgBytesWrong : ChangeSpec := { name := "msgBytes", fn := fun _ => fun
  | [d1, d2] => { results := [.lit (.bool false)], args := [d1, d2] }
  | _ => none }
def MsgBytesWrongFalsely : Prop := msgBytesRow.holds Tryz.pinned (OpenSpec.ofChange msgBytesWrong)

/-- 'ecclesialaw16.PoolWild': WHATEVER THE INPUT: true; the input reads as it did. -/
def poolWildSpec : ChangeSpec := { name := "poolWild", fn := fun _ => fun
  | [d1, d2, d3] => { results := [.lit (.bool true)], args := [d1, d2, d3] }
  | _ => none }
def poolWildRow : OpenClaim := { program := "yteoednifdpdbnaagreat", sum := "69502cbcdd3c6f1a28aac8c94f4a49f94e3eefcf8922830c68caca085f5a0062", func := "ecclesia/ecclesialaw16.PoolWild", spec := "poolWild", inPlace := ["math/bits.Sub64", "math/bits.Add64", "internal/abi.NoEscape", "internal/bytealg.MakeNoZero", "internal/bytealg.abigen_runtime_cmpstring", "slices.overlaps[ecclesia/api.Account]", "slices.overlaps[ecclesia/api.Tx]"], unfollowed := true, recurses := true, apart := false }
def PoolWildSaid : Prop := poolWildRow.holds Tryz.pinned (OpenSpec.ofChange poolWildSpec)

/-- ITS FALSE NEIGHBOUR: 'it returns false'. Refute it at one input. -/
def poolWildWrong : ChangeSpec := { name := "poolWild", fn := fun _ => fun
  | [d1, d2, d3] => { results := [.lit (.bool false)], args := [d1, d2, d3] }
  | _ => none }
def PoolWildWrongFalsely : Prop := poolWildRow.holds Tryz.pinned (OpenSpec.ofChange poolWildWrong)

/- THE SECOND FORM. 'bulk': how many values and letters a reading holds, each counted each time it is reached (what is shared counts as often as it is met; a slice's spare places count too). A statement '..UptoSaid' is the law's where the arguments, and the package variables that the reading takes, are together of bulk at most 1048576: NARROWER than '..Said'. Prove '..Said' where nothing that the law and all that it calls make is longer than what came in: it says more and counts as full. Else prove '..UptoSaid'. A law counts once. -/
mutual
def uptoBulk {H : Type} : DataW H → Nat
  | .lit (.string bytes) => bytes.length + 1
  | .lit _ => 1
  | .nil => 1
  | .ptr d => uptoBulk d + 1
  | .slice elems spare => uptoBulkAll elems + uptoBulkAll spare + 1
  | .agg parts => uptoBulkAll parts + 1
  | .iface _ d => uptoBulk d + 1
  | .map entries => uptoBulkEntries entries + 1
  | .held _ => 1
def uptoBulkAll {H : Type} : List (DataW H) → Nat
  | [] => 0
  | d :: r => uptoBulk d + uptoBulkAll r
def uptoBulkEntries {H : Type} : List (Lit × DataW H) → Nat
  | [] => 0
  | x :: r => uptoBulkEntry x + uptoBulkEntries r
def uptoBulkEntry {H : Type} : Lit × DataW H → Nat
  | (.string bytes, d) => bytes.length + uptoBulk d + 1
  | (_, d) => uptoBulk d + 1
 end
def uptoSmall : (H : Type) → List (DataW H) → Bool := fun _ ds => decide (uptoBulkAll ds ≤ 1048576)
def OpenSpec.upto (s : _root_.Go.ChangeSpec) : _root_.Go.OpenSpec := { _root_.Go.OpenSpec.ofChange s with cond := some uptoSmall }

/-- 'ecclesialaw14.TxBytes', WHERE WHAT IT READS IS OF BULK AT MOST 1048576: true; the input reads as it did. -/
def txBytesUptoRow : OpenClaim := { program := "yteoednifdpdbnaagreat", sum := "69502cbcdd3c6f1a28aac8c94f4a49f94e3eefcf8922830c68caca085f5a0062", func := "ecclesia/ecclesialaw14.TxBytes", spec := "txBytes", inPlace := ["math/bits.Sub64", "math/bits.Add64", "internal/abi.NoEscape", "internal/bytealg.MakeNoZero"], unfollowed := true, recurses := true, apart := false, narrowed := true }
def TxBytesUptoSaid : Prop := txBytesUptoRow.holds Tryz.pinned (OpenSpec.upto txBytesSpec)

/-- 'ecclesialaw21.MsgOne', WHERE WHAT IT READS IS OF BULK AT MOST 1048576: true; the input reads as it did. -/
def msgOneUptoRow : OpenClaim := { program := "yteoednifdpdbnaagreat", sum := "69502cbcdd3c6f1a28aac8c94f4a49f94e3eefcf8922830c68caca085f5a0062", func := "ecclesia/ecclesialaw21.MsgOne", spec := "msgOne", inPlace := ["math/bits.Sub64", "math/bits.Add64", "internal/abi.NoEscape", "internal/bytealg.MakeNoZero"], unfollowed := true, recurses := true, apart := false, narrowed := true }
def MsgOneUptoSaid : Prop := msgOneUptoRow.holds Tryz.pinned (OpenSpec.upto msgOneSpec)

/-- 'ecclesialaw21.MsgBytes', WHERE WHAT IT READS IS OF BULK AT MOST 1048576: true; the input reads as it did. -/
def msgBytesUptoRow : OpenClaim := { program := "yteoednifdpdbnaagreat", sum := "69502cbcdd3c6f1a28aac8c94f4a49f94e3eefcf8922830c68caca085f5a0062", func := "ecclesia/ecclesialaw21.MsgBytes", spec := "msgBytes", inPlace := ["math/bits.Sub64", "math/bits.Add64", "internal/abi.NoEscape", "internal/bytealg.MakeNoZero"], unfollowed := true, recurses := true, apart := false, narrowed := true }
def MsgBytesUptoSaid : Prop := msgBytesUptoRow.holds Tryz.pinned (OpenSpec.upto msgBytesSpec)

/-- 'ecclesialaw16.PoolWild', WHERE WHAT IT READS IS OF BULK AT MOST 1048576: true; the input reads as it did. -/
def poolWildUptoRow : OpenClaim := { program := "yteoednifdpdbnaagreat", sum := "69502cbcdd3c6f1a28aac8c94f4a49f94e3eefcf8922830c68caca085f5a0062", func := "ecclesia/ecclesialaw16.PoolWild", spec := "poolWild", inPlace := ["math/bits.Sub64", "math/bits.Add64", "internal/abi.NoEscape", "internal/bytealg.MakeNoZero", "internal/bytealg.abigen_runtime_cmpstring", "slices.overlaps[ecclesia/api.Account]", "slices.overlaps[ecclesia/api.Tx]"], unfollowed := true, recurses := true, apart := false, narrowed := true }
def PoolWildUptoSaid : Prop := poolWildUptoRow.holds Tryz.pinned (OpenSpec.upto poolWildSpec)

end Rows
end Go.Proofs.YteoednifdpdbnaaGreat
