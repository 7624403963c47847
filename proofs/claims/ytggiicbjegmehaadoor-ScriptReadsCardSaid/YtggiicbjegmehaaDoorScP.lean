/- Plays in plain Lean: deeds, plans, their lines; of no program. -/
import Derived.Lib.Join
import Derived.Lib.ItoaNum
import Derived.Lib.ParseIntB
import Derived.Lib.Split
import Derived.Lib.SplitLaws
import Derived.Test.YtggiicbjegmehaaDoorScA
namespace Go.Proofs.YtggiicbjegmehaaDoor
set_option linter.unusedVariables false
set_option linter.unusedSimpArgs false

/-- a deed: kind, place, more, to whom, amount, count, in or out, bytes -/
structure Dd where
  k : Int
  a : Int
  m : Int
  t : Int
  n : Int
  c : Int
  ad : Bool
  b : Bytes
deriving DecidableEq
structure WfD (d : Dd) : Prop where
  k : -9223372036854775808 ≤ d.k ∧ d.k ≤ 9223372036854775807
  a : -9223372036854775808 ≤ d.a ∧ d.a ≤ 9223372036854775807
  m : -9223372036854775808 ≤ d.m ∧ d.m ≤ 9223372036854775807
  t : -9223372036854775808 ≤ d.t ∧ d.t ≤ 9223372036854775807
  n : 0 ≤ d.n ∧ d.n ≤ 18446744073709551615
  c : 0 ≤ d.c ∧ d.c ≤ 18446744073709551615
/-- may a deed be? -/
def okD (d : Dd) : Bool :=
  decide (1 ≤ d.k ∧ d.k ≤ 9 ∧ 0 ≤ d.a ∧ d.a ≤ 100000 ∧ 0 ≤ d.t ∧ d.t ≤ 6 ∧ 0 ≤ d.m ∧ d.m ≤ 100000 ∧ d.b.length ≤ 1000) &&
    decide ((d.k = 7 → d.m ≤ 6) ∧ (d.k ≠ 5 → d.k ≠ 7 → d.m = 0) ∧ (d.k ≠ 7 → d.k ≠ 8 → d.t = 0) ∧ (d.k ≠ 7 → d.n = 0 ∧ d.c = 0) ∧ (d.k ≠ 8 → d.ad = false) ∧ (d.k ≠ 9 → d.b = []))
/-- a deed with just what its kind uses -/
def plainD (d : Dd) : Dd :=
  if d.k = 5 then ⟨d.k, d.a, d.m, 0, 0, 0, false, []⟩
  else if d.k = 7 then ⟨d.k, d.a, d.m, d.t, d.n, d.c, false, []⟩
  else if d.k = 8 then ⟨d.k, d.a, 0, d.t, 0, 0, d.ad, []⟩
  else if d.k = 9 then ⟨d.k, d.a, 0, 0, 0, 0, false, d.b⟩
  else ⟨d.k, d.a, 0, 0, 0, 0, false, []⟩
def moreD (d : Dd) : Int := if d.k = 7 then 6 else 100000
/-- as the program asks it -/
theorem okD_prog (d : Dd) : okD d = (decide (0 ≤ d.k - 1 ∧ d.k - 1 ≤ 8) && decide (d = plainD d) && decide (0 ≤ d.a ∧ d.a ≤ 100000) && decide (0 ≤ d.m ∧ d.m ≤ moreD d) && decide (0 ≤ d.t ∧ d.t ≤ 6) && decide (d.b.length ≤ 1000)) := by
  obtain ⟨k, a, m, t, n, c, ad, b⟩ := d
  rw [Bool.eq_iff_iff]
  simp only [okD, plainD, moreD, Bool.and_eq_true, decide_eq_true_eq]
  by_cases h5 : k = 5
  · subst h5; simp; grind
  by_cases h7 : k = 7
  · subst h7; simp; grind
  by_cases h8 : k = 8
  · subst h8; simp; grind
  by_cases h9 : k = 9
  · subst h9; simp; grind
  simp [h5, h7, h8, h9]
  grind

/-- the words of kinds -/
def wordsP : List Bytes := [[104, 101, 97, 114], [108, 111, 115, 101], [116, 119, 105, 99, 101], [116, 105, 99, 107], [115, 116, 111, 112], [115, 116, 97, 114, 116], [112, 97, 121], [119, 105, 115, 104], [102, 101, 101, 100]]
def wordP (k : Int) : Bytes := wordsP.getD (k - 1).toNat []
def hexP (n : Nat) : UInt8 := [48, 49, 50, 51, 52, 53, 54, 55, 56, 57, 97, 98, 99, 100, 101, 102].getD n 0
def hexedP (b : Bytes) : Bytes := b.flatMap fun x => [hexP (x.toNat / 16), hexP (x.toNat % 16)]
def bytesP (b : Bytes) : Bytes := if b = [] then [45] else hexedP b
def decI (n : Int) : Bytes := decB n.toNat
/-- a deed's words, and its line -/
def fieldsD (d : Dd) : List Bytes :=
  if d.k = 5 then [decI d.m] else if d.k = 7 then [decI d.t, decI d.m, decI d.n, decI d.c] else if d.k = 8 then [decI d.t, if d.ad then [105, 110] else [111, 117, 116]] else if d.k = 9 then [bytesP d.b] else []
def lineP (d : Dd) : Bytes := Lib.join (wordP d.k :: decI d.a :: fieldsD d) [32]
structure Pl where
  many : Int
  set : Int
  ep : Int
  has : Int
  ds : List Dd
structure WfP (p : Pl) : Prop where
  many : -9223372036854775808 ≤ p.many ∧ p.many ≤ 9223372036854775807
  set : -9223372036854775808 ≤ p.set ∧ p.set ≤ 9223372036854775807
  ep : 0 ≤ p.ep ∧ p.ep ≤ 18446744073709551615
  has : 0 ≤ p.has ∧ p.has ≤ 18446744073709551615
  ds : ∀ d ∈ p.ds, WfD d
def headOk (p : Pl) : Bool := decide (2 ≤ p.many ∧ p.many ≤ 7 ∧ 2 ≤ p.set ∧ p.set ≤ p.many ∧ 1 ≤ p.ep ∧ p.ep ≤ 1000 ∧ p.has ≤ 1000000000 ∧ p.ds.length ≤ 400)
def okP (p : Pl) : Bool := headOk p && p.ds.all okD
def firstP (p : Pl) : Bytes := Lib.join [[110, 111, 100, 101, 115], decI p.many, decI p.set, decI p.ep, decI p.has] [32]
def textP (p : Pl) : Bytes := Lib.join (firstP p :: p.ds.map lineP) [10] ++ [10]
end Go.Proofs.YtggiicbjegmehaaDoor
