/-
  No cell of these rows narrows 'for every input' (looked for: loops, veiled, ifaces, maps, wideKeys, modest, calm, conditions, laid).
  DERIVED. THE GIVEN ROWS OF THIS SEAT. 15 by the template 'for every input the law returns true; each argument reads behind the call as it read before'; 0 by the template 'total and deterministic' (their statements: YtmbbdblmengdhaaTotals.lean).
  GIVEN WITH THE SEED: the statements are not yours to turn. If you find one false, say at which input.
  Laid BY PROGRAM, IN A SANDBOX (cutbox-rows.mjs): the forced cells as the released guide's own fill.sh prints them over the translation 2b8336734661a41d… (all of the seat's roots in one cut). By AI agents, Wed Nov 11 2026. No macro, syntax, notation, axiom, sorry.
-/
import Derived.Test.YtmbbdblmengdhaaChecked
import GoSem.Claim
import GoSem.ClaimJoined
import GoSem.ClaimMapViews
import Derived.JoinedTies
import Derived.KernelRfl
namespace Go.Proofs.Ytmbbdblmengdhaa
/- THE CELL 'sum', in the pinned program and in every row, IS THE sha256 OF THE DUMP (.gsa) THAT YtmbbdblmengdhaaProg.lean LOADS. Nothing in Lean hashes anything: it is a label: what it is worth is what the hold of that sum in a sandbox is worth. -/
noncomputable def Try.pinned : Pinned := { name := "ytmbbdblmengdhaa", sum := "2b8336734661a41dfc05bff013eee0dd4c005efc5581d575841a930dcebb3a09", checked := Try.checked }
namespace Rows
def none {H : Type} : Left H := { results := [], args := [] }

/-- 'burrowlaw06.LadderClamps': WHATEVER THE INPUT: true; the input reads as it did. -/
def ladderClampsSpec : ChangeSpec := { name := "ladderClamps", fn := fun _ => fun
  | [d] => { results := [.lit (.bool true)], args := [d] }
  | _ => none }
def ladderClampsRow : OpenClaim := { program := "ytmbbdblmengdhaa", sum := "2b8336734661a41dfc05bff013eee0dd4c005efc5581d575841a930dcebb3a09", func := "burrow/burrowlaw06.LadderClamps", spec := "ladderClamps", apart := false }
def LadderClampsSaid : Prop := ladderClampsRow.holds Try.pinned (OpenSpec.ofChange ladderClampsSpec)

/-- ITS FALSE NEIGHBOUR: 'it returns false'. Refute it at one input. -/
def ladderClampsWrong : ChangeSpec := { name := "ladderClamps", fn := fun _ => fun
  | [d] => { results := [.lit (.bool false)], args := [d] }
  | _ => none }
def LadderClampsWrongFalsely : Prop := ladderClampsRow.holds Try.pinned (OpenSpec.ofChange ladderClampsWrong)

/-- 'burrowlaw05.FieldProducts': WHATEVER THE INPUT: true; the input reads as it did. -/
def fieldProductsSpec : ChangeSpec := { name := "fieldProducts", fn := fun _ => fun
  | [d1, d2] => { results := [.lit (.bool true)], args := [d1, d2] }
  | _ => none }
def fieldProductsRow : OpenClaim := { program := "ytmbbdblmengdhaa", sum := "2b8336734661a41dfc05bff013eee0dd4c005efc5581d575841a930dcebb3a09", func := "burrow/burrowlaw05.FieldProducts", spec := "fieldProducts", inPlace := ["math/bits.Add64"], apart := false }
def FieldProductsSaid : Prop := fieldProductsRow.holds Try.pinned (OpenSpec.ofChange fieldProductsSpec)

/-- ITS FALSE NEIGHBOUR: 'it returns false'. Refute it at one input. -/
def fieldProductsWrong : ChangeSpec := { name := "fieldProducts", fn := fun _ => fun
  | [d1, d2] => { results := [.lit (.bool false)], args := [d1, d2] }
  | _ => none }
def FieldProductsWrongFalsely : Prop := fieldProductsRow.holds Try.pinned (OpenSpec.ofChange fieldProductsWrong)

/-- 'burrowlaw05.FieldFrom': WHATEVER THE INPUT: true; the input reads as it did. -/
def fieldFromSpec : ChangeSpec := { name := "fieldFrom", fn := fun _ => fun
  | [d1, d2] => { results := [.lit (.bool true)], args := [d1, d2] }
  | _ => none }
def fieldFromRow : OpenClaim := { program := "ytmbbdblmengdhaa", sum := "2b8336734661a41dfc05bff013eee0dd4c005efc5581d575841a930dcebb3a09", func := "burrow/burrowlaw05.FieldFrom", spec := "fieldFrom", inPlace := ["math/bits.Add64"], recurses := true, apart := false }
def FieldFromSaid : Prop := fieldFromRow.holds Try.pinned (OpenSpec.ofChange fieldFromSpec)

/-- ITS FALSE NEIGHBOUR: 'it returns false'. Refute it at one input. -/
def fieldFromWrong : ChangeSpec := { name := "fieldFrom", fn := fun _ => fun
  | [d1, d2] => { results := [.lit (.bool false)], args := [d1, d2] }
  | _ => none }
def FieldFromWrongFalsely : Prop := fieldFromRow.holds Try.pinned (OpenSpec.ofChange fieldFromWrong)

/-- 'burrowlaw06.LadderSame': WHATEVER THE INPUT: true; the input reads as it did. -/
def ladderSameSpec : ChangeSpec := { name := "ladderSame", fn := fun _ => fun
  | [d1, d2, d3] => { results := [.lit (.bool true)], args := [d1, d2, d3] }
  | _ => none }
def ladderSameRow : OpenClaim := { program := "ytmbbdblmengdhaa", sum := "2b8336734661a41dfc05bff013eee0dd4c005efc5581d575841a930dcebb3a09", func := "burrow/burrowlaw06.LadderSame", spec := "ladderSame", inPlace := ["math/bits.Add64"], unfollowed := true, recurses := true, apart := false }
def LadderSameSaid : Prop := ladderSameRow.holds Try.pinned (OpenSpec.ofChange ladderSameSpec)

/-- ITS FALSE NEIGHBOUR: 'it returns false'. Refute it at one input. -/
def ladderSameWrong : ChangeSpec := { name := "ladderSame", fn := fun _ => fun
  | [d1, d2, d3] => { results := [.lit (.bool false)], args := [d1, d2, d3] }
  | _ => none }
def LadderSameWrongFalsely : Prop := ladderSameRow.holds Try.pinned (OpenSpec.ofChange ladderSameWrong)

/-- 'burrowlaw06.LadderThree': WHATEVER THE INPUT: true; the input reads as it did. -/
def ladderThreeSpec : ChangeSpec := { name := "ladderThree", fn := fun _ => fun
  | [d1, d2, d3] => { results := [.lit (.bool true)], args := [d1, d2, d3] }
  | _ => none }
def ladderThreeRow : OpenClaim := { program := "ytmbbdblmengdhaa", sum := "2b8336734661a41dfc05bff013eee0dd4c005efc5581d575841a930dcebb3a09", func := "burrow/burrowlaw06.LadderThree", spec := "ladderThree", inPlace := ["math/bits.Add64"], unfollowed := true, recurses := true, apart := false }
def LadderThreeSaid : Prop := ladderThreeRow.holds Try.pinned (OpenSpec.ofChange ladderThreeSpec)

/-- ITS FALSE NEIGHBOUR: 'it returns false'. Refute it at one input. -/
def ladderThreeWrong : ChangeSpec := { name := "ladderThree", fn := fun _ => fun
  | [d1, d2, d3] => { results := [.lit (.bool false)], args := [d1, d2, d3] }
  | _ => none }
def LadderThreeWrongFalsely : Prop := ladderThreeRow.holds Try.pinned (OpenSpec.ofChange ladderThreeWrong)

/-- 'burrowlaw05.FieldSums': WHATEVER THE INPUT: true; the input reads as it did. -/
def fieldSumsSpec : ChangeSpec := { name := "fieldSums", fn := fun _ => fun
  | [d1, d2] => { results := [.lit (.bool true)], args := [d1, d2] }
  | _ => none }
def fieldSumsRow : OpenClaim := { program := "ytmbbdblmengdhaa", sum := "2b8336734661a41dfc05bff013eee0dd4c005efc5581d575841a930dcebb3a09", func := "burrow/burrowlaw05.FieldSums", spec := "fieldSums", inPlace := ["math/bits.Add64"], apart := false }
def FieldSumsSaid : Prop := fieldSumsRow.holds Try.pinned (OpenSpec.ofChange fieldSumsSpec)

/-- ITS FALSE NEIGHBOUR: 'it returns false'. Refute it at one input. -/
def fieldSumsWrong : ChangeSpec := { name := "fieldSums", fn := fun _ => fun
  | [d1, d2] => { results := [.lit (.bool false)], args := [d1, d2] }
  | _ => none }
def FieldSumsWrongFalsely : Prop := fieldSumsRow.holds Try.pinned (OpenSpec.ofChange fieldSumsWrong)

/-- 'burrowlaw05.FieldRing': WHATEVER THE INPUT: true; the input reads as it did. -/
def fieldRingSpec : ChangeSpec := { name := "fieldRing", fn := fun _ => fun
  | [d1, d2, d3] => { results := [.lit (.bool true)], args := [d1, d2, d3] }
  | _ => none }
def fieldRingRow : OpenClaim := { program := "ytmbbdblmengdhaa", sum := "2b8336734661a41dfc05bff013eee0dd4c005efc5581d575841a930dcebb3a09", func := "burrow/burrowlaw05.FieldRing", spec := "fieldRing", inPlace := ["math/bits.Add64"], apart := false }
def FieldRingSaid : Prop := fieldRingRow.holds Try.pinned (OpenSpec.ofChange fieldRingSpec)

/-- ITS FALSE NEIGHBOUR: 'it returns false'. Refute it at one input. -/
def fieldRingWrong : ChangeSpec := { name := "fieldRing", fn := fun _ => fun
  | [d1, d2, d3] => { results := [.lit (.bool false)], args := [d1, d2, d3] }
  | _ => none }
def FieldRingWrongFalsely : Prop := fieldRingRow.holds Try.pinned (OpenSpec.ofChange fieldRingWrong)

/-- 'burrowlaw05.FieldPowers': WHATEVER THE INPUT: true; the input reads as it did. -/
def fieldPowersSpec : ChangeSpec := { name := "fieldPowers", fn := fun _ => fun
  | [d1, d2, d3] => { results := [.lit (.bool true)], args := [d1, d2, d3] }
  | _ => none }
def fieldPowersRow : OpenClaim := { program := "ytmbbdblmengdhaa", sum := "2b8336734661a41dfc05bff013eee0dd4c005efc5581d575841a930dcebb3a09", func := "burrow/burrowlaw05.FieldPowers", spec := "fieldPowers", inPlace := ["math/bits.Add64"], unfollowed := true, recurses := true, apart := false }
def FieldPowersSaid : Prop := fieldPowersRow.holds Try.pinned (OpenSpec.ofChange fieldPowersSpec)

/-- ITS FALSE NEIGHBOUR: 'it returns false'. Refute it at one input. -/
def fieldPowersWrong : ChangeSpec := { name := "fieldPowers", fn := fun _ => fun
  | [d1, d2, d3] => { results := [.lit (.bool false)], args := [d1, d2, d3] }
  | _ => none }
def FieldPowersWrongFalsely : Prop := fieldPowersRow.holds Try.pinned (OpenSpec.ofChange fieldPowersWrong)

/-- 'burrowlaw05.FieldInverse': WHATEVER THE INPUT: true; the input reads as it did. -/
def fieldInverseSpec : ChangeSpec := { name := "fieldInverse", fn := fun _ => fun
  | [d] => { results := [.lit (.bool true)], args := [d] }
  | _ => none }
def fieldInverseRow : OpenClaim := { program := "ytmbbdblmengdhaa", sum := "2b8336734661a41dfc05bff013eee0dd4c005efc5581d575841a930dcebb3a09", func := "burrow/burrowlaw05.FieldInverse", spec := "fieldInverse", inPlace := ["math/bits.Add64"], unfollowed := true, recurses := true, apart := false }
def FieldInverseSaid : Prop := fieldInverseRow.holds Try.pinned (OpenSpec.ofChange fieldInverseSpec)

/-- ITS FALSE NEIGHBOUR: 'it returns false'. Refute it at one input. -/
def fieldInverseWrong : ChangeSpec := { name := "fieldInverse", fn := fun _ => fun
  | [d] => { results := [.lit (.bool false)], args := [d] }
  | _ => none }
def FieldInverseWrongFalsely : Prop := fieldInverseRow.holds Try.pinned (OpenSpec.ofChange fieldInverseWrong)

/-- 'burrowlaw05.FieldDivides': WHATEVER THE INPUT: true; the input reads as it did. -/
def fieldDividesSpec : ChangeSpec := { name := "fieldDivides", fn := fun _ => fun
  | [d1, d2] => { results := [.lit (.bool true)], args := [d1, d2] }
  | _ => none }
def fieldDividesRow : OpenClaim := { program := "ytmbbdblmengdhaa", sum := "2b8336734661a41dfc05bff013eee0dd4c005efc5581d575841a930dcebb3a09", func := "burrow/burrowlaw05.FieldDivides", spec := "fieldDivides", inPlace := ["math/bits.Add64"], unfollowed := true, recurses := true, apart := false }
def FieldDividesSaid : Prop := fieldDividesRow.holds Try.pinned (OpenSpec.ofChange fieldDividesSpec)

/-- ITS FALSE NEIGHBOUR: 'it returns false'. Refute it at one input. -/
def fieldDividesWrong : ChangeSpec := { name := "fieldDivides", fn := fun _ => fun
  | [d1, d2] => { results := [.lit (.bool false)], args := [d1, d2] }
  | _ => none }
def FieldDividesWrongFalsely : Prop := fieldDividesRow.holds Try.pinned (OpenSpec.ofChange fieldDividesWrong)

/-- 'burrowlaw05.FieldRoots': WHATEVER THE INPUT: true; the input reads as it did. -/
def fieldRootsSpec : ChangeSpec := { name := "fieldRoots", fn := fun _ => fun
  | [d] => { results := [.lit (.bool true)], args := [d] }
  | _ => none }
def fieldRootsRow : OpenClaim := { program := "ytmbbdblmengdhaa", sum := "2b8336734661a41dfc05bff013eee0dd4c005efc5581d575841a930dcebb3a09", func := "burrow/burrowlaw05.FieldRoots", spec := "fieldRoots", inPlace := ["math/bits.Add64"], unfollowed := true, recurses := true, apart := false }
def FieldRootsSaid : Prop := fieldRootsRow.holds Try.pinned (OpenSpec.ofChange fieldRootsSpec)

/-- ITS FALSE NEIGHBOUR: 'it returns false'. Refute it at one input. -/
def fieldRootsWrong : ChangeSpec := { name := "fieldRoots", fn := fun _ => fun
  | [d] => { results := [.lit (.bool false)], args := [d] }
  | _ => none }
def FieldRootsWrongFalsely : Prop := fieldRootsRow.holds Try.pinned (OpenSpec.ofChange fieldRootsWrong)

/-- 'burrowlaw05.FieldSquares': WHATEVER THE INPUT: true; the input reads as it did. -/
def fieldSquaresSpec : ChangeSpec := { name := "fieldSquares", fn := fun _ => fun
  | [d] => { results := [.lit (.bool true)], args := [d] }
  | _ => none }
def fieldSquaresRow : OpenClaim := { program := "ytmbbdblmengdhaa", sum := "2b8336734661a41dfc05bff013eee0dd4c005efc5581d575841a930dcebb3a09", func := "burrow/burrowlaw05.FieldSquares", spec := "fieldSquares", inPlace := ["math/bits.Add64"], unfollowed := true, recurses := true, apart := false }
def FieldSquaresSaid : Prop := fieldSquaresRow.holds Try.pinned (OpenSpec.ofChange fieldSquaresSpec)

/-- ITS FALSE NEIGHBOUR: 'it returns false'. Refute it at one input. -/
def fieldSquaresWrong : ChangeSpec := { name := "fieldSquares", fn := fun _ => fun
  | [d] => { results := [.lit (.bool false)], args := [d] }
  | _ => none }
def FieldSquaresWrongFalsely : Prop := fieldSquaresRow.holds Try.pinned (OpenSpec.ofChange fieldSquaresWrong)

/-- 'burrowlaw06.LadderPublic': WHATEVER THE INPUT: true; the input reads as it did. -/
def ladderPublicSpec : ChangeSpec := { name := "ladderPublic", fn := fun _ => fun
  | [d] => { results := [.lit (.bool true)], args := [d] }
  | _ => none }
def ladderPublicRow : OpenClaim := { program := "ytmbbdblmengdhaa", sum := "2b8336734661a41dfc05bff013eee0dd4c005efc5581d575841a930dcebb3a09", func := "burrow/burrowlaw06.LadderPublic", spec := "ladderPublic", inPlace := ["math/bits.Add64"], unfollowed := true, recurses := true, apart := false }
def LadderPublicSaid : Prop := ladderPublicRow.holds Try.pinned (OpenSpec.ofChange ladderPublicSpec)

/-- ITS FALSE NEIGHBOUR: 'it returns false'. Refute it at one input. -/
def ladderPublicWrong : ChangeSpec := { name := "ladderPublic", fn := fun _ => fun
  | [d] => { results := [.lit (.bool false)], args := [d] }
  | _ => none }
def LadderPublicWrongFalsely : Prop := ladderPublicRow.holds Try.pinned (OpenSpec.ofChange ladderPublicWrong)

/-- 'burrowlaw06.LadderAgrees': WHATEVER THE INPUT: true; the input reads as it did. -/
def ladderAgreesSpec : ChangeSpec := { name := "ladderAgrees", fn := fun _ => fun
  | [d1, d2] => { results := [.lit (.bool true)], args := [d1, d2] }
  | _ => none }
def ladderAgreesRow : OpenClaim := { program := "ytmbbdblmengdhaa", sum := "2b8336734661a41dfc05bff013eee0dd4c005efc5581d575841a930dcebb3a09", func := "burrow/burrowlaw06.LadderAgrees", spec := "ladderAgrees", inPlace := ["math/bits.Add64"], unfollowed := true, recurses := true, apart := false }
def LadderAgreesSaid : Prop := ladderAgreesRow.holds Try.pinned (OpenSpec.ofChange ladderAgreesSpec)

/-- ITS FALSE NEIGHBOUR: 'it returns false'. Refute it at one input. -/
def ladderAgreesWrong : ChangeSpec := { name := "ladderAgrees", fn := fun _ => fun
  | [d1, d2] => { results := [.lit (.bool false)], args := [d1, d2] }
  | _ => none }
def LadderAgreesWrongFalsely : Prop := ladderAgreesRow.holds Try.pinned (OpenSpec.ofChange ladderAgreesWrong)

/-- 'burrowlaw06.LadderBoth': WHATEVER THE INPUT: true; the input reads as it did. -/
def ladderBothSpec : ChangeSpec := { name := "ladderBoth", fn := fun _ => fun
  | [d1, d2] => { results := [.lit (.bool true)], args := [d1, d2] }
  | _ => none }
def ladderBothRow : OpenClaim := { program := "ytmbbdblmengdhaa", sum := "2b8336734661a41dfc05bff013eee0dd4c005efc5581d575841a930dcebb3a09", func := "burrow/burrowlaw06.LadderBoth", spec := "ladderBoth", inPlace := ["math/bits.Add64"], unfollowed := true, recurses := true, apart := false }
def LadderBothSaid : Prop := ladderBothRow.holds Try.pinned (OpenSpec.ofChange ladderBothSpec)

/-- ITS FALSE NEIGHBOUR: 'it returns false'. Refute it at one input. -/
def ladderBothWrong : ChangeSpec := { name := "ladderBoth", fn := fun _ => fun
  | [d1, d2] => { results := [.lit (.bool false)], args := [d1, d2] }
  | _ => none }
def LadderBothWrongFalsely : Prop := ladderBothRow.holds Try.pinned (OpenSpec.ofChange ladderBothWrong)

/- THE SECOND FORM. 'bulk': how many values and letters a reading holds, each counted each time it is reached (what is shared counts as often as it is met; a slice's spare places count too). A statement '..UptoSaid' is the law's where the arguments, and the package variables that the reading takes, are together of bulk at most 1048576: NARROWER than '..Said'. Prove '..Said' where nothing that the law and all that it calls make is longer than what came in: it says more and counts as full. Else prove '..UptoSaid'. A law counts once. -/
mutual
def uptoBulk {H : Type} : DataW H → Nat
  | .lit (.string bytes) => bytes.length + 1
  | .lit _ => 1
  | .nil => 1
  | .ptr d => uptoBulk d + 1
  | .slice elems spare => uptoBulkAll elems + uptoBulkAll spare + 1
  | .agg parts => uptoBulkAll parts + 1
  | .iface _ d => uptoBulk d + 1
  | .map entries => uptoBulkEntries entries + 1
  | .held _ => 1
def uptoBulkAll {H : Type} : List (DataW H) → Nat
  | [] => 0
  | d :: r => uptoBulk d + uptoBulkAll r
def uptoBulkEntries {H : Type} : List (Lit × DataW H) → Nat
  | [] => 0
  | x :: r => uptoBulkEntry x + uptoBulkEntries r
def uptoBulkEntry {H : Type} : Lit × DataW H → Nat
  | (.string bytes, d) => bytes.length + uptoBulk d + 1
  | (_, d) => uptoBulk d + 1
 end
def uptoSmall : (H : Type) → List (DataW H) → Bool := fun _ ds => decide (uptoBulkAll ds ≤ 1048576)
def OpenSpec.upto (s : _root_.Go.ChangeSpec) : _root_.Go.OpenSpec := { _root_.Go.OpenSpec.ofChange s with cond := some uptoSmall }

/-- 'burrowlaw06.LadderClamps', WHERE WHAT IT READS IS OF BULK AT MOST 1048576: true; the input reads as it did. -/
def ladderClampsUptoRow : OpenClaim := { program := "ytmbbdblmengdhaa", sum := "2b8336734661a41dfc05bff013eee0dd4c005efc5581d575841a930dcebb3a09", func := "burrow/burrowlaw06.LadderClamps", spec := "ladderClamps", apart := false, narrowed := true }
def LadderClampsUptoSaid : Prop := ladderClampsUptoRow.holds Try.pinned (OpenSpec.upto ladderClampsSpec)

/-- 'burrowlaw05.FieldProducts', WHERE WHAT IT READS IS OF BULK AT MOST 1048576: true; the input reads as it did. -/
def fieldProductsUptoRow : OpenClaim := { program := "ytmbbdblmengdhaa", sum := "2b8336734661a41dfc05bff013eee0dd4c005efc5581d575841a930dcebb3a09", func := "burrow/burrowlaw05.FieldProducts", spec := "fieldProducts", inPlace := ["math/bits.Add64"], apart := false, narrowed := true }
def FieldProductsUptoSaid : Prop := fieldProductsUptoRow.holds Try.pinned (OpenSpec.upto fieldProductsSpec)

/-- 'burrowlaw05.FieldFrom', WHERE WHAT IT READS IS OF BULK AT MOST 1048576: true; the input reads as it did. -/
def fieldFromUptoRow : OpenClaim := { program := "ytmbbdblmengdhaa", sum := "2b8336734661a41dfc05bff013eee0dd4c005efc5581d575841a930dcebb3a09", func := "burrow/burrowlaw05.FieldFrom", spec := "fieldFrom", inPlace := ["math/bits.Add64"], recurses := true, apart := false, narrowed := true }
def FieldFromUptoSaid : Prop := fieldFromUptoRow.holds Try.pinned (OpenSpec.upto fieldFromSpec)

/-- 'burrowlaw06.LadderSame', WHERE WHAT IT READS IS OF BULK AT MOST 1048576: true; the input reads as it did. -/
def ladderSameUptoRow : OpenClaim := { program := "ytmbbdblmengdhaa", sum := "2b8336734661a41dfc05bff013eee0dd4c005efc5581d575841a930dcebb3a09", func := "burrow/burrowlaw06.LadderSame", spec := "ladderSame", inPlace := ["math/bits.Add64"], unfollowed := true, recurses := true, apart := false, narrowed := true }
def LadderSameUptoSaid : Prop := ladderSameUptoRow.holds Try.pinned (OpenSpec.upto ladderSameSpec)

/-- 'burrowlaw06.LadderThree', WHERE WHAT IT READS IS OF BULK AT MOST 1048576: true; the input reads as it did. -/
def ladderThreeUptoRow : OpenClaim := { program := "ytmbbdblmengdhaa", sum := "2b8336734661a41dfc05bff013eee0dd4c005efc5581d575841a930dcebb3a09", func := "burrow/burrowlaw06.LadderThree", spec := "ladderThree", inPlace := ["math/bits.Add64"], unfollowed := true, recurses := true, apart := false, narrowed := true }
def LadderThreeUptoSaid : Prop := ladderThreeUptoRow.holds Try.pinned (OpenSpec.upto ladderThreeSpec)

/-- 'burrowlaw05.FieldSums', WHERE WHAT IT READS IS OF BULK AT MOST 1048576: true; the input reads as it did. -/
def fieldSumsUptoRow : OpenClaim := { program := "ytmbbdblmengdhaa", sum := "2b8336734661a41dfc05bff013eee0dd4c005efc5581d575841a930dcebb3a09", func := "burrow/burrowlaw05.FieldSums", spec := "fieldSums", inPlace := ["math/bits.Add64"], apart := false, narrowed := true }
def FieldSumsUptoSaid : Prop := fieldSumsUptoRow.holds Try.pinned (OpenSpec.upto fieldSumsSpec)

/-- 'burrowlaw05.FieldRing', WHERE WHAT IT READS IS OF BULK AT MOST 1048576: true; the input reads as it did. -/
def fieldRingUptoRow : OpenClaim := { program := "ytmbbdblmengdhaa", sum := "2b8336734661a41dfc05bff013eee0dd4c005efc5581d575841a930dcebb3a09", func := "burrow/burrowlaw05.FieldRing", spec := "fieldRing", inPlace := ["math/bits.Add64"], apart := false, narrowed := true }
def FieldRingUptoSaid : Prop := fieldRingUptoRow.holds Try.pinned (OpenSpec.upto fieldRingSpec)

/-- 'burrowlaw05.FieldPowers', WHERE WHAT IT READS IS OF BULK AT MOST 1048576: true; the input reads as it did. -/
def fieldPowersUptoRow : OpenClaim := { program := "ytmbbdblmengdhaa", sum := "2b8336734661a41dfc05bff013eee0dd4c005efc5581d575841a930dcebb3a09", func := "burrow/burrowlaw05.FieldPowers", spec := "fieldPowers", inPlace := ["math/bits.Add64"], unfollowed := true, recurses := true, apart := false, narrowed := true }
def FieldPowersUptoSaid : Prop := fieldPowersUptoRow.holds Try.pinned (OpenSpec.upto fieldPowersSpec)

/-- 'burrowlaw05.FieldInverse', WHERE WHAT IT READS IS OF BULK AT MOST 1048576: true; the input reads as it did. -/
def fieldInverseUptoRow : OpenClaim := { program := "ytmbbdblmengdhaa", sum := "2b8336734661a41dfc05bff013eee0dd4c005efc5581d575841a930dcebb3a09", func := "burrow/burrowlaw05.FieldInverse", spec := "fieldInverse", inPlace := ["math/bits.Add64"], unfollowed := true, recurses := true, apart := false, narrowed := true }
def FieldInverseUptoSaid : Prop := fieldInverseUptoRow.holds Try.pinned (OpenSpec.upto fieldInverseSpec)

/-- 'burrowlaw05.FieldDivides', WHERE WHAT IT READS IS OF BULK AT MOST 1048576: true; the input reads as it did. -/
def fieldDividesUptoRow : OpenClaim := { program := "ytmbbdblmengdhaa", sum := "2b8336734661a41dfc05bff013eee0dd4c005efc5581d575841a930dcebb3a09", func := "burrow/burrowlaw05.FieldDivides", spec := "fieldDivides", inPlace := ["math/bits.Add64"], unfollowed := true, recurses := true, apart := false, narrowed := true }
def FieldDividesUptoSaid : Prop := fieldDividesUptoRow.holds Try.pinned (OpenSpec.upto fieldDividesSpec)

/-- 'burrowlaw05.FieldRoots', WHERE WHAT IT READS IS OF BULK AT MOST 1048576: true; the input reads as it did. -/
def fieldRootsUptoRow : OpenClaim := { program := "ytmbbdblmengdhaa", sum := "2b8336734661a41dfc05bff013eee0dd4c005efc5581d575841a930dcebb3a09", func := "burrow/burrowlaw05.FieldRoots", spec := "fieldRoots", inPlace := ["math/bits.Add64"], unfollowed := true, recurses := true, apart := false, narrowed := true }
def FieldRootsUptoSaid : Prop := fieldRootsUptoRow.holds Try.pinned (OpenSpec.upto fieldRootsSpec)

/-- 'burrowlaw05.FieldSquares', WHERE WHAT IT READS IS OF BULK AT MOST 1048576: true; the input reads as it did. -/
def fieldSquaresUptoRow : OpenClaim := { program := "ytmbbdblmengdhaa", sum := "2b8336734661a41dfc05bff013eee0dd4c005efc5581d575841a930dcebb3a09", func := "burrow/burrowlaw05.FieldSquares", spec := "fieldSquares", inPlace := ["math/bits.Add64"], unfollowed := true, recurses := true, apart := false, narrowed := true }
def FieldSquaresUptoSaid : Prop := fieldSquaresUptoRow.holds Try.pinned (OpenSpec.upto fieldSquaresSpec)

/-- 'burrowlaw06.LadderPublic', WHERE WHAT IT READS IS OF BULK AT MOST 1048576: true; the input reads as it did. -/
def ladderPublicUptoRow : OpenClaim := { program := "ytmbbdblmengdhaa", sum := "2b8336734661a41dfc05bff013eee0dd4c005efc5581d575841a930dcebb3a09", func := "burrow/burrowlaw06.LadderPublic", spec := "ladderPublic", inPlace := ["math/bits.Add64"], unfollowed := true, recurses := true, apart := false, narrowed := true }
def LadderPublicUptoSaid : Prop := ladderPublicUptoRow.holds Try.pinned (OpenSpec.upto ladderPublicSpec)

/-- 'burrowlaw06.LadderAgrees', WHERE WHAT IT READS IS OF BULK AT MOST 1048576: true; the input reads as it did. -/
def ladderAgreesUptoRow : OpenClaim := { program := "ytmbbdblmengdhaa", sum := "2b8336734661a41dfc05bff013eee0dd4c005efc5581d575841a930dcebb3a09", func := "burrow/burrowlaw06.LadderAgrees", spec := "ladderAgrees", inPlace := ["math/bits.Add64"], unfollowed := true, recurses := true, apart := false, narrowed := true }
def LadderAgreesUptoSaid : Prop := ladderAgreesUptoRow.holds Try.pinned (OpenSpec.upto ladderAgreesSpec)

/-- 'burrowlaw06.LadderBoth', WHERE WHAT IT READS IS OF BULK AT MOST 1048576: true; the input reads as it did. -/
def ladderBothUptoRow : OpenClaim := { program := "ytmbbdblmengdhaa", sum := "2b8336734661a41dfc05bff013eee0dd4c005efc5581d575841a930dcebb3a09", func := "burrow/burrowlaw06.LadderBoth", spec := "ladderBoth", inPlace := ["math/bits.Add64"], unfollowed := true, recurses := true, apart := false, narrowed := true }
def LadderBothUptoSaid : Prop := ladderBothUptoRow.holds Try.pinned (OpenSpec.upto ladderBothSpec)

end Rows
end Go.Proofs.Ytmbbdblmengdhaa
