/-
  No cell of these rows narrows 'for every input' (looked for: loops, veiled, ifaces, maps, wideKeys, modest, calm, conditions, laid).
  DERIVED. THE GIVEN ROWS OF THIS SEAT. 17 by the template 'for every input the law returns true; each argument reads behind the call as it read before'; 0 by the template 'total and deterministic' (their statements: YteikhnmmkanndaaTotals.lean).
  GIVEN WITH THE SEED: the statements are not yours to turn. If you find one false, say at which input.
  Laid BY PROGRAM, IN A SANDBOX (cutbox-rows.mjs): the forced cells as the released guide's own fill.sh prints them over the translation bcafb2cc51782e9c… (all of the seat's roots in one cut). By AI agents, Wed Nov 11 2026. No macro, syntax, notation, axiom, sorry.
-/
import Derived.Test.YteikhnmmkanndaaChecked
import GoSem.Claim
import GoSem.ClaimJoined
import GoSem.ClaimMapViews
import Derived.JoinedTies
import Derived.KernelRfl
namespace Go.Proofs.Yteikhnmmkanndaa
/- THE CELL 'sum', in the pinned program and in every row, IS THE sha256 OF THE DUMP (.gsa) THAT YteikhnmmkanndaaProg.lean LOADS. Nothing in Lean hashes anything: it is a label: what it is worth is what the hold of that sum in a sandbox is worth. -/
noncomputable def Try.pinned : Pinned := { name := "yteikhnmmkanndaa", sum := "bcafb2cc51782e9cb122494fdbad12c602d1f407894677e538c75995e4fce478", checked := Try.checked }
namespace Rows
def none {H : Type} : Left H := { results := [], args := [] }

/-- 'locutionlaw25.NatBack': WHATEVER THE INPUT: true; the input reads as it did. -/
def natBackSpec : ChangeSpec := { name := "natBack", fn := fun _ => fun
  | [d1, d2, d3] => { results := [.lit (.bool true)], args := [d1, d2, d3] }
  | _ => none }
def natBackRow : OpenClaim := { program := "yteikhnmmkanndaa", sum := "bcafb2cc51782e9cb122494fdbad12c602d1f407894677e538c75995e4fce478", func := "locution/locutionlaw25.NatBack", spec := "natBack", inPlace := ["math/bits.Add64", "math/bits.Sub64"], unfollowed := true, recurses := true, named := ["math/bits.divideError", "math/bits.overflowError"], apart := false }
def NatBackSaid : Prop := natBackRow.holds Try.pinned (OpenSpec.ofChange natBackSpec)

/-- ITS FALSE NEIGHBOUR: 'it returns false'. Refute it at one input. -/
def natBackWrong : ChangeSpec := { name := "natBack", fn := fun _ => fun
  | [d1, d2, d3] => { results := [.lit (.bool false)], args := [d1, d2, d3] }
  | _ => none }
def NatBackWrongFalsely : Prop := natBackRow.holds Try.pinned (OpenSpec.ofChange natBackWrong)

/-- 'locutionlaw25.NatMuls': WHATEVER THE INPUT: true; the input reads as it did. -/
def natMulsSpec : ChangeSpec := { name := "natMuls", fn := fun _ => fun
  | [d1, d2] => { results := [.lit (.bool true)], args := [d1, d2] }
  | _ => none }
def natMulsRow : OpenClaim := { program := "yteikhnmmkanndaa", sum := "bcafb2cc51782e9cb122494fdbad12c602d1f407894677e538c75995e4fce478", func := "locution/locutionlaw25.NatMuls", spec := "natMuls", inPlace := ["math/bits.Add64", "math/bits.Sub64"], unfollowed := true, recurses := true, named := ["math/bits.divideError", "math/bits.overflowError"], apart := false }
def NatMulsSaid : Prop := natMulsRow.holds Try.pinned (OpenSpec.ofChange natMulsSpec)

/-- ITS FALSE NEIGHBOUR: 'it returns false'. Refute it at one input. -/
def natMulsWrong : ChangeSpec := { name := "natMuls", fn := fun _ => fun
  | [d1, d2] => { results := [.lit (.bool false)], args := [d1, d2] }
  | _ => none }
def NatMulsWrongFalsely : Prop := natMulsRow.holds Try.pinned (OpenSpec.ofChange natMulsWrong)

/-- 'locutionlaw25.NatDivs': WHATEVER THE INPUT: true; the input reads as it did. -/
def natDivsSpec : ChangeSpec := { name := "natDivs", fn := fun _ => fun
  | [d1, d2] => { results := [.lit (.bool true)], args := [d1, d2] }
  | _ => none }
def natDivsRow : OpenClaim := { program := "yteikhnmmkanndaa", sum := "bcafb2cc51782e9cb122494fdbad12c602d1f407894677e538c75995e4fce478", func := "locution/locutionlaw25.NatDivs", spec := "natDivs", inPlace := ["math/bits.Add64", "math/bits.Sub64"], unfollowed := true, recurses := true, named := ["math/bits.divideError", "math/bits.overflowError"], apart := false }
def NatDivsSaid : Prop := natDivsRow.holds Try.pinned (OpenSpec.ofChange natDivsSpec)

/-- ITS FALSE NEIGHBOUR: 'it returns false'. Refute it at one input. -/
def natDivsWrong : ChangeSpec := { name := "natDivs", fn := fun _ => fun
  | [d1, d2] => { results := [.lit (.bool false)], args := [d1, d2] }
  | _ => none }
def NatDivsWrongFalsely : Prop := natDivsRow.holds Try.pinned (OpenSpec.ofChange natDivsWrong)

/-- 'locutionlaw25.NatShifts': WHATEVER THE INPUT: true; the input reads as it did. -/
def natShiftsSpec : ChangeSpec := { name := "natShifts", fn := fun _ => fun
  | [d1, d2] => { results := [.lit (.bool true)], args := [d1, d2] }
  | _ => none }
def natShiftsRow : OpenClaim := { program := "yteikhnmmkanndaa", sum := "bcafb2cc51782e9cb122494fdbad12c602d1f407894677e538c75995e4fce478", func := "locution/locutionlaw25.NatShifts", spec := "natShifts", inPlace := ["math/bits.Add64", "math/bits.Sub64"], unfollowed := true, recurses := true, named := ["math/bits.divideError", "math/bits.overflowError"], apart := false }
def NatShiftsSaid : Prop := natShiftsRow.holds Try.pinned (OpenSpec.ofChange natShiftsSpec)

/-- ITS FALSE NEIGHBOUR: 'it returns false'. Refute it at one input. -/
def natShiftsWrong : ChangeSpec := { name := "natShifts", fn := fun _ => fun
  | [d1, d2] => { results := [.lit (.bool false)], args := [d1, d2] }
  | _ => none }
def NatShiftsWrongFalsely : Prop := natShiftsRow.holds Try.pinned (OpenSpec.ofChange natShiftsWrong)

/-- 'locutionlaw27.LogTells': WHATEVER THE INPUT: true; the input reads as it did. -/
def logTellsSpec : ChangeSpec := { name := "logTells", fn := fun _ => fun
  | [d1, d2] => { results := [.lit (.bool true)], args := [d1, d2] }
  | _ => none }
def logTellsRow : OpenClaim := { program := "yteikhnmmkanndaa", sum := "bcafb2cc51782e9cb122494fdbad12c602d1f407894677e538c75995e4fce478", func := "locution/locutionlaw27.LogTells", spec := "logTells", inPlace := ["math/bits.Add64", "math/bits.Sub64"], unfollowed := true, recurses := true, named := ["math/bits.divideError", "math/bits.overflowError"], apart := false }
def LogTellsSaid : Prop := logTellsRow.holds Try.pinned (OpenSpec.ofChange logTellsSpec)

/-- ITS FALSE NEIGHBOUR: 'it returns false'. Refute it at one input. -/
def logTellsWrong : ChangeSpec := { name := "logTells", fn := fun _ => fun
  | [d1, d2] => { results := [.lit (.bool false)], args := [d1, d2] }
  | _ => none }
def LogTellsWrongFalsely : Prop := logTellsRow.holds Try.pinned (OpenSpec.ofChange logTellsWrong)

/-- 'locutionlaw27.LogHalves': WHATEVER THE INPUT: true; the input reads as it did. -/
def logHalvesSpec : ChangeSpec := { name := "logHalves", fn := fun _ => fun
  | [d1, d2, d3] => { results := [.lit (.bool true)], args := [d1, d2, d3] }
  | _ => none }
def logHalvesRow : OpenClaim := { program := "yteikhnmmkanndaa", sum := "bcafb2cc51782e9cb122494fdbad12c602d1f407894677e538c75995e4fce478", func := "locution/locutionlaw27.LogHalves", spec := "logHalves", inPlace := ["math/bits.Add64", "math/bits.Sub64"], unfollowed := true, recurses := true, named := ["math/bits.divideError", "math/bits.overflowError"], apart := false }
def LogHalvesSaid : Prop := logHalvesRow.holds Try.pinned (OpenSpec.ofChange logHalvesSpec)

/-- ITS FALSE NEIGHBOUR: 'it returns false'. Refute it at one input. -/
def logHalvesWrong : ChangeSpec := { name := "logHalves", fn := fun _ => fun
  | [d1, d2, d3] => { results := [.lit (.bool false)], args := [d1, d2, d3] }
  | _ => none }
def LogHalvesWrongFalsely : Prop := logHalvesRow.holds Try.pinned (OpenSpec.ofChange logHalvesWrong)

/-- 'locutionlaw27.LogSums': WHATEVER THE INPUT: true; the input reads as it did. -/
def logSumsSpec : ChangeSpec := { name := "logSums", fn := fun _ => fun
  | [d1, d2, d3] => { results := [.lit (.bool true)], args := [d1, d2, d3] }
  | _ => none }
def logSumsRow : OpenClaim := { program := "yteikhnmmkanndaa", sum := "bcafb2cc51782e9cb122494fdbad12c602d1f407894677e538c75995e4fce478", func := "locution/locutionlaw27.LogSums", spec := "logSums", inPlace := ["math/bits.Add64", "math/bits.Sub64"], unfollowed := true, recurses := true, named := ["math/bits.divideError", "math/bits.overflowError"], apart := false }
def LogSumsSaid : Prop := logSumsRow.holds Try.pinned (OpenSpec.ofChange logSumsSpec)

/-- ITS FALSE NEIGHBOUR: 'it returns false'. Refute it at one input. -/
def logSumsWrong : ChangeSpec := { name := "logSums", fn := fun _ => fun
  | [d1, d2, d3] => { results := [.lit (.bool false)], args := [d1, d2, d3] }
  | _ => none }
def LogSumsWrongFalsely : Prop := logSumsRow.holds Try.pinned (OpenSpec.ofChange logSumsWrong)

/-- 'locutionlaw25.NatTells': WHATEVER THE INPUT: true; the input reads as it did. -/
def natTellsSpec : ChangeSpec := { name := "natTells", fn := fun _ => fun
  | [d1, d2] => { results := [.lit (.bool true)], args := [d1, d2] }
  | _ => none }
def natTellsRow : OpenClaim := { program := "yteikhnmmkanndaa", sum := "bcafb2cc51782e9cb122494fdbad12c602d1f407894677e538c75995e4fce478", func := "locution/locutionlaw25.NatTells", spec := "natTells", inPlace := ["math/bits.Add64", "math/bits.Sub64"], unfollowed := true, recurses := true, named := ["math/bits.divideError", "math/bits.overflowError"], apart := false }
def NatTellsSaid : Prop := natTellsRow.holds Try.pinned (OpenSpec.ofChange natTellsSpec)

/-- ITS FALSE NEIGHBOUR: 'it returns false'. Refute it at one input. -/
def natTellsWrong : ChangeSpec := { name := "natTells", fn := fun _ => fun
  | [d1, d2] => { results := [.lit (.bool false)], args := [d1, d2] }
  | _ => none }
def NatTellsWrongFalsely : Prop := natTellsRow.holds Try.pinned (OpenSpec.ofChange natTellsWrong)

/-- 'locutionlaw25.NatPowers': WHATEVER THE INPUT: true; the input reads as it did. -/
def natPowersSpec : ChangeSpec := { name := "natPowers", fn := fun _ => fun
  | [d1, d2, d3] => { results := [.lit (.bool true)], args := [d1, d2, d3] }
  | _ => none }
def natPowersRow : OpenClaim := { program := "yteikhnmmkanndaa", sum := "bcafb2cc51782e9cb122494fdbad12c602d1f407894677e538c75995e4fce478", func := "locution/locutionlaw25.NatPowers", spec := "natPowers", inPlace := ["math/bits.Add64", "math/bits.Sub64"], unfollowed := true, recurses := true, named := ["math/bits.divideError", "math/bits.overflowError"], apart := false }
def NatPowersSaid : Prop := natPowersRow.holds Try.pinned (OpenSpec.ofChange natPowersSpec)

/-- ITS FALSE NEIGHBOUR: 'it returns false'. Refute it at one input. -/
def natPowersWrong : ChangeSpec := { name := "natPowers", fn := fun _ => fun
  | [d1, d2, d3] => { results := [.lit (.bool false)], args := [d1, d2, d3] }
  | _ => none }
def NatPowersWrongFalsely : Prop := natPowersRow.holds Try.pinned (OpenSpec.ofChange natPowersWrong)

/-- 'locutionlaw25.NatSums': WHATEVER THE INPUT: true; the input reads as it did. -/
def natSumsSpec : ChangeSpec := { name := "natSums", fn := fun _ => fun
  | [d1, d2] => { results := [.lit (.bool true)], args := [d1, d2] }
  | _ => none }
def natSumsRow : OpenClaim := { program := "yteikhnmmkanndaa", sum := "bcafb2cc51782e9cb122494fdbad12c602d1f407894677e538c75995e4fce478", func := "locution/locutionlaw25.NatSums", spec := "natSums", inPlace := ["math/bits.Add64", "math/bits.Sub64"], unfollowed := true, recurses := true, named := ["math/bits.divideError", "math/bits.overflowError"], apart := false }
def NatSumsSaid : Prop := natSumsRow.holds Try.pinned (OpenSpec.ofChange natSumsSpec)

/-- ITS FALSE NEIGHBOUR: 'it returns false'. Refute it at one input. -/
def natSumsWrong : ChangeSpec := { name := "natSums", fn := fun _ => fun
  | [d1, d2] => { results := [.lit (.bool false)], args := [d1, d2] }
  | _ => none }
def NatSumsWrongFalsely : Prop := natSumsRow.holds Try.pinned (OpenSpec.ofChange natSumsWrong)

/-- 'locutionlaw27.LogTwos': WHATEVER THE INPUT: true; the input reads as it did. -/
def logTwosSpec : ChangeSpec := { name := "logTwos", fn := fun _ => fun
  | [d1, d2, d3] => { results := [.lit (.bool true)], args := [d1, d2, d3] }
  | _ => none }
def logTwosRow : OpenClaim := { program := "yteikhnmmkanndaa", sum := "bcafb2cc51782e9cb122494fdbad12c602d1f407894677e538c75995e4fce478", func := "locution/locutionlaw27.LogTwos", spec := "logTwos", inPlace := ["math/bits.Add64", "math/bits.Sub64"], unfollowed := true, recurses := true, named := ["math/bits.divideError", "math/bits.overflowError"], apart := false }
def LogTwosSaid : Prop := logTwosRow.holds Try.pinned (OpenSpec.ofChange logTwosSpec)

/-- ITS FALSE NEIGHBOUR: 'it returns false'. Refute it at one input. -/
def logTwosWrong : ChangeSpec := { name := "logTwos", fn := fun _ => fun
  | [d1, d2, d3] => { results := [.lit (.bool false)], args := [d1, d2, d3] }
  | _ => none }
def LogTwosWrongFalsely : Prop := logTwosRow.holds Try.pinned (OpenSpec.ofChange logTwosWrong)

/-- 'locutionlaw26.RatSums': WHATEVER THE INPUT: true; the input reads as it did. -/
def ratSumsSpec : ChangeSpec := { name := "ratSums", fn := fun _ => fun
  | [d1, d2] => { results := [.lit (.bool true)], args := [d1, d2] }
  | _ => none }
def ratSumsRow : OpenClaim := { program := "yteikhnmmkanndaa", sum := "bcafb2cc51782e9cb122494fdbad12c602d1f407894677e538c75995e4fce478", func := "locution/locutionlaw26.RatSums", spec := "ratSums", inPlace := ["math/bits.Add64", "math/bits.Sub64"], unfollowed := true, recurses := true, named := ["math/bits.divideError", "math/bits.overflowError"], apart := false }
def RatSumsSaid : Prop := ratSumsRow.holds Try.pinned (OpenSpec.ofChange ratSumsSpec)

/-- ITS FALSE NEIGHBOUR: 'it returns false'. Refute it at one input. -/
def ratSumsWrong : ChangeSpec := { name := "ratSums", fn := fun _ => fun
  | [d1, d2] => { results := [.lit (.bool false)], args := [d1, d2] }
  | _ => none }
def RatSumsWrongFalsely : Prop := ratSumsRow.holds Try.pinned (OpenSpec.ofChange ratSumsWrong)

/-- 'locutionlaw26.RatZero': WHATEVER THE INPUT: true; the input reads as it did. -/
def ratZeroSpec : ChangeSpec := { name := "ratZero", fn := fun _ => fun
  | [d] => { results := [.lit (.bool true)], args := [d] }
  | _ => none }
def ratZeroRow : OpenClaim := { program := "yteikhnmmkanndaa", sum := "bcafb2cc51782e9cb122494fdbad12c602d1f407894677e538c75995e4fce478", func := "locution/locutionlaw26.RatZero", spec := "ratZero", inPlace := ["math/bits.Add64", "math/bits.Sub64"], unfollowed := true, recurses := true, named := ["math/bits.divideError", "math/bits.overflowError"], apart := false }
def RatZeroSaid : Prop := ratZeroRow.holds Try.pinned (OpenSpec.ofChange ratZeroSpec)

/-- ITS FALSE NEIGHBOUR: 'it returns false'. Refute it at one input. -/
def ratZeroWrong : ChangeSpec := { name := "ratZero", fn := fun _ => fun
  | [d] => { results := [.lit (.bool false)], args := [d] }
  | _ => none }
def RatZeroWrongFalsely : Prop := ratZeroRow.holds Try.pinned (OpenSpec.ofChange ratZeroWrong)

/-- 'locutionlaw26.RatTells': WHATEVER THE INPUT: true; the input reads as it did. -/
def ratTellsSpec : ChangeSpec := { name := "ratTells", fn := fun _ => fun
  | [d1, d2] => { results := [.lit (.bool true)], args := [d1, d2] }
  | _ => none }
def ratTellsRow : OpenClaim := { program := "yteikhnmmkanndaa", sum := "bcafb2cc51782e9cb122494fdbad12c602d1f407894677e538c75995e4fce478", func := "locution/locutionlaw26.RatTells", spec := "ratTells", inPlace := ["math/bits.Add64", "math/bits.Sub64"], unfollowed := true, recurses := true, named := ["math/bits.divideError", "math/bits.overflowError"], apart := false }
def RatTellsSaid : Prop := ratTellsRow.holds Try.pinned (OpenSpec.ofChange ratTellsSpec)

/-- ITS FALSE NEIGHBOUR: 'it returns false'. Refute it at one input. -/
def ratTellsWrong : ChangeSpec := { name := "ratTells", fn := fun _ => fun
  | [d1, d2] => { results := [.lit (.bool false)], args := [d1, d2] }
  | _ => none }
def RatTellsWrongFalsely : Prop := ratTellsRow.holds Try.pinned (OpenSpec.ofChange ratTellsWrong)

/-- 'locutionlaw26.RatMuls': WHATEVER THE INPUT: true; the input reads as it did. -/
def ratMulsSpec : ChangeSpec := { name := "ratMuls", fn := fun _ => fun
  | [d1, d2] => { results := [.lit (.bool true)], args := [d1, d2] }
  | _ => none }
def ratMulsRow : OpenClaim := { program := "yteikhnmmkanndaa", sum := "bcafb2cc51782e9cb122494fdbad12c602d1f407894677e538c75995e4fce478", func := "locution/locutionlaw26.RatMuls", spec := "ratMuls", inPlace := ["math/bits.Add64", "math/bits.Sub64"], unfollowed := true, recurses := true, named := ["math/bits.divideError", "math/bits.overflowError"], apart := false }
def RatMulsSaid : Prop := ratMulsRow.holds Try.pinned (OpenSpec.ofChange ratMulsSpec)

/-- ITS FALSE NEIGHBOUR: 'it returns false'. Refute it at one input. -/
def ratMulsWrong : ChangeSpec := { name := "ratMuls", fn := fun _ => fun
  | [d1, d2] => { results := [.lit (.bool false)], args := [d1, d2] }
  | _ => none }
def RatMulsWrongFalsely : Prop := ratMulsRow.holds Try.pinned (OpenSpec.ofChange ratMulsWrong)

/-- 'locutionlaw28.DiscountOf': WHATEVER THE INPUT: true; the input reads as it did. -/
def discountOfSpec : ChangeSpec := { name := "discountOf", fn := fun _ => fun
  | [d1, d2] => { results := [.lit (.bool true)], args := [d1, d2] }
  | _ => none }
def discountOfRow : OpenClaim := { program := "yteikhnmmkanndaa", sum := "bcafb2cc51782e9cb122494fdbad12c602d1f407894677e538c75995e4fce478", func := "locution/locutionlaw28.DiscountOf", spec := "discountOf", inPlace := ["math/bits.Add64", "math/bits.Sub64"], unfollowed := true, recurses := true, named := ["math/bits.divideError", "math/bits.overflowError"], apart := false }
def DiscountOfSaid : Prop := discountOfRow.holds Try.pinned (OpenSpec.ofChange discountOfSpec)

/-- ITS FALSE NEIGHBOUR: 'it returns false'. Refute it at one input. -/
def discountOfWrong : ChangeSpec := { name := "discountOf", fn := fun _ => fun
  | [d1, d2] => { results := [.lit (.bool false)], args := [d1, d2] }
  | _ => none }
def DiscountOfWrongFalsely : Prop := discountOfRow.holds Try.pinned (OpenSpec.ofChange discountOfWrong)

/-- 'locutionlaw28.DiscountGamma': WHATEVER THE INPUT: true; the input reads as it did. -/
def discountGammaSpec : ChangeSpec := { name := "discountGamma", fn := fun _ => fun
  | [d1, d2] => { results := [.lit (.bool true)], args := [d1, d2] }
  | _ => none }
def discountGammaRow : OpenClaim := { program := "yteikhnmmkanndaa", sum := "bcafb2cc51782e9cb122494fdbad12c602d1f407894677e538c75995e4fce478", func := "locution/locutionlaw28.DiscountGamma", spec := "discountGamma", inPlace := ["math/bits.Add64", "math/bits.Sub64"], unfollowed := true, recurses := true, named := ["math/bits.divideError", "math/bits.overflowError"], apart := false }
def DiscountGammaSaid : Prop := discountGammaRow.holds Try.pinned (OpenSpec.ofChange discountGammaSpec)

/-- ITS FALSE NEIGHBOUR: 'it returns false'. Refute it at one input. -/
def discountGammaWrong : ChangeSpec := { name := "discountGamma", fn := fun _ => fun
  | [d1, d2] => { results := [.lit (.bool false)], args := [d1, d2] }
  | _ => none }
def DiscountGammaWrongFalsely : Prop := discountGammaRow.holds Try.pinned (OpenSpec.ofChange discountGammaWrong)

/- THE SECOND FORM. 'bulk': how many values and letters a reading holds, each counted each time it is reached (what is shared counts as often as it is met; a slice's spare places count too). A statement '..UptoSaid' is the law's where the arguments, and the package variables that the reading takes, are together of bulk at most 1048576: NARROWER than '..Said'. Prove '..Said' where nothing that the law and all that it calls make is longer than what came in: it says more and counts as full. Else prove '..UptoSaid'. A law counts once. -/
mutual
def uptoBulk {H : Type} : DataW H → Nat
  | .lit (.string bytes) => bytes.length + 1
  | .lit _ => 1
  | .nil => 1
  | .ptr d => uptoBulk d + 1
  | .slice elems spare => uptoBulkAll elems + uptoBulkAll spare + 1
  | .agg parts => uptoBulkAll parts + 1
  | .iface _ d => uptoBulk d + 1
  | .map entries => uptoBulkEntries entries + 1
  | .held _ => 1
def uptoBulkAll {H : Type} : List (DataW H) → Nat
  | [] => 0
  | d :: r => uptoBulk d + uptoBulkAll r
def uptoBulkEntries {H : Type} : List (Lit × DataW H) → Nat
  | [] => 0
  | x :: r => uptoBulkEntry x + uptoBulkEntries r
def uptoBulkEntry {H : Type} : Lit × DataW H → Nat
  | (.string bytes, d) => bytes.length + uptoBulk d + 1
  | (_, d) => uptoBulk d + 1
 end
def uptoSmall : (H : Type) → List (DataW H) → Bool := fun _ ds => decide (uptoBulkAll ds ≤ 1048576)
def OpenSpec.upto (s : _root_.Go.ChangeSpec) : _root_.Go.OpenSpec := { _root_.Go.OpenSpec.ofChange s with cond := some uptoSmall }

/-- 'locutionlaw25.NatBack', WHERE WHAT IT READS IS OF BULK AT MOST 1048576: true; the input reads as it did. -/
def natBackUptoRow : OpenClaim := { program := "yteikhnmmkanndaa", sum := "bcafb2cc51782e9cb122494fdbad12c602d1f407894677e538c75995e4fce478", func := "locution/locutionlaw25.NatBack", spec := "natBack", inPlace := ["math/bits.Add64", "math/bits.Sub64"], unfollowed := true, recurses := true, named := ["math/bits.divideError", "math/bits.overflowError"], apart := false, narrowed := true }
def NatBackUptoSaid : Prop := natBackUptoRow.holds Try.pinned (OpenSpec.upto natBackSpec)

/-- 'locutionlaw25.NatMuls', WHERE WHAT IT READS IS OF BULK AT MOST 1048576: true; the input reads as it did. -/
def natMulsUptoRow : OpenClaim := { program := "yteikhnmmkanndaa", sum := "bcafb2cc51782e9cb122494fdbad12c602d1f407894677e538c75995e4fce478", func := "locution/locutionlaw25.NatMuls", spec := "natMuls", inPlace := ["math/bits.Add64", "math/bits.Sub64"], unfollowed := true, recurses := true, named := ["math/bits.divideError", "math/bits.overflowError"], apart := false, narrowed := true }
def NatMulsUptoSaid : Prop := natMulsUptoRow.holds Try.pinned (OpenSpec.upto natMulsSpec)

/-- 'locutionlaw25.NatDivs', WHERE WHAT IT READS IS OF BULK AT MOST 1048576: true; the input reads as it did. -/
def natDivsUptoRow : OpenClaim := { program := "yteikhnmmkanndaa", sum := "bcafb2cc51782e9cb122494fdbad12c602d1f407894677e538c75995e4fce478", func := "locution/locutionlaw25.NatDivs", spec := "natDivs", inPlace := ["math/bits.Add64", "math/bits.Sub64"], unfollowed := true, recurses := true, named := ["math/bits.divideError", "math/bits.overflowError"], apart := false, narrowed := true }
def NatDivsUptoSaid : Prop := natDivsUptoRow.holds Try.pinned (OpenSpec.upto natDivsSpec)

/-- 'locutionlaw25.NatShifts', WHERE WHAT IT READS IS OF BULK AT MOST 1048576: true; the input reads as it did. -/
def natShiftsUptoRow : OpenClaim := { program := "yteikhnmmkanndaa", sum := "bcafb2cc51782e9cb122494fdbad12c602d1f407894677e538c75995e4fce478", func := "locution/locutionlaw25.NatShifts", spec := "natShifts", inPlace := ["math/bits.Add64", "math/bits.Sub64"], unfollowed := true, recurses := true, named := ["math/bits.divideError", "math/bits.overflowError"], apart := false, narrowed := true }
def NatShiftsUptoSaid : Prop := natShiftsUptoRow.holds Try.pinned (OpenSpec.upto natShiftsSpec)

/-- 'locutionlaw27.LogTells', WHERE WHAT IT READS IS OF BULK AT MOST 1048576: true; the input reads as it did. -/
def logTellsUptoRow : OpenClaim := { program := "yteikhnmmkanndaa", sum := "bcafb2cc51782e9cb122494fdbad12c602d1f407894677e538c75995e4fce478", func := "locution/locutionlaw27.LogTells", spec := "logTells", inPlace := ["math/bits.Add64", "math/bits.Sub64"], unfollowed := true, recurses := true, named := ["math/bits.divideError", "math/bits.overflowError"], apart := false, narrowed := true }
def LogTellsUptoSaid : Prop := logTellsUptoRow.holds Try.pinned (OpenSpec.upto logTellsSpec)

/-- 'locutionlaw27.LogHalves', WHERE WHAT IT READS IS OF BULK AT MOST 1048576: true; the input reads as it did. -/
def logHalvesUptoRow : OpenClaim := { program := "yteikhnmmkanndaa", sum := "bcafb2cc51782e9cb122494fdbad12c602d1f407894677e538c75995e4fce478", func := "locution/locutionlaw27.LogHalves", spec := "logHalves", inPlace := ["math/bits.Add64", "math/bits.Sub64"], unfollowed := true, recurses := true, named := ["math/bits.divideError", "math/bits.overflowError"], apart := false, narrowed := true }
def LogHalvesUptoSaid : Prop := logHalvesUptoRow.holds Try.pinned (OpenSpec.upto logHalvesSpec)

/-- 'locutionlaw27.LogSums', WHERE WHAT IT READS IS OF BULK AT MOST 1048576: true; the input reads as it did. -/
def logSumsUptoRow : OpenClaim := { program := "yteikhnmmkanndaa", sum := "bcafb2cc51782e9cb122494fdbad12c602d1f407894677e538c75995e4fce478", func := "locution/locutionlaw27.LogSums", spec := "logSums", inPlace := ["math/bits.Add64", "math/bits.Sub64"], unfollowed := true, recurses := true, named := ["math/bits.divideError", "math/bits.overflowError"], apart := false, narrowed := true }
def LogSumsUptoSaid : Prop := logSumsUptoRow.holds Try.pinned (OpenSpec.upto logSumsSpec)

/-- 'locutionlaw25.NatTells', WHERE WHAT IT READS IS OF BULK AT MOST 1048576: true; the input reads as it did. -/
def natTellsUptoRow : OpenClaim := { program := "yteikhnmmkanndaa", sum := "bcafb2cc51782e9cb122494fdbad12c602d1f407894677e538c75995e4fce478", func := "locution/locutionlaw25.NatTells", spec := "natTells", inPlace := ["math/bits.Add64", "math/bits.Sub64"], unfollowed := true, recurses := true, named := ["math/bits.divideError", "math/bits.overflowError"], apart := false, narrowed := true }
def NatTellsUptoSaid : Prop := natTellsUptoRow.holds Try.pinned (OpenSpec.upto natTellsSpec)

/-- 'locutionlaw25.NatPowers', WHERE WHAT IT READS IS OF BULK AT MOST 1048576: true; the input reads as it did. -/
def natPowersUptoRow : OpenClaim := { program := "yteikhnmmkanndaa", sum := "bcafb2cc51782e9cb122494fdbad12c602d1f407894677e538c75995e4fce478", func := "locution/locutionlaw25.NatPowers", spec := "natPowers", inPlace := ["math/bits.Add64", "math/bits.Sub64"], unfollowed := true, recurses := true, named := ["math/bits.divideError", "math/bits.overflowError"], apart := false, narrowed := true }
def NatPowersUptoSaid : Prop := natPowersUptoRow.holds Try.pinned (OpenSpec.upto natPowersSpec)

/-- 'locutionlaw25.NatSums', WHERE WHAT IT READS IS OF BULK AT MOST 1048576: true; the input reads as it did. -/
def natSumsUptoRow : OpenClaim := { program := "yteikhnmmkanndaa", sum := "bcafb2cc51782e9cb122494fdbad12c602d1f407894677e538c75995e4fce478", func := "locution/locutionlaw25.NatSums", spec := "natSums", inPlace := ["math/bits.Add64", "math/bits.Sub64"], unfollowed := true, recurses := true, named := ["math/bits.divideError", "math/bits.overflowError"], apart := false, narrowed := true }
def NatSumsUptoSaid : Prop := natSumsUptoRow.holds Try.pinned (OpenSpec.upto natSumsSpec)

/-- 'locutionlaw27.LogTwos', WHERE WHAT IT READS IS OF BULK AT MOST 1048576: true; the input reads as it did. -/
def logTwosUptoRow : OpenClaim := { program := "yteikhnmmkanndaa", sum := "bcafb2cc51782e9cb122494fdbad12c602d1f407894677e538c75995e4fce478", func := "locution/locutionlaw27.LogTwos", spec := "logTwos", inPlace := ["math/bits.Add64", "math/bits.Sub64"], unfollowed := true, recurses := true, named := ["math/bits.divideError", "math/bits.overflowError"], apart := false, narrowed := true }
def LogTwosUptoSaid : Prop := logTwosUptoRow.holds Try.pinned (OpenSpec.upto logTwosSpec)

/-- 'locutionlaw26.RatSums', WHERE WHAT IT READS IS OF BULK AT MOST 1048576: true; the input reads as it did. -/
def ratSumsUptoRow : OpenClaim := { program := "yteikhnmmkanndaa", sum := "bcafb2cc51782e9cb122494fdbad12c602d1f407894677e538c75995e4fce478", func := "locution/locutionlaw26.RatSums", spec := "ratSums", inPlace := ["math/bits.Add64", "math/bits.Sub64"], unfollowed := true, recurses := true, named := ["math/bits.divideError", "math/bits.overflowError"], apart := false, narrowed := true }
def RatSumsUptoSaid : Prop := ratSumsUptoRow.holds Try.pinned (OpenSpec.upto ratSumsSpec)

/-- 'locutionlaw26.RatZero', WHERE WHAT IT READS IS OF BULK AT MOST 1048576: true; the input reads as it did. -/
def ratZeroUptoRow : OpenClaim := { program := "yteikhnmmkanndaa", sum := "bcafb2cc51782e9cb122494fdbad12c602d1f407894677e538c75995e4fce478", func := "locution/locutionlaw26.RatZero", spec := "ratZero", inPlace := ["math/bits.Add64", "math/bits.Sub64"], unfollowed := true, recurses := true, named := ["math/bits.divideError", "math/bits.overflowError"], apart := false, narrowed := true }
def RatZeroUptoSaid : Prop := ratZeroUptoRow.holds Try.pinned (OpenSpec.upto ratZeroSpec)

/-- 'locutionlaw26.RatTells', WHERE WHAT IT READS IS OF BULK AT MOST 1048576: true; the input reads as it did. -/
def ratTellsUptoRow : OpenClaim := { program := "yteikhnmmkanndaa", sum := "bcafb2cc51782e9cb122494fdbad12c602d1f407894677e538c75995e4fce478", func := "locution/locutionlaw26.RatTells", spec := "ratTells", inPlace := ["math/bits.Add64", "math/bits.Sub64"], unfollowed := true, recurses := true, named := ["math/bits.divideError", "math/bits.overflowError"], apart := false, narrowed := true }
def RatTellsUptoSaid : Prop := ratTellsUptoRow.holds Try.pinned (OpenSpec.upto ratTellsSpec)

/-- 'locutionlaw26.RatMuls', WHERE WHAT IT READS IS OF BULK AT MOST 1048576: true; the input reads as it did. -/
def ratMulsUptoRow : OpenClaim := { program := "yteikhnmmkanndaa", sum := "bcafb2cc51782e9cb122494fdbad12c602d1f407894677e538c75995e4fce478", func := "locution/locutionlaw26.RatMuls", spec := "ratMuls", inPlace := ["math/bits.Add64", "math/bits.Sub64"], unfollowed := true, recurses := true, named := ["math/bits.divideError", "math/bits.overflowError"], apart := false, narrowed := true }
def RatMulsUptoSaid : Prop := ratMulsUptoRow.holds Try.pinned (OpenSpec.upto ratMulsSpec)

/-- 'locutionlaw28.DiscountOf', WHERE WHAT IT READS IS OF BULK AT MOST 1048576: true; the input reads as it did. -/
def discountOfUptoRow : OpenClaim := { program := "yteikhnmmkanndaa", sum := "bcafb2cc51782e9cb122494fdbad12c602d1f407894677e538c75995e4fce478", func := "locution/locutionlaw28.DiscountOf", spec := "discountOf", inPlace := ["math/bits.Add64", "math/bits.Sub64"], unfollowed := true, recurses := true, named := ["math/bits.divideError", "math/bits.overflowError"], apart := false, narrowed := true }
def DiscountOfUptoSaid : Prop := discountOfUptoRow.holds Try.pinned (OpenSpec.upto discountOfSpec)

/-- 'locutionlaw28.DiscountGamma', WHERE WHAT IT READS IS OF BULK AT MOST 1048576: true; the input reads as it did. -/
def discountGammaUptoRow : OpenClaim := { program := "yteikhnmmkanndaa", sum := "bcafb2cc51782e9cb122494fdbad12c602d1f407894677e538c75995e4fce478", func := "locution/locutionlaw28.DiscountGamma", spec := "discountGamma", inPlace := ["math/bits.Add64", "math/bits.Sub64"], unfollowed := true, recurses := true, named := ["math/bits.divideError", "math/bits.overflowError"], apart := false, narrowed := true }
def DiscountGammaUptoSaid : Prop := discountGammaUptoRow.holds Try.pinned (OpenSpec.upto discountGammaSpec)

end Rows
end Go.Proofs.Yteikhnmmkanndaa
