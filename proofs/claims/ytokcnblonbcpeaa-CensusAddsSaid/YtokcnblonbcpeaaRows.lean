/-
  No cell of these rows narrows 'for every input' (looked for: loops, veiled, ifaces, maps, wideKeys, modest, calm, conditions, laid).
  DERIVED. THE GIVEN ROWS OF THIS SEAT. 7 by the template 'for every input the law returns true; each argument reads behind the call as it read before'; 0 by the template 'total and deterministic' (their statements: YtokcnblonbcpeaaTotals.lean).
  GIVEN WITH THE SEED: the statements are not yours to turn. If you find one false, say at which input.
  Laid BY PROGRAM, IN A SANDBOX (cutbox-rows.mjs): the forced cells as the released guide's own fill.sh prints them over the translation b55b70812dd1decf… (all of the seat's roots in one cut). By AI agents, Wed Nov 11 2026. No macro, syntax, notation, axiom, sorry.
-/
import Derived.Test.YtokcnblonbcpeaaChecked
import GoSem.Claim
import GoSem.ClaimJoined
import GoSem.ClaimMapViews
import Derived.JoinedTies
import Derived.KernelRfl
namespace Go.Proofs.Ytokcnblonbcpeaa
/- THE CELL 'sum', in the pinned program and in every row, IS THE sha256 OF THE DUMP (.gsa) THAT YtokcnblonbcpeaaProg.lean LOADS. Nothing in Lean hashes anything: it is a label: what it is worth is what the hold of that sum in a sandbox is worth. -/
noncomputable def Try.pinned : Pinned := { name := "ytokcnblonbcpeaa", sum := "b55b70812dd1decf36c3b2fee1346f58baff9f21fc9409117faf28e789f88028", checked := Try.checked }
namespace Rows
def none {H : Type} : Left H := { results := [], args := [] }

/-- 'locutionlaw24.CensusOf': WHATEVER THE INPUT: true; the input reads as it did. -/
def censusOfSpec : ChangeSpec := { name := "censusOf", fn := fun _ => fun
  | [d] => { results := [.lit (.bool true)], args := [d] }
  | _ => none }
def censusOfRow : OpenClaim := { program := "ytokcnblonbcpeaa", sum := "b55b70812dd1decf36c3b2fee1346f58baff9f21fc9409117faf28e789f88028", func := "locution/locutionlaw24.CensusOf", spec := "censusOf", apart := false }
def CensusOfSaid : Prop := censusOfRow.holds Try.pinned (OpenSpec.ofChange censusOfSpec)

/-- ITS FALSE NEIGHBOUR: 'it returns false'. Refute it at one input. -/
def censusOfWrong : ChangeSpec := { name := "censusOf", fn := fun _ => fun
  | [d] => { results := [.lit (.bool false)], args := [d] }
  | _ => none }
def CensusOfWrongFalsely : Prop := censusOfRow.holds Try.pinned (OpenSpec.ofChange censusOfWrong)

/-- 'locutionlaw12.CrcTells': WHATEVER THE INPUT: true; the input reads as it did. -/
def crcTellsSpec : ChangeSpec := { name := "crcTells", fn := fun _ => fun
  | [d1, d2] => { results := [.lit (.bool true)], args := [d1, d2] }
  | _ => none }
def crcTellsRow : OpenClaim := { program := "ytokcnblonbcpeaa", sum := "b55b70812dd1decf36c3b2fee1346f58baff9f21fc9409117faf28e789f88028", func := "locution/locutionlaw12.CrcTells", spec := "crcTells", apart := false }
def CrcTellsSaid : Prop := crcTellsRow.holds Try.pinned (OpenSpec.ofChange crcTellsSpec)

/-- ITS FALSE NEIGHBOUR: 'it returns false'. Refute it at one input. -/
def crcTellsWrong : ChangeSpec := { name := "crcTells", fn := fun _ => fun
  | [d1, d2] => { results := [.lit (.bool false)], args := [d1, d2] }
  | _ => none }
def CrcTellsWrongFalsely : Prop := crcTellsRow.holds Try.pinned (OpenSpec.ofChange crcTellsWrong)

/-- 'locutionlaw12.CrcGoes': WHATEVER THE INPUT: true; the input reads as it did. -/
def crcGoesSpec : ChangeSpec := { name := "crcGoes", fn := fun _ => fun
  | [d1, d2] => { results := [.lit (.bool true)], args := [d1, d2] }
  | _ => none }
def crcGoesRow : OpenClaim := { program := "ytokcnblonbcpeaa", sum := "b55b70812dd1decf36c3b2fee1346f58baff9f21fc9409117faf28e789f88028", func := "locution/locutionlaw12.CrcGoes", spec := "crcGoes", apart := false }
def CrcGoesSaid : Prop := crcGoesRow.holds Try.pinned (OpenSpec.ofChange crcGoesSpec)

/-- ITS FALSE NEIGHBOUR: 'it returns false'. Refute it at one input. -/
def crcGoesWrong : ChangeSpec := { name := "crcGoes", fn := fun _ => fun
  | [d1, d2] => { results := [.lit (.bool false)], args := [d1, d2] }
  | _ => none }
def CrcGoesWrongFalsely : Prop := crcGoesRow.holds Try.pinned (OpenSpec.ofChange crcGoesWrong)

/-- 'locutionlaw12.CrcOpens': WHATEVER THE INPUT: true; the input reads as it did. -/
def crcOpensSpec : ChangeSpec := { name := "crcOpens", fn := fun _ => fun
  | [d] => { results := [.lit (.bool true)], args := [d] }
  | _ => none }
def crcOpensRow : OpenClaim := { program := "ytokcnblonbcpeaa", sum := "b55b70812dd1decf36c3b2fee1346f58baff9f21fc9409117faf28e789f88028", func := "locution/locutionlaw12.CrcOpens", spec := "crcOpens", apart := false }
def CrcOpensSaid : Prop := crcOpensRow.holds Try.pinned (OpenSpec.ofChange crcOpensSpec)

/-- ITS FALSE NEIGHBOUR: 'it returns false'. Refute it at one input. -/
def crcOpensWrong : ChangeSpec := { name := "crcOpens", fn := fun _ => fun
  | [d] => { results := [.lit (.bool false)], args := [d] }
  | _ => none }
def CrcOpensWrongFalsely : Prop := crcOpensRow.holds Try.pinned (OpenSpec.ofChange crcOpensWrong)

/-- 'locutionlaw12.CrcFinds': WHATEVER THE INPUT: true; the input reads as it did. -/
def crcFindsSpec : ChangeSpec := { name := "crcFinds", fn := fun _ => fun
  | [d1, d2, d3] => { results := [.lit (.bool true)], args := [d1, d2, d3] }
  | _ => none }
def crcFindsRow : OpenClaim := { program := "ytokcnblonbcpeaa", sum := "b55b70812dd1decf36c3b2fee1346f58baff9f21fc9409117faf28e789f88028", func := "locution/locutionlaw12.CrcFinds", spec := "crcFinds", apart := false }
def CrcFindsSaid : Prop := crcFindsRow.holds Try.pinned (OpenSpec.ofChange crcFindsSpec)

/-- ITS FALSE NEIGHBOUR: 'it returns false'. Refute it at one input. -/
def crcFindsWrong : ChangeSpec := { name := "crcFinds", fn := fun _ => fun
  | [d1, d2, d3] => { results := [.lit (.bool false)], args := [d1, d2, d3] }
  | _ => none }
def CrcFindsWrongFalsely : Prop := crcFindsRow.holds Try.pinned (OpenSpec.ofChange crcFindsWrong)

/-- 'locutionlaw24.CensusAfter': WHATEVER THE INPUT: true; the input reads as it did. -/
def censusAfterSpec : ChangeSpec := { name := "censusAfter", fn := fun _ => fun
  | [d1, d2] => { results := [.lit (.bool true)], args := [d1, d2] }
  | _ => none }
def censusAfterRow : OpenClaim := { program := "ytokcnblonbcpeaa", sum := "b55b70812dd1decf36c3b2fee1346f58baff9f21fc9409117faf28e789f88028", func := "locution/locutionlaw24.CensusAfter", spec := "censusAfter", unfollowed := true, recurses := true, apart := false }
def CensusAfterSaid : Prop := censusAfterRow.holds Try.pinned (OpenSpec.ofChange censusAfterSpec)

/-- ITS FALSE NEIGHBOUR: 'it returns false'. Refute it at one input. -/
def censusAfterWrong : ChangeSpec := { name := "censusAfter", fn := fun _ => fun
  | [d1, d2] => { results := [.lit (.bool false)], args := [d1, d2] }
  | _ => none }
def CensusAfterWrongFalsely : Prop := censusAfterRow.holds Try.pinned (OpenSpec.ofChange censusAfterWrong)

/-- 'locutionlaw24.CensusAdds': WHATEVER THE INPUT: true; the input reads as it did. -/
def censusAddsSpec : ChangeSpec := { name := "censusAdds", fn := fun _ => fun
  | [d1, d2] => { results := [.lit (.bool true)], args := [d1, d2] }
  | _ => none }
def censusAddsRow : OpenClaim := { program := "ytokcnblonbcpeaa", sum := "b55b70812dd1decf36c3b2fee1346f58baff9f21fc9409117faf28e789f88028", func := "locution/locutionlaw24.CensusAdds", spec := "censusAdds", unfollowed := true, recurses := true, apart := false }
def CensusAddsSaid : Prop := censusAddsRow.holds Try.pinned (OpenSpec.ofChange censusAddsSpec)

/-- ITS FALSE NEIGHBOUR: 'it returns false'. Refute it at one input. -/
def censusAddsWrong : ChangeSpec := { name := "censusAdds", fn := fun _ => fun
  | [d1, d2] => { results := [.lit (.bool false)], args := [d1, d2] }
  | _ => none }
def CensusAddsWrongFalsely : Prop := censusAddsRow.holds Try.pinned (OpenSpec.ofChange censusAddsWrong)

/- THE SECOND FORM. 'bulk': how many values and letters a reading holds, each counted each time it is reached (what is shared counts as often as it is met; a slice's spare places count too). A statement '..UptoSaid' is the law's where the arguments, and the package variables that the reading takes, are together of bulk at most 1048576: NARROWER than '..Said'. Prove '..Said' where nothing that the law and all that it calls make is longer than what came in: it says more and counts as full. Else prove '..UptoSaid'. A law counts once. -/
mutual
def uptoBulk {H : Type} : DataW H → Nat
  | .lit (.string bytes) => bytes.length + 1
  | .lit _ => 1
  | .nil => 1
  | .ptr d => uptoBulk d + 1
  | .slice elems spare => uptoBulkAll elems + uptoBulkAll spare + 1
  | .agg parts => uptoBulkAll parts + 1
  | .iface _ d => uptoBulk d + 1
  | .map entries => uptoBulkEntries entries + 1
  | .held _ => 1
def uptoBulkAll {H : Type} : List (DataW H) → Nat
  | [] => 0
  | d :: r => uptoBulk d + uptoBulkAll r
def uptoBulkEntries {H : Type} : List (Lit × DataW H) → Nat
  | [] => 0
  | x :: r => uptoBulkEntry x + uptoBulkEntries r
def uptoBulkEntry {H : Type} : Lit × DataW H → Nat
  | (.string bytes, d) => bytes.length + uptoBulk d + 1
  | (_, d) => uptoBulk d + 1
 end
def uptoSmall : (H : Type) → List (DataW H) → Bool := fun _ ds => decide (uptoBulkAll ds ≤ 1048576)
def OpenSpec.upto (s : _root_.Go.ChangeSpec) : _root_.Go.OpenSpec := { _root_.Go.OpenSpec.ofChange s with cond := some uptoSmall }

/-- 'locutionlaw24.CensusOf', WHERE WHAT IT READS IS OF BULK AT MOST 1048576: true; the input reads as it did. -/
def censusOfUptoRow : OpenClaim := { program := "ytokcnblonbcpeaa", sum := "b55b70812dd1decf36c3b2fee1346f58baff9f21fc9409117faf28e789f88028", func := "locution/locutionlaw24.CensusOf", spec := "censusOf", apart := false, narrowed := true }
def CensusOfUptoSaid : Prop := censusOfUptoRow.holds Try.pinned (OpenSpec.upto censusOfSpec)

/-- 'locutionlaw12.CrcTells', WHERE WHAT IT READS IS OF BULK AT MOST 1048576: true; the input reads as it did. -/
def crcTellsUptoRow : OpenClaim := { program := "ytokcnblonbcpeaa", sum := "b55b70812dd1decf36c3b2fee1346f58baff9f21fc9409117faf28e789f88028", func := "locution/locutionlaw12.CrcTells", spec := "crcTells", apart := false, narrowed := true }
def CrcTellsUptoSaid : Prop := crcTellsUptoRow.holds Try.pinned (OpenSpec.upto crcTellsSpec)

/-- 'locutionlaw12.CrcGoes', WHERE WHAT IT READS IS OF BULK AT MOST 1048576: true; the input reads as it did. -/
def crcGoesUptoRow : OpenClaim := { program := "ytokcnblonbcpeaa", sum := "b55b70812dd1decf36c3b2fee1346f58baff9f21fc9409117faf28e789f88028", func := "locution/locutionlaw12.CrcGoes", spec := "crcGoes", apart := false, narrowed := true }
def CrcGoesUptoSaid : Prop := crcGoesUptoRow.holds Try.pinned (OpenSpec.upto crcGoesSpec)

/-- 'locutionlaw12.CrcOpens', WHERE WHAT IT READS IS OF BULK AT MOST 1048576: true; the input reads as it did. -/
def crcOpensUptoRow : OpenClaim := { program := "ytokcnblonbcpeaa", sum := "b55b70812dd1decf36c3b2fee1346f58baff9f21fc9409117faf28e789f88028", func := "locution/locutionlaw12.CrcOpens", spec := "crcOpens", apart := false, narrowed := true }
def CrcOpensUptoSaid : Prop := crcOpensUptoRow.holds Try.pinned (OpenSpec.upto crcOpensSpec)

/-- 'locutionlaw12.CrcFinds', WHERE WHAT IT READS IS OF BULK AT MOST 1048576: true; the input reads as it did. -/
def crcFindsUptoRow : OpenClaim := { program := "ytokcnblonbcpeaa", sum := "b55b70812dd1decf36c3b2fee1346f58baff9f21fc9409117faf28e789f88028", func := "locution/locutionlaw12.CrcFinds", spec := "crcFinds", apart := false, narrowed := true }
def CrcFindsUptoSaid : Prop := crcFindsUptoRow.holds Try.pinned (OpenSpec.upto crcFindsSpec)

/-- 'locutionlaw24.CensusAfter', WHERE WHAT IT READS IS OF BULK AT MOST 1048576: true; the input reads as it did. -/
def censusAfterUptoRow : OpenClaim := { program := "ytokcnblonbcpeaa", sum := "b55b70812dd1decf36c3b2fee1346f58baff9f21fc9409117faf28e789f88028", func := "locution/locutionlaw24.CensusAfter", spec := "censusAfter", unfollowed := true, recurses := true, apart := false, narrowed := true }
def CensusAfterUptoSaid : Prop := censusAfterUptoRow.holds Try.pinned (OpenSpec.upto censusAfterSpec)

/-- 'locutionlaw24.CensusAdds', WHERE WHAT IT READS IS OF BULK AT MOST 1048576: true; the input reads as it did. -/
def censusAddsUptoRow : OpenClaim := { program := "ytokcnblonbcpeaa", sum := "b55b70812dd1decf36c3b2fee1346f58baff9f21fc9409117faf28e789f88028", func := "locution/locutionlaw24.CensusAdds", spec := "censusAdds", unfollowed := true, recurses := true, apart := false, narrowed := true }
def CensusAddsUptoSaid : Prop := censusAddsUptoRow.holds Try.pinned (OpenSpec.upto censusAddsSpec)

end Rows
end Go.Proofs.Ytokcnblonbcpeaa
