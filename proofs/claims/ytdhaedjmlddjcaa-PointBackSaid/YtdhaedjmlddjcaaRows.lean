/-
  No cell of these rows narrows 'for every input' (looked for: loops, veiled, ifaces, maps, wideKeys, modest, calm, conditions, laid).
  DERIVED. THE GIVEN ROWS OF THIS SEAT. 7 by the template 'for every input the law returns true; each argument reads behind the call as it read before'; 0 by the template 'total and deterministic' (their statements: YtdhaedjmlddjcaaTotals.lean).
  GIVEN WITH THE SEED: the statements are not yours to turn. If you find one false, say at which input.
  Laid BY PROGRAM, IN A SANDBOX (cutbox-rows.mjs): the forced cells as the released guide's own fill.sh prints them over the translation 289a1396cbe331e4… (all of the seat's roots in one cut). By AI agents, Wed Nov 11 2026. No macro, syntax, notation, axiom, sorry.
-/
import Derived.Test.YtdhaedjmlddjcaaChecked
import GoSem.Claim
import GoSem.ClaimJoined
import GoSem.ClaimMapViews
import Derived.JoinedTies
import Derived.KernelRfl
namespace Go.Proofs.Ytdhaedjmlddjcaa
/- THE CELL 'sum', in the pinned program and in every row, IS THE sha256 OF THE DUMP (.gsa) THAT YtdhaedjmlddjcaaProg.lean LOADS. Nothing in Lean hashes anything: it is a label: what it is worth is what the hold of that sum in a sandbox is worth. -/
noncomputable def Try.pinned : Pinned := { name := "ytdhaedjmlddjcaa", sum := "289a1396cbe331e494ae5613eaadaf4c01f1d1d65fce6c28e17ca7aa56793964", checked := Try.checked }
namespace Rows
def none {H : Type} : Left H := { results := [], args := [] }

/-- 'shelfmarklaw8.PointKnown': WHATEVER THE INPUT: true; the input reads as it did. -/
def pointKnownSpec : ChangeSpec := { name := "pointKnown", fn := fun _ => fun
  | [d] => { results := [.lit (.bool true)], args := [d] }
  | _ => none }
def pointKnownRow : OpenClaim := { program := "ytdhaedjmlddjcaa", sum := "289a1396cbe331e494ae5613eaadaf4c01f1d1d65fce6c28e17ca7aa56793964", func := "shelfmark/shelfmarklaw8.PointKnown", spec := "pointKnown", inPlace := ["math/bits.Add64", "math/bits.Sub64"], unfollowed := true, recurses := true, apart := false }
def PointKnownSaid : Prop := pointKnownRow.holds Try.pinned (OpenSpec.ofChange pointKnownSpec)

/-- ITS FALSE NEIGHBOUR: 'it returns false'. Refute it at one input. -/
def pointKnownWrong : ChangeSpec := { name := "pointKnown", fn := fun _ => fun
  | [d] => { results := [.lit (.bool false)], args := [d] }
  | _ => none }
def PointKnownWrongFalsely : Prop := pointKnownRow.holds Try.pinned (OpenSpec.ofChange pointKnownWrong)

/-- 'shelfmarklaw8.PointSums': WHATEVER THE INPUT: true; the input reads as it did. -/
def pointSumsSpec : ChangeSpec := { name := "pointSums", fn := fun _ => fun
  | [d1, d2, d3, d4, d5] => { results := [.lit (.bool true)], args := [d1, d2, d3, d4, d5] }
  | _ => none }
def pointSumsRow : OpenClaim := { program := "ytdhaedjmlddjcaa", sum := "289a1396cbe331e494ae5613eaadaf4c01f1d1d65fce6c28e17ca7aa56793964", func := "shelfmark/shelfmarklaw8.PointSums", spec := "pointSums", inPlace := ["math/bits.Add64", "math/bits.Sub64"], unfollowed := true, recurses := true, apart := false }
def PointSumsSaid : Prop := pointSumsRow.holds Try.pinned (OpenSpec.ofChange pointSumsSpec)

/-- ITS FALSE NEIGHBOUR: 'it returns false'. Refute it at one input. -/
def pointSumsWrong : ChangeSpec := { name := "pointSums", fn := fun _ => fun
  | [d1, d2, d3, d4, d5] => { results := [.lit (.bool false)], args := [d1, d2, d3, d4, d5] }
  | _ => none }
def PointSumsWrongFalsely : Prop := pointSumsRow.holds Try.pinned (OpenSpec.ofChange pointSumsWrong)

/-- 'shelfmarklaw8.PointLaws': WHATEVER THE INPUT: true; the input reads as it did. -/
def pointLawsSpec : ChangeSpec := { name := "pointLaws", fn := fun _ => fun
  | [d1, d2, d3, d4, d5] => { results := [.lit (.bool true)], args := [d1, d2, d3, d4, d5] }
  | _ => none }
def pointLawsRow : OpenClaim := { program := "ytdhaedjmlddjcaa", sum := "289a1396cbe331e494ae5613eaadaf4c01f1d1d65fce6c28e17ca7aa56793964", func := "shelfmark/shelfmarklaw8.PointLaws", spec := "pointLaws", inPlace := ["math/bits.Add64", "math/bits.Sub64"], unfollowed := true, recurses := true, apart := false }
def PointLawsSaid : Prop := pointLawsRow.holds Try.pinned (OpenSpec.ofChange pointLawsSpec)

/-- ITS FALSE NEIGHBOUR: 'it returns false'. Refute it at one input. -/
def pointLawsWrong : ChangeSpec := { name := "pointLaws", fn := fun _ => fun
  | [d1, d2, d3, d4, d5] => { results := [.lit (.bool false)], args := [d1, d2, d3, d4, d5] }
  | _ => none }
def PointLawsWrongFalsely : Prop := pointLawsRow.holds Try.pinned (OpenSpec.ofChange pointLawsWrong)

/-- 'shelfmarklaw8.PointGroups': WHATEVER THE INPUT: true; the input reads as it did. -/
def pointGroupsSpec : ChangeSpec := { name := "pointGroups", fn := fun _ => fun
  | [d1, d2, d3, d4, d5] => { results := [.lit (.bool true)], args := [d1, d2, d3, d4, d5] }
  | _ => none }
def pointGroupsRow : OpenClaim := { program := "ytdhaedjmlddjcaa", sum := "289a1396cbe331e494ae5613eaadaf4c01f1d1d65fce6c28e17ca7aa56793964", func := "shelfmark/shelfmarklaw8.PointGroups", spec := "pointGroups", inPlace := ["math/bits.Add64", "math/bits.Sub64"], unfollowed := true, recurses := true, apart := false }
def PointGroupsSaid : Prop := pointGroupsRow.holds Try.pinned (OpenSpec.ofChange pointGroupsSpec)

/-- ITS FALSE NEIGHBOUR: 'it returns false'. Refute it at one input. -/
def pointGroupsWrong : ChangeSpec := { name := "pointGroups", fn := fun _ => fun
  | [d1, d2, d3, d4, d5] => { results := [.lit (.bool false)], args := [d1, d2, d3, d4, d5] }
  | _ => none }
def PointGroupsWrongFalsely : Prop := pointGroupsRow.holds Try.pinned (OpenSpec.ofChange pointGroupsWrong)

/-- 'shelfmarklaw8.PointAll': WHATEVER THE INPUT: true; the input reads as it did. -/
def pointAllSpec : ChangeSpec := { name := "pointAll", fn := fun _ => fun
  | [d1, d2] => { results := [.lit (.bool true)], args := [d1, d2] }
  | _ => none }
def pointAllRow : OpenClaim := { program := "ytdhaedjmlddjcaa", sum := "289a1396cbe331e494ae5613eaadaf4c01f1d1d65fce6c28e17ca7aa56793964", func := "shelfmark/shelfmarklaw8.PointAll", spec := "pointAll", inPlace := ["math/bits.Add64", "math/bits.Sub64"], unfollowed := true, recurses := true, apart := false }
def PointAllSaid : Prop := pointAllRow.holds Try.pinned (OpenSpec.ofChange pointAllSpec)

/-- ITS FALSE NEIGHBOUR: 'it returns false'. Refute it at one input. -/
def pointAllWrong : ChangeSpec := { name := "pointAll", fn := fun _ => fun
  | [d1, d2] => { results := [.lit (.bool false)], args := [d1, d2] }
  | _ => none }
def PointAllWrongFalsely : Prop := pointAllRow.holds Try.pinned (OpenSpec.ofChange pointAllWrong)

/-- 'shelfmarklaw8.PointRefuses': WHATEVER THE INPUT: true; the input reads as it did. -/
def pointRefusesSpec : ChangeSpec := { name := "pointRefuses", fn := fun _ => fun
  | [d1, d2] => { results := [.lit (.bool true)], args := [d1, d2] }
  | _ => none }
def pointRefusesRow : OpenClaim := { program := "ytdhaedjmlddjcaa", sum := "289a1396cbe331e494ae5613eaadaf4c01f1d1d65fce6c28e17ca7aa56793964", func := "shelfmark/shelfmarklaw8.PointRefuses", spec := "pointRefuses", inPlace := ["math/bits.Add64", "math/bits.Sub64"], unfollowed := true, recurses := true, apart := false }
def PointRefusesSaid : Prop := pointRefusesRow.holds Try.pinned (OpenSpec.ofChange pointRefusesSpec)

/-- ITS FALSE NEIGHBOUR: 'it returns false'. Refute it at one input. -/
def pointRefusesWrong : ChangeSpec := { name := "pointRefuses", fn := fun _ => fun
  | [d1, d2] => { results := [.lit (.bool false)], args := [d1, d2] }
  | _ => none }
def PointRefusesWrongFalsely : Prop := pointRefusesRow.holds Try.pinned (OpenSpec.ofChange pointRefusesWrong)

/-- 'shelfmarklaw8.PointBack': WHATEVER THE INPUT: true; the input reads as it did. -/
def pointBackSpec : ChangeSpec := { name := "pointBack", fn := fun _ => fun
  | [d1, d2] => { results := [.lit (.bool true)], args := [d1, d2] }
  | _ => none }
def pointBackRow : OpenClaim := { program := "ytdhaedjmlddjcaa", sum := "289a1396cbe331e494ae5613eaadaf4c01f1d1d65fce6c28e17ca7aa56793964", func := "shelfmark/shelfmarklaw8.PointBack", spec := "pointBack", inPlace := ["math/bits.Add64", "math/bits.Sub64"], unfollowed := true, recurses := true, apart := false }
def PointBackSaid : Prop := pointBackRow.holds Try.pinned (OpenSpec.ofChange pointBackSpec)

/-- ITS FALSE NEIGHBOUR: 'it returns false'. Refute it at one input. -/
def pointBackWrong : ChangeSpec := { name := "pointBack", fn := fun _ => fun
  | [d1, d2] => { results := [.lit (.bool false)], args := [d1, d2] }
  | _ => none }
def PointBackWrongFalsely : Prop := pointBackRow.holds Try.pinned (OpenSpec.ofChange pointBackWrong)

/- THE SECOND FORM. 'bulk': how many values and letters a reading holds, each counted each time it is reached (what is shared counts as often as it is met; a slice's spare places count too). A statement '..UptoSaid' is the law's where the arguments, and the package variables that the reading takes, are together of bulk at most 1048576: NARROWER than '..Said'. Prove '..Said' where nothing that the law and all that it calls make is longer than what came in: it says more and counts as full. Else prove '..UptoSaid'. A law counts once. -/
mutual
def uptoBulk {H : Type} : DataW H → Nat
  | .lit (.string bytes) => bytes.length + 1
  | .lit _ => 1
  | .nil => 1
  | .ptr d => uptoBulk d + 1
  | .slice elems spare => uptoBulkAll elems + uptoBulkAll spare + 1
  | .agg parts => uptoBulkAll parts + 1
  | .iface _ d => uptoBulk d + 1
  | .map entries => uptoBulkEntries entries + 1
  | .held _ => 1
def uptoBulkAll {H : Type} : List (DataW H) → Nat
  | [] => 0
  | d :: r => uptoBulk d + uptoBulkAll r
def uptoBulkEntries {H : Type} : List (Lit × DataW H) → Nat
  | [] => 0
  | x :: r => uptoBulkEntry x + uptoBulkEntries r
def uptoBulkEntry {H : Type} : Lit × DataW H → Nat
  | (.string bytes, d) => bytes.length + uptoBulk d + 1
  | (_, d) => uptoBulk d + 1
 end
def uptoSmall : (H : Type) → List (DataW H) → Bool := fun _ ds => decide (uptoBulkAll ds ≤ 1048576)
def OpenSpec.upto (s : _root_.Go.ChangeSpec) : _root_.Go.OpenSpec := { _root_.Go.OpenSpec.ofChange s with cond := some uptoSmall }

/-- 'shelfmarklaw8.PointKnown', WHERE WHAT IT READS IS OF BULK AT MOST 1048576: true; the input reads as it did. -/
def pointKnownUptoRow : OpenClaim := { program := "ytdhaedjmlddjcaa", sum := "289a1396cbe331e494ae5613eaadaf4c01f1d1d65fce6c28e17ca7aa56793964", func := "shelfmark/shelfmarklaw8.PointKnown", spec := "pointKnown", inPlace := ["math/bits.Add64", "math/bits.Sub64"], unfollowed := true, recurses := true, apart := false, narrowed := true }
def PointKnownUptoSaid : Prop := pointKnownUptoRow.holds Try.pinned (OpenSpec.upto pointKnownSpec)

/-- 'shelfmarklaw8.PointSums', WHERE WHAT IT READS IS OF BULK AT MOST 1048576: true; the input reads as it did. -/
def pointSumsUptoRow : OpenClaim := { program := "ytdhaedjmlddjcaa", sum := "289a1396cbe331e494ae5613eaadaf4c01f1d1d65fce6c28e17ca7aa56793964", func := "shelfmark/shelfmarklaw8.PointSums", spec := "pointSums", inPlace := ["math/bits.Add64", "math/bits.Sub64"], unfollowed := true, recurses := true, apart := false, narrowed := true }
def PointSumsUptoSaid : Prop := pointSumsUptoRow.holds Try.pinned (OpenSpec.upto pointSumsSpec)

/-- 'shelfmarklaw8.PointLaws', WHERE WHAT IT READS IS OF BULK AT MOST 1048576: true; the input reads as it did. -/
def pointLawsUptoRow : OpenClaim := { program := "ytdhaedjmlddjcaa", sum := "289a1396cbe331e494ae5613eaadaf4c01f1d1d65fce6c28e17ca7aa56793964", func := "shelfmark/shelfmarklaw8.PointLaws", spec := "pointLaws", inPlace := ["math/bits.Add64", "math/bits.Sub64"], unfollowed := true, recurses := true, apart := false, narrowed := true }
def PointLawsUptoSaid : Prop := pointLawsUptoRow.holds Try.pinned (OpenSpec.upto pointLawsSpec)

/-- 'shelfmarklaw8.PointGroups', WHERE WHAT IT READS IS OF BULK AT MOST 1048576: true; the input reads as it did. -/
def pointGroupsUptoRow : OpenClaim := { program := "ytdhaedjmlddjcaa", sum := "289a1396cbe331e494ae5613eaadaf4c01f1d1d65fce6c28e17ca7aa56793964", func := "shelfmark/shelfmarklaw8.PointGroups", spec := "pointGroups", inPlace := ["math/bits.Add64", "math/bits.Sub64"], unfollowed := true, recurses := true, apart := false, narrowed := true }
def PointGroupsUptoSaid : Prop := pointGroupsUptoRow.holds Try.pinned (OpenSpec.upto pointGroupsSpec)

/-- 'shelfmarklaw8.PointAll', WHERE WHAT IT READS IS OF BULK AT MOST 1048576: true; the input reads as it did. -/
def pointAllUptoRow : OpenClaim := { program := "ytdhaedjmlddjcaa", sum := "289a1396cbe331e494ae5613eaadaf4c01f1d1d65fce6c28e17ca7aa56793964", func := "shelfmark/shelfmarklaw8.PointAll", spec := "pointAll", inPlace := ["math/bits.Add64", "math/bits.Sub64"], unfollowed := true, recurses := true, apart := false, narrowed := true }
def PointAllUptoSaid : Prop := pointAllUptoRow.holds Try.pinned (OpenSpec.upto pointAllSpec)

/-- 'shelfmarklaw8.PointRefuses', WHERE WHAT IT READS IS OF BULK AT MOST 1048576: true; the input reads as it did. -/
def pointRefusesUptoRow : OpenClaim := { program := "ytdhaedjmlddjcaa", sum := "289a1396cbe331e494ae5613eaadaf4c01f1d1d65fce6c28e17ca7aa56793964", func := "shelfmark/shelfmarklaw8.PointRefuses", spec := "pointRefuses", inPlace := ["math/bits.Add64", "math/bits.Sub64"], unfollowed := true, recurses := true, apart := false, narrowed := true }
def PointRefusesUptoSaid : Prop := pointRefusesUptoRow.holds Try.pinned (OpenSpec.upto pointRefusesSpec)

/-- 'shelfmarklaw8.PointBack', WHERE WHAT IT READS IS OF BULK AT MOST 1048576: true; the input reads as it did. -/
def pointBackUptoRow : OpenClaim := { program := "ytdhaedjmlddjcaa", sum := "289a1396cbe331e494ae5613eaadaf4c01f1d1d65fce6c28e17ca7aa56793964", func := "shelfmark/shelfmarklaw8.PointBack", spec := "pointBack", inPlace := ["math/bits.Add64", "math/bits.Sub64"], unfollowed := true, recurses := true, apart := false, narrowed := true }
def PointBackUptoSaid : Prop := pointBackUptoRow.holds Try.pinned (OpenSpec.upto pointBackSpec)

end Rows
end Go.Proofs.Ytdhaedjmlddjcaa
