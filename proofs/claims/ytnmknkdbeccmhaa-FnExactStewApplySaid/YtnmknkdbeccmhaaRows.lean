/-
  No cell of these rows narrows 'for every input' (looked for: loops, veiled, ifaces, maps, wideKeys, modest, calm, conditions, laid).
  DERIVED. THE GIVEN ROWS OF THIS SEAT. 12 by the template 'for every input the law returns true; each argument reads behind the call as it read before'; 0 by the template 'total and deterministic' (their statements: YtnmknkdbeccmhaaTotals.lean).
  GIVEN WITH THE SEED: the statements are not yours to turn. If you find one false, say at which input.
  Laid BY PROGRAM, IN A SANDBOX (cutbox-rows.mjs): the forced cells as the released guide's own fill.sh prints them over the translation 2177fdec0418d583… (all of the seat's roots in one cut). By AI agents, Wed Nov 11 2026. No macro, syntax, notation, axiom, sorry.
-/
import Derived.Test.YtnmknkdbeccmhaaChecked
import GoSem.Claim
import GoSem.ClaimJoined
import GoSem.ClaimMapViews
import Derived.JoinedTies
import Derived.KernelRfl
namespace Go.Proofs.Ytnmknkdbeccmhaa
/- THE CELL 'sum', in the pinned program and in every row, IS THE sha256 OF THE DUMP (.gsa) THAT YtnmknkdbeccmhaaProg.lean LOADS. Nothing in Lean hashes anything: it is a label: what it is worth is what the hold of that sum in a sandbox is worth. -/
noncomputable def Try.pinned : Pinned := { name := "ytnmknkdbeccmhaa", sum := "2177fdec0418d583387b45ea957e352613f1652a8fba5cf7f33be44e9f6c2a38", checked := Try.checked }
namespace Rows
def none {H : Type} : Left H := { results := [], args := [] }

/-- 'laws.FnExactConstants': WHATEVER THE INPUT: true; the input reads as it did. -/
def fnExactConstantsSpec : ChangeSpec := { name := "fnExactConstants", fn := fun _ => fun
  | [] => { results := [.lit (.bool true)], args := [] }
  | _ => none }
def fnExactConstantsRow : OpenClaim := { program := "ytnmknkdbeccmhaa", sum := "2177fdec0418d583387b45ea957e352613f1652a8fba5cf7f33be44e9f6c2a38", func := "loop.example/wharfsteward/laws.FnExactConstants", spec := "fnExactConstants", apart := false }
def FnExactConstantsSaid : Prop := fnExactConstantsRow.holds Try.pinned (OpenSpec.ofChange fnExactConstantsSpec)

/-- ITS FALSE NEIGHBOUR: 'it returns false'. Refute it at one input. -/
def fnExactConstantsWrong : ChangeSpec := { name := "fnExactConstants", fn := fun _ => fun
  | [] => { results := [.lit (.bool false)], args := [] }
  | _ => none }
def FnExactConstantsWrongFalsely : Prop := fnExactConstantsRow.holds Try.pinned (OpenSpec.ofChange fnExactConstantsWrong)

/-- 'laws.FnExactStewValid': WHATEVER THE INPUT: true; the input reads as it did. -/
def fnExactStewValidSpec : ChangeSpec := { name := "fnExactStewValid", fn := fun _ => fun
  | [d] => { results := [.lit (.bool true)], args := [d] }
  | _ => none }
def fnExactStewValidRow : OpenClaim := { program := "ytnmknkdbeccmhaa", sum := "2177fdec0418d583387b45ea957e352613f1652a8fba5cf7f33be44e9f6c2a38", func := "loop.example/wharfsteward/laws.FnExactStewValid", spec := "fnExactStewValid", apart := false }
def FnExactStewValidSaid : Prop := fnExactStewValidRow.holds Try.pinned (OpenSpec.ofChange fnExactStewValidSpec)

/-- ITS FALSE NEIGHBOUR: 'it returns false'. Refute it at one input. -/
def fnExactStewValidWrong : ChangeSpec := { name := "fnExactStewValid", fn := fun _ => fun
  | [d] => { results := [.lit (.bool false)], args := [d] }
  | _ => none }
def FnExactStewValidWrongFalsely : Prop := fnExactStewValidRow.holds Try.pinned (OpenSpec.ofChange fnExactStewValidWrong)

/-- 'laws.FnExactStewWorldOk': WHATEVER THE INPUT: true; the input reads as it did. -/
def fnExactStewWorldOkSpec : ChangeSpec := { name := "fnExactStewWorldOk", fn := fun _ => fun
  | [d] => { results := [.lit (.bool true)], args := [d] }
  | _ => none }
def fnExactStewWorldOkRow : OpenClaim := { program := "ytnmknkdbeccmhaa", sum := "2177fdec0418d583387b45ea957e352613f1652a8fba5cf7f33be44e9f6c2a38", func := "loop.example/wharfsteward/laws.FnExactStewWorldOk", spec := "fnExactStewWorldOk", apart := false }
def FnExactStewWorldOkSaid : Prop := fnExactStewWorldOkRow.holds Try.pinned (OpenSpec.ofChange fnExactStewWorldOkSpec)

/-- ITS FALSE NEIGHBOUR: 'it returns false'. Refute it at one input. -/
def fnExactStewWorldOkWrong : ChangeSpec := { name := "fnExactStewWorldOk", fn := fun _ => fun
  | [d] => { results := [.lit (.bool false)], args := [d] }
  | _ => none }
def FnExactStewWorldOkWrongFalsely : Prop := fnExactStewWorldOkRow.holds Try.pinned (OpenSpec.ofChange fnExactStewWorldOkWrong)

/-- 'laws.FnExactStewCountOf': WHATEVER THE INPUT: true; the input reads as it did. -/
def fnExactStewCountOfSpec : ChangeSpec := { name := "fnExactStewCountOf", fn := fun _ => fun
  | [d1, d2] => { results := [.lit (.bool true)], args := [d1, d2] }
  | _ => none }
def fnExactStewCountOfRow : OpenClaim := { program := "ytnmknkdbeccmhaa", sum := "2177fdec0418d583387b45ea957e352613f1652a8fba5cf7f33be44e9f6c2a38", func := "loop.example/wharfsteward/laws.FnExactStewCountOf", spec := "fnExactStewCountOf", apart := false }
def FnExactStewCountOfSaid : Prop := fnExactStewCountOfRow.holds Try.pinned (OpenSpec.ofChange fnExactStewCountOfSpec)

/-- ITS FALSE NEIGHBOUR: 'it returns false'. Refute it at one input. -/
def fnExactStewCountOfWrong : ChangeSpec := { name := "fnExactStewCountOf", fn := fun _ => fun
  | [d1, d2] => { results := [.lit (.bool false)], args := [d1, d2] }
  | _ => none }
def FnExactStewCountOfWrongFalsely : Prop := fnExactStewCountOfRow.holds Try.pinned (OpenSpec.ofChange fnExactStewCountOfWrong)

/-- 'laws.FnExactStewMayEnd': WHATEVER THE INPUT: true; the input reads as it did. -/
def fnExactStewMayEndSpec : ChangeSpec := { name := "fnExactStewMayEnd", fn := fun _ => fun
  | [d1, d2, d3] => { results := [.lit (.bool true)], args := [d1, d2, d3] }
  | _ => none }
def fnExactStewMayEndRow : OpenClaim := { program := "ytnmknkdbeccmhaa", sum := "2177fdec0418d583387b45ea957e352613f1652a8fba5cf7f33be44e9f6c2a38", func := "loop.example/wharfsteward/laws.FnExactStewMayEnd", spec := "fnExactStewMayEnd", apart := false }
def FnExactStewMayEndSaid : Prop := fnExactStewMayEndRow.holds Try.pinned (OpenSpec.ofChange fnExactStewMayEndSpec)

/-- ITS FALSE NEIGHBOUR: 'it returns false'. Refute it at one input. -/
def fnExactStewMayEndWrong : ChangeSpec := { name := "fnExactStewMayEnd", fn := fun _ => fun
  | [d1, d2, d3] => { results := [.lit (.bool false)], args := [d1, d2, d3] }
  | _ => none }
def FnExactStewMayEndWrongFalsely : Prop := fnExactStewMayEndRow.holds Try.pinned (OpenSpec.ofChange fnExactStewMayEndWrong)

/-- 'laws.FnExactStewDone': WHATEVER THE INPUT: true; the input reads as it did. -/
def fnExactStewDoneSpec : ChangeSpec := { name := "fnExactStewDone", fn := fun _ => fun
  | [d] => { results := [.lit (.bool true)], args := [d] }
  | _ => none }
def fnExactStewDoneRow : OpenClaim := { program := "ytnmknkdbeccmhaa", sum := "2177fdec0418d583387b45ea957e352613f1652a8fba5cf7f33be44e9f6c2a38", func := "loop.example/wharfsteward/laws.FnExactStewDone", spec := "fnExactStewDone", apart := false }
def FnExactStewDoneSaid : Prop := fnExactStewDoneRow.holds Try.pinned (OpenSpec.ofChange fnExactStewDoneSpec)

/-- ITS FALSE NEIGHBOUR: 'it returns false'. Refute it at one input. -/
def fnExactStewDoneWrong : ChangeSpec := { name := "fnExactStewDone", fn := fun _ => fun
  | [d] => { results := [.lit (.bool false)], args := [d] }
  | _ => none }
def FnExactStewDoneWrongFalsely : Prop := fnExactStewDoneRow.holds Try.pinned (OpenSpec.ofChange fnExactStewDoneWrong)

/-- 'laws.FnExactStewRank': WHATEVER THE INPUT: true; the input reads as it did. -/
def fnExactStewRankSpec : ChangeSpec := { name := "fnExactStewRank", fn := fun _ => fun
  | [d] => { results := [.lit (.bool true)], args := [d] }
  | _ => none }
def fnExactStewRankRow : OpenClaim := { program := "ytnmknkdbeccmhaa", sum := "2177fdec0418d583387b45ea957e352613f1652a8fba5cf7f33be44e9f6c2a38", func := "loop.example/wharfsteward/laws.FnExactStewRank", spec := "fnExactStewRank", apart := false }
def FnExactStewRankSaid : Prop := fnExactStewRankRow.holds Try.pinned (OpenSpec.ofChange fnExactStewRankSpec)

/-- ITS FALSE NEIGHBOUR: 'it returns false'. Refute it at one input. -/
def fnExactStewRankWrong : ChangeSpec := { name := "fnExactStewRank", fn := fun _ => fun
  | [d] => { results := [.lit (.bool false)], args := [d] }
  | _ => none }
def FnExactStewRankWrongFalsely : Prop := fnExactStewRankRow.holds Try.pinned (OpenSpec.ofChange fnExactStewRankWrong)

/-- 'laws.FnGate': WHATEVER THE INPUT: true; the input reads as it did. -/
def fnGateSpec : ChangeSpec := { name := "fnGate", fn := fun _ => fun
  | [d] => { results := [.lit (.bool true)], args := [d] }
  | _ => none }
def fnGateRow : OpenClaim := { program := "ytnmknkdbeccmhaa", sum := "2177fdec0418d583387b45ea957e352613f1652a8fba5cf7f33be44e9f6c2a38", func := "loop.example/wharfsteward/laws.FnGate", spec := "fnGate", apart := false }
def FnGateSaid : Prop := fnGateRow.holds Try.pinned (OpenSpec.ofChange fnGateSpec)

/-- ITS FALSE NEIGHBOUR: 'it returns false'. Refute it at one input. -/
def fnGateWrong : ChangeSpec := { name := "fnGate", fn := fun _ => fun
  | [d] => { results := [.lit (.bool false)], args := [d] }
  | _ => none }
def FnGateWrongFalsely : Prop := fnGateRow.holds Try.pinned (OpenSpec.ofChange fnGateWrong)

/-- 'laws.FnExactStewApply': WHATEVER THE INPUT: true; the input reads as it did. -/
def fnExactStewApplySpec : ChangeSpec := { name := "fnExactStewApply", fn := fun _ => fun
  | [d1, d2] => { results := [.lit (.bool true)], args := [d1, d2] }
  | _ => none }
def fnExactStewApplyRow : OpenClaim := { program := "ytnmknkdbeccmhaa", sum := "2177fdec0418d583387b45ea957e352613f1652a8fba5cf7f33be44e9f6c2a38", func := "loop.example/wharfsteward/laws.FnExactStewApply", spec := "fnExactStewApply", inPlace := ["slices.overlaps[loop.example/wharfsteward/impl.StewCopy]"], unfollowed := true, recurses := true, apart := false }
def FnExactStewApplySaid : Prop := fnExactStewApplyRow.holds Try.pinned (OpenSpec.ofChange fnExactStewApplySpec)

/-- ITS FALSE NEIGHBOUR: 'it returns false'. Refute it at one input. -/
def fnExactStewApplyWrong : ChangeSpec := { name := "fnExactStewApply", fn := fun _ => fun
  | [d1, d2] => { results := [.lit (.bool false)], args := [d1, d2] }
  | _ => none }
def FnExactStewApplyWrongFalsely : Prop := fnExactStewApplyRow.holds Try.pinned (OpenSpec.ofChange fnExactStewApplyWrong)

/-- 'laws.FnSea': WHATEVER THE INPUT: true; the input reads as it did. -/
def fnSeaSpec : ChangeSpec := { name := "fnSea", fn := fun _ => fun
  | [d] => { results := [.lit (.bool true)], args := [d] }
  | _ => none }
def fnSeaRow : OpenClaim := { program := "ytnmknkdbeccmhaa", sum := "2177fdec0418d583387b45ea957e352613f1652a8fba5cf7f33be44e9f6c2a38", func := "loop.example/wharfsteward/laws.FnSea", spec := "fnSea", inPlace := ["slices.overlaps[loop.example/wharfsteward/impl.StewService]", "slices.overlaps[loop.example/wharfsteward/impl.StewBerth]"], unfollowed := true, recurses := true, apart := false }
def FnSeaSaid : Prop := fnSeaRow.holds Try.pinned (OpenSpec.ofChange fnSeaSpec)

/-- ITS FALSE NEIGHBOUR: 'it returns false'. Refute it at one input. -/
def fnSeaWrong : ChangeSpec := { name := "fnSea", fn := fun _ => fun
  | [d] => { results := [.lit (.bool false)], args := [d] }
  | _ => none }
def FnSeaWrongFalsely : Prop := fnSeaRow.holds Try.pinned (OpenSpec.ofChange fnSeaWrong)

/-- 'laws.FnActs': WHATEVER THE INPUT: true; the input reads as it did. -/
def fnActsSpec : ChangeSpec := { name := "fnActs", fn := fun _ => fun
  | [d] => { results := [.lit (.bool true)], args := [d] }
  | _ => none }
def fnActsRow : OpenClaim := { program := "ytnmknkdbeccmhaa", sum := "2177fdec0418d583387b45ea957e352613f1652a8fba5cf7f33be44e9f6c2a38", func := "loop.example/wharfsteward/laws.FnActs", spec := "fnActs", inPlace := ["slices.overlaps[loop.example/wharfsteward/impl.StewCopy]"], unfollowed := true, recurses := true, apart := false }
def FnActsSaid : Prop := fnActsRow.holds Try.pinned (OpenSpec.ofChange fnActsSpec)

/-- ITS FALSE NEIGHBOUR: 'it returns false'. Refute it at one input. -/
def fnActsWrong : ChangeSpec := { name := "fnActs", fn := fun _ => fun
  | [d] => { results := [.lit (.bool false)], args := [d] }
  | _ => none }
def FnActsWrongFalsely : Prop := fnActsRow.holds Try.pinned (OpenSpec.ofChange fnActsWrong)

/-- 'laws.FnAsks': WHATEVER THE INPUT: true; the input reads as it did. -/
def fnAsksSpec : ChangeSpec := { name := "fnAsks", fn := fun _ => fun
  | [d] => { results := [.lit (.bool true)], args := [d] }
  | _ => none }
def fnAsksRow : OpenClaim := { program := "ytnmknkdbeccmhaa", sum := "2177fdec0418d583387b45ea957e352613f1652a8fba5cf7f33be44e9f6c2a38", func := "loop.example/wharfsteward/laws.FnAsks", spec := "fnAsks", inPlace := ["slices.overlaps[loop.example/wharfsteward/impl.StewCopy]"], unfollowed := true, recurses := true, apart := false }
def FnAsksSaid : Prop := fnAsksRow.holds Try.pinned (OpenSpec.ofChange fnAsksSpec)

/-- ITS FALSE NEIGHBOUR: 'it returns false'. Refute it at one input. -/
def fnAsksWrong : ChangeSpec := { name := "fnAsks", fn := fun _ => fun
  | [d] => { results := [.lit (.bool false)], args := [d] }
  | _ => none }
def FnAsksWrongFalsely : Prop := fnAsksRow.holds Try.pinned (OpenSpec.ofChange fnAsksWrong)

/- THE SECOND FORM. 'bulk': how many values and letters a reading holds, each counted each time it is reached (what is shared counts as often as it is met; a slice's spare places count too). A statement '..UptoSaid' is the law's where the arguments, and the package variables that the reading takes, are together of bulk at most 1048576: NARROWER than '..Said'. Prove '..Said' where nothing that the law and all that it calls make is longer than what came in: it says more and counts as full. Else prove '..UptoSaid'. A law counts once. -/
mutual
def uptoBulk {H : Type} : DataW H → Nat
  | .lit (.string bytes) => bytes.length + 1
  | .lit _ => 1
  | .nil => 1
  | .ptr d => uptoBulk d + 1
  | .slice elems spare => uptoBulkAll elems + uptoBulkAll spare + 1
  | .agg parts => uptoBulkAll parts + 1
  | .iface _ d => uptoBulk d + 1
  | .map entries => uptoBulkEntries entries + 1
  | .held _ => 1
def uptoBulkAll {H : Type} : List (DataW H) → Nat
  | [] => 0
  | d :: r => uptoBulk d + uptoBulkAll r
def uptoBulkEntries {H : Type} : List (Lit × DataW H) → Nat
  | [] => 0
  | x :: r => uptoBulkEntry x + uptoBulkEntries r
def uptoBulkEntry {H : Type} : Lit × DataW H → Nat
  | (.string bytes, d) => bytes.length + uptoBulk d + 1
  | (_, d) => uptoBulk d + 1
 end
def uptoSmall : (H : Type) → List (DataW H) → Bool := fun _ ds => decide (uptoBulkAll ds ≤ 1048576)
def OpenSpec.upto (s : _root_.Go.ChangeSpec) : _root_.Go.OpenSpec := { _root_.Go.OpenSpec.ofChange s with cond := some uptoSmall }

/-- 'laws.FnExactConstants', WHERE WHAT IT READS IS OF BULK AT MOST 1048576: true; the input reads as it did. -/
def fnExactConstantsUptoRow : OpenClaim := { program := "ytnmknkdbeccmhaa", sum := "2177fdec0418d583387b45ea957e352613f1652a8fba5cf7f33be44e9f6c2a38", func := "loop.example/wharfsteward/laws.FnExactConstants", spec := "fnExactConstants", apart := false, narrowed := true }
def FnExactConstantsUptoSaid : Prop := fnExactConstantsUptoRow.holds Try.pinned (OpenSpec.upto fnExactConstantsSpec)

/-- 'laws.FnExactStewValid', WHERE WHAT IT READS IS OF BULK AT MOST 1048576: true; the input reads as it did. -/
def fnExactStewValidUptoRow : OpenClaim := { program := "ytnmknkdbeccmhaa", sum := "2177fdec0418d583387b45ea957e352613f1652a8fba5cf7f33be44e9f6c2a38", func := "loop.example/wharfsteward/laws.FnExactStewValid", spec := "fnExactStewValid", apart := false, narrowed := true }
def FnExactStewValidUptoSaid : Prop := fnExactStewValidUptoRow.holds Try.pinned (OpenSpec.upto fnExactStewValidSpec)

/-- 'laws.FnExactStewWorldOk', WHERE WHAT IT READS IS OF BULK AT MOST 1048576: true; the input reads as it did. -/
def fnExactStewWorldOkUptoRow : OpenClaim := { program := "ytnmknkdbeccmhaa", sum := "2177fdec0418d583387b45ea957e352613f1652a8fba5cf7f33be44e9f6c2a38", func := "loop.example/wharfsteward/laws.FnExactStewWorldOk", spec := "fnExactStewWorldOk", apart := false, narrowed := true }
def FnExactStewWorldOkUptoSaid : Prop := fnExactStewWorldOkUptoRow.holds Try.pinned (OpenSpec.upto fnExactStewWorldOkSpec)

/-- 'laws.FnExactStewCountOf', WHERE WHAT IT READS IS OF BULK AT MOST 1048576: true; the input reads as it did. -/
def fnExactStewCountOfUptoRow : OpenClaim := { program := "ytnmknkdbeccmhaa", sum := "2177fdec0418d583387b45ea957e352613f1652a8fba5cf7f33be44e9f6c2a38", func := "loop.example/wharfsteward/laws.FnExactStewCountOf", spec := "fnExactStewCountOf", apart := false, narrowed := true }
def FnExactStewCountOfUptoSaid : Prop := fnExactStewCountOfUptoRow.holds Try.pinned (OpenSpec.upto fnExactStewCountOfSpec)

/-- 'laws.FnExactStewMayEnd', WHERE WHAT IT READS IS OF BULK AT MOST 1048576: true; the input reads as it did. -/
def fnExactStewMayEndUptoRow : OpenClaim := { program := "ytnmknkdbeccmhaa", sum := "2177fdec0418d583387b45ea957e352613f1652a8fba5cf7f33be44e9f6c2a38", func := "loop.example/wharfsteward/laws.FnExactStewMayEnd", spec := "fnExactStewMayEnd", apart := false, narrowed := true }
def FnExactStewMayEndUptoSaid : Prop := fnExactStewMayEndUptoRow.holds Try.pinned (OpenSpec.upto fnExactStewMayEndSpec)

/-- 'laws.FnExactStewDone', WHERE WHAT IT READS IS OF BULK AT MOST 1048576: true; the input reads as it did. -/
def fnExactStewDoneUptoRow : OpenClaim := { program := "ytnmknkdbeccmhaa", sum := "2177fdec0418d583387b45ea957e352613f1652a8fba5cf7f33be44e9f6c2a38", func := "loop.example/wharfsteward/laws.FnExactStewDone", spec := "fnExactStewDone", apart := false, narrowed := true }
def FnExactStewDoneUptoSaid : Prop := fnExactStewDoneUptoRow.holds Try.pinned (OpenSpec.upto fnExactStewDoneSpec)

/-- 'laws.FnExactStewRank', WHERE WHAT IT READS IS OF BULK AT MOST 1048576: true; the input reads as it did. -/
def fnExactStewRankUptoRow : OpenClaim := { program := "ytnmknkdbeccmhaa", sum := "2177fdec0418d583387b45ea957e352613f1652a8fba5cf7f33be44e9f6c2a38", func := "loop.example/wharfsteward/laws.FnExactStewRank", spec := "fnExactStewRank", apart := false, narrowed := true }
def FnExactStewRankUptoSaid : Prop := fnExactStewRankUptoRow.holds Try.pinned (OpenSpec.upto fnExactStewRankSpec)

/-- 'laws.FnGate', WHERE WHAT IT READS IS OF BULK AT MOST 1048576: true; the input reads as it did. -/
def fnGateUptoRow : OpenClaim := { program := "ytnmknkdbeccmhaa", sum := "2177fdec0418d583387b45ea957e352613f1652a8fba5cf7f33be44e9f6c2a38", func := "loop.example/wharfsteward/laws.FnGate", spec := "fnGate", apart := false, narrowed := true }
def FnGateUptoSaid : Prop := fnGateUptoRow.holds Try.pinned (OpenSpec.upto fnGateSpec)

/-- 'laws.FnExactStewApply', WHERE WHAT IT READS IS OF BULK AT MOST 1048576: true; the input reads as it did. -/
def fnExactStewApplyUptoRow : OpenClaim := { program := "ytnmknkdbeccmhaa", sum := "2177fdec0418d583387b45ea957e352613f1652a8fba5cf7f33be44e9f6c2a38", func := "loop.example/wharfsteward/laws.FnExactStewApply", spec := "fnExactStewApply", inPlace := ["slices.overlaps[loop.example/wharfsteward/impl.StewCopy]"], unfollowed := true, recurses := true, apart := false, narrowed := true }
def FnExactStewApplyUptoSaid : Prop := fnExactStewApplyUptoRow.holds Try.pinned (OpenSpec.upto fnExactStewApplySpec)

/-- 'laws.FnSea', WHERE WHAT IT READS IS OF BULK AT MOST 1048576: true; the input reads as it did. -/
def fnSeaUptoRow : OpenClaim := { program := "ytnmknkdbeccmhaa", sum := "2177fdec0418d583387b45ea957e352613f1652a8fba5cf7f33be44e9f6c2a38", func := "loop.example/wharfsteward/laws.FnSea", spec := "fnSea", inPlace := ["slices.overlaps[loop.example/wharfsteward/impl.StewService]", "slices.overlaps[loop.example/wharfsteward/impl.StewBerth]"], unfollowed := true, recurses := true, apart := false, narrowed := true }
def FnSeaUptoSaid : Prop := fnSeaUptoRow.holds Try.pinned (OpenSpec.upto fnSeaSpec)

/-- 'laws.FnActs', WHERE WHAT IT READS IS OF BULK AT MOST 1048576: true; the input reads as it did. -/
def fnActsUptoRow : OpenClaim := { program := "ytnmknkdbeccmhaa", sum := "2177fdec0418d583387b45ea957e352613f1652a8fba5cf7f33be44e9f6c2a38", func := "loop.example/wharfsteward/laws.FnActs", spec := "fnActs", inPlace := ["slices.overlaps[loop.example/wharfsteward/impl.StewCopy]"], unfollowed := true, recurses := true, apart := false, narrowed := true }
def FnActsUptoSaid : Prop := fnActsUptoRow.holds Try.pinned (OpenSpec.upto fnActsSpec)

/-- 'laws.FnAsks', WHERE WHAT IT READS IS OF BULK AT MOST 1048576: true; the input reads as it did. -/
def fnAsksUptoRow : OpenClaim := { program := "ytnmknkdbeccmhaa", sum := "2177fdec0418d583387b45ea957e352613f1652a8fba5cf7f33be44e9f6c2a38", func := "loop.example/wharfsteward/laws.FnAsks", spec := "fnAsks", inPlace := ["slices.overlaps[loop.example/wharfsteward/impl.StewCopy]"], unfollowed := true, recurses := true, apart := false, narrowed := true }
def FnAsksUptoSaid : Prop := fnAsksUptoRow.holds Try.pinned (OpenSpec.upto fnAsksSpec)

end Rows
end Go.Proofs.Ytnmknkdbeccmhaa
