/-
  No cell of these rows narrows 'for every input' (looked for: loops, veiled, ifaces, maps, wideKeys, modest, calm, conditions, laid).
  DERIVED. THE GIVEN ROWS OF THIS SEAT. 16 by the template 'for every input the law returns true; each argument reads behind the call as it read before'; 0 by the template 'total and deterministic' (their statements: YtpbillinpjccdaaGreatTotals.lean).
  GIVEN WITH THE SEED: the statements are not yours to turn. If you find one false, say at which input.
  Laid BY PROGRAM, IN A SANDBOX (cutbox-rows.mjs): the forced cells as the released guide's own fill.sh prints them over the translation 25ea4241b2e2d11d… (all of the seat's roots in one cut). By AI agents, Wed Nov 11 2026. No macro, syntax, notation, axiom, sorry.
-/
import Derived.Test.YtpbillinpjccdaaGreatChecked
import GoSem.Claim
import GoSem.ClaimJoined
import GoSem.ClaimMapViews
import Derived.JoinedTies
import Derived.KernelRfl
namespace Go.Proofs.YtpbillinpjccdaaGreat
/- THE CELL 'sum', in the pinned program and in every row, IS THE sha256 OF THE DUMP (.gsa) THAT YtpbillinpjccdaaGreatProg.lean LOADS. Nothing in Lean hashes anything: it is a label: what it is worth is what the hold of that sum in a sandbox is worth. -/
noncomputable def Tryz.pinned : Pinned := { name := "ytpbillinpjccdaagreat", sum := "25ea4241b2e2d11d4fcb076e2e7ceb69b731c5a5dcb671dca1059fa4657c66be", checked := Tryz.checked }
namespace Rows
def none {H : Type} : Left H := { results := [], args := [] }

/-- 'redpencillaw42.UndoOf': WHATEVER THE INPUT: true; the input reads as it did. -/
def undoOfSpec : ChangeSpec := { name := "undoOf", fn := fun _ => fun
  | [d1, d2] => { results := [.lit (.bool true)], args := [d1, d2] }
  | _ => none }
def undoOfRow : OpenClaim := { program := "ytpbillinpjccdaagreat", sum := "25ea4241b2e2d11d4fcb076e2e7ceb69b731c5a5dcb671dca1059fa4657c66be", func := "redpencil/redpencillaw42.UndoOf", spec := "undoOf", inPlace := ["slices.overlaps[redpencil/omap.entry[redpencil/api.Dot, []redpencil/api.Node]]"], unfollowed := true, recurses := true, plainKeys := false, apart := false }
def UndoOfSaid : Prop := undoOfRow.holds Tryz.pinned (OpenSpec.ofChange undoOfSpec)

/-- ITS FALSE NEIGHBOUR: 'it returns false'. Refute it at one input. -/
def undoOfWrong : ChangeSpec := { name := "undoOf", fn := fun _ => fun
  | [d1, d2] => { results := [.lit (.bool false)], args := [d1, d2] }
  | _ => none }
def UndoOfWrongFalsely : Prop := undoOfRow.holds Tryz.pinned (OpenSpec.ofChange undoOfWrong)

/-- 'redpencillaw42.UndoDepth': WHATEVER THE INPUT: true; the input reads as it did. -/
def undoDepthSpec : ChangeSpec := { name := "undoDepth", fn := fun _ => fun
  | [d] => { results := [.lit (.bool true)], args := [d] }
  | _ => none }
def undoDepthRow : OpenClaim := { program := "ytpbillinpjccdaagreat", sum := "25ea4241b2e2d11d4fcb076e2e7ceb69b731c5a5dcb671dca1059fa4657c66be", func := "redpencil/redpencillaw42.UndoDepth", spec := "undoDepth", inPlace := ["slices.overlaps[redpencil/omap.entry[redpencil/api.Dot, []redpencil/api.Node]]"], unfollowed := true, recurses := true, plainKeys := false, apart := false }
def UndoDepthSaid : Prop := undoDepthRow.holds Tryz.pinned (OpenSpec.ofChange undoDepthSpec)

/-- ITS FALSE NEIGHBOUR: 'it returns false'. Refute it at one input. -/
def undoDepthWrong : ChangeSpec := { name := "undoDepth", fn := fun _ => fun
  | [d] => { results := [.lit (.bool false)], args := [d] }
  | _ => none }
def UndoDepthWrongFalsely : Prop := undoDepthRow.holds Tryz.pinned (OpenSpec.ofChange undoDepthWrong)

/-- 'redpencillaw42.UndoHolds': WHATEVER THE INPUT: true; the input reads as it did. -/
def undoHoldsSpec : ChangeSpec := { name := "undoHolds", fn := fun _ => fun
  | [d1, d2, d3] => { results := [.lit (.bool true)], args := [d1, d2, d3] }
  | _ => none }
def undoHoldsRow : OpenClaim := { program := "ytpbillinpjccdaagreat", sum := "25ea4241b2e2d11d4fcb076e2e7ceb69b731c5a5dcb671dca1059fa4657c66be", func := "redpencil/redpencillaw42.UndoHolds", spec := "undoHolds", inPlace := ["slices.overlaps[redpencil/omap.entry[redpencil/api.Dot, []redpencil/api.Node]]"], unfollowed := true, recurses := true, plainKeys := false, apart := false }
def UndoHoldsSaid : Prop := undoHoldsRow.holds Tryz.pinned (OpenSpec.ofChange undoHoldsSpec)

/-- ITS FALSE NEIGHBOUR: 'it returns false'. Refute it at one input. -/
def undoHoldsWrong : ChangeSpec := { name := "undoHolds", fn := fun _ => fun
  | [d1, d2, d3] => { results := [.lit (.bool false)], args := [d1, d2, d3] }
  | _ => none }
def UndoHoldsWrongFalsely : Prop := undoHoldsRow.holds Tryz.pinned (OpenSpec.ofChange undoHoldsWrong)

/-- 'redpencillaw15.EditInserts': WHATEVER THE INPUT: true; the input reads as it did. -/
def editInsertsSpec : ChangeSpec := { name := "editInserts", fn := fun _ => fun
  | [d1, d2, d3, d4] => { results := [.lit (.bool true)], args := [d1, d2, d3, d4] }
  | _ => none }
def editInsertsRow : OpenClaim := { program := "ytpbillinpjccdaagreat", sum := "25ea4241b2e2d11d4fcb076e2e7ceb69b731c5a5dcb671dca1059fa4657c66be", func := "redpencil/redpencillaw15.EditInserts", spec := "editInserts", inPlace := ["slices.overlaps[redpencil/omap.entry[redpencil/api.Dot, []redpencil/api.Node]]"], unfollowed := true, recurses := true, plainKeys := false, apart := false }
def EditInsertsSaid : Prop := editInsertsRow.holds Tryz.pinned (OpenSpec.ofChange editInsertsSpec)

/-- ITS FALSE NEIGHBOUR: 'it returns false'. Refute it at one input. -/
def editInsertsWrong : ChangeSpec := { name := "editInserts", fn := fun _ => fun
  | [d1, d2, d3, d4] => { results := [.lit (.bool false)], args := [d1, d2, d3, d4] }
  | _ => none }
def EditInsertsWrongFalsely : Prop := editInsertsRow.holds Tryz.pinned (OpenSpec.ofChange editInsertsWrong)

/-- 'redpencillaw15.EditDeletes': WHATEVER THE INPUT: true; the input reads as it did. -/
def editDeletesSpec : ChangeSpec := { name := "editDeletes", fn := fun _ => fun
  | [d1, d2, d3] => { results := [.lit (.bool true)], args := [d1, d2, d3] }
  | _ => none }
def editDeletesRow : OpenClaim := { program := "ytpbillinpjccdaagreat", sum := "25ea4241b2e2d11d4fcb076e2e7ceb69b731c5a5dcb671dca1059fa4657c66be", func := "redpencil/redpencillaw15.EditDeletes", spec := "editDeletes", inPlace := ["slices.overlaps[redpencil/omap.entry[redpencil/api.Dot, []redpencil/api.Node]]"], unfollowed := true, recurses := true, plainKeys := false, apart := false }
def EditDeletesSaid : Prop := editDeletesRow.holds Tryz.pinned (OpenSpec.ofChange editDeletesSpec)

/-- ITS FALSE NEIGHBOUR: 'it returns false'. Refute it at one input. -/
def editDeletesWrong : ChangeSpec := { name := "editDeletes", fn := fun _ => fun
  | [d1, d2, d3] => { results := [.lit (.bool false)], args := [d1, d2, d3] }
  | _ => none }
def EditDeletesWrongFalsely : Prop := editDeletesRow.holds Tryz.pinned (OpenSpec.ofChange editDeletesWrong)

/-- 'redpencillaw15.EditReplaces': WHATEVER THE INPUT: true; the input reads as it did. -/
def editReplacesSpec : ChangeSpec := { name := "editReplaces", fn := fun _ => fun
  | [d1, d2, d3, d4, d5] => { results := [.lit (.bool true)], args := [d1, d2, d3, d4, d5] }
  | _ => none }
def editReplacesRow : OpenClaim := { program := "ytpbillinpjccdaagreat", sum := "25ea4241b2e2d11d4fcb076e2e7ceb69b731c5a5dcb671dca1059fa4657c66be", func := "redpencil/redpencillaw15.EditReplaces", spec := "editReplaces", inPlace := ["slices.overlaps[redpencil/omap.entry[redpencil/api.Dot, []redpencil/api.Node]]"], unfollowed := true, recurses := true, plainKeys := false, apart := false }
def EditReplacesSaid : Prop := editReplacesRow.holds Tryz.pinned (OpenSpec.ofChange editReplacesSpec)

/-- ITS FALSE NEIGHBOUR: 'it returns false'. Refute it at one input. -/
def editReplacesWrong : ChangeSpec := { name := "editReplaces", fn := fun _ => fun
  | [d1, d2, d3, d4, d5] => { results := [.lit (.bool false)], args := [d1, d2, d3, d4, d5] }
  | _ => none }
def EditReplacesWrongFalsely : Prop := editReplacesRow.holds Tryz.pinned (OpenSpec.ofChange editReplacesWrong)

/-- 'redpencillaw15.EditApplies': WHATEVER THE INPUT: true; the input reads as it did. -/
def editAppliesSpec : ChangeSpec := { name := "editApplies", fn := fun _ => fun
  | [d1, d2] => { results := [.lit (.bool true)], args := [d1, d2] }
  | _ => none }
def editAppliesRow : OpenClaim := { program := "ytpbillinpjccdaagreat", sum := "25ea4241b2e2d11d4fcb076e2e7ceb69b731c5a5dcb671dca1059fa4657c66be", func := "redpencil/redpencillaw15.EditApplies", spec := "editApplies", inPlace := ["slices.overlaps[redpencil/omap.entry[redpencil/api.Dot, []redpencil/api.Node]]"], unfollowed := true, recurses := true, plainKeys := false, apart := false }
def EditAppliesSaid : Prop := editAppliesRow.holds Tryz.pinned (OpenSpec.ofChange editAppliesSpec)

/-- ITS FALSE NEIGHBOUR: 'it returns false'. Refute it at one input. -/
def editAppliesWrong : ChangeSpec := { name := "editApplies", fn := fun _ => fun
  | [d1, d2] => { results := [.lit (.bool false)], args := [d1, d2] }
  | _ => none }
def EditAppliesWrongFalsely : Prop := editAppliesRow.holds Tryz.pinned (OpenSpec.ofChange editAppliesWrong)

/-- 'redpencillaw15.EditLongs': WHATEVER THE INPUT: true; the input reads as it did. -/
def editLongsSpec : ChangeSpec := { name := "editLongs", fn := fun _ => fun
  | [d1, d2] => { results := [.lit (.bool true)], args := [d1, d2] }
  | _ => none }
def editLongsRow : OpenClaim := { program := "ytpbillinpjccdaagreat", sum := "25ea4241b2e2d11d4fcb076e2e7ceb69b731c5a5dcb671dca1059fa4657c66be", func := "redpencil/redpencillaw15.EditLongs", spec := "editLongs", inPlace := ["slices.overlaps[redpencil/omap.entry[redpencil/api.Dot, []redpencil/api.Node]]"], unfollowed := true, recurses := true, plainKeys := false, apart := false }
def EditLongsSaid : Prop := editLongsRow.holds Tryz.pinned (OpenSpec.ofChange editLongsSpec)

/-- ITS FALSE NEIGHBOUR: 'it returns false'. Refute it at one input. -/
def editLongsWrong : ChangeSpec := { name := "editLongs", fn := fun _ => fun
  | [d1, d2] => { results := [.lit (.bool false)], args := [d1, d2] }
  | _ => none }
def EditLongsWrongFalsely : Prop := editLongsRow.holds Tryz.pinned (OpenSpec.ofChange editLongsWrong)

/-- 'redpencillaw15.EditPlays': WHATEVER THE INPUT: true; the input reads as it did. -/
def editPlaysSpec : ChangeSpec := { name := "editPlays", fn := fun _ => fun
  | [d] => { results := [.lit (.bool true)], args := [d] }
  | _ => none }
def editPlaysRow : OpenClaim := { program := "ytpbillinpjccdaagreat", sum := "25ea4241b2e2d11d4fcb076e2e7ceb69b731c5a5dcb671dca1059fa4657c66be", func := "redpencil/redpencillaw15.EditPlays", spec := "editPlays", inPlace := ["slices.overlaps[redpencil/omap.entry[redpencil/api.Dot, []redpencil/api.Node]]"], unfollowed := true, recurses := true, plainKeys := false, apart := false }
def EditPlaysSaid : Prop := editPlaysRow.holds Tryz.pinned (OpenSpec.ofChange editPlaysSpec)

/-- ITS FALSE NEIGHBOUR: 'it returns false'. Refute it at one input. -/
def editPlaysWrong : ChangeSpec := { name := "editPlays", fn := fun _ => fun
  | [d] => { results := [.lit (.bool false)], args := [d] }
  | _ => none }
def EditPlaysWrongFalsely : Prop := editPlaysRow.holds Tryz.pinned (OpenSpec.ofChange editPlaysWrong)

/-- 'redpencillaw15.EditHolds': WHATEVER THE INPUT: true; the input reads as it did. -/
def editHoldsSpec : ChangeSpec := { name := "editHolds", fn := fun _ => fun
  | [d1, d2, d3] => { results := [.lit (.bool true)], args := [d1, d2, d3] }
  | _ => none }
def editHoldsRow : OpenClaim := { program := "ytpbillinpjccdaagreat", sum := "25ea4241b2e2d11d4fcb076e2e7ceb69b731c5a5dcb671dca1059fa4657c66be", func := "redpencil/redpencillaw15.EditHolds", spec := "editHolds", inPlace := ["slices.overlaps[redpencil/omap.entry[redpencil/api.Dot, []redpencil/api.Node]]"], unfollowed := true, recurses := true, plainKeys := false, apart := false }
def EditHoldsSaid : Prop := editHoldsRow.holds Tryz.pinned (OpenSpec.ofChange editHoldsSpec)

/-- ITS FALSE NEIGHBOUR: 'it returns false'. Refute it at one input. -/
def editHoldsWrong : ChangeSpec := { name := "editHolds", fn := fun _ => fun
  | [d1, d2, d3] => { results := [.lit (.bool false)], args := [d1, d2, d3] }
  | _ => none }
def EditHoldsWrongFalsely : Prop := editHoldsRow.holds Tryz.pinned (OpenSpec.ofChange editHoldsWrong)

/-- 'redpencillaw42.UndoNil': WHATEVER THE INPUT: true; the input reads as it did. -/
def undoNilSpec : ChangeSpec := { name := "undoNil", fn := fun _ => fun
  | [d1, d2, d3] => { results := [.lit (.bool true)], args := [d1, d2, d3] }
  | _ => none }
def undoNilRow : OpenClaim := { program := "ytpbillinpjccdaagreat", sum := "25ea4241b2e2d11d4fcb076e2e7ceb69b731c5a5dcb671dca1059fa4657c66be", func := "redpencil/redpencillaw42.UndoNil", spec := "undoNil", inPlace := ["slices.overlaps[redpencil/omap.entry[redpencil/api.Dot, []redpencil/api.Node]]"], unfollowed := true, recurses := true, plainKeys := false, apart := false }
def UndoNilSaid : Prop := undoNilRow.holds Tryz.pinned (OpenSpec.ofChange undoNilSpec)

/-- ITS FALSE NEIGHBOUR: 'it returns false'. Refute it at one input. -/
def undoNilWrong : ChangeSpec := { name := "undoNil", fn := fun _ => fun
  | [d1, d2, d3] => { results := [.lit (.bool false)], args := [d1, d2, d3] }
  | _ => none }
def UndoNilWrongFalsely : Prop := undoNilRow.holds Tryz.pinned (OpenSpec.ofChange undoNilWrong)

/-- 'redpencillaw51.WeightWeighs': WHATEVER THE INPUT: true; the input reads as it did. -/
def weightWeighsSpec : ChangeSpec := { name := "weightWeighs", fn := fun _ => fun
  | [d] => { results := [.lit (.bool true)], args := [d] }
  | _ => none }
def weightWeighsRow : OpenClaim := { program := "ytpbillinpjccdaagreat", sum := "25ea4241b2e2d11d4fcb076e2e7ceb69b731c5a5dcb671dca1059fa4657c66be", func := "redpencil/redpencillaw51.WeightWeighs", spec := "weightWeighs", inPlace := ["slices.overlaps[redpencil/omap.entry[redpencil/api.Dot, []redpencil/api.Node]]"], unfollowed := true, recurses := true, plainKeys := false, apart := false }
def WeightWeighsSaid : Prop := weightWeighsRow.holds Tryz.pinned (OpenSpec.ofChange weightWeighsSpec)

/-- ITS FALSE NEIGHBOUR: 'it returns false'. Refute it at one input. -/
def weightWeighsWrong : ChangeSpec := { name := "weightWeighs", fn := fun _ => fun
  | [d] => { results := [.lit (.bool false)], args := [d] }
  | _ => none }
def WeightWeighsWrongFalsely : Prop := weightWeighsRow.holds Tryz.pinned (OpenSpec.ofChange weightWeighsWrong)

/-- 'redpencillaw51.WeightCommons': WHATEVER THE INPUT: true; the input reads as it did. -/
def weightCommonsSpec : ChangeSpec := { name := "weightCommons", fn := fun _ => fun
  | [d] => { results := [.lit (.bool true)], args := [d] }
  | _ => none }
def weightCommonsRow : OpenClaim := { program := "ytpbillinpjccdaagreat", sum := "25ea4241b2e2d11d4fcb076e2e7ceb69b731c5a5dcb671dca1059fa4657c66be", func := "redpencil/redpencillaw51.WeightCommons", spec := "weightCommons", inPlace := ["slices.overlaps[redpencil/omap.entry[redpencil/api.Dot, []redpencil/api.Node]]"], unfollowed := true, recurses := true, plainKeys := false, apart := false }
def WeightCommonsSaid : Prop := weightCommonsRow.holds Tryz.pinned (OpenSpec.ofChange weightCommonsSpec)

/-- ITS FALSE NEIGHBOUR: 'it returns false'. Refute it at one input. -/
def weightCommonsWrong : ChangeSpec := { name := "weightCommons", fn := fun _ => fun
  | [d] => { results := [.lit (.bool false)], args := [d] }
  | _ => none }
def WeightCommonsWrongFalsely : Prop := weightCommonsRow.holds Tryz.pinned (OpenSpec.ofChange weightCommonsWrong)

/-- 'redpencillaw51.WeightPrunes': WHATEVER THE INPUT: true; the input reads as it did. -/
def weightPrunesSpec : ChangeSpec := { name := "weightPrunes", fn := fun _ => fun
  | [d1, d2] => { results := [.lit (.bool true)], args := [d1, d2] }
  | _ => none }
def weightPrunesRow : OpenClaim := { program := "ytpbillinpjccdaagreat", sum := "25ea4241b2e2d11d4fcb076e2e7ceb69b731c5a5dcb671dca1059fa4657c66be", func := "redpencil/redpencillaw51.WeightPrunes", spec := "weightPrunes", inPlace := ["slices.overlaps[redpencil/omap.entry[redpencil/api.Dot, []redpencil/api.Node]]"], unfollowed := true, recurses := true, plainKeys := false, apart := false }
def WeightPrunesSaid : Prop := weightPrunesRow.holds Tryz.pinned (OpenSpec.ofChange weightPrunesSpec)

/-- ITS FALSE NEIGHBOUR: 'it returns false'. Refute it at one input. -/
def weightPrunesWrong : ChangeSpec := { name := "weightPrunes", fn := fun _ => fun
  | [d1, d2] => { results := [.lit (.bool false)], args := [d1, d2] }
  | _ => none }
def WeightPrunesWrongFalsely : Prop := weightPrunesRow.holds Tryz.pinned (OpenSpec.ofChange weightPrunesWrong)

/-- 'redpencillaw51.WeightChains': WHATEVER THE INPUT: true; the input reads as it did. -/
def weightChainsSpec : ChangeSpec := { name := "weightChains", fn := fun _ => fun
  | [d1, d2, d3] => { results := [.lit (.bool true)], args := [d1, d2, d3] }
  | _ => none }
def weightChainsRow : OpenClaim := { program := "ytpbillinpjccdaagreat", sum := "25ea4241b2e2d11d4fcb076e2e7ceb69b731c5a5dcb671dca1059fa4657c66be", func := "redpencil/redpencillaw51.WeightChains", spec := "weightChains", inPlace := ["slices.overlaps[redpencil/omap.entry[redpencil/api.Dot, []redpencil/api.Node]]"], unfollowed := true, recurses := true, plainKeys := false, apart := false }
def WeightChainsSaid : Prop := weightChainsRow.holds Tryz.pinned (OpenSpec.ofChange weightChainsSpec)

/-- ITS FALSE NEIGHBOUR: 'it returns false'. Refute it at one input. -/
def weightChainsWrong : ChangeSpec := { name := "weightChains", fn := fun _ => fun
  | [d1, d2, d3] => { results := [.lit (.bool false)], args := [d1, d2, d3] }
  | _ => none }
def WeightChainsWrongFalsely : Prop := weightChainsRow.holds Tryz.pinned (OpenSpec.ofChange weightChainsWrong)

/-- 'redpencillaw50.StyleFulls': WHATEVER THE INPUT: true; the input reads as it did. -/
def styleFullsSpec : ChangeSpec := { name := "styleFulls", fn := fun _ => fun
  | [d] => { results := [.lit (.bool true)], args := [d] }
  | _ => none }
def styleFullsRow : OpenClaim := { program := "ytpbillinpjccdaagreat", sum := "25ea4241b2e2d11d4fcb076e2e7ceb69b731c5a5dcb671dca1059fa4657c66be", func := "redpencil/redpencillaw50.StyleFulls", spec := "styleFulls", inPlace := ["slices.overlaps[redpencil/omap.entry[redpencil/api.Dot, []redpencil/api.Node]]"], unfollowed := true, recurses := true, plainKeys := false, apart := false }
def StyleFullsSaid : Prop := styleFullsRow.holds Tryz.pinned (OpenSpec.ofChange styleFullsSpec)

/-- ITS FALSE NEIGHBOUR: 'it returns false'. Refute it at one input. -/
def styleFullsWrong : ChangeSpec := { name := "styleFulls", fn := fun _ => fun
  | [d] => { results := [.lit (.bool false)], args := [d] }
  | _ => none }
def StyleFullsWrongFalsely : Prop := styleFullsRow.holds Tryz.pinned (OpenSpec.ofChange styleFullsWrong)

/- THE SECOND FORM. 'bulk': how many values and letters a reading holds, each counted each time it is reached (what is shared counts as often as it is met; a slice's spare places count too). A statement '..UptoSaid' is the law's where the arguments, and the package variables that the reading takes, are together of bulk at most 1048576: NARROWER than '..Said'. Prove '..Said' where nothing that the law and all that it calls make is longer than what came in: it says more and counts as full. Else prove '..UptoSaid'. A law counts once. -/
mutual
def uptoBulk {H : Type} : DataW H → Nat
  | .lit (.string bytes) => bytes.length + 1
  | .lit _ => 1
  | .nil => 1
  | .ptr d => uptoBulk d + 1
  | .slice elems spare => uptoBulkAll elems + uptoBulkAll spare + 1
  | .agg parts => uptoBulkAll parts + 1
  | .iface _ d => uptoBulk d + 1
  | .map entries => uptoBulkEntries entries + 1
  | .held _ => 1
def uptoBulkAll {H : Type} : List (DataW H) → Nat
  | [] => 0
  | d :: r => uptoBulk d + uptoBulkAll r
def uptoBulkEntries {H : Type} : List (Lit × DataW H) → Nat
  | [] => 0
  | x :: r => uptoBulkEntry x + uptoBulkEntries r
def uptoBulkEntry {H : Type} : Lit × DataW H → Nat
  | (.string bytes, d) => bytes.length + uptoBulk d + 1
  | (_, d) => uptoBulk d + 1
 end
def uptoSmall : (H : Type) → List (DataW H) → Bool := fun _ ds => decide (uptoBulkAll ds ≤ 1048576)
def OpenSpec.upto (s : _root_.Go.ChangeSpec) : _root_.Go.OpenSpec := { _root_.Go.OpenSpec.ofChange s with cond := some uptoSmall }

/-- 'redpencillaw42.UndoOf', WHERE WHAT IT READS IS OF BULK AT MOST 1048576: true; the input reads as it did. -/
def undoOfUptoRow : OpenClaim := { program := "ytpbillinpjccdaagreat", sum := "25ea4241b2e2d11d4fcb076e2e7ceb69b731c5a5dcb671dca1059fa4657c66be", func := "redpencil/redpencillaw42.UndoOf", spec := "undoOf", inPlace := ["slices.overlaps[redpencil/omap.entry[redpencil/api.Dot, []redpencil/api.Node]]"], unfollowed := true, recurses := true, plainKeys := false, apart := false, narrowed := true }
def UndoOfUptoSaid : Prop := undoOfUptoRow.holds Tryz.pinned (OpenSpec.upto undoOfSpec)

/-- 'redpencillaw42.UndoDepth', WHERE WHAT IT READS IS OF BULK AT MOST 1048576: true; the input reads as it did. -/
def undoDepthUptoRow : OpenClaim := { program := "ytpbillinpjccdaagreat", sum := "25ea4241b2e2d11d4fcb076e2e7ceb69b731c5a5dcb671dca1059fa4657c66be", func := "redpencil/redpencillaw42.UndoDepth", spec := "undoDepth", inPlace := ["slices.overlaps[redpencil/omap.entry[redpencil/api.Dot, []redpencil/api.Node]]"], unfollowed := true, recurses := true, plainKeys := false, apart := false, narrowed := true }
def UndoDepthUptoSaid : Prop := undoDepthUptoRow.holds Tryz.pinned (OpenSpec.upto undoDepthSpec)

/-- 'redpencillaw42.UndoHolds', WHERE WHAT IT READS IS OF BULK AT MOST 1048576: true; the input reads as it did. -/
def undoHoldsUptoRow : OpenClaim := { program := "ytpbillinpjccdaagreat", sum := "25ea4241b2e2d11d4fcb076e2e7ceb69b731c5a5dcb671dca1059fa4657c66be", func := "redpencil/redpencillaw42.UndoHolds", spec := "undoHolds", inPlace := ["slices.overlaps[redpencil/omap.entry[redpencil/api.Dot, []redpencil/api.Node]]"], unfollowed := true, recurses := true, plainKeys := false, apart := false, narrowed := true }
def UndoHoldsUptoSaid : Prop := undoHoldsUptoRow.holds Tryz.pinned (OpenSpec.upto undoHoldsSpec)

/-- 'redpencillaw15.EditInserts', WHERE WHAT IT READS IS OF BULK AT MOST 1048576: true; the input reads as it did. -/
def editInsertsUptoRow : OpenClaim := { program := "ytpbillinpjccdaagreat", sum := "25ea4241b2e2d11d4fcb076e2e7ceb69b731c5a5dcb671dca1059fa4657c66be", func := "redpencil/redpencillaw15.EditInserts", spec := "editInserts", inPlace := ["slices.overlaps[redpencil/omap.entry[redpencil/api.Dot, []redpencil/api.Node]]"], unfollowed := true, recurses := true, plainKeys := false, apart := false, narrowed := true }
def EditInsertsUptoSaid : Prop := editInsertsUptoRow.holds Tryz.pinned (OpenSpec.upto editInsertsSpec)

/-- 'redpencillaw15.EditDeletes', WHERE WHAT IT READS IS OF BULK AT MOST 1048576: true; the input reads as it did. -/
def editDeletesUptoRow : OpenClaim := { program := "ytpbillinpjccdaagreat", sum := "25ea4241b2e2d11d4fcb076e2e7ceb69b731c5a5dcb671dca1059fa4657c66be", func := "redpencil/redpencillaw15.EditDeletes", spec := "editDeletes", inPlace := ["slices.overlaps[redpencil/omap.entry[redpencil/api.Dot, []redpencil/api.Node]]"], unfollowed := true, recurses := true, plainKeys := false, apart := false, narrowed := true }
def EditDeletesUptoSaid : Prop := editDeletesUptoRow.holds Tryz.pinned (OpenSpec.upto editDeletesSpec)

/-- 'redpencillaw15.EditReplaces', WHERE WHAT IT READS IS OF BULK AT MOST 1048576: true; the input reads as it did. -/
def editReplacesUptoRow : OpenClaim := { program := "ytpbillinpjccdaagreat", sum := "25ea4241b2e2d11d4fcb076e2e7ceb69b731c5a5dcb671dca1059fa4657c66be", func := "redpencil/redpencillaw15.EditReplaces", spec := "editReplaces", inPlace := ["slices.overlaps[redpencil/omap.entry[redpencil/api.Dot, []redpencil/api.Node]]"], unfollowed := true, recurses := true, plainKeys := false, apart := false, narrowed := true }
def EditReplacesUptoSaid : Prop := editReplacesUptoRow.holds Tryz.pinned (OpenSpec.upto editReplacesSpec)

/-- 'redpencillaw15.EditApplies', WHERE WHAT IT READS IS OF BULK AT MOST 1048576: true; the input reads as it did. -/
def editAppliesUptoRow : OpenClaim := { program := "ytpbillinpjccdaagreat", sum := "25ea4241b2e2d11d4fcb076e2e7ceb69b731c5a5dcb671dca1059fa4657c66be", func := "redpencil/redpencillaw15.EditApplies", spec := "editApplies", inPlace := ["slices.overlaps[redpencil/omap.entry[redpencil/api.Dot, []redpencil/api.Node]]"], unfollowed := true, recurses := true, plainKeys := false, apart := false, narrowed := true }
def EditAppliesUptoSaid : Prop := editAppliesUptoRow.holds Tryz.pinned (OpenSpec.upto editAppliesSpec)

/-- 'redpencillaw15.EditLongs', WHERE WHAT IT READS IS OF BULK AT MOST 1048576: true; the input reads as it did. -/
def editLongsUptoRow : OpenClaim := { program := "ytpbillinpjccdaagreat", sum := "25ea4241b2e2d11d4fcb076e2e7ceb69b731c5a5dcb671dca1059fa4657c66be", func := "redpencil/redpencillaw15.EditLongs", spec := "editLongs", inPlace := ["slices.overlaps[redpencil/omap.entry[redpencil/api.Dot, []redpencil/api.Node]]"], unfollowed := true, recurses := true, plainKeys := false, apart := false, narrowed := true }
def EditLongsUptoSaid : Prop := editLongsUptoRow.holds Tryz.pinned (OpenSpec.upto editLongsSpec)

/-- 'redpencillaw15.EditPlays', WHERE WHAT IT READS IS OF BULK AT MOST 1048576: true; the input reads as it did. -/
def editPlaysUptoRow : OpenClaim := { program := "ytpbillinpjccdaagreat", sum := "25ea4241b2e2d11d4fcb076e2e7ceb69b731c5a5dcb671dca1059fa4657c66be", func := "redpencil/redpencillaw15.EditPlays", spec := "editPlays", inPlace := ["slices.overlaps[redpencil/omap.entry[redpencil/api.Dot, []redpencil/api.Node]]"], unfollowed := true, recurses := true, plainKeys := false, apart := false, narrowed := true }
def EditPlaysUptoSaid : Prop := editPlaysUptoRow.holds Tryz.pinned (OpenSpec.upto editPlaysSpec)

/-- 'redpencillaw15.EditHolds', WHERE WHAT IT READS IS OF BULK AT MOST 1048576: true; the input reads as it did. -/
def editHoldsUptoRow : OpenClaim := { program := "ytpbillinpjccdaagreat", sum := "25ea4241b2e2d11d4fcb076e2e7ceb69b731c5a5dcb671dca1059fa4657c66be", func := "redpencil/redpencillaw15.EditHolds", spec := "editHolds", inPlace := ["slices.overlaps[redpencil/omap.entry[redpencil/api.Dot, []redpencil/api.Node]]"], unfollowed := true, recurses := true, plainKeys := false, apart := false, narrowed := true }
def EditHoldsUptoSaid : Prop := editHoldsUptoRow.holds Tryz.pinned (OpenSpec.upto editHoldsSpec)

/-- 'redpencillaw42.UndoNil', WHERE WHAT IT READS IS OF BULK AT MOST 1048576: true; the input reads as it did. -/
def undoNilUptoRow : OpenClaim := { program := "ytpbillinpjccdaagreat", sum := "25ea4241b2e2d11d4fcb076e2e7ceb69b731c5a5dcb671dca1059fa4657c66be", func := "redpencil/redpencillaw42.UndoNil", spec := "undoNil", inPlace := ["slices.overlaps[redpencil/omap.entry[redpencil/api.Dot, []redpencil/api.Node]]"], unfollowed := true, recurses := true, plainKeys := false, apart := false, narrowed := true }
def UndoNilUptoSaid : Prop := undoNilUptoRow.holds Tryz.pinned (OpenSpec.upto undoNilSpec)

/-- 'redpencillaw51.WeightWeighs', WHERE WHAT IT READS IS OF BULK AT MOST 1048576: true; the input reads as it did. -/
def weightWeighsUptoRow : OpenClaim := { program := "ytpbillinpjccdaagreat", sum := "25ea4241b2e2d11d4fcb076e2e7ceb69b731c5a5dcb671dca1059fa4657c66be", func := "redpencil/redpencillaw51.WeightWeighs", spec := "weightWeighs", inPlace := ["slices.overlaps[redpencil/omap.entry[redpencil/api.Dot, []redpencil/api.Node]]"], unfollowed := true, recurses := true, plainKeys := false, apart := false, narrowed := true }
def WeightWeighsUptoSaid : Prop := weightWeighsUptoRow.holds Tryz.pinned (OpenSpec.upto weightWeighsSpec)

/-- 'redpencillaw51.WeightCommons', WHERE WHAT IT READS IS OF BULK AT MOST 1048576: true; the input reads as it did. -/
def weightCommonsUptoRow : OpenClaim := { program := "ytpbillinpjccdaagreat", sum := "25ea4241b2e2d11d4fcb076e2e7ceb69b731c5a5dcb671dca1059fa4657c66be", func := "redpencil/redpencillaw51.WeightCommons", spec := "weightCommons", inPlace := ["slices.overlaps[redpencil/omap.entry[redpencil/api.Dot, []redpencil/api.Node]]"], unfollowed := true, recurses := true, plainKeys := false, apart := false, narrowed := true }
def WeightCommonsUptoSaid : Prop := weightCommonsUptoRow.holds Tryz.pinned (OpenSpec.upto weightCommonsSpec)

/-- 'redpencillaw51.WeightPrunes', WHERE WHAT IT READS IS OF BULK AT MOST 1048576: true; the input reads as it did. -/
def weightPrunesUptoRow : OpenClaim := { program := "ytpbillinpjccdaagreat", sum := "25ea4241b2e2d11d4fcb076e2e7ceb69b731c5a5dcb671dca1059fa4657c66be", func := "redpencil/redpencillaw51.WeightPrunes", spec := "weightPrunes", inPlace := ["slices.overlaps[redpencil/omap.entry[redpencil/api.Dot, []redpencil/api.Node]]"], unfollowed := true, recurses := true, plainKeys := false, apart := false, narrowed := true }
def WeightPrunesUptoSaid : Prop := weightPrunesUptoRow.holds Tryz.pinned (OpenSpec.upto weightPrunesSpec)

/-- 'redpencillaw51.WeightChains', WHERE WHAT IT READS IS OF BULK AT MOST 1048576: true; the input reads as it did. -/
def weightChainsUptoRow : OpenClaim := { program := "ytpbillinpjccdaagreat", sum := "25ea4241b2e2d11d4fcb076e2e7ceb69b731c5a5dcb671dca1059fa4657c66be", func := "redpencil/redpencillaw51.WeightChains", spec := "weightChains", inPlace := ["slices.overlaps[redpencil/omap.entry[redpencil/api.Dot, []redpencil/api.Node]]"], unfollowed := true, recurses := true, plainKeys := false, apart := false, narrowed := true }
def WeightChainsUptoSaid : Prop := weightChainsUptoRow.holds Tryz.pinned (OpenSpec.upto weightChainsSpec)

/-- 'redpencillaw50.StyleFulls', WHERE WHAT IT READS IS OF BULK AT MOST 1048576: true; the input reads as it did. -/
def styleFullsUptoRow : OpenClaim := { program := "ytpbillinpjccdaagreat", sum := "25ea4241b2e2d11d4fcb076e2e7ceb69b731c5a5dcb671dca1059fa4657c66be", func := "redpencil/redpencillaw50.StyleFulls", spec := "styleFulls", inPlace := ["slices.overlaps[redpencil/omap.entry[redpencil/api.Dot, []redpencil/api.Node]]"], unfollowed := true, recurses := true, plainKeys := false, apart := false, narrowed := true }
def StyleFullsUptoSaid : Prop := styleFullsUptoRow.holds Tryz.pinned (OpenSpec.upto styleFullsSpec)

end Rows
end Go.Proofs.YtpbillinpjccdaaGreat
