/-
  No cell of these rows narrows 'for every input' (looked for: loops, veiled, ifaces, maps, wideKeys, modest, calm, conditions, laid).
  DERIVED. THE GIVEN ROWS OF THIS SEAT. 14 by the template 'for every input the law returns true; each argument reads behind the call as it read before'; 0 by the template 'total and deterministic' (their statements: YtclediplagkblaaGreatTotals.lean).
  GIVEN WITH THE SEED: the statements are not yours to turn. If you find one false, say at which input.
  Laid BY PROGRAM, IN A SANDBOX (cutbox-rows.mjs): the forced cells as the released guide's own fill.sh prints them over the translation 168eb9546d4ba813… (all of the seat's roots in one cut). By AI agents, Wed Nov 11 2026. No macro, syntax, notation, axiom, sorry.
-/
import Derived.Test.YtclediplagkblaaGreatChecked
import GoSem.Claim
import GoSem.ClaimJoined
import GoSem.ClaimMapViews
import Derived.JoinedTies
import Derived.KernelRfl
namespace Go.Proofs.YtclediplagkblaaGreat
/- THE CELL 'sum', in the pinned program and in every row, IS THE sha256 OF THE DUMP (.gsa) THAT YtclediplagkblaaGreatProg.lean LOADS. Nothing in Lean hashes anything: it is a label: what it is worth is what the hold of that sum in a sandbox is worth. -/
noncomputable def Tryz.pinned : Pinned := { name := "ytclediplagkblaagreat", sum := "168eb9546d4ba81347bc59d8f9a5ec02003737d69febdf27f18914861e1df28c", checked := Tryz.checked }
namespace Rows
def none {H : Type} : Left H := { results := [], args := [] }

/-- 'herbariumlaw19.FuseAny': WHATEVER THE INPUT: true; the input reads as it did. -/
def fuseAnySpec : ChangeSpec := { name := "fuseAny", fn := fun _ => fun
  | [d1, d2, d3, d4, d5, d6] => { results := [.lit (.bool true)], args := [d1, d2, d3, d4, d5, d6] }
  | _ => none }
def fuseAnyRow : OpenClaim := { program := "ytclediplagkblaagreat", sum := "168eb9546d4ba81347bc59d8f9a5ec02003737d69febdf27f18914861e1df28c", func := "herbarium/herbariumlaw19.FuseAny", spec := "fuseAny", inPlace := ["math.Float64frombits", "math.Float64bits"], unfollowed := true, recurses := true, apart := false }
def FuseAnySaid : Prop := fuseAnyRow.holds Tryz.pinned (OpenSpec.ofChange fuseAnySpec)

/-- ITS FALSE NEIGHBOUR: 'it returns false'. Refute it at one input. -/
def fuseAnyWrong : ChangeSpec := { name := "fuseAny", fn := fun _ => fun
  | [d1, d2, d3, d4, d5, d6] => { results := [.lit (.bool false)], args := [d1, d2, d3, d4, d5, d6] }
  | _ => none }
def FuseAnyWrongFalsely : Prop := fuseAnyRow.holds Tryz.pinned (OpenSpec.ofChange fuseAnyWrong)

/-- 'herbariumlaw22.BoxClose': WHATEVER THE INPUT: true; the input reads as it did. -/
def boxCloseSpec : ChangeSpec := { name := "boxClose", fn := fun _ => fun
  | [d1, d2] => { results := [.lit (.bool true)], args := [d1, d2] }
  | _ => none }
def boxCloseRow : OpenClaim := { program := "ytclediplagkblaagreat", sum := "168eb9546d4ba81347bc59d8f9a5ec02003737d69febdf27f18914861e1df28c", func := "herbarium/herbariumlaw22.BoxClose", spec := "boxClose", inPlace := ["internal/bytealg.abigen_runtime_cmpstring", "math.Float64bits", "math.Float64frombits"], unfollowed := true, recurses := true, apart := false }
def BoxCloseSaid : Prop := boxCloseRow.holds Tryz.pinned (OpenSpec.ofChange boxCloseSpec)

/-- ITS FALSE NEIGHBOUR: 'it returns false'. Refute it at one input. -/
def boxCloseWrong : ChangeSpec := { name := "boxClose", fn := fun _ => fun
  | [d1, d2] => { results := [.lit (.bool false)], args := [d1, d2] }
  | _ => none }
def BoxCloseWrongFalsely : Prop := boxCloseRow.holds Tryz.pinned (OpenSpec.ofChange boxCloseWrong)

/-- 'herbariumlaw22.BoxLimits': WHATEVER THE INPUT: true; the input reads as it did. -/
def boxLimitsSpec : ChangeSpec := { name := "boxLimits", fn := fun _ => fun
  | [d1, d2, d3, d4] => { results := [.lit (.bool true)], args := [d1, d2, d3, d4] }
  | _ => none }
def boxLimitsRow : OpenClaim := { program := "ytclediplagkblaagreat", sum := "168eb9546d4ba81347bc59d8f9a5ec02003737d69febdf27f18914861e1df28c", func := "herbarium/herbariumlaw22.BoxLimits", spec := "boxLimits", inPlace := ["internal/bytealg.abigen_runtime_cmpstring", "math.Float64bits", "math.Float64frombits", "internal/reflectlite.ValueOf", "internal/reflectlite.Swapper", "(internal/reflectlite.Value).Len"], unfollowed := true, recurses := true, apart := false }
def BoxLimitsSaid : Prop := boxLimitsRow.holds Tryz.pinned (OpenSpec.ofChange boxLimitsSpec)

/-- ITS FALSE NEIGHBOUR: 'it returns false'. Refute it at one input. -/
def boxLimitsWrong : ChangeSpec := { name := "boxLimits", fn := fun _ => fun
  | [d1, d2, d3, d4] => { results := [.lit (.bool false)], args := [d1, d2, d3, d4] }
  | _ => none }
def BoxLimitsWrongFalsely : Prop := boxLimitsRow.holds Tryz.pinned (OpenSpec.ofChange boxLimitsWrong)

/-- 'herbariumlaw22.BoxApart': WHATEVER THE INPUT: true; the input reads as it did. -/
def boxApartSpec : ChangeSpec := { name := "boxApart", fn := fun _ => fun
  | [d1, d2, d3] => { results := [.lit (.bool true)], args := [d1, d2, d3] }
  | _ => none }
def boxApartRow : OpenClaim := { program := "ytclediplagkblaagreat", sum := "168eb9546d4ba81347bc59d8f9a5ec02003737d69febdf27f18914861e1df28c", func := "herbarium/herbariumlaw22.BoxApart", spec := "boxApart", inPlace := ["internal/bytealg.abigen_runtime_cmpstring", "math.Float64bits", "math.Float64frombits", "internal/reflectlite.ValueOf", "internal/reflectlite.Swapper", "(internal/reflectlite.Value).Len"], unfollowed := true, recurses := true, apart := false }
def BoxApartSaid : Prop := boxApartRow.holds Tryz.pinned (OpenSpec.ofChange boxApartSpec)

/-- ITS FALSE NEIGHBOUR: 'it returns false'. Refute it at one input. -/
def boxApartWrong : ChangeSpec := { name := "boxApart", fn := fun _ => fun
  | [d1, d2, d3] => { results := [.lit (.bool false)], args := [d1, d2, d3] }
  | _ => none }
def BoxApartWrongFalsely : Prop := boxApartRow.holds Tryz.pinned (OpenSpec.ofChange boxApartWrong)

/-- 'herbariumlaw22.BoxFrames': WHATEVER THE INPUT: true; the input reads as it did. -/
def boxFramesSpec : ChangeSpec := { name := "boxFrames", fn := fun _ => fun
  | [d1, d2] => { results := [.lit (.bool true)], args := [d1, d2] }
  | _ => none }
def boxFramesRow : OpenClaim := { program := "ytclediplagkblaagreat", sum := "168eb9546d4ba81347bc59d8f9a5ec02003737d69febdf27f18914861e1df28c", func := "herbarium/herbariumlaw22.BoxFrames", spec := "boxFrames", inPlace := ["internal/bytealg.abigen_runtime_cmpstring", "math.Float64bits", "math.Float64frombits", "internal/reflectlite.ValueOf", "internal/reflectlite.Swapper", "(internal/reflectlite.Value).Len"], unfollowed := true, recurses := true, apart := false }
def BoxFramesSaid : Prop := boxFramesRow.holds Tryz.pinned (OpenSpec.ofChange boxFramesSpec)

/-- ITS FALSE NEIGHBOUR: 'it returns false'. Refute it at one input. -/
def boxFramesWrong : ChangeSpec := { name := "boxFrames", fn := fun _ => fun
  | [d1, d2] => { results := [.lit (.bool false)], args := [d1, d2] }
  | _ => none }
def BoxFramesWrongFalsely : Prop := boxFramesRow.holds Tryz.pinned (OpenSpec.ofChange boxFramesWrong)

/-- 'herbariumlaw22.BoxBuilds': WHATEVER THE INPUT: true; the input reads as it did. -/
def boxBuildsSpec : ChangeSpec := { name := "boxBuilds", fn := fun _ => fun
  | [d1, d2] => { results := [.lit (.bool true)], args := [d1, d2] }
  | _ => none }
def boxBuildsRow : OpenClaim := { program := "ytclediplagkblaagreat", sum := "168eb9546d4ba81347bc59d8f9a5ec02003737d69febdf27f18914861e1df28c", func := "herbarium/herbariumlaw22.BoxBuilds", spec := "boxBuilds", inPlace := ["internal/bytealg.abigen_runtime_cmpstring", "math.Float64bits", "math.Float64frombits", "internal/reflectlite.ValueOf", "internal/reflectlite.Swapper", "(internal/reflectlite.Value).Len"], unfollowed := true, recurses := true, apart := false }
def BoxBuildsSaid : Prop := boxBuildsRow.holds Tryz.pinned (OpenSpec.ofChange boxBuildsSpec)

/-- ITS FALSE NEIGHBOUR: 'it returns false'. Refute it at one input. -/
def boxBuildsWrong : ChangeSpec := { name := "boxBuilds", fn := fun _ => fun
  | [d1, d2] => { results := [.lit (.bool false)], args := [d1, d2] }
  | _ => none }
def BoxBuildsWrongFalsely : Prop := boxBuildsRow.holds Tryz.pinned (OpenSpec.ofChange boxBuildsWrong)

/-- 'herbariumlaw22.BoxSpoilt': WHATEVER THE INPUT: true; the input reads as it did. -/
def boxSpoiltSpec : ChangeSpec := { name := "boxSpoilt", fn := fun _ => fun
  | [d1, d2, d3, d4] => { results := [.lit (.bool true)], args := [d1, d2, d3, d4] }
  | _ => none }
def boxSpoiltRow : OpenClaim := { program := "ytclediplagkblaagreat", sum := "168eb9546d4ba81347bc59d8f9a5ec02003737d69febdf27f18914861e1df28c", func := "herbarium/herbariumlaw22.BoxSpoilt", spec := "boxSpoilt", inPlace := ["internal/bytealg.abigen_runtime_cmpstring", "math.Float64bits", "math.Float64frombits", "internal/reflectlite.ValueOf", "internal/reflectlite.Swapper", "(internal/reflectlite.Value).Len"], unfollowed := true, recurses := true, apart := false }
def BoxSpoiltSaid : Prop := boxSpoiltRow.holds Tryz.pinned (OpenSpec.ofChange boxSpoiltSpec)

/-- ITS FALSE NEIGHBOUR: 'it returns false'. Refute it at one input. -/
def boxSpoiltWrong : ChangeSpec := { name := "boxSpoilt", fn := fun _ => fun
  | [d1, d2, d3, d4] => { results := [.lit (.bool false)], args := [d1, d2, d3, d4] }
  | _ => none }
def BoxSpoiltWrongFalsely : Prop := boxSpoiltRow.holds Tryz.pinned (OpenSpec.ofChange boxSpoiltWrong)

/-- 'herbariumlaw23.BlendEntries': WHATEVER THE INPUT: true; the input reads as it did. -/
def blendEntriesSpec : ChangeSpec := { name := "blendEntries", fn := fun _ => fun
  | [d1, d2, d3, d4, d5] => { results := [.lit (.bool true)], args := [d1, d2, d3, d4, d5] }
  | _ => none }
def blendEntriesRow : OpenClaim := { program := "ytclediplagkblaagreat", sum := "168eb9546d4ba81347bc59d8f9a5ec02003737d69febdf27f18914861e1df28c", func := "herbarium/herbariumlaw23.BlendEntries", spec := "blendEntries", inPlace := ["internal/bytealg.abigen_runtime_cmpstring", "math.Float64bits", "math.Float64frombits"], unfollowed := true, recurses := true, apart := false }
def BlendEntriesSaid : Prop := blendEntriesRow.holds Tryz.pinned (OpenSpec.ofChange blendEntriesSpec)

/-- ITS FALSE NEIGHBOUR: 'it returns false'. Refute it at one input. -/
def blendEntriesWrong : ChangeSpec := { name := "blendEntries", fn := fun _ => fun
  | [d1, d2, d3, d4, d5] => { results := [.lit (.bool false)], args := [d1, d2, d3, d4, d5] }
  | _ => none }
def BlendEntriesWrongFalsely : Prop := blendEntriesRow.holds Tryz.pinned (OpenSpec.ofChange blendEntriesWrong)

/-- 'herbariumlaw22.BoxAny': WHATEVER THE INPUT: true; the input reads as it did. -/
def boxAnySpec : ChangeSpec := { name := "boxAny", fn := fun _ => fun
  | [d1, d2, d3, d4, d5] => { results := [.lit (.bool true)], args := [d1, d2, d3, d4, d5] }
  | _ => none }
def boxAnyRow : OpenClaim := { program := "ytclediplagkblaagreat", sum := "168eb9546d4ba81347bc59d8f9a5ec02003737d69febdf27f18914861e1df28c", func := "herbarium/herbariumlaw22.BoxAny", spec := "boxAny", inPlace := ["internal/bytealg.abigen_runtime_cmpstring", "math.Float64bits", "math.Float64frombits", "internal/reflectlite.ValueOf", "internal/reflectlite.Swapper", "(internal/reflectlite.Value).Len"], unfollowed := true, recurses := true, apart := false }
def BoxAnySaid : Prop := boxAnyRow.holds Tryz.pinned (OpenSpec.ofChange boxAnySpec)

/-- ITS FALSE NEIGHBOUR: 'it returns false'. Refute it at one input. -/
def boxAnyWrong : ChangeSpec := { name := "boxAny", fn := fun _ => fun
  | [d1, d2, d3, d4, d5] => { results := [.lit (.bool false)], args := [d1, d2, d3, d4, d5] }
  | _ => none }
def BoxAnyWrongFalsely : Prop := boxAnyRow.holds Tryz.pinned (OpenSpec.ofChange boxAnyWrong)

/-- 'herbariumlaw23.BlendTurns': WHATEVER THE INPUT: true; the input reads as it did. -/
def blendTurnsSpec : ChangeSpec := { name := "blendTurns", fn := fun _ => fun
  | [d1, d2] => { results := [.lit (.bool true)], args := [d1, d2] }
  | _ => none }
def blendTurnsRow : OpenClaim := { program := "ytclediplagkblaagreat", sum := "168eb9546d4ba81347bc59d8f9a5ec02003737d69febdf27f18914861e1df28c", func := "herbarium/herbariumlaw23.BlendTurns", spec := "blendTurns", inPlace := ["internal/bytealg.abigen_runtime_cmpstring", "math.Float64bits", "math.Float64frombits", "internal/reflectlite.ValueOf", "internal/reflectlite.Swapper", "(internal/reflectlite.Value).Len"], unfollowed := true, recurses := true, apart := false }
def BlendTurnsSaid : Prop := blendTurnsRow.holds Tryz.pinned (OpenSpec.ofChange blendTurnsSpec)

/-- ITS FALSE NEIGHBOUR: 'it returns false'. Refute it at one input. -/
def blendTurnsWrong : ChangeSpec := { name := "blendTurns", fn := fun _ => fun
  | [d1, d2] => { results := [.lit (.bool false)], args := [d1, d2] }
  | _ => none }
def BlendTurnsWrongFalsely : Prop := blendTurnsRow.holds Tryz.pinned (OpenSpec.ofChange blendTurnsWrong)

/-- 'herbariumlaw23.BlendOwn': WHATEVER THE INPUT: true; the input reads as it did. -/
def blendOwnSpec : ChangeSpec := { name := "blendOwn", fn := fun _ => fun
  | [d] => { results := [.lit (.bool true)], args := [d] }
  | _ => none }
def blendOwnRow : OpenClaim := { program := "ytclediplagkblaagreat", sum := "168eb9546d4ba81347bc59d8f9a5ec02003737d69febdf27f18914861e1df28c", func := "herbarium/herbariumlaw23.BlendOwn", spec := "blendOwn", inPlace := ["internal/bytealg.abigen_runtime_cmpstring", "math.Float64bits", "math.Float64frombits", "internal/reflectlite.ValueOf", "internal/reflectlite.Swapper", "(internal/reflectlite.Value).Len"], unfollowed := true, recurses := true, apart := false }
def BlendOwnSaid : Prop := blendOwnRow.holds Tryz.pinned (OpenSpec.ofChange blendOwnSpec)

/-- ITS FALSE NEIGHBOUR: 'it returns false'. Refute it at one input. -/
def blendOwnWrong : ChangeSpec := { name := "blendOwn", fn := fun _ => fun
  | [d] => { results := [.lit (.bool false)], args := [d] }
  | _ => none }
def BlendOwnWrongFalsely : Prop := blendOwnRow.holds Tryz.pinned (OpenSpec.ofChange blendOwnWrong)

/-- 'herbariumlaw23.BlendBudget': WHATEVER THE INPUT: true; the input reads as it did. -/
def blendBudgetSpec : ChangeSpec := { name := "blendBudget", fn := fun _ => fun
  | [d1, d2, d3] => { results := [.lit (.bool true)], args := [d1, d2, d3] }
  | _ => none }
def blendBudgetRow : OpenClaim := { program := "ytclediplagkblaagreat", sum := "168eb9546d4ba81347bc59d8f9a5ec02003737d69febdf27f18914861e1df28c", func := "herbarium/herbariumlaw23.BlendBudget", spec := "blendBudget", inPlace := ["internal/bytealg.abigen_runtime_cmpstring", "math.Float64bits", "math.Float64frombits", "internal/reflectlite.ValueOf", "internal/reflectlite.Swapper", "(internal/reflectlite.Value).Len"], unfollowed := true, recurses := true, apart := false }
def BlendBudgetSaid : Prop := blendBudgetRow.holds Tryz.pinned (OpenSpec.ofChange blendBudgetSpec)

/-- ITS FALSE NEIGHBOUR: 'it returns false'. Refute it at one input. -/
def blendBudgetWrong : ChangeSpec := { name := "blendBudget", fn := fun _ => fun
  | [d1, d2, d3] => { results := [.lit (.bool false)], args := [d1, d2, d3] }
  | _ => none }
def BlendBudgetWrongFalsely : Prop := blendBudgetRow.holds Tryz.pinned (OpenSpec.ofChange blendBudgetWrong)

/-- 'herbariumlaw23.BlendMerges': WHATEVER THE INPUT: true; the input reads as it did. -/
def blendMergesSpec : ChangeSpec := { name := "blendMerges", fn := fun _ => fun
  | [d1, d2, d3] => { results := [.lit (.bool true)], args := [d1, d2, d3] }
  | _ => none }
def blendMergesRow : OpenClaim := { program := "ytclediplagkblaagreat", sum := "168eb9546d4ba81347bc59d8f9a5ec02003737d69febdf27f18914861e1df28c", func := "herbarium/herbariumlaw23.BlendMerges", spec := "blendMerges", inPlace := ["internal/bytealg.abigen_runtime_cmpstring", "math.Float64bits", "math.Float64frombits", "internal/reflectlite.ValueOf", "internal/reflectlite.Swapper", "(internal/reflectlite.Value).Len"], unfollowed := true, recurses := true, apart := false }
def BlendMergesSaid : Prop := blendMergesRow.holds Tryz.pinned (OpenSpec.ofChange blendMergesSpec)

/-- ITS FALSE NEIGHBOUR: 'it returns false'. Refute it at one input. -/
def blendMergesWrong : ChangeSpec := { name := "blendMerges", fn := fun _ => fun
  | [d1, d2, d3] => { results := [.lit (.bool false)], args := [d1, d2, d3] }
  | _ => none }
def BlendMergesWrongFalsely : Prop := blendMergesRow.holds Tryz.pinned (OpenSpec.ofChange blendMergesWrong)

/-- 'herbariumlaw23.BlendWrong': WHATEVER THE INPUT: true; the input reads as it did. -/
def blendWrongSpec : ChangeSpec := { name := "blendWrong", fn := fun _ => fun
  | [d1, d2, d3, d4, d5, d6, d7] => { results := [.lit (.bool true)], args := [d1, d2, d3, d4, d5, d6, d7] }
  | _ => none }
def blendWrongRow : OpenClaim := { program := "ytclediplagkblaagreat", sum := "168eb9546d4ba81347bc59d8f9a5ec02003737d69febdf27f18914861e1df28c", func := "herbarium/herbariumlaw23.BlendWrong", spec := "blendWrong", inPlace := ["internal/bytealg.abigen_runtime_cmpstring", "math.Float64bits", "math.Float64frombits", "internal/reflectlite.ValueOf", "internal/reflectlite.Swapper", "(internal/reflectlite.Value).Len"], unfollowed := true, recurses := true, apart := false }
def BlendWrongSaid : Prop := blendWrongRow.holds Tryz.pinned (OpenSpec.ofChange blendWrongSpec)

/-- ITS FALSE NEIGHBOUR: 'it returns false'. Refute it at one input. -/
def blendWrongWrong : ChangeSpec := { name := "blendWrong", fn := fun _ => fun
  | [d1, d2, d3, d4, d5, d6, d7] => { results := [.lit (.bool false)], args := [d1, d2, d3, d4, d5, d6, d7] }
  | _ => none }
def BlendWrongWrongFalsely : Prop := blendWrongRow.holds Tryz.pinned (OpenSpec.ofChange blendWrongWrong)

/- THE SECOND FORM. 'bulk': how many values and letters a reading holds, each counted each time it is reached (what is shared counts as often as it is met; a slice's spare places count too). A statement '..UptoSaid' is the law's where the arguments, and the package variables that the reading takes, are together of bulk at most 1048576: NARROWER than '..Said'. Prove '..Said' where nothing that the law and all that it calls make is longer than what came in: it says more and counts as full. Else prove '..UptoSaid'. A law counts once. -/
mutual
def uptoBulk {H : Type} : DataW H → Nat
  | .lit (.string bytes) => bytes.length + 1
  | .lit _ => 1
  | .nil => 1
  | .ptr d => uptoBulk d + 1
  | .slice elems spare => uptoBulkAll elems + uptoBulkAll spare + 1
  | .agg parts => uptoBulkAll parts + 1
  | .iface _ d => uptoBulk d + 1
  | .map entries => uptoBulkEntries entries + 1
  | .held _ => 1
def uptoBulkAll {H : Type} : List (DataW H) → Nat
  | [] => 0
  | d :: r => uptoBulk d + uptoBulkAll r
def uptoBulkEntries {H : Type} : List (Lit × DataW H) → Nat
  | [] => 0
  | x :: r => uptoBulkEntry x + uptoBulkEntries r
def uptoBulkEntry {H : Type} : Lit × DataW H → Nat
  | (.string bytes, d) => bytes.length + uptoBulk d + 1
  | (_, d) => uptoBulk d + 1
 end
def uptoSmall : (H : Type) → List (DataW H) → Bool := fun _ ds => decide (uptoBulkAll ds ≤ 1048576)
def OpenSpec.upto (s : _root_.Go.ChangeSpec) : _root_.Go.OpenSpec := { _root_.Go.OpenSpec.ofChange s with cond := some uptoSmall }

/-- 'herbariumlaw19.FuseAny', WHERE WHAT IT READS IS OF BULK AT MOST 1048576: true; the input reads as it did. -/
def fuseAnyUptoRow : OpenClaim := { program := "ytclediplagkblaagreat", sum := "168eb9546d4ba81347bc59d8f9a5ec02003737d69febdf27f18914861e1df28c", func := "herbarium/herbariumlaw19.FuseAny", spec := "fuseAny", inPlace := ["math.Float64frombits", "math.Float64bits"], unfollowed := true, recurses := true, apart := false, narrowed := true }
def FuseAnyUptoSaid : Prop := fuseAnyUptoRow.holds Tryz.pinned (OpenSpec.upto fuseAnySpec)

/-- 'herbariumlaw22.BoxClose', WHERE WHAT IT READS IS OF BULK AT MOST 1048576: true; the input reads as it did. -/
def boxCloseUptoRow : OpenClaim := { program := "ytclediplagkblaagreat", sum := "168eb9546d4ba81347bc59d8f9a5ec02003737d69febdf27f18914861e1df28c", func := "herbarium/herbariumlaw22.BoxClose", spec := "boxClose", inPlace := ["internal/bytealg.abigen_runtime_cmpstring", "math.Float64bits", "math.Float64frombits"], unfollowed := true, recurses := true, apart := false, narrowed := true }
def BoxCloseUptoSaid : Prop := boxCloseUptoRow.holds Tryz.pinned (OpenSpec.upto boxCloseSpec)

/-- 'herbariumlaw22.BoxLimits', WHERE WHAT IT READS IS OF BULK AT MOST 1048576: true; the input reads as it did. -/
def boxLimitsUptoRow : OpenClaim := { program := "ytclediplagkblaagreat", sum := "168eb9546d4ba81347bc59d8f9a5ec02003737d69febdf27f18914861e1df28c", func := "herbarium/herbariumlaw22.BoxLimits", spec := "boxLimits", inPlace := ["internal/bytealg.abigen_runtime_cmpstring", "math.Float64bits", "math.Float64frombits", "internal/reflectlite.ValueOf", "internal/reflectlite.Swapper", "(internal/reflectlite.Value).Len"], unfollowed := true, recurses := true, apart := false, narrowed := true }
def BoxLimitsUptoSaid : Prop := boxLimitsUptoRow.holds Tryz.pinned (OpenSpec.upto boxLimitsSpec)

/-- 'herbariumlaw22.BoxApart', WHERE WHAT IT READS IS OF BULK AT MOST 1048576: true; the input reads as it did. -/
def boxApartUptoRow : OpenClaim := { program := "ytclediplagkblaagreat", sum := "168eb9546d4ba81347bc59d8f9a5ec02003737d69febdf27f18914861e1df28c", func := "herbarium/herbariumlaw22.BoxApart", spec := "boxApart", inPlace := ["internal/bytealg.abigen_runtime_cmpstring", "math.Float64bits", "math.Float64frombits", "internal/reflectlite.ValueOf", "internal/reflectlite.Swapper", "(internal/reflectlite.Value).Len"], unfollowed := true, recurses := true, apart := false, narrowed := true }
def BoxApartUptoSaid : Prop := boxApartUptoRow.holds Tryz.pinned (OpenSpec.upto boxApartSpec)

/-- 'herbariumlaw22.BoxFrames', WHERE WHAT IT READS IS OF BULK AT MOST 1048576: true; the input reads as it did. -/
def boxFramesUptoRow : OpenClaim := { program := "ytclediplagkblaagreat", sum := "168eb9546d4ba81347bc59d8f9a5ec02003737d69febdf27f18914861e1df28c", func := "herbarium/herbariumlaw22.BoxFrames", spec := "boxFrames", inPlace := ["internal/bytealg.abigen_runtime_cmpstring", "math.Float64bits", "math.Float64frombits", "internal/reflectlite.ValueOf", "internal/reflectlite.Swapper", "(internal/reflectlite.Value).Len"], unfollowed := true, recurses := true, apart := false, narrowed := true }
def BoxFramesUptoSaid : Prop := boxFramesUptoRow.holds Tryz.pinned (OpenSpec.upto boxFramesSpec)

/-- 'herbariumlaw22.BoxBuilds', WHERE WHAT IT READS IS OF BULK AT MOST 1048576: true; the input reads as it did. -/
def boxBuildsUptoRow : OpenClaim := { program := "ytclediplagkblaagreat", sum := "168eb9546d4ba81347bc59d8f9a5ec02003737d69febdf27f18914861e1df28c", func := "herbarium/herbariumlaw22.BoxBuilds", spec := "boxBuilds", inPlace := ["internal/bytealg.abigen_runtime_cmpstring", "math.Float64bits", "math.Float64frombits", "internal/reflectlite.ValueOf", "internal/reflectlite.Swapper", "(internal/reflectlite.Value).Len"], unfollowed := true, recurses := true, apart := false, narrowed := true }
def BoxBuildsUptoSaid : Prop := boxBuildsUptoRow.holds Tryz.pinned (OpenSpec.upto boxBuildsSpec)

/-- 'herbariumlaw22.BoxSpoilt', WHERE WHAT IT READS IS OF BULK AT MOST 1048576: true; the input reads as it did. -/
def boxSpoiltUptoRow : OpenClaim := { program := "ytclediplagkblaagreat", sum := "168eb9546d4ba81347bc59d8f9a5ec02003737d69febdf27f18914861e1df28c", func := "herbarium/herbariumlaw22.BoxSpoilt", spec := "boxSpoilt", inPlace := ["internal/bytealg.abigen_runtime_cmpstring", "math.Float64bits", "math.Float64frombits", "internal/reflectlite.ValueOf", "internal/reflectlite.Swapper", "(internal/reflectlite.Value).Len"], unfollowed := true, recurses := true, apart := false, narrowed := true }
def BoxSpoiltUptoSaid : Prop := boxSpoiltUptoRow.holds Tryz.pinned (OpenSpec.upto boxSpoiltSpec)

/-- 'herbariumlaw23.BlendEntries', WHERE WHAT IT READS IS OF BULK AT MOST 1048576: true; the input reads as it did. -/
def blendEntriesUptoRow : OpenClaim := { program := "ytclediplagkblaagreat", sum := "168eb9546d4ba81347bc59d8f9a5ec02003737d69febdf27f18914861e1df28c", func := "herbarium/herbariumlaw23.BlendEntries", spec := "blendEntries", inPlace := ["internal/bytealg.abigen_runtime_cmpstring", "math.Float64bits", "math.Float64frombits"], unfollowed := true, recurses := true, apart := false, narrowed := true }
def BlendEntriesUptoSaid : Prop := blendEntriesUptoRow.holds Tryz.pinned (OpenSpec.upto blendEntriesSpec)

/-- 'herbariumlaw22.BoxAny', WHERE WHAT IT READS IS OF BULK AT MOST 1048576: true; the input reads as it did. -/
def boxAnyUptoRow : OpenClaim := { program := "ytclediplagkblaagreat", sum := "168eb9546d4ba81347bc59d8f9a5ec02003737d69febdf27f18914861e1df28c", func := "herbarium/herbariumlaw22.BoxAny", spec := "boxAny", inPlace := ["internal/bytealg.abigen_runtime_cmpstring", "math.Float64bits", "math.Float64frombits", "internal/reflectlite.ValueOf", "internal/reflectlite.Swapper", "(internal/reflectlite.Value).Len"], unfollowed := true, recurses := true, apart := false, narrowed := true }
def BoxAnyUptoSaid : Prop := boxAnyUptoRow.holds Tryz.pinned (OpenSpec.upto boxAnySpec)

/-- 'herbariumlaw23.BlendTurns', WHERE WHAT IT READS IS OF BULK AT MOST 1048576: true; the input reads as it did. -/
def blendTurnsUptoRow : OpenClaim := { program := "ytclediplagkblaagreat", sum := "168eb9546d4ba81347bc59d8f9a5ec02003737d69febdf27f18914861e1df28c", func := "herbarium/herbariumlaw23.BlendTurns", spec := "blendTurns", inPlace := ["internal/bytealg.abigen_runtime_cmpstring", "math.Float64bits", "math.Float64frombits", "internal/reflectlite.ValueOf", "internal/reflectlite.Swapper", "(internal/reflectlite.Value).Len"], unfollowed := true, recurses := true, apart := false, narrowed := true }
def BlendTurnsUptoSaid : Prop := blendTurnsUptoRow.holds Tryz.pinned (OpenSpec.upto blendTurnsSpec)

/-- 'herbariumlaw23.BlendOwn', WHERE WHAT IT READS IS OF BULK AT MOST 1048576: true; the input reads as it did. -/
def blendOwnUptoRow : OpenClaim := { program := "ytclediplagkblaagreat", sum := "168eb9546d4ba81347bc59d8f9a5ec02003737d69febdf27f18914861e1df28c", func := "herbarium/herbariumlaw23.BlendOwn", spec := "blendOwn", inPlace := ["internal/bytealg.abigen_runtime_cmpstring", "math.Float64bits", "math.Float64frombits", "internal/reflectlite.ValueOf", "internal/reflectlite.Swapper", "(internal/reflectlite.Value).Len"], unfollowed := true, recurses := true, apart := false, narrowed := true }
def BlendOwnUptoSaid : Prop := blendOwnUptoRow.holds Tryz.pinned (OpenSpec.upto blendOwnSpec)

/-- 'herbariumlaw23.BlendBudget', WHERE WHAT IT READS IS OF BULK AT MOST 1048576: true; the input reads as it did. -/
def blendBudgetUptoRow : OpenClaim := { program := "ytclediplagkblaagreat", sum := "168eb9546d4ba81347bc59d8f9a5ec02003737d69febdf27f18914861e1df28c", func := "herbarium/herbariumlaw23.BlendBudget", spec := "blendBudget", inPlace := ["internal/bytealg.abigen_runtime_cmpstring", "math.Float64bits", "math.Float64frombits", "internal/reflectlite.ValueOf", "internal/reflectlite.Swapper", "(internal/reflectlite.Value).Len"], unfollowed := true, recurses := true, apart := false, narrowed := true }
def BlendBudgetUptoSaid : Prop := blendBudgetUptoRow.holds Tryz.pinned (OpenSpec.upto blendBudgetSpec)

/-- 'herbariumlaw23.BlendMerges', WHERE WHAT IT READS IS OF BULK AT MOST 1048576: true; the input reads as it did. -/
def blendMergesUptoRow : OpenClaim := { program := "ytclediplagkblaagreat", sum := "168eb9546d4ba81347bc59d8f9a5ec02003737d69febdf27f18914861e1df28c", func := "herbarium/herbariumlaw23.BlendMerges", spec := "blendMerges", inPlace := ["internal/bytealg.abigen_runtime_cmpstring", "math.Float64bits", "math.Float64frombits", "internal/reflectlite.ValueOf", "internal/reflectlite.Swapper", "(internal/reflectlite.Value).Len"], unfollowed := true, recurses := true, apart := false, narrowed := true }
def BlendMergesUptoSaid : Prop := blendMergesUptoRow.holds Tryz.pinned (OpenSpec.upto blendMergesSpec)

/-- 'herbariumlaw23.BlendWrong', WHERE WHAT IT READS IS OF BULK AT MOST 1048576: true; the input reads as it did. -/
def blendWrongUptoRow : OpenClaim := { program := "ytclediplagkblaagreat", sum := "168eb9546d4ba81347bc59d8f9a5ec02003737d69febdf27f18914861e1df28c", func := "herbarium/herbariumlaw23.BlendWrong", spec := "blendWrong", inPlace := ["internal/bytealg.abigen_runtime_cmpstring", "math.Float64bits", "math.Float64frombits", "internal/reflectlite.ValueOf", "internal/reflectlite.Swapper", "(internal/reflectlite.Value).Len"], unfollowed := true, recurses := true, apart := false, narrowed := true }
def BlendWrongUptoSaid : Prop := blendWrongUptoRow.holds Tryz.pinned (OpenSpec.upto blendWrongSpec)

end Rows
end Go.Proofs.YtclediplagkblaaGreat
