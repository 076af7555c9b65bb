/-
  No cell of these rows narrows 'for every input' (looked for: loops, veiled, ifaces, maps, wideKeys, modest, calm, conditions, laid).
  DERIVED. THE GIVEN ROWS OF THIS SEAT. 5 by the template 'for every input the law returns true; each argument reads behind the call as it read before'; 0 by the template 'total and deterministic' (their statements: YtfikaekocgofoaaTotals.lean).
  GIVEN WITH THE SEED: the statements are not yours to turn. If you find one false, say at which input.
  Laid BY PROGRAM, IN A SANDBOX (cutbox-rows.mjs): the forced cells as the released guide's own fill.sh prints them over the translation 61246269c18d439e… (all of the seat's roots in one cut). By AI agents, Wed Nov 11 2026. No macro, syntax, notation, axiom, sorry.
-/
import Derived.Test.YtfikaekocgofoaaChecked
import GoSem.Claim
import GoSem.ClaimJoined
import GoSem.ClaimMapViews
import Derived.JoinedTies
import Derived.KernelRfl
namespace Go.Proofs.Ytfikaekocgofoaa
/- THE CELL 'sum', in the pinned program and in every row, IS THE sha256 OF THE DUMP (.gsa) THAT YtfikaekocgofoaaProg.lean LOADS. Nothing in Lean hashes anything: it is a label: what it is worth is what the hold of that sum in a sandbox is worth. -/
noncomputable def Try.pinned : Pinned := { name := "ytfikaekocgofoaa", sum := "61246269c18d439eb5f21de1a0944a45c3feb33667c2311dd1184e18f27588a7", checked := Try.checked }
namespace Rows
def none {H : Type} : Left H := { results := [], args := [] }

/-- 'mooringlaw13.AtlasFolds': WHATEVER THE INPUT: true; the input reads as it did. -/
def atlasFoldsSpec : ChangeSpec := { name := "atlasFolds", fn := fun _ => fun
  | [d1, d2] => { results := [.lit (.bool true)], args := [d1, d2] }
  | _ => none }
def atlasFoldsRow : OpenClaim := { program := "ytfikaekocgofoaa", sum := "61246269c18d439eb5f21de1a0944a45c3feb33667c2311dd1184e18f27588a7", func := "mooring/mooringlaw13.AtlasFolds", spec := "atlasFolds", inPlace := ["slices.overlaps[mooring/api.Osd]"], unfollowed := true, recurses := true, apart := false }
def AtlasFoldsSaid : Prop := atlasFoldsRow.holds Try.pinned (OpenSpec.ofChange atlasFoldsSpec)

/-- ITS FALSE NEIGHBOUR: 'it returns false'. Refute it at one input. -/
def atlasFoldsWrong : ChangeSpec := { name := "atlasFolds", fn := fun _ => fun
  | [d1, d2] => { results := [.lit (.bool false)], args := [d1, d2] }
  | _ => none }
def AtlasFoldsWrongFalsely : Prop := atlasFoldsRow.holds Try.pinned (OpenSpec.ofChange atlasFoldsWrong)

/-- 'mooringlaw13.AtlasApplies': WHATEVER THE INPUT: true; the input reads as it did. -/
def atlasAppliesSpec : ChangeSpec := { name := "atlasApplies", fn := fun _ => fun
  | [d1, d2] => { results := [.lit (.bool true)], args := [d1, d2] }
  | _ => none }
def atlasAppliesRow : OpenClaim := { program := "ytfikaekocgofoaa", sum := "61246269c18d439eb5f21de1a0944a45c3feb33667c2311dd1184e18f27588a7", func := "mooring/mooringlaw13.AtlasApplies", spec := "atlasApplies", inPlace := ["slices.overlaps[mooring/api.Osd]"], unfollowed := true, recurses := true, apart := false }
def AtlasAppliesSaid : Prop := atlasAppliesRow.holds Try.pinned (OpenSpec.ofChange atlasAppliesSpec)

/-- ITS FALSE NEIGHBOUR: 'it returns false'. Refute it at one input. -/
def atlasAppliesWrong : ChangeSpec := { name := "atlasApplies", fn := fun _ => fun
  | [d1, d2] => { results := [.lit (.bool false)], args := [d1, d2] }
  | _ => none }
def AtlasAppliesWrongFalsely : Prop := atlasAppliesRow.holds Try.pinned (OpenSpec.ofChange atlasAppliesWrong)

/-- 'mooringlaw13.AtlasUnlike': WHATEVER THE INPUT: true; the input reads as it did. -/
def atlasUnlikeSpec : ChangeSpec := { name := "atlasUnlike", fn := fun _ => fun
  | [d1, d2, d3] => { results := [.lit (.bool true)], args := [d1, d2, d3] }
  | _ => none }
def atlasUnlikeRow : OpenClaim := { program := "ytfikaekocgofoaa", sum := "61246269c18d439eb5f21de1a0944a45c3feb33667c2311dd1184e18f27588a7", func := "mooring/mooringlaw13.AtlasUnlike", spec := "atlasUnlike", inPlace := ["slices.overlaps[mooring/api.Osd]"], unfollowed := true, recurses := true, apart := false }
def AtlasUnlikeSaid : Prop := atlasUnlikeRow.holds Try.pinned (OpenSpec.ofChange atlasUnlikeSpec)

/-- ITS FALSE NEIGHBOUR: 'it returns false'. Refute it at one input. -/
def atlasUnlikeWrong : ChangeSpec := { name := "atlasUnlike", fn := fun _ => fun
  | [d1, d2, d3] => { results := [.lit (.bool false)], args := [d1, d2, d3] }
  | _ => none }
def AtlasUnlikeWrongFalsely : Prop := atlasUnlikeRow.holds Try.pinned (OpenSpec.ofChange atlasUnlikeWrong)

/-- 'mooringlaw13.AtlasDecodes': WHATEVER THE INPUT: true; the input reads as it did. -/
def atlasDecodesSpec : ChangeSpec := { name := "atlasDecodes", fn := fun _ => fun
  | [d] => { results := [.lit (.bool true)], args := [d] }
  | _ => none }
def atlasDecodesRow : OpenClaim := { program := "ytfikaekocgofoaa", sum := "61246269c18d439eb5f21de1a0944a45c3feb33667c2311dd1184e18f27588a7", func := "mooring/mooringlaw13.AtlasDecodes", spec := "atlasDecodes", inPlace := ["slices.overlaps[mooring/api.Osd]"], unfollowed := true, recurses := true, apart := false }
def AtlasDecodesSaid : Prop := atlasDecodesRow.holds Try.pinned (OpenSpec.ofChange atlasDecodesSpec)

/-- ITS FALSE NEIGHBOUR: 'it returns false'. Refute it at one input. -/
def atlasDecodesWrong : ChangeSpec := { name := "atlasDecodes", fn := fun _ => fun
  | [d] => { results := [.lit (.bool false)], args := [d] }
  | _ => none }
def AtlasDecodesWrongFalsely : Prop := atlasDecodesRow.holds Try.pinned (OpenSpec.ofChange atlasDecodesWrong)

/-- 'mooringlaw13.AtlasCodes': WHATEVER THE INPUT: true; the input reads as it did. -/
def atlasCodesSpec : ChangeSpec := { name := "atlasCodes", fn := fun _ => fun
  | [d1, d2] => { results := [.lit (.bool true)], args := [d1, d2] }
  | _ => none }
def atlasCodesRow : OpenClaim := { program := "ytfikaekocgofoaa", sum := "61246269c18d439eb5f21de1a0944a45c3feb33667c2311dd1184e18f27588a7", func := "mooring/mooringlaw13.AtlasCodes", spec := "atlasCodes", inPlace := ["slices.overlaps[mooring/api.Osd]"], unfollowed := true, recurses := true, apart := false }
def AtlasCodesSaid : Prop := atlasCodesRow.holds Try.pinned (OpenSpec.ofChange atlasCodesSpec)

/-- ITS FALSE NEIGHBOUR: 'it returns false'. Refute it at one input. -/
def atlasCodesWrong : ChangeSpec := { name := "atlasCodes", fn := fun _ => fun
  | [d1, d2] => { results := [.lit (.bool false)], args := [d1, d2] }
  | _ => none }
def AtlasCodesWrongFalsely : Prop := atlasCodesRow.holds Try.pinned (OpenSpec.ofChange atlasCodesWrong)

/- THE SECOND FORM. 'bulk': how many values and letters a reading holds, each counted each time it is reached (what is shared counts as often as it is met; a slice's spare places count too). A statement '..UptoSaid' is the law's where the arguments, and the package variables that the reading takes, are together of bulk at most 1048576: NARROWER than '..Said'. Prove '..Said' where nothing that the law and all that it calls make is longer than what came in: it says more and counts as full. Else prove '..UptoSaid'. A law counts once. -/
mutual
def uptoBulk {H : Type} : DataW H → Nat
  | .lit (.string bytes) => bytes.length + 1
  | .lit _ => 1
  | .nil => 1
  | .ptr d => uptoBulk d + 1
  | .slice elems spare => uptoBulkAll elems + uptoBulkAll spare + 1
  | .agg parts => uptoBulkAll parts + 1
  | .iface _ d => uptoBulk d + 1
  | .map entries => uptoBulkEntries entries + 1
  | .held _ => 1
def uptoBulkAll {H : Type} : List (DataW H) → Nat
  | [] => 0
  | d :: r => uptoBulk d + uptoBulkAll r
def uptoBulkEntries {H : Type} : List (Lit × DataW H) → Nat
  | [] => 0
  | x :: r => uptoBulkEntry x + uptoBulkEntries r
def uptoBulkEntry {H : Type} : Lit × DataW H → Nat
  | (.string bytes, d) => bytes.length + uptoBulk d + 1
  | (_, d) => uptoBulk d + 1
 end
def uptoSmall : (H : Type) → List (DataW H) → Bool := fun _ ds => decide (uptoBulkAll ds ≤ 1048576)
def OpenSpec.upto (s : _root_.Go.ChangeSpec) : _root_.Go.OpenSpec := { _root_.Go.OpenSpec.ofChange s with cond := some uptoSmall }

/-- 'mooringlaw13.AtlasFolds', WHERE WHAT IT READS IS OF BULK AT MOST 1048576: true; the input reads as it did. -/
def atlasFoldsUptoRow : OpenClaim := { program := "ytfikaekocgofoaa", sum := "61246269c18d439eb5f21de1a0944a45c3feb33667c2311dd1184e18f27588a7", func := "mooring/mooringlaw13.AtlasFolds", spec := "atlasFolds", inPlace := ["slices.overlaps[mooring/api.Osd]"], unfollowed := true, recurses := true, apart := false, narrowed := true }
def AtlasFoldsUptoSaid : Prop := atlasFoldsUptoRow.holds Try.pinned (OpenSpec.upto atlasFoldsSpec)

/-- 'mooringlaw13.AtlasApplies', WHERE WHAT IT READS IS OF BULK AT MOST 1048576: true; the input reads as it did. -/
def atlasAppliesUptoRow : OpenClaim := { program := "ytfikaekocgofoaa", sum := "61246269c18d439eb5f21de1a0944a45c3feb33667c2311dd1184e18f27588a7", func := "mooring/mooringlaw13.AtlasApplies", spec := "atlasApplies", inPlace := ["slices.overlaps[mooring/api.Osd]"], unfollowed := true, recurses := true, apart := false, narrowed := true }
def AtlasAppliesUptoSaid : Prop := atlasAppliesUptoRow.holds Try.pinned (OpenSpec.upto atlasAppliesSpec)

/-- 'mooringlaw13.AtlasUnlike', WHERE WHAT IT READS IS OF BULK AT MOST 1048576: true; the input reads as it did. -/
def atlasUnlikeUptoRow : OpenClaim := { program := "ytfikaekocgofoaa", sum := "61246269c18d439eb5f21de1a0944a45c3feb33667c2311dd1184e18f27588a7", func := "mooring/mooringlaw13.AtlasUnlike", spec := "atlasUnlike", inPlace := ["slices.overlaps[mooring/api.Osd]"], unfollowed := true, recurses := true, apart := false, narrowed := true }
def AtlasUnlikeUptoSaid : Prop := atlasUnlikeUptoRow.holds Try.pinned (OpenSpec.upto atlasUnlikeSpec)

/-- 'mooringlaw13.AtlasDecodes', WHERE WHAT IT READS IS OF BULK AT MOST 1048576: true; the input reads as it did. -/
def atlasDecodesUptoRow : OpenClaim := { program := "ytfikaekocgofoaa", sum := "61246269c18d439eb5f21de1a0944a45c3feb33667c2311dd1184e18f27588a7", func := "mooring/mooringlaw13.AtlasDecodes", spec := "atlasDecodes", inPlace := ["slices.overlaps[mooring/api.Osd]"], unfollowed := true, recurses := true, apart := false, narrowed := true }
def AtlasDecodesUptoSaid : Prop := atlasDecodesUptoRow.holds Try.pinned (OpenSpec.upto atlasDecodesSpec)

/-- 'mooringlaw13.AtlasCodes', WHERE WHAT IT READS IS OF BULK AT MOST 1048576: true; the input reads as it did. -/
def atlasCodesUptoRow : OpenClaim := { program := "ytfikaekocgofoaa", sum := "61246269c18d439eb5f21de1a0944a45c3feb33667c2311dd1184e18f27588a7", func := "mooring/mooringlaw13.AtlasCodes", spec := "atlasCodes", inPlace := ["slices.overlaps[mooring/api.Osd]"], unfollowed := true, recurses := true, apart := false, narrowed := true }
def AtlasCodesUptoSaid : Prop := atlasCodesUptoRow.holds Try.pinned (OpenSpec.upto atlasCodesSpec)

end Rows
end Go.Proofs.Ytfikaekocgofoaa
