/-
  No cell of these rows narrows 'for every input' (looked for: loops, veiled, ifaces, maps, wideKeys, modest, calm, conditions, laid).
  DERIVED. THE GIVEN ROWS OF THIS SEAT. 9 by the template 'for every input the law returns true; each argument reads behind the call as it read before'; 0 by the template 'total and deterministic' (their statements: YtnpphmgibgfjoaaTotals.lean).
  GIVEN WITH THE SEED: the statements are not yours to turn. If you find one false, say at which input.
  Laid BY PROGRAM, IN A SANDBOX (cutbox-rows.mjs): the forced cells as the released guide's own fill.sh prints them over the translation 0e767220ecd4536e… (all of the seat's roots in one cut). By AI agents, Wed Nov 11 2026. No macro, syntax, notation, axiom, sorry.
-/
import Derived.Test.YtnpphmgibgfjoaaChecked
import GoSem.Claim
import GoSem.ClaimJoined
import GoSem.ClaimMapViews
import Derived.JoinedTies
import Derived.KernelRfl
namespace Go.Proofs.Ytnpphmgibgfjoaa
/- THE CELL 'sum', in the pinned program and in every row, IS THE sha256 OF THE DUMP (.gsa) THAT YtnpphmgibgfjoaaProg.lean LOADS. Nothing in Lean hashes anything: it is a label: what it is worth is what the hold of that sum in a sandbox is worth. -/
noncomputable def Try.pinned : Pinned := { name := "ytnpphmgibgfjoaa", sum := "0e767220ecd4536ecb750001ee42a647bdaf370fc792ae726beb2a95f5a5badc", checked := Try.checked }
namespace Rows
def none {H : Type} : Left H := { results := [], args := [] }

/-- 'mooringlaw17.CrushChooses': WHATEVER THE INPUT: true; the input reads as it did. -/
def crushChoosesSpec : ChangeSpec := { name := "crushChooses", fn := fun _ => fun
  | [d1, d2, d3] => { results := [.lit (.bool true)], args := [d1, d2, d3] }
  | _ => none }
def crushChoosesRow : OpenClaim := { program := "ytnpphmgibgfjoaa", sum := "0e767220ecd4536ecb750001ee42a647bdaf370fc792ae726beb2a95f5a5badc", func := "mooring/mooringlaw17.CrushChooses", spec := "crushChooses", unfollowed := true, recurses := true, apart := false }
def CrushChoosesSaid : Prop := crushChoosesRow.holds Try.pinned (OpenSpec.ofChange crushChoosesSpec)

/-- ITS FALSE NEIGHBOUR: 'it returns false'. Refute it at one input. -/
def crushChoosesWrong : ChangeSpec := { name := "crushChooses", fn := fun _ => fun
  | [d1, d2, d3] => { results := [.lit (.bool false)], args := [d1, d2, d3] }
  | _ => none }
def CrushChoosesWrongFalsely : Prop := crushChoosesRow.holds Try.pinned (OpenSpec.ofChange crushChoosesWrong)

/-- 'mooringlaw17.CrushApart': WHATEVER THE INPUT: true; the input reads as it did. -/
def crushApartSpec : ChangeSpec := { name := "crushApart", fn := fun _ => fun
  | [d1, d2, d3] => { results := [.lit (.bool true)], args := [d1, d2, d3] }
  | _ => none }
def crushApartRow : OpenClaim := { program := "ytnpphmgibgfjoaa", sum := "0e767220ecd4536ecb750001ee42a647bdaf370fc792ae726beb2a95f5a5badc", func := "mooring/mooringlaw17.CrushApart", spec := "crushApart", unfollowed := true, recurses := true, apart := false }
def CrushApartSaid : Prop := crushApartRow.holds Try.pinned (OpenSpec.ofChange crushApartSpec)

/-- ITS FALSE NEIGHBOUR: 'it returns false'. Refute it at one input. -/
def crushApartWrong : ChangeSpec := { name := "crushApart", fn := fun _ => fun
  | [d1, d2, d3] => { results := [.lit (.bool false)], args := [d1, d2, d3] }
  | _ => none }
def CrushApartWrongFalsely : Prop := crushApartRow.holds Try.pinned (OpenSpec.ofChange crushApartWrong)

/-- 'mooringlaw17.CrushUps': WHATEVER THE INPUT: true; the input reads as it did. -/
def crushUpsSpec : ChangeSpec := { name := "crushUps", fn := fun _ => fun
  | [d1, d2, d3] => { results := [.lit (.bool true)], args := [d1, d2, d3] }
  | _ => none }
def crushUpsRow : OpenClaim := { program := "ytnpphmgibgfjoaa", sum := "0e767220ecd4536ecb750001ee42a647bdaf370fc792ae726beb2a95f5a5badc", func := "mooring/mooringlaw17.CrushUps", spec := "crushUps", unfollowed := true, recurses := true, apart := false }
def CrushUpsSaid : Prop := crushUpsRow.holds Try.pinned (OpenSpec.ofChange crushUpsSpec)

/-- ITS FALSE NEIGHBOUR: 'it returns false'. Refute it at one input. -/
def crushUpsWrong : ChangeSpec := { name := "crushUps", fn := fun _ => fun
  | [d1, d2, d3] => { results := [.lit (.bool false)], args := [d1, d2, d3] }
  | _ => none }
def CrushUpsWrongFalsely : Prop := crushUpsRow.holds Try.pinned (OpenSpec.ofChange crushUpsWrong)

/-- 'mooringlaw17.CrushDescends': WHATEVER THE INPUT: true; the input reads as it did. -/
def crushDescendsSpec : ChangeSpec := { name := "crushDescends", fn := fun _ => fun
  | [d1, d2, d3] => { results := [.lit (.bool true)], args := [d1, d2, d3] }
  | _ => none }
def crushDescendsRow : OpenClaim := { program := "ytnpphmgibgfjoaa", sum := "0e767220ecd4536ecb750001ee42a647bdaf370fc792ae726beb2a95f5a5badc", func := "mooring/mooringlaw17.CrushDescends", spec := "crushDescends", unfollowed := true, recurses := true, apart := false }
def CrushDescendsSaid : Prop := crushDescendsRow.holds Try.pinned (OpenSpec.ofChange crushDescendsSpec)

/-- ITS FALSE NEIGHBOUR: 'it returns false'. Refute it at one input. -/
def crushDescendsWrong : ChangeSpec := { name := "crushDescends", fn := fun _ => fun
  | [d1, d2, d3] => { results := [.lit (.bool false)], args := [d1, d2, d3] }
  | _ => none }
def CrushDescendsWrongFalsely : Prop := crushDescendsRow.holds Try.pinned (OpenSpec.ofChange crushDescendsWrong)

/-- 'mooringlaw19.IntervalCovers': WHATEVER THE INPUT: true; the input reads as it did. -/
def intervalCoversSpec : ChangeSpec := { name := "intervalCovers", fn := fun _ => fun
  | [d1, d2] => { results := [.lit (.bool true)], args := [d1, d2] }
  | _ => none }
def intervalCoversRow : OpenClaim := { program := "ytnpphmgibgfjoaa", sum := "0e767220ecd4536ecb750001ee42a647bdaf370fc792ae726beb2a95f5a5badc", func := "mooring/mooringlaw19.IntervalCovers", spec := "intervalCovers", unfollowed := true, recurses := true, apart := false }
def IntervalCoversSaid : Prop := intervalCoversRow.holds Try.pinned (OpenSpec.ofChange intervalCoversSpec)

/-- ITS FALSE NEIGHBOUR: 'it returns false'. Refute it at one input. -/
def intervalCoversWrong : ChangeSpec := { name := "intervalCovers", fn := fun _ => fun
  | [d1, d2] => { results := [.lit (.bool false)], args := [d1, d2] }
  | _ => none }
def IntervalCoversWrongFalsely : Prop := intervalCoversRow.holds Try.pinned (OpenSpec.ofChange intervalCoversWrong)

/-- 'mooringlaw19.IntervalAll': WHATEVER THE INPUT: true; the input reads as it did. -/
def intervalAllSpec : ChangeSpec := { name := "intervalAll", fn := fun _ => fun
  | [d1, d2, d3] => { results := [.lit (.bool true)], args := [d1, d2, d3] }
  | _ => none }
def intervalAllRow : OpenClaim := { program := "ytnpphmgibgfjoaa", sum := "0e767220ecd4536ecb750001ee42a647bdaf370fc792ae726beb2a95f5a5badc", func := "mooring/mooringlaw19.IntervalAll", spec := "intervalAll", unfollowed := true, recurses := true, apart := false }
def IntervalAllSaid : Prop := intervalAllRow.holds Try.pinned (OpenSpec.ofChange intervalAllSpec)

/-- ITS FALSE NEIGHBOUR: 'it returns false'. Refute it at one input. -/
def intervalAllWrong : ChangeSpec := { name := "intervalAll", fn := fun _ => fun
  | [d1, d2, d3] => { results := [.lit (.bool false)], args := [d1, d2, d3] }
  | _ => none }
def IntervalAllWrongFalsely : Prop := intervalAllRow.holds Try.pinned (OpenSpec.ofChange intervalAllWrong)

/-- 'mooringlaw18.PlacePgs': WHATEVER THE INPUT: true; the input reads as it did. -/
def placePgsSpec : ChangeSpec := { name := "placePgs", fn := fun _ => fun
  | [d1, d2] => { results := [.lit (.bool true)], args := [d1, d2] }
  | _ => none }
def placePgsRow : OpenClaim := { program := "ytnpphmgibgfjoaa", sum := "0e767220ecd4536ecb750001ee42a647bdaf370fc792ae726beb2a95f5a5badc", func := "mooring/mooringlaw18.PlacePgs", spec := "placePgs", unfollowed := true, recurses := true, apart := false }
def PlacePgsSaid : Prop := placePgsRow.holds Try.pinned (OpenSpec.ofChange placePgsSpec)

/-- ITS FALSE NEIGHBOUR: 'it returns false'. Refute it at one input. -/
def placePgsWrong : ChangeSpec := { name := "placePgs", fn := fun _ => fun
  | [d1, d2] => { results := [.lit (.bool false)], args := [d1, d2] }
  | _ => none }
def PlacePgsWrongFalsely : Prop := placePgsRow.holds Try.pinned (OpenSpec.ofChange placePgsWrong)

/-- 'mooringlaw18.PlaceKeeps': WHATEVER THE INPUT: true; the input reads as it did. -/
def placeKeepsSpec : ChangeSpec := { name := "placeKeeps", fn := fun _ => fun
  | [d1, d2] => { results := [.lit (.bool true)], args := [d1, d2] }
  | _ => none }
def placeKeepsRow : OpenClaim := { program := "ytnpphmgibgfjoaa", sum := "0e767220ecd4536ecb750001ee42a647bdaf370fc792ae726beb2a95f5a5badc", func := "mooring/mooringlaw18.PlaceKeeps", spec := "placeKeeps", unfollowed := true, recurses := true, apart := false }
def PlaceKeepsSaid : Prop := placeKeepsRow.holds Try.pinned (OpenSpec.ofChange placeKeepsSpec)

/-- ITS FALSE NEIGHBOUR: 'it returns false'. Refute it at one input. -/
def placeKeepsWrong : ChangeSpec := { name := "placeKeeps", fn := fun _ => fun
  | [d1, d2] => { results := [.lit (.bool false)], args := [d1, d2] }
  | _ => none }
def PlaceKeepsWrongFalsely : Prop := placeKeepsRow.holds Try.pinned (OpenSpec.ofChange placeKeepsWrong)

/-- 'mooringlaw18.PlaceDomains': WHATEVER THE INPUT: true; the input reads as it did. -/
def placeDomainsSpec : ChangeSpec := { name := "placeDomains", fn := fun _ => fun
  | [d1, d2] => { results := [.lit (.bool true)], args := [d1, d2] }
  | _ => none }
def placeDomainsRow : OpenClaim := { program := "ytnpphmgibgfjoaa", sum := "0e767220ecd4536ecb750001ee42a647bdaf370fc792ae726beb2a95f5a5badc", func := "mooring/mooringlaw18.PlaceDomains", spec := "placeDomains", unfollowed := true, recurses := true, apart := false }
def PlaceDomainsSaid : Prop := placeDomainsRow.holds Try.pinned (OpenSpec.ofChange placeDomainsSpec)

/-- ITS FALSE NEIGHBOUR: 'it returns false'. Refute it at one input. -/
def placeDomainsWrong : ChangeSpec := { name := "placeDomains", fn := fun _ => fun
  | [d1, d2] => { results := [.lit (.bool false)], args := [d1, d2] }
  | _ => none }
def PlaceDomainsWrongFalsely : Prop := placeDomainsRow.holds Try.pinned (OpenSpec.ofChange placeDomainsWrong)

/- THE SECOND FORM. 'bulk': how many values and letters a reading holds, each counted each time it is reached (what is shared counts as often as it is met; a slice's spare places count too). A statement '..UptoSaid' is the law's where the arguments, and the package variables that the reading takes, are together of bulk at most 1048576: NARROWER than '..Said'. Prove '..Said' where nothing that the law and all that it calls make is longer than what came in: it says more and counts as full. Else prove '..UptoSaid'. A law counts once. -/
mutual
def uptoBulk {H : Type} : DataW H → Nat
  | .lit (.string bytes) => bytes.length + 1
  | .lit _ => 1
  | .nil => 1
  | .ptr d => uptoBulk d + 1
  | .slice elems spare => uptoBulkAll elems + uptoBulkAll spare + 1
  | .agg parts => uptoBulkAll parts + 1
  | .iface _ d => uptoBulk d + 1
  | .map entries => uptoBulkEntries entries + 1
  | .held _ => 1
def uptoBulkAll {H : Type} : List (DataW H) → Nat
  | [] => 0
  | d :: r => uptoBulk d + uptoBulkAll r
def uptoBulkEntries {H : Type} : List (Lit × DataW H) → Nat
  | [] => 0
  | x :: r => uptoBulkEntry x + uptoBulkEntries r
def uptoBulkEntry {H : Type} : Lit × DataW H → Nat
  | (.string bytes, d) => bytes.length + uptoBulk d + 1
  | (_, d) => uptoBulk d + 1
 end
def uptoSmall : (H : Type) → List (DataW H) → Bool := fun _ ds => decide (uptoBulkAll ds ≤ 1048576)
def OpenSpec.upto (s : _root_.Go.ChangeSpec) : _root_.Go.OpenSpec := { _root_.Go.OpenSpec.ofChange s with cond := some uptoSmall }

/-- 'mooringlaw17.CrushChooses', WHERE WHAT IT READS IS OF BULK AT MOST 1048576: true; the input reads as it did. -/
def crushChoosesUptoRow : OpenClaim := { program := "ytnpphmgibgfjoaa", sum := "0e767220ecd4536ecb750001ee42a647bdaf370fc792ae726beb2a95f5a5badc", func := "mooring/mooringlaw17.CrushChooses", spec := "crushChooses", unfollowed := true, recurses := true, apart := false, narrowed := true }
def CrushChoosesUptoSaid : Prop := crushChoosesUptoRow.holds Try.pinned (OpenSpec.upto crushChoosesSpec)

/-- 'mooringlaw17.CrushApart', WHERE WHAT IT READS IS OF BULK AT MOST 1048576: true; the input reads as it did. -/
def crushApartUptoRow : OpenClaim := { program := "ytnpphmgibgfjoaa", sum := "0e767220ecd4536ecb750001ee42a647bdaf370fc792ae726beb2a95f5a5badc", func := "mooring/mooringlaw17.CrushApart", spec := "crushApart", unfollowed := true, recurses := true, apart := false, narrowed := true }
def CrushApartUptoSaid : Prop := crushApartUptoRow.holds Try.pinned (OpenSpec.upto crushApartSpec)

/-- 'mooringlaw17.CrushUps', WHERE WHAT IT READS IS OF BULK AT MOST 1048576: true; the input reads as it did. -/
def crushUpsUptoRow : OpenClaim := { program := "ytnpphmgibgfjoaa", sum := "0e767220ecd4536ecb750001ee42a647bdaf370fc792ae726beb2a95f5a5badc", func := "mooring/mooringlaw17.CrushUps", spec := "crushUps", unfollowed := true, recurses := true, apart := false, narrowed := true }
def CrushUpsUptoSaid : Prop := crushUpsUptoRow.holds Try.pinned (OpenSpec.upto crushUpsSpec)

/-- 'mooringlaw17.CrushDescends', WHERE WHAT IT READS IS OF BULK AT MOST 1048576: true; the input reads as it did. -/
def crushDescendsUptoRow : OpenClaim := { program := "ytnpphmgibgfjoaa", sum := "0e767220ecd4536ecb750001ee42a647bdaf370fc792ae726beb2a95f5a5badc", func := "mooring/mooringlaw17.CrushDescends", spec := "crushDescends", unfollowed := true, recurses := true, apart := false, narrowed := true }
def CrushDescendsUptoSaid : Prop := crushDescendsUptoRow.holds Try.pinned (OpenSpec.upto crushDescendsSpec)

/-- 'mooringlaw19.IntervalCovers', WHERE WHAT IT READS IS OF BULK AT MOST 1048576: true; the input reads as it did. -/
def intervalCoversUptoRow : OpenClaim := { program := "ytnpphmgibgfjoaa", sum := "0e767220ecd4536ecb750001ee42a647bdaf370fc792ae726beb2a95f5a5badc", func := "mooring/mooringlaw19.IntervalCovers", spec := "intervalCovers", unfollowed := true, recurses := true, apart := false, narrowed := true }
def IntervalCoversUptoSaid : Prop := intervalCoversUptoRow.holds Try.pinned (OpenSpec.upto intervalCoversSpec)

/-- 'mooringlaw19.IntervalAll', WHERE WHAT IT READS IS OF BULK AT MOST 1048576: true; the input reads as it did. -/
def intervalAllUptoRow : OpenClaim := { program := "ytnpphmgibgfjoaa", sum := "0e767220ecd4536ecb750001ee42a647bdaf370fc792ae726beb2a95f5a5badc", func := "mooring/mooringlaw19.IntervalAll", spec := "intervalAll", unfollowed := true, recurses := true, apart := false, narrowed := true }
def IntervalAllUptoSaid : Prop := intervalAllUptoRow.holds Try.pinned (OpenSpec.upto intervalAllSpec)

/-- 'mooringlaw18.PlacePgs', WHERE WHAT IT READS IS OF BULK AT MOST 1048576: true; the input reads as it did. -/
def placePgsUptoRow : OpenClaim := { program := "ytnpphmgibgfjoaa", sum := "0e767220ecd4536ecb750001ee42a647bdaf370fc792ae726beb2a95f5a5badc", func := "mooring/mooringlaw18.PlacePgs", spec := "placePgs", unfollowed := true, recurses := true, apart := false, narrowed := true }
def PlacePgsUptoSaid : Prop := placePgsUptoRow.holds Try.pinned (OpenSpec.upto placePgsSpec)

/-- 'mooringlaw18.PlaceKeeps', WHERE WHAT IT READS IS OF BULK AT MOST 1048576: true; the input reads as it did. -/
def placeKeepsUptoRow : OpenClaim := { program := "ytnpphmgibgfjoaa", sum := "0e767220ecd4536ecb750001ee42a647bdaf370fc792ae726beb2a95f5a5badc", func := "mooring/mooringlaw18.PlaceKeeps", spec := "placeKeeps", unfollowed := true, recurses := true, apart := false, narrowed := true }
def PlaceKeepsUptoSaid : Prop := placeKeepsUptoRow.holds Try.pinned (OpenSpec.upto placeKeepsSpec)

/-- 'mooringlaw18.PlaceDomains', WHERE WHAT IT READS IS OF BULK AT MOST 1048576: true; the input reads as it did. -/
def placeDomainsUptoRow : OpenClaim := { program := "ytnpphmgibgfjoaa", sum := "0e767220ecd4536ecb750001ee42a647bdaf370fc792ae726beb2a95f5a5badc", func := "mooring/mooringlaw18.PlaceDomains", spec := "placeDomains", unfollowed := true, recurses := true, apart := false, narrowed := true }
def PlaceDomainsUptoSaid : Prop := placeDomainsUptoRow.holds Try.pinned (OpenSpec.upto placeDomainsSpec)

end Rows
end Go.Proofs.Ytnpphmgibgfjoaa
