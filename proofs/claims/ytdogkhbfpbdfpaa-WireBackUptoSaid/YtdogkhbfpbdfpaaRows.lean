/-
  No cell of these rows narrows 'for every input' (looked for: loops, veiled, ifaces, maps, wideKeys, modest, calm, conditions, laid).
  DERIVED. THE GIVEN ROWS OF THIS SEAT. 9 by the template 'for every input the law returns true; each argument reads behind the call as it read before'; 0 by the template 'total and deterministic' (their statements: YtdogkhbfpbdfpaaTotals.lean).
  GIVEN WITH THE SEED: the statements are not yours to turn. If you find one false, say at which input.
  Laid BY PROGRAM, IN A SANDBOX (cutbox-rows.mjs): the forced cells as the released guide's own fill.sh prints them over the translation 4e9e35b1cfb7d005… (all of the seat's roots in one cut). By AI agents, Wed Nov 11 2026. No macro, syntax, notation, axiom, sorry.
-/
import Derived.Test.YtdogkhbfpbdfpaaChecked
import GoSem.Claim
import GoSem.ClaimJoined
import GoSem.ClaimMapViews
import Derived.JoinedTies
import Derived.KernelRfl
namespace Go.Proofs.Ytdogkhbfpbdfpaa
/- THE CELL 'sum', in the pinned program and in every row, IS THE sha256 OF THE DUMP (.gsa) THAT YtdogkhbfpbdfpaaProg.lean LOADS. Nothing in Lean hashes anything: it is a label: what it is worth is what the hold of that sum in a sandbox is worth. -/
noncomputable def Try.pinned : Pinned := { name := "ytdogkhbfpbdfpaa", sum := "4e9e35b1cfb7d005fc04039e8cefc6348fb2bb1a88727566ac220dd578fd420b", checked := Try.checked }
namespace Rows
def none {H : Type} : Left H := { results := [], args := [] }

/-- 'mooringlaw05.WireWrites': WHATEVER THE INPUT: true; the input reads as it did. -/
def wireWritesSpec : ChangeSpec := { name := "wireWrites", fn := fun _ => fun
  | [d1, d2] => { results := [.lit (.bool true)], args := [d1, d2] }
  | _ => none }
def wireWritesRow : OpenClaim := { program := "ytdogkhbfpbdfpaa", sum := "4e9e35b1cfb7d005fc04039e8cefc6348fb2bb1a88727566ac220dd578fd420b", func := "mooring/mooringlaw05.WireWrites", spec := "wireWrites", apart := false }
def WireWritesSaid : Prop := wireWritesRow.holds Try.pinned (OpenSpec.ofChange wireWritesSpec)

/-- ITS FALSE NEIGHBOUR: 'it returns false'. Refute it at one input. -/
def wireWritesWrong : ChangeSpec := { name := "wireWrites", fn := fun _ => fun
  | [d1, d2] => { results := [.lit (.bool false)], args := [d1, d2] }
  | _ => none }
def WireWritesWrongFalsely : Prop := wireWritesRow.holds Try.pinned (OpenSpec.ofChange wireWritesWrong)

/-- 'mooringlaw15.MixLogs': WHATEVER THE INPUT: true; the input reads as it did. -/
def mixLogsSpec : ChangeSpec := { name := "mixLogs", fn := fun _ => fun
  | [d] => { results := [.lit (.bool true)], args := [d] }
  | _ => none }
def mixLogsRow : OpenClaim := { program := "ytdogkhbfpbdfpaa", sum := "4e9e35b1cfb7d005fc04039e8cefc6348fb2bb1a88727566ac220dd578fd420b", func := "mooring/mooringlaw15.MixLogs", spec := "mixLogs", apart := false }
def MixLogsSaid : Prop := mixLogsRow.holds Try.pinned (OpenSpec.ofChange mixLogsSpec)

/-- ITS FALSE NEIGHBOUR: 'it returns false'. Refute it at one input. -/
def mixLogsWrong : ChangeSpec := { name := "mixLogs", fn := fun _ => fun
  | [d] => { results := [.lit (.bool false)], args := [d] }
  | _ => none }
def MixLogsWrongFalsely : Prop := mixLogsRow.holds Try.pinned (OpenSpec.ofChange mixLogsWrong)

/-- 'mooringlaw15.MixUnlike': WHATEVER THE INPUT: true; the input reads as it did. -/
def mixUnlikeSpec : ChangeSpec := { name := "mixUnlike", fn := fun _ => fun
  | [d1, d2] => { results := [.lit (.bool true)], args := [d1, d2] }
  | _ => none }
def mixUnlikeRow : OpenClaim := { program := "ytdogkhbfpbdfpaa", sum := "4e9e35b1cfb7d005fc04039e8cefc6348fb2bb1a88727566ac220dd578fd420b", func := "mooring/mooringlaw15.MixUnlike", spec := "mixUnlike", apart := false }
def MixUnlikeSaid : Prop := mixUnlikeRow.holds Try.pinned (OpenSpec.ofChange mixUnlikeSpec)

/-- ITS FALSE NEIGHBOUR: 'it returns false'. Refute it at one input. -/
def mixUnlikeWrong : ChangeSpec := { name := "mixUnlike", fn := fun _ => fun
  | [d1, d2] => { results := [.lit (.bool false)], args := [d1, d2] }
  | _ => none }
def MixUnlikeWrongFalsely : Prop := mixUnlikeRow.holds Try.pinned (OpenSpec.ofChange mixUnlikeWrong)

/-- 'mooringlaw15.MixRises': WHATEVER THE INPUT: true; the input reads as it did. -/
def mixRisesSpec : ChangeSpec := { name := "mixRises", fn := fun _ => fun
  | [d1, d2] => { results := [.lit (.bool true)], args := [d1, d2] }
  | _ => none }
def mixRisesRow : OpenClaim := { program := "ytdogkhbfpbdfpaa", sum := "4e9e35b1cfb7d005fc04039e8cefc6348fb2bb1a88727566ac220dd578fd420b", func := "mooring/mooringlaw15.MixRises", spec := "mixRises", apart := false }
def MixRisesSaid : Prop := mixRisesRow.holds Try.pinned (OpenSpec.ofChange mixRisesSpec)

/-- ITS FALSE NEIGHBOUR: 'it returns false'. Refute it at one input. -/
def mixRisesWrong : ChangeSpec := { name := "mixRises", fn := fun _ => fun
  | [d1, d2] => { results := [.lit (.bool false)], args := [d1, d2] }
  | _ => none }
def MixRisesWrongFalsely : Prop := mixRisesRow.holds Try.pinned (OpenSpec.ofChange mixRisesWrong)

/-- 'mooringlaw15.MixHashes': WHATEVER THE INPUT: true; the input reads as it did. -/
def mixHashesSpec : ChangeSpec := { name := "mixHashes", fn := fun _ => fun
  | [d1, d2, d3] => { results := [.lit (.bool true)], args := [d1, d2, d3] }
  | _ => none }
def mixHashesRow : OpenClaim := { program := "ytdogkhbfpbdfpaa", sum := "4e9e35b1cfb7d005fc04039e8cefc6348fb2bb1a88727566ac220dd578fd420b", func := "mooring/mooringlaw15.MixHashes", spec := "mixHashes", apart := false }
def MixHashesSaid : Prop := mixHashesRow.holds Try.pinned (OpenSpec.ofChange mixHashesSpec)

/-- ITS FALSE NEIGHBOUR: 'it returns false'. Refute it at one input. -/
def mixHashesWrong : ChangeSpec := { name := "mixHashes", fn := fun _ => fun
  | [d1, d2, d3] => { results := [.lit (.bool false)], args := [d1, d2, d3] }
  | _ => none }
def MixHashesWrongFalsely : Prop := mixHashesRow.holds Try.pinned (OpenSpec.ofChange mixHashesWrong)

/-- 'mooringlaw05.WireCanonical': WHATEVER THE INPUT: true; the input reads as it did. -/
def wireCanonicalSpec : ChangeSpec := { name := "wireCanonical", fn := fun _ => fun
  | [d] => { results := [.lit (.bool true)], args := [d] }
  | _ => none }
def wireCanonicalRow : OpenClaim := { program := "ytdogkhbfpbdfpaa", sum := "4e9e35b1cfb7d005fc04039e8cefc6348fb2bb1a88727566ac220dd578fd420b", func := "mooring/mooringlaw05.WireCanonical", spec := "wireCanonical", apart := false }
def WireCanonicalSaid : Prop := wireCanonicalRow.holds Try.pinned (OpenSpec.ofChange wireCanonicalSpec)

/-- ITS FALSE NEIGHBOUR: 'it returns false'. Refute it at one input. -/
def wireCanonicalWrong : ChangeSpec := { name := "wireCanonical", fn := fun _ => fun
  | [d] => { results := [.lit (.bool false)], args := [d] }
  | _ => none }
def WireCanonicalWrongFalsely : Prop := wireCanonicalRow.holds Try.pinned (OpenSpec.ofChange wireCanonicalWrong)

/-- 'mooringlaw05.WireBack': WHATEVER THE INPUT: true; the input reads as it did. -/
def wireBackSpec : ChangeSpec := { name := "wireBack", fn := fun _ => fun
  | [d] => { results := [.lit (.bool true)], args := [d] }
  | _ => none }
def wireBackRow : OpenClaim := { program := "ytdogkhbfpbdfpaa", sum := "4e9e35b1cfb7d005fc04039e8cefc6348fb2bb1a88727566ac220dd578fd420b", func := "mooring/mooringlaw05.WireBack", spec := "wireBack", apart := false }
def WireBackSaid : Prop := wireBackRow.holds Try.pinned (OpenSpec.ofChange wireBackSpec)

/-- ITS FALSE NEIGHBOUR: 'it returns false'. Refute it at one input. -/
def wireBackWrong : ChangeSpec := { name := "wireBack", fn := fun _ => fun
  | [d] => { results := [.lit (.bool false)], args := [d] }
  | _ => none }
def WireBackWrongFalsely : Prop := wireBackRow.holds Try.pinned (OpenSpec.ofChange wireBackWrong)

/-- 'mooringlaw05.WireNobody': WHATEVER THE INPUT: true; the input reads as it did. -/
def wireNobodySpec : ChangeSpec := { name := "wireNobody", fn := fun _ => fun
  | [d] => { results := [.lit (.bool true)], args := [d] }
  | _ => none }
def wireNobodyRow : OpenClaim := { program := "ytdogkhbfpbdfpaa", sum := "4e9e35b1cfb7d005fc04039e8cefc6348fb2bb1a88727566ac220dd578fd420b", func := "mooring/mooringlaw05.WireNobody", spec := "wireNobody", apart := false }
def WireNobodySaid : Prop := wireNobodyRow.holds Try.pinned (OpenSpec.ofChange wireNobodySpec)

/-- ITS FALSE NEIGHBOUR: 'it returns false'. Refute it at one input. -/
def wireNobodyWrong : ChangeSpec := { name := "wireNobody", fn := fun _ => fun
  | [d] => { results := [.lit (.bool false)], args := [d] }
  | _ => none }
def WireNobodyWrongFalsely : Prop := wireNobodyRow.holds Try.pinned (OpenSpec.ofChange wireNobodyWrong)

/-- 'mooringlaw05.WireReads': WHATEVER THE INPUT: true; the input reads as it did. -/
def wireReadsSpec : ChangeSpec := { name := "wireReads", fn := fun _ => fun
  | [d1, d2] => { results := [.lit (.bool true)], args := [d1, d2] }
  | _ => none }
def wireReadsRow : OpenClaim := { program := "ytdogkhbfpbdfpaa", sum := "4e9e35b1cfb7d005fc04039e8cefc6348fb2bb1a88727566ac220dd578fd420b", func := "mooring/mooringlaw05.WireReads", spec := "wireReads", apart := false }
def WireReadsSaid : Prop := wireReadsRow.holds Try.pinned (OpenSpec.ofChange wireReadsSpec)

/-- ITS FALSE NEIGHBOUR: 'it returns false'. Refute it at one input. -/
def wireReadsWrong : ChangeSpec := { name := "wireReads", fn := fun _ => fun
  | [d1, d2] => { results := [.lit (.bool false)], args := [d1, d2] }
  | _ => none }
def WireReadsWrongFalsely : Prop := wireReadsRow.holds Try.pinned (OpenSpec.ofChange wireReadsWrong)

/- THE SECOND FORM. 'bulk': how many values and letters a reading holds, each counted each time it is reached (what is shared counts as often as it is met; a slice's spare places count too). A statement '..UptoSaid' is the law's where the arguments, and the package variables that the reading takes, are together of bulk at most 1048576: NARROWER than '..Said'. Prove '..Said' where nothing that the law and all that it calls make is longer than what came in: it says more and counts as full. Else prove '..UptoSaid'. A law counts once. -/
mutual
def uptoBulk {H : Type} : DataW H → Nat
  | .lit (.string bytes) => bytes.length + 1
  | .lit _ => 1
  | .nil => 1
  | .ptr d => uptoBulk d + 1
  | .slice elems spare => uptoBulkAll elems + uptoBulkAll spare + 1
  | .agg parts => uptoBulkAll parts + 1
  | .iface _ d => uptoBulk d + 1
  | .map entries => uptoBulkEntries entries + 1
  | .held _ => 1
def uptoBulkAll {H : Type} : List (DataW H) → Nat
  | [] => 0
  | d :: r => uptoBulk d + uptoBulkAll r
def uptoBulkEntries {H : Type} : List (Lit × DataW H) → Nat
  | [] => 0
  | x :: r => uptoBulkEntry x + uptoBulkEntries r
def uptoBulkEntry {H : Type} : Lit × DataW H → Nat
  | (.string bytes, d) => bytes.length + uptoBulk d + 1
  | (_, d) => uptoBulk d + 1
 end
def uptoSmall : (H : Type) → List (DataW H) → Bool := fun _ ds => decide (uptoBulkAll ds ≤ 1048576)
def OpenSpec.upto (s : _root_.Go.ChangeSpec) : _root_.Go.OpenSpec := { _root_.Go.OpenSpec.ofChange s with cond := some uptoSmall }

/-- 'mooringlaw05.WireWrites', WHERE WHAT IT READS IS OF BULK AT MOST 1048576: true; the input reads as it did. -/
def wireWritesUptoRow : OpenClaim := { program := "ytdogkhbfpbdfpaa", sum := "4e9e35b1cfb7d005fc04039e8cefc6348fb2bb1a88727566ac220dd578fd420b", func := "mooring/mooringlaw05.WireWrites", spec := "wireWrites", apart := false, narrowed := true }
def WireWritesUptoSaid : Prop := wireWritesUptoRow.holds Try.pinned (OpenSpec.upto wireWritesSpec)

/-- 'mooringlaw15.MixLogs', WHERE WHAT IT READS IS OF BULK AT MOST 1048576: true; the input reads as it did. -/
def mixLogsUptoRow : OpenClaim := { program := "ytdogkhbfpbdfpaa", sum := "4e9e35b1cfb7d005fc04039e8cefc6348fb2bb1a88727566ac220dd578fd420b", func := "mooring/mooringlaw15.MixLogs", spec := "mixLogs", apart := false, narrowed := true }
def MixLogsUptoSaid : Prop := mixLogsUptoRow.holds Try.pinned (OpenSpec.upto mixLogsSpec)

/-- 'mooringlaw15.MixUnlike', WHERE WHAT IT READS IS OF BULK AT MOST 1048576: true; the input reads as it did. -/
def mixUnlikeUptoRow : OpenClaim := { program := "ytdogkhbfpbdfpaa", sum := "4e9e35b1cfb7d005fc04039e8cefc6348fb2bb1a88727566ac220dd578fd420b", func := "mooring/mooringlaw15.MixUnlike", spec := "mixUnlike", apart := false, narrowed := true }
def MixUnlikeUptoSaid : Prop := mixUnlikeUptoRow.holds Try.pinned (OpenSpec.upto mixUnlikeSpec)

/-- 'mooringlaw15.MixRises', WHERE WHAT IT READS IS OF BULK AT MOST 1048576: true; the input reads as it did. -/
def mixRisesUptoRow : OpenClaim := { program := "ytdogkhbfpbdfpaa", sum := "4e9e35b1cfb7d005fc04039e8cefc6348fb2bb1a88727566ac220dd578fd420b", func := "mooring/mooringlaw15.MixRises", spec := "mixRises", apart := false, narrowed := true }
def MixRisesUptoSaid : Prop := mixRisesUptoRow.holds Try.pinned (OpenSpec.upto mixRisesSpec)

/-- 'mooringlaw15.MixHashes', WHERE WHAT IT READS IS OF BULK AT MOST 1048576: true; the input reads as it did. -/
def mixHashesUptoRow : OpenClaim := { program := "ytdogkhbfpbdfpaa", sum := "4e9e35b1cfb7d005fc04039e8cefc6348fb2bb1a88727566ac220dd578fd420b", func := "mooring/mooringlaw15.MixHashes", spec := "mixHashes", apart := false, narrowed := true }
def MixHashesUptoSaid : Prop := mixHashesUptoRow.holds Try.pinned (OpenSpec.upto mixHashesSpec)

/-- 'mooringlaw05.WireCanonical', WHERE WHAT IT READS IS OF BULK AT MOST 1048576: true; the input reads as it did. -/
def wireCanonicalUptoRow : OpenClaim := { program := "ytdogkhbfpbdfpaa", sum := "4e9e35b1cfb7d005fc04039e8cefc6348fb2bb1a88727566ac220dd578fd420b", func := "mooring/mooringlaw05.WireCanonical", spec := "wireCanonical", apart := false, narrowed := true }
def WireCanonicalUptoSaid : Prop := wireCanonicalUptoRow.holds Try.pinned (OpenSpec.upto wireCanonicalSpec)

/-- 'mooringlaw05.WireBack', WHERE WHAT IT READS IS OF BULK AT MOST 1048576: true; the input reads as it did. -/
def wireBackUptoRow : OpenClaim := { program := "ytdogkhbfpbdfpaa", sum := "4e9e35b1cfb7d005fc04039e8cefc6348fb2bb1a88727566ac220dd578fd420b", func := "mooring/mooringlaw05.WireBack", spec := "wireBack", apart := false, narrowed := true }
def WireBackUptoSaid : Prop := wireBackUptoRow.holds Try.pinned (OpenSpec.upto wireBackSpec)

/-- 'mooringlaw05.WireNobody', WHERE WHAT IT READS IS OF BULK AT MOST 1048576: true; the input reads as it did. -/
def wireNobodyUptoRow : OpenClaim := { program := "ytdogkhbfpbdfpaa", sum := "4e9e35b1cfb7d005fc04039e8cefc6348fb2bb1a88727566ac220dd578fd420b", func := "mooring/mooringlaw05.WireNobody", spec := "wireNobody", apart := false, narrowed := true }
def WireNobodyUptoSaid : Prop := wireNobodyUptoRow.holds Try.pinned (OpenSpec.upto wireNobodySpec)

/-- 'mooringlaw05.WireReads', WHERE WHAT IT READS IS OF BULK AT MOST 1048576: true; the input reads as it did. -/
def wireReadsUptoRow : OpenClaim := { program := "ytdogkhbfpbdfpaa", sum := "4e9e35b1cfb7d005fc04039e8cefc6348fb2bb1a88727566ac220dd578fd420b", func := "mooring/mooringlaw05.WireReads", spec := "wireReads", apart := false, narrowed := true }
def WireReadsUptoSaid : Prop := wireReadsUptoRow.holds Try.pinned (OpenSpec.upto wireReadsSpec)

end Rows
end Go.Proofs.Ytdogkhbfpbdfpaa
