/-
  NARROWER THAN 'FOR EVERY INPUT', by the rows' own cells (each row's printed sentence says how): MessageTakes: loops · MessageCounts: loops · MessageUnlike: loops · MessageCodes: loops.
  DERIVED. THE GIVEN ROWS OF THIS SEAT. 5 by the template 'for every input the law returns true; each argument reads behind the call as it read before'; 0 by the template 'total and deterministic' (their statements: YtcilojakgnjjmaaTotals.lean).
  GIVEN WITH THE SEED: the statements are not yours to turn. If you find one false, say at which input.
  Laid BY PROGRAM, IN A SANDBOX (cutbox-rows.mjs): the forced cells as the released guide's own fill.sh prints them over the translation 9ff6e386bb554646… (all of the seat's roots in one cut). By AI agents, Wed Nov 11 2026. No macro, syntax, notation, axiom, sorry.
-/
import Derived.Test.YtcilojakgnjjmaaChecked
import GoSem.Claim
import GoSem.ClaimJoined
import GoSem.ClaimMapViews
import Derived.JoinedTies
import Derived.KernelRfl
namespace Go.Proofs.Ytcilojakgnjjmaa
/- THE CELL 'sum', in the pinned program and in every row, IS THE sha256 OF THE DUMP (.gsa) THAT YtcilojakgnjjmaaProg.lean LOADS. Nothing in Lean hashes anything: it is a label: what it is worth is what the hold of that sum in a sandbox is worth. -/
noncomputable def Try.pinned : Pinned := { name := "ytcilojakgnjjmaa", sum := "9ff6e386bb5546469a323a99a649331bbd77454001fd541c27315a9f06c06488", checked := Try.checked }
namespace Rows
def none {H : Type} : Left H := { results := [], args := [] }

/-- 'mooringlaw24.MessageTakes': WHATEVER THE INPUT: true; the input reads as it did. -/
def messageTakesSpec : ChangeSpec := { name := "messageTakes", fn := fun _ => fun
  | [d1, d2, d3] => { results := [.lit (.bool true)], args := [d1, d2, d3] }
  | _ => none }
def messageTakesRow : OpenClaim := { program := "ytcilojakgnjjmaa", sum := "9ff6e386bb5546469a323a99a649331bbd77454001fd541c27315a9f06c06488", func := "mooring/mooringlaw24.MessageTakes", spec := "messageTakes", unfollowed := true, recurses := true, loops := true, apart := false }
def MessageTakesSaid : Prop := messageTakesRow.holds Try.pinned (OpenSpec.ofChange messageTakesSpec)

/-- ITS FALSE NEIGHBOUR: 'it returns false'. Refute it at one input. -/
def messageTakesWrong : ChangeSpec := { name := "messageTakes", fn := fun _ => fun
  | [d1, d2, d3] => { results := [.lit (.bool false)], args := [d1, d2, d3] }
  | _ => none }
def MessageTakesWrongFalsely : Prop := messageTakesRow.holds Try.pinned (OpenSpec.ofChange messageTakesWrong)

/-- 'mooringlaw24.MessageCounts': WHATEVER THE INPUT: true; the input reads as it did. -/
def messageCountsSpec : ChangeSpec := { name := "messageCounts", fn := fun _ => fun
  | [d1, d2] => { results := [.lit (.bool true)], args := [d1, d2] }
  | _ => none }
def messageCountsRow : OpenClaim := { program := "ytcilojakgnjjmaa", sum := "9ff6e386bb5546469a323a99a649331bbd77454001fd541c27315a9f06c06488", func := "mooring/mooringlaw24.MessageCounts", spec := "messageCounts", unfollowed := true, recurses := true, loops := true, apart := false }
def MessageCountsSaid : Prop := messageCountsRow.holds Try.pinned (OpenSpec.ofChange messageCountsSpec)

/-- ITS FALSE NEIGHBOUR: 'it returns false'. Refute it at one input. -/
def messageCountsWrong : ChangeSpec := { name := "messageCounts", fn := fun _ => fun
  | [d1, d2] => { results := [.lit (.bool false)], args := [d1, d2] }
  | _ => none }
def MessageCountsWrongFalsely : Prop := messageCountsRow.holds Try.pinned (OpenSpec.ofChange messageCountsWrong)

/-- 'mooringlaw24.MessageUnlike': WHATEVER THE INPUT: true; the input reads as it did. -/
def messageUnlikeSpec : ChangeSpec := { name := "messageUnlike", fn := fun _ => fun
  | [d1, d2] => { results := [.lit (.bool true)], args := [d1, d2] }
  | _ => none }
def messageUnlikeRow : OpenClaim := { program := "ytcilojakgnjjmaa", sum := "9ff6e386bb5546469a323a99a649331bbd77454001fd541c27315a9f06c06488", func := "mooring/mooringlaw24.MessageUnlike", spec := "messageUnlike", unfollowed := true, recurses := true, loops := true, apart := false }
def MessageUnlikeSaid : Prop := messageUnlikeRow.holds Try.pinned (OpenSpec.ofChange messageUnlikeSpec)

/-- ITS FALSE NEIGHBOUR: 'it returns false'. Refute it at one input. -/
def messageUnlikeWrong : ChangeSpec := { name := "messageUnlike", fn := fun _ => fun
  | [d1, d2] => { results := [.lit (.bool false)], args := [d1, d2] }
  | _ => none }
def MessageUnlikeWrongFalsely : Prop := messageUnlikeRow.holds Try.pinned (OpenSpec.ofChange messageUnlikeWrong)

/-- 'mooringlaw24.MessageCodes': WHATEVER THE INPUT: true; the input reads as it did. -/
def messageCodesSpec : ChangeSpec := { name := "messageCodes", fn := fun _ => fun
  | [d] => { results := [.lit (.bool true)], args := [d] }
  | _ => none }
def messageCodesRow : OpenClaim := { program := "ytcilojakgnjjmaa", sum := "9ff6e386bb5546469a323a99a649331bbd77454001fd541c27315a9f06c06488", func := "mooring/mooringlaw24.MessageCodes", spec := "messageCodes", unfollowed := true, recurses := true, loops := true, apart := false }
def MessageCodesSaid : Prop := messageCodesRow.holds Try.pinned (OpenSpec.ofChange messageCodesSpec)

/-- ITS FALSE NEIGHBOUR: 'it returns false'. Refute it at one input. -/
def messageCodesWrong : ChangeSpec := { name := "messageCodes", fn := fun _ => fun
  | [d] => { results := [.lit (.bool false)], args := [d] }
  | _ => none }
def MessageCodesWrongFalsely : Prop := messageCodesRow.holds Try.pinned (OpenSpec.ofChange messageCodesWrong)

/-- 'mooringlaw24.MessageDecodes': WHATEVER THE INPUT: true; the input reads as it did. -/
def messageDecodesSpec : ChangeSpec := { name := "messageDecodes", fn := fun _ => fun
  | [d] => { results := [.lit (.bool true)], args := [d] }
  | _ => none }
def messageDecodesRow : OpenClaim := { program := "ytcilojakgnjjmaa", sum := "9ff6e386bb5546469a323a99a649331bbd77454001fd541c27315a9f06c06488", func := "mooring/mooringlaw24.MessageDecodes", spec := "messageDecodes", unfollowed := true, recurses := true, apart := false }
def MessageDecodesSaid : Prop := messageDecodesRow.holds Try.pinned (OpenSpec.ofChange messageDecodesSpec)

/-- ITS FALSE NEIGHBOUR: 'it returns false'. Refute it at one input. -/
def messageDecodesWrong : ChangeSpec := { name := "messageDecodes", fn := fun _ => fun
  | [d] => { results := [.lit (.bool false)], args := [d] }
  | _ => none }
def MessageDecodesWrongFalsely : Prop := messageDecodesRow.holds Try.pinned (OpenSpec.ofChange messageDecodesWrong)

/- THE SECOND FORM. 'bulk': how many values and letters a reading holds, each counted each time it is reached (what is shared counts as often as it is met; a slice's spare places count too). A statement '..UptoSaid' is the law's where the arguments, and the package variables that the reading takes, are together of bulk at most 1048576: NARROWER than '..Said'. Prove '..Said' where nothing that the law and all that it calls make is longer than what came in: it says more and counts as full. Else prove '..UptoSaid'. A law counts once. -/
mutual
def uptoBulk {H : Type} : DataW H → Nat
  | .lit (.string bytes) => bytes.length + 1
  | .lit _ => 1
  | .nil => 1
  | .ptr d => uptoBulk d + 1
  | .slice elems spare => uptoBulkAll elems + uptoBulkAll spare + 1
  | .agg parts => uptoBulkAll parts + 1
  | .iface _ d => uptoBulk d + 1
  | .map entries => uptoBulkEntries entries + 1
  | .held _ => 1
def uptoBulkAll {H : Type} : List (DataW H) → Nat
  | [] => 0
  | d :: r => uptoBulk d + uptoBulkAll r
def uptoBulkEntries {H : Type} : List (Lit × DataW H) → Nat
  | [] => 0
  | x :: r => uptoBulkEntry x + uptoBulkEntries r
def uptoBulkEntry {H : Type} : Lit × DataW H → Nat
  | (.string bytes, d) => bytes.length + uptoBulk d + 1
  | (_, d) => uptoBulk d + 1
 end
def uptoSmall : (H : Type) → List (DataW H) → Bool := fun _ ds => decide (uptoBulkAll ds ≤ 1048576)
def OpenSpec.upto (s : _root_.Go.ChangeSpec) : _root_.Go.OpenSpec := { _root_.Go.OpenSpec.ofChange s with cond := some uptoSmall }

/-- 'mooringlaw24.MessageTakes', WHERE WHAT IT READS IS OF BULK AT MOST 1048576: true; the input reads as it did. -/
def messageTakesUptoRow : OpenClaim := { program := "ytcilojakgnjjmaa", sum := "9ff6e386bb5546469a323a99a649331bbd77454001fd541c27315a9f06c06488", func := "mooring/mooringlaw24.MessageTakes", spec := "messageTakes", unfollowed := true, recurses := true, loops := true, apart := false, narrowed := true }
def MessageTakesUptoSaid : Prop := messageTakesUptoRow.holds Try.pinned (OpenSpec.upto messageTakesSpec)

/-- 'mooringlaw24.MessageCounts', WHERE WHAT IT READS IS OF BULK AT MOST 1048576: true; the input reads as it did. -/
def messageCountsUptoRow : OpenClaim := { program := "ytcilojakgnjjmaa", sum := "9ff6e386bb5546469a323a99a649331bbd77454001fd541c27315a9f06c06488", func := "mooring/mooringlaw24.MessageCounts", spec := "messageCounts", unfollowed := true, recurses := true, loops := true, apart := false, narrowed := true }
def MessageCountsUptoSaid : Prop := messageCountsUptoRow.holds Try.pinned (OpenSpec.upto messageCountsSpec)

/-- 'mooringlaw24.MessageUnlike', WHERE WHAT IT READS IS OF BULK AT MOST 1048576: true; the input reads as it did. -/
def messageUnlikeUptoRow : OpenClaim := { program := "ytcilojakgnjjmaa", sum := "9ff6e386bb5546469a323a99a649331bbd77454001fd541c27315a9f06c06488", func := "mooring/mooringlaw24.MessageUnlike", spec := "messageUnlike", unfollowed := true, recurses := true, loops := true, apart := false, narrowed := true }
def MessageUnlikeUptoSaid : Prop := messageUnlikeUptoRow.holds Try.pinned (OpenSpec.upto messageUnlikeSpec)

/-- 'mooringlaw24.MessageCodes', WHERE WHAT IT READS IS OF BULK AT MOST 1048576: true; the input reads as it did. -/
def messageCodesUptoRow : OpenClaim := { program := "ytcilojakgnjjmaa", sum := "9ff6e386bb5546469a323a99a649331bbd77454001fd541c27315a9f06c06488", func := "mooring/mooringlaw24.MessageCodes", spec := "messageCodes", unfollowed := true, recurses := true, loops := true, apart := false, narrowed := true }
def MessageCodesUptoSaid : Prop := messageCodesUptoRow.holds Try.pinned (OpenSpec.upto messageCodesSpec)

/-- 'mooringlaw24.MessageDecodes', WHERE WHAT IT READS IS OF BULK AT MOST 1048576: true; the input reads as it did. -/
def messageDecodesUptoRow : OpenClaim := { program := "ytcilojakgnjjmaa", sum := "9ff6e386bb5546469a323a99a649331bbd77454001fd541c27315a9f06c06488", func := "mooring/mooringlaw24.MessageDecodes", spec := "messageDecodes", unfollowed := true, recurses := true, apart := false, narrowed := true }
def MessageDecodesUptoSaid : Prop := messageDecodesUptoRow.holds Try.pinned (OpenSpec.upto messageDecodesSpec)

end Rows
end Go.Proofs.Ytcilojakgnjjmaa
