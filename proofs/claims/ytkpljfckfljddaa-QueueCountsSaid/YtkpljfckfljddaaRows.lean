/-
  No cell of these rows narrows 'for every input' (looked for: loops, veiled, ifaces, maps, wideKeys, modest, calm, conditions, laid).
  DERIVED. THE GIVEN ROWS OF THIS SEAT. 7 by the template 'for every input the law returns true; each argument reads behind the call as it read before'; 0 by the template 'total and deterministic' (their statements: YtkpljfckfljddaaTotals.lean).
  GIVEN WITH THE SEED: the statements are not yours to turn. If you find one false, say at which input.
  Laid BY PROGRAM, IN A SANDBOX (cutbox-rows.mjs): the forced cells as the released guide's own fill.sh prints them over the translation 5451f52a72f573b8… (all of the seat's roots in one cut). By AI agents, Wed Nov 11 2026. No macro, syntax, notation, axiom, sorry.
-/
import Derived.Test.YtkpljfckfljddaaChecked
import GoSem.Claim
import GoSem.ClaimJoined
import GoSem.ClaimMapViews
import Derived.JoinedTies
import Derived.KernelRfl
namespace Go.Proofs.Ytkpljfckfljddaa
/- THE CELL 'sum', in the pinned program and in every row, IS THE sha256 OF THE DUMP (.gsa) THAT YtkpljfckfljddaaProg.lean LOADS. Nothing in Lean hashes anything: it is a label: what it is worth is what the hold of that sum in a sandbox is worth. -/
noncomputable def Try.pinned : Pinned := { name := "ytkpljfckfljddaa", sum := "5451f52a72f573b8583ee7765e5660029714af45eab1bb2b84ccfdd0f2c3cd8b", checked := Try.checked }
namespace Rows
def none {H : Type} : Left H := { results := [], args := [] }

/-- 'skiarealaw18.QueueRight': WHATEVER THE INPUT: true; the input reads as it did. -/
def queueRightSpec : ChangeSpec := { name := "queueRight", fn := fun _ => fun
  | [d] => { results := [.lit (.bool true)], args := [d] }
  | _ => none }
def queueRightRow : OpenClaim := { program := "ytkpljfckfljddaa", sum := "5451f52a72f573b8583ee7765e5660029714af45eab1bb2b84ccfdd0f2c3cd8b", func := "skiarea/skiarealaw18.QueueRight", spec := "queueRight", apart := false }
def QueueRightSaid : Prop := queueRightRow.holds Try.pinned (OpenSpec.ofChange queueRightSpec)

/-- ITS FALSE NEIGHBOUR: 'it returns false'. Refute it at one input. -/
def queueRightWrong : ChangeSpec := { name := "queueRight", fn := fun _ => fun
  | [d] => { results := [.lit (.bool false)], args := [d] }
  | _ => none }
def QueueRightWrongFalsely : Prop := queueRightRow.holds Try.pinned (OpenSpec.ofChange queueRightWrong)

/-- 'skiarealaw18.QueueSeat': WHATEVER THE INPUT: true; the input reads as it did. -/
def queueSeatSpec : ChangeSpec := { name := "queueSeat", fn := fun _ => fun
  | [d1, d2] => { results := [.lit (.bool true)], args := [d1, d2] }
  | _ => none }
def queueSeatRow : OpenClaim := { program := "ytkpljfckfljddaa", sum := "5451f52a72f573b8583ee7765e5660029714af45eab1bb2b84ccfdd0f2c3cd8b", func := "skiarea/skiarealaw18.QueueSeat", spec := "queueSeat", apart := false }
def QueueSeatSaid : Prop := queueSeatRow.holds Try.pinned (OpenSpec.ofChange queueSeatSpec)

/-- ITS FALSE NEIGHBOUR: 'it returns false'. Refute it at one input. -/
def queueSeatWrong : ChangeSpec := { name := "queueSeat", fn := fun _ => fun
  | [d1, d2] => { results := [.lit (.bool false)], args := [d1, d2] }
  | _ => none }
def QueueSeatWrongFalsely : Prop := queueSeatRow.holds Try.pinned (OpenSpec.ofChange queueSeatWrong)

/-- 'skiarealaw18.QueueWaits': WHATEVER THE INPUT: true; the input reads as it did. -/
def queueWaitsSpec : ChangeSpec := { name := "queueWaits", fn := fun _ => fun
  | [d1, d2] => { results := [.lit (.bool true)], args := [d1, d2] }
  | _ => none }
def queueWaitsRow : OpenClaim := { program := "ytkpljfckfljddaa", sum := "5451f52a72f573b8583ee7765e5660029714af45eab1bb2b84ccfdd0f2c3cd8b", func := "skiarea/skiarealaw18.QueueWaits", spec := "queueWaits", apart := false }
def QueueWaitsSaid : Prop := queueWaitsRow.holds Try.pinned (OpenSpec.ofChange queueWaitsSpec)

/-- ITS FALSE NEIGHBOUR: 'it returns false'. Refute it at one input. -/
def queueWaitsWrong : ChangeSpec := { name := "queueWaits", fn := fun _ => fun
  | [d1, d2] => { results := [.lit (.bool false)], args := [d1, d2] }
  | _ => none }
def QueueWaitsWrongFalsely : Prop := queueWaitsRow.holds Try.pinned (OpenSpec.ofChange queueWaitsWrong)

/-- 'skiarealaw18.QueueSeats': WHATEVER THE INPUT: true; the input reads as it did. -/
def queueSeatsSpec : ChangeSpec := { name := "queueSeats", fn := fun _ => fun
  | [d1, d2] => { results := [.lit (.bool true)], args := [d1, d2] }
  | _ => none }
def queueSeatsRow : OpenClaim := { program := "ytkpljfckfljddaa", sum := "5451f52a72f573b8583ee7765e5660029714af45eab1bb2b84ccfdd0f2c3cd8b", func := "skiarea/skiarealaw18.QueueSeats", spec := "queueSeats", apart := false }
def QueueSeatsSaid : Prop := queueSeatsRow.holds Try.pinned (OpenSpec.ofChange queueSeatsSpec)

/-- ITS FALSE NEIGHBOUR: 'it returns false'. Refute it at one input. -/
def queueSeatsWrong : ChangeSpec := { name := "queueSeats", fn := fun _ => fun
  | [d1, d2] => { results := [.lit (.bool false)], args := [d1, d2] }
  | _ => none }
def QueueSeatsWrongFalsely : Prop := queueSeatsRow.holds Try.pinned (OpenSpec.ofChange queueSeatsWrong)

/-- 'skiarealaw18.QueueCounts': WHATEVER THE INPUT: true; the input reads as it did. -/
def queueCountsSpec : ChangeSpec := { name := "queueCounts", fn := fun _ => fun
  | [d1, d2] => { results := [.lit (.bool true)], args := [d1, d2] }
  | _ => none }
def queueCountsRow : OpenClaim := { program := "ytkpljfckfljddaa", sum := "5451f52a72f573b8583ee7765e5660029714af45eab1bb2b84ccfdd0f2c3cd8b", func := "skiarea/skiarealaw18.QueueCounts", spec := "queueCounts", apart := false }
def QueueCountsSaid : Prop := queueCountsRow.holds Try.pinned (OpenSpec.ofChange queueCountsSpec)

/-- ITS FALSE NEIGHBOUR: 'it returns false'. Refute it at one input. -/
def queueCountsWrong : ChangeSpec := { name := "queueCounts", fn := fun _ => fun
  | [d1, d2] => { results := [.lit (.bool false)], args := [d1, d2] }
  | _ => none }
def QueueCountsWrongFalsely : Prop := queueCountsRow.holds Try.pinned (OpenSpec.ofChange queueCountsWrong)

/-- 'skiarealaw18.QueueKeeps': WHATEVER THE INPUT: true; the input reads as it did. -/
def queueKeepsSpec : ChangeSpec := { name := "queueKeeps", fn := fun _ => fun
  | [d1, d2, d3] => { results := [.lit (.bool true)], args := [d1, d2, d3] }
  | _ => none }
def queueKeepsRow : OpenClaim := { program := "ytkpljfckfljddaa", sum := "5451f52a72f573b8583ee7765e5660029714af45eab1bb2b84ccfdd0f2c3cd8b", func := "skiarea/skiarealaw18.QueueKeeps", spec := "queueKeeps", apart := false }
def QueueKeepsSaid : Prop := queueKeepsRow.holds Try.pinned (OpenSpec.ofChange queueKeepsSpec)

/-- ITS FALSE NEIGHBOUR: 'it returns false'. Refute it at one input. -/
def queueKeepsWrong : ChangeSpec := { name := "queueKeeps", fn := fun _ => fun
  | [d1, d2, d3] => { results := [.lit (.bool false)], args := [d1, d2, d3] }
  | _ => none }
def QueueKeepsWrongFalsely : Prop := queueKeepsRow.holds Try.pinned (OpenSpec.ofChange queueKeepsWrong)

/-- 'skiarealaw18.QueueJoins': WHATEVER THE INPUT: true; the input reads as it did. -/
def queueJoinsSpec : ChangeSpec := { name := "queueJoins", fn := fun _ => fun
  | [d1, d2] => { results := [.lit (.bool true)], args := [d1, d2] }
  | _ => none }
def queueJoinsRow : OpenClaim := { program := "ytkpljfckfljddaa", sum := "5451f52a72f573b8583ee7765e5660029714af45eab1bb2b84ccfdd0f2c3cd8b", func := "skiarea/skiarealaw18.QueueJoins", spec := "queueJoins", apart := false }
def QueueJoinsSaid : Prop := queueJoinsRow.holds Try.pinned (OpenSpec.ofChange queueJoinsSpec)

/-- ITS FALSE NEIGHBOUR: 'it returns false'. Refute it at one input. -/
def queueJoinsWrong : ChangeSpec := { name := "queueJoins", fn := fun _ => fun
  | [d1, d2] => { results := [.lit (.bool false)], args := [d1, d2] }
  | _ => none }
def QueueJoinsWrongFalsely : Prop := queueJoinsRow.holds Try.pinned (OpenSpec.ofChange queueJoinsWrong)

/- THE SECOND FORM. 'bulk': how many values and letters a reading holds, each counted each time it is reached (what is shared counts as often as it is met; a slice's spare places count too). A statement '..UptoSaid' is the law's where the arguments, and the package variables that the reading takes, are together of bulk at most 1048576: NARROWER than '..Said'. Prove '..Said' where nothing that the law and all that it calls make is longer than what came in: it says more and counts as full. Else prove '..UptoSaid'. A law counts once. -/
mutual
def uptoBulk {H : Type} : DataW H → Nat
  | .lit (.string bytes) => bytes.length + 1
  | .lit _ => 1
  | .nil => 1
  | .ptr d => uptoBulk d + 1
  | .slice elems spare => uptoBulkAll elems + uptoBulkAll spare + 1
  | .agg parts => uptoBulkAll parts + 1
  | .iface _ d => uptoBulk d + 1
  | .map entries => uptoBulkEntries entries + 1
  | .held _ => 1
def uptoBulkAll {H : Type} : List (DataW H) → Nat
  | [] => 0
  | d :: r => uptoBulk d + uptoBulkAll r
def uptoBulkEntries {H : Type} : List (Lit × DataW H) → Nat
  | [] => 0
  | x :: r => uptoBulkEntry x + uptoBulkEntries r
def uptoBulkEntry {H : Type} : Lit × DataW H → Nat
  | (.string bytes, d) => bytes.length + uptoBulk d + 1
  | (_, d) => uptoBulk d + 1
 end
def uptoSmall : (H : Type) → List (DataW H) → Bool := fun _ ds => decide (uptoBulkAll ds ≤ 1048576)
def OpenSpec.upto (s : _root_.Go.ChangeSpec) : _root_.Go.OpenSpec := { _root_.Go.OpenSpec.ofChange s with cond := some uptoSmall }

/-- 'skiarealaw18.QueueRight', WHERE WHAT IT READS IS OF BULK AT MOST 1048576: true; the input reads as it did. -/
def queueRightUptoRow : OpenClaim := { program := "ytkpljfckfljddaa", sum := "5451f52a72f573b8583ee7765e5660029714af45eab1bb2b84ccfdd0f2c3cd8b", func := "skiarea/skiarealaw18.QueueRight", spec := "queueRight", apart := false, narrowed := true }
def QueueRightUptoSaid : Prop := queueRightUptoRow.holds Try.pinned (OpenSpec.upto queueRightSpec)

/-- 'skiarealaw18.QueueSeat', WHERE WHAT IT READS IS OF BULK AT MOST 1048576: true; the input reads as it did. -/
def queueSeatUptoRow : OpenClaim := { program := "ytkpljfckfljddaa", sum := "5451f52a72f573b8583ee7765e5660029714af45eab1bb2b84ccfdd0f2c3cd8b", func := "skiarea/skiarealaw18.QueueSeat", spec := "queueSeat", apart := false, narrowed := true }
def QueueSeatUptoSaid : Prop := queueSeatUptoRow.holds Try.pinned (OpenSpec.upto queueSeatSpec)

/-- 'skiarealaw18.QueueWaits', WHERE WHAT IT READS IS OF BULK AT MOST 1048576: true; the input reads as it did. -/
def queueWaitsUptoRow : OpenClaim := { program := "ytkpljfckfljddaa", sum := "5451f52a72f573b8583ee7765e5660029714af45eab1bb2b84ccfdd0f2c3cd8b", func := "skiarea/skiarealaw18.QueueWaits", spec := "queueWaits", apart := false, narrowed := true }
def QueueWaitsUptoSaid : Prop := queueWaitsUptoRow.holds Try.pinned (OpenSpec.upto queueWaitsSpec)

/-- 'skiarealaw18.QueueSeats', WHERE WHAT IT READS IS OF BULK AT MOST 1048576: true; the input reads as it did. -/
def queueSeatsUptoRow : OpenClaim := { program := "ytkpljfckfljddaa", sum := "5451f52a72f573b8583ee7765e5660029714af45eab1bb2b84ccfdd0f2c3cd8b", func := "skiarea/skiarealaw18.QueueSeats", spec := "queueSeats", apart := false, narrowed := true }
def QueueSeatsUptoSaid : Prop := queueSeatsUptoRow.holds Try.pinned (OpenSpec.upto queueSeatsSpec)

/-- 'skiarealaw18.QueueCounts', WHERE WHAT IT READS IS OF BULK AT MOST 1048576: true; the input reads as it did. -/
def queueCountsUptoRow : OpenClaim := { program := "ytkpljfckfljddaa", sum := "5451f52a72f573b8583ee7765e5660029714af45eab1bb2b84ccfdd0f2c3cd8b", func := "skiarea/skiarealaw18.QueueCounts", spec := "queueCounts", apart := false, narrowed := true }
def QueueCountsUptoSaid : Prop := queueCountsUptoRow.holds Try.pinned (OpenSpec.upto queueCountsSpec)

/-- 'skiarealaw18.QueueKeeps', WHERE WHAT IT READS IS OF BULK AT MOST 1048576: true; the input reads as it did. -/
def queueKeepsUptoRow : OpenClaim := { program := "ytkpljfckfljddaa", sum := "5451f52a72f573b8583ee7765e5660029714af45eab1bb2b84ccfdd0f2c3cd8b", func := "skiarea/skiarealaw18.QueueKeeps", spec := "queueKeeps", apart := false, narrowed := true }
def QueueKeepsUptoSaid : Prop := queueKeepsUptoRow.holds Try.pinned (OpenSpec.upto queueKeepsSpec)

/-- 'skiarealaw18.QueueJoins', WHERE WHAT IT READS IS OF BULK AT MOST 1048576: true; the input reads as it did. -/
def queueJoinsUptoRow : OpenClaim := { program := "ytkpljfckfljddaa", sum := "5451f52a72f573b8583ee7765e5660029714af45eab1bb2b84ccfdd0f2c3cd8b", func := "skiarea/skiarealaw18.QueueJoins", spec := "queueJoins", apart := false, narrowed := true }
def QueueJoinsUptoSaid : Prop := queueJoinsUptoRow.holds Try.pinned (OpenSpec.upto queueJoinsSpec)

end Rows
end Go.Proofs.Ytkpljfckfljddaa
