/-
  No cell of these rows narrows 'for every input' (looked for: loops, veiled, ifaces, maps, wideKeys, modest, calm, conditions, laid).
  DERIVED. THE GIVEN ROWS OF THIS SEAT. 7 by the template 'for every input the law returns true; each argument reads behind the call as it read before'; 0 by the template 'total and deterministic' (their statements: YtclpjmhanhocoaaTotals.lean).
  GIVEN WITH THE SEED: the statements are not yours to turn. If you find one false, say at which input.
  Laid BY PROGRAM, IN A SANDBOX (cutbox-rows.mjs): the forced cells as the released guide's own fill.sh prints them over the translation 00b0aa35c997018d… (all of the seat's roots in one cut). By AI agents, Wed Nov 11 2026. No macro, syntax, notation, axiom, sorry.
-/
import Derived.Test.YtclpjmhanhocoaaChecked
import GoSem.Claim
import GoSem.ClaimJoined
import GoSem.ClaimMapViews
import Derived.JoinedTies
import Derived.KernelRfl
namespace Go.Proofs.Ytclpjmhanhocoaa
/- THE CELL 'sum', in the pinned program and in every row, IS THE sha256 OF THE DUMP (.gsa) THAT YtclpjmhanhocoaaProg.lean LOADS. Nothing in Lean hashes anything: it is a label: what it is worth is what the hold of that sum in a sandbox is worth. -/
noncomputable def Try.pinned : Pinned := { name := "ytclpjmhanhocoaa", sum := "00b0aa35c997018d5673261ab1686faa87ef3aa7326999c167a02f5e742b7645", checked := Try.checked }
namespace Rows
def none {H : Type} : Left H := { results := [], args := [] }

/-- 'muleteerlaw03.PacketApart': WHATEVER THE INPUT: true; the input reads as it did. -/
def packetApartSpec : ChangeSpec := { name := "packetApart", fn := fun _ => fun
  | [d1, d2] => { results := [.lit (.bool true)], args := [d1, d2] }
  | _ => none }
def packetApartRow : OpenClaim := { program := "ytclpjmhanhocoaa", sum := "00b0aa35c997018d5673261ab1686faa87ef3aa7326999c167a02f5e742b7645", func := "muleteer/muleteerlaw03.PacketApart", spec := "packetApart", apart := false }
def PacketApartSaid : Prop := packetApartRow.holds Try.pinned (OpenSpec.ofChange packetApartSpec)

/-- ITS FALSE NEIGHBOUR: 'it returns false'. Refute it at one input. -/
def packetApartWrong : ChangeSpec := { name := "packetApart", fn := fun _ => fun
  | [d1, d2] => { results := [.lit (.bool false)], args := [d1, d2] }
  | _ => none }
def PacketApartWrongFalsely : Prop := packetApartRow.holds Try.pinned (OpenSpec.ofChange packetApartWrong)

/-- 'muleteerlaw16.QueueOrder': WHATEVER THE INPUT: true; the input reads as it did. -/
def queueOrderSpec : ChangeSpec := { name := "queueOrder", fn := fun _ => fun
  | [d1, d2, d3] => { results := [.lit (.bool true)], args := [d1, d2, d3] }
  | _ => none }
def queueOrderRow : OpenClaim := { program := "ytclpjmhanhocoaa", sum := "00b0aa35c997018d5673261ab1686faa87ef3aa7326999c167a02f5e742b7645", func := "muleteer/muleteerlaw16.QueueOrder", spec := "queueOrder", apart := false }
def QueueOrderSaid : Prop := queueOrderRow.holds Try.pinned (OpenSpec.ofChange queueOrderSpec)

/-- ITS FALSE NEIGHBOUR: 'it returns false'. Refute it at one input. -/
def queueOrderWrong : ChangeSpec := { name := "queueOrder", fn := fun _ => fun
  | [d1, d2, d3] => { results := [.lit (.bool false)], args := [d1, d2, d3] }
  | _ => none }
def QueueOrderWrongFalsely : Prop := queueOrderRow.holds Try.pinned (OpenSpec.ofChange queueOrderWrong)

/-- 'muleteerlaw16.QueuePlays': WHATEVER THE INPUT: true; the input reads as it did. -/
def queuePlaysSpec : ChangeSpec := { name := "queuePlays", fn := fun _ => fun
  | [d1, d2] => { results := [.lit (.bool true)], args := [d1, d2] }
  | _ => none }
def queuePlaysRow : OpenClaim := { program := "ytclpjmhanhocoaa", sum := "00b0aa35c997018d5673261ab1686faa87ef3aa7326999c167a02f5e742b7645", func := "muleteer/muleteerlaw16.QueuePlays", spec := "queuePlays", apart := false }
def QueuePlaysSaid : Prop := queuePlaysRow.holds Try.pinned (OpenSpec.ofChange queuePlaysSpec)

/-- ITS FALSE NEIGHBOUR: 'it returns false'. Refute it at one input. -/
def queuePlaysWrong : ChangeSpec := { name := "queuePlays", fn := fun _ => fun
  | [d1, d2] => { results := [.lit (.bool false)], args := [d1, d2] }
  | _ => none }
def QueuePlaysWrongFalsely : Prop := queuePlaysRow.holds Try.pinned (OpenSpec.ofChange queuePlaysWrong)

/-- 'muleteerlaw16.QueueNobody': WHATEVER THE INPUT: true; the input reads as it did. -/
def queueNobodySpec : ChangeSpec := { name := "queueNobody", fn := fun _ => fun
  | [d] => { results := [.lit (.bool true)], args := [d] }
  | _ => none }
def queueNobodyRow : OpenClaim := { program := "ytclpjmhanhocoaa", sum := "00b0aa35c997018d5673261ab1686faa87ef3aa7326999c167a02f5e742b7645", func := "muleteer/muleteerlaw16.QueueNobody", spec := "queueNobody", apart := false }
def QueueNobodySaid : Prop := queueNobodyRow.holds Try.pinned (OpenSpec.ofChange queueNobodySpec)

/-- ITS FALSE NEIGHBOUR: 'it returns false'. Refute it at one input. -/
def queueNobodyWrong : ChangeSpec := { name := "queueNobody", fn := fun _ => fun
  | [d] => { results := [.lit (.bool false)], args := [d] }
  | _ => none }
def QueueNobodyWrongFalsely : Prop := queueNobodyRow.holds Try.pinned (OpenSpec.ofChange queueNobodyWrong)

/-- 'muleteerlaw05.TxnApart': WHATEVER THE INPUT: true; the input reads as it did. -/
def txnApartSpec : ChangeSpec := { name := "txnApart", fn := fun _ => fun
  | [d1, d2] => { results := [.lit (.bool true)], args := [d1, d2] }
  | _ => none }
def txnApartRow : OpenClaim := { program := "ytclpjmhanhocoaa", sum := "00b0aa35c997018d5673261ab1686faa87ef3aa7326999c167a02f5e742b7645", func := "muleteer/muleteerlaw05.TxnApart", spec := "txnApart", apart := false }
def TxnApartSaid : Prop := txnApartRow.holds Try.pinned (OpenSpec.ofChange txnApartSpec)

/-- ITS FALSE NEIGHBOUR: 'it returns false'. Refute it at one input. -/
def txnApartWrong : ChangeSpec := { name := "txnApart", fn := fun _ => fun
  | [d1, d2] => { results := [.lit (.bool false)], args := [d1, d2] }
  | _ => none }
def TxnApartWrongFalsely : Prop := txnApartRow.holds Try.pinned (OpenSpec.ofChange txnApartWrong)

/-- 'muleteerlaw03.PacketAcks': WHATEVER THE INPUT: true; the input reads as it did. -/
def packetAcksSpec : ChangeSpec := { name := "packetAcks", fn := fun _ => fun
  | [d1, d2] => { results := [.lit (.bool true)], args := [d1, d2] }
  | _ => none }
def packetAcksRow : OpenClaim := { program := "ytclpjmhanhocoaa", sum := "00b0aa35c997018d5673261ab1686faa87ef3aa7326999c167a02f5e742b7645", func := "muleteer/muleteerlaw03.PacketAcks", spec := "packetAcks", inPlace := ["internal/abi.NoEscape", "internal/bytealg.MakeNoZero"], apart := false }
def PacketAcksSaid : Prop := packetAcksRow.holds Try.pinned (OpenSpec.ofChange packetAcksSpec)

/-- ITS FALSE NEIGHBOUR: 'it returns false'. Refute it at one input. -/
def packetAcksWrong : ChangeSpec := { name := "packetAcks", fn := fun _ => fun
  | [d1, d2] => { results := [.lit (.bool false)], args := [d1, d2] }
  | _ => none }
def PacketAcksWrongFalsely : Prop := packetAcksRow.holds Try.pinned (OpenSpec.ofChange packetAcksWrong)

/-- 'muleteerlaw31.SubmitAfter': WHATEVER THE INPUT: true; the input reads as it did. -/
def submitAfterSpec : ChangeSpec := { name := "submitAfter", fn := fun _ => fun
  | [d1, d2, d3] => { results := [.lit (.bool true)], args := [d1, d2, d3] }
  | _ => none }
def submitAfterRow : OpenClaim := { program := "ytclpjmhanhocoaa", sum := "00b0aa35c997018d5673261ab1686faa87ef3aa7326999c167a02f5e742b7645", func := "muleteer/muleteerlaw31.SubmitAfter", spec := "submitAfter", unfollowed := true, recurses := true, apart := false }
def SubmitAfterSaid : Prop := submitAfterRow.holds Try.pinned (OpenSpec.ofChange submitAfterSpec)

/-- ITS FALSE NEIGHBOUR: 'it returns false'. Refute it at one input. -/
def submitAfterWrong : ChangeSpec := { name := "submitAfter", fn := fun _ => fun
  | [d1, d2, d3] => { results := [.lit (.bool false)], args := [d1, d2, d3] }
  | _ => none }
def SubmitAfterWrongFalsely : Prop := submitAfterRow.holds Try.pinned (OpenSpec.ofChange submitAfterWrong)

/- THE SECOND FORM. 'bulk': how many values and letters a reading holds, each counted each time it is reached (what is shared counts as often as it is met; a slice's spare places count too). A statement '..UptoSaid' is the law's where the arguments, and the package variables that the reading takes, are together of bulk at most 1048576: NARROWER than '..Said'. Prove '..Said' where nothing that the law and all that it calls make is longer than what came in: it says more and counts as full. Else prove '..UptoSaid'. A law counts once. -/
mutual
def uptoBulk {H : Type} : DataW H → Nat
  | .lit (.string bytes) => bytes.length + 1
  | .lit _ => 1
  | .nil => 1
  | .ptr d => uptoBulk d + 1
  | .slice elems spare => uptoBulkAll elems + uptoBulkAll spare + 1
  | .agg parts => uptoBulkAll parts + 1
  | .iface _ d => uptoBulk d + 1
  | .map entries => uptoBulkEntries entries + 1
  | .held _ => 1
def uptoBulkAll {H : Type} : List (DataW H) → Nat
  | [] => 0
  | d :: r => uptoBulk d + uptoBulkAll r
def uptoBulkEntries {H : Type} : List (Lit × DataW H) → Nat
  | [] => 0
  | x :: r => uptoBulkEntry x + uptoBulkEntries r
def uptoBulkEntry {H : Type} : Lit × DataW H → Nat
  | (.string bytes, d) => bytes.length + uptoBulk d + 1
  | (_, d) => uptoBulk d + 1
 end
def uptoSmall : (H : Type) → List (DataW H) → Bool := fun _ ds => decide (uptoBulkAll ds ≤ 1048576)
def OpenSpec.upto (s : _root_.Go.ChangeSpec) : _root_.Go.OpenSpec := { _root_.Go.OpenSpec.ofChange s with cond := some uptoSmall }

/-- 'muleteerlaw03.PacketApart', WHERE WHAT IT READS IS OF BULK AT MOST 1048576: true; the input reads as it did. -/
def packetApartUptoRow : OpenClaim := { program := "ytclpjmhanhocoaa", sum := "00b0aa35c997018d5673261ab1686faa87ef3aa7326999c167a02f5e742b7645", func := "muleteer/muleteerlaw03.PacketApart", spec := "packetApart", apart := false, narrowed := true }
def PacketApartUptoSaid : Prop := packetApartUptoRow.holds Try.pinned (OpenSpec.upto packetApartSpec)

/-- 'muleteerlaw16.QueueOrder', WHERE WHAT IT READS IS OF BULK AT MOST 1048576: true; the input reads as it did. -/
def queueOrderUptoRow : OpenClaim := { program := "ytclpjmhanhocoaa", sum := "00b0aa35c997018d5673261ab1686faa87ef3aa7326999c167a02f5e742b7645", func := "muleteer/muleteerlaw16.QueueOrder", spec := "queueOrder", apart := false, narrowed := true }
def QueueOrderUptoSaid : Prop := queueOrderUptoRow.holds Try.pinned (OpenSpec.upto queueOrderSpec)

/-- 'muleteerlaw16.QueuePlays', WHERE WHAT IT READS IS OF BULK AT MOST 1048576: true; the input reads as it did. -/
def queuePlaysUptoRow : OpenClaim := { program := "ytclpjmhanhocoaa", sum := "00b0aa35c997018d5673261ab1686faa87ef3aa7326999c167a02f5e742b7645", func := "muleteer/muleteerlaw16.QueuePlays", spec := "queuePlays", apart := false, narrowed := true }
def QueuePlaysUptoSaid : Prop := queuePlaysUptoRow.holds Try.pinned (OpenSpec.upto queuePlaysSpec)

/-- 'muleteerlaw16.QueueNobody', WHERE WHAT IT READS IS OF BULK AT MOST 1048576: true; the input reads as it did. -/
def queueNobodyUptoRow : OpenClaim := { program := "ytclpjmhanhocoaa", sum := "00b0aa35c997018d5673261ab1686faa87ef3aa7326999c167a02f5e742b7645", func := "muleteer/muleteerlaw16.QueueNobody", spec := "queueNobody", apart := false, narrowed := true }
def QueueNobodyUptoSaid : Prop := queueNobodyUptoRow.holds Try.pinned (OpenSpec.upto queueNobodySpec)

/-- 'muleteerlaw05.TxnApart', WHERE WHAT IT READS IS OF BULK AT MOST 1048576: true; the input reads as it did. -/
def txnApartUptoRow : OpenClaim := { program := "ytclpjmhanhocoaa", sum := "00b0aa35c997018d5673261ab1686faa87ef3aa7326999c167a02f5e742b7645", func := "muleteer/muleteerlaw05.TxnApart", spec := "txnApart", apart := false, narrowed := true }
def TxnApartUptoSaid : Prop := txnApartUptoRow.holds Try.pinned (OpenSpec.upto txnApartSpec)

/-- 'muleteerlaw03.PacketAcks', WHERE WHAT IT READS IS OF BULK AT MOST 1048576: true; the input reads as it did. -/
def packetAcksUptoRow : OpenClaim := { program := "ytclpjmhanhocoaa", sum := "00b0aa35c997018d5673261ab1686faa87ef3aa7326999c167a02f5e742b7645", func := "muleteer/muleteerlaw03.PacketAcks", spec := "packetAcks", inPlace := ["internal/abi.NoEscape", "internal/bytealg.MakeNoZero"], apart := false, narrowed := true }
def PacketAcksUptoSaid : Prop := packetAcksUptoRow.holds Try.pinned (OpenSpec.upto packetAcksSpec)

/-- 'muleteerlaw31.SubmitAfter', WHERE WHAT IT READS IS OF BULK AT MOST 1048576: true; the input reads as it did. -/
def submitAfterUptoRow : OpenClaim := { program := "ytclpjmhanhocoaa", sum := "00b0aa35c997018d5673261ab1686faa87ef3aa7326999c167a02f5e742b7645", func := "muleteer/muleteerlaw31.SubmitAfter", spec := "submitAfter", unfollowed := true, recurses := true, apart := false, narrowed := true }
def SubmitAfterUptoSaid : Prop := submitAfterUptoRow.holds Try.pinned (OpenSpec.upto submitAfterSpec)

end Rows
end Go.Proofs.Ytclpjmhanhocoaa
