/-
  No cell of these rows narrows 'for every input' (looked for: loops, veiled, ifaces, maps, wideKeys, modest, calm, conditions, laid).
  DERIVED. THE GIVEN ROWS OF THIS SEAT. 5 by the template 'for every input the law returns true; each argument reads behind the call as it read before'; 0 by the template 'total and deterministic' (their statements: YtacddiidldppnaaTotals.lean).
  GIVEN WITH THE SEED: the statements are not yours to turn. If you find one false, say at which input.
  Laid BY PROGRAM, IN A SANDBOX (cutbox-rows.mjs): the forced cells as the released guide's own fill.sh prints them over the translation d2e0594ce9fbf1be… (all of the seat's roots in one cut). By AI agents, Wed Nov 11 2026. No macro, syntax, notation, axiom, sorry.
-/
import Derived.Test.YtacddiidldppnaaChecked
import GoSem.Claim
import GoSem.ClaimJoined
import GoSem.ClaimMapViews
import Derived.JoinedTies
import Derived.KernelRfl
namespace Go.Proofs.Ytacddiidldppnaa
/- THE CELL 'sum', in the pinned program and in every row, IS THE sha256 OF THE DUMP (.gsa) THAT YtacddiidldppnaaProg.lean LOADS. Nothing in Lean hashes anything: it is a label: what it is worth is what the hold of that sum in a sandbox is worth. -/
noncomputable def Try.pinned : Pinned := { name := "ytacddiidldppnaa", sum := "d2e0594ce9fbf1bea53540b04e2f5ff88cc66131b894b135a66c9a0862e53271", checked := Try.checked }
namespace Rows
def none {H : Type} : Left H := { results := [], args := [] }

/-- 'wapentakelaw23.FifoTurns': WHATEVER THE INPUT: true; the input reads as it did. -/
def fifoTurnsSpec : ChangeSpec := { name := "fifoTurns", fn := fun _ => fun
  | [d1, d2] => { results := [.lit (.bool true)], args := [d1, d2] }
  | _ => none }
def fifoTurnsRow : OpenClaim := { program := "ytacddiidldppnaa", sum := "d2e0594ce9fbf1bea53540b04e2f5ff88cc66131b894b135a66c9a0862e53271", func := "wapentake/wapentakelaw23.FifoTurns", spec := "fifoTurns", apart := false }
def FifoTurnsSaid : Prop := fifoTurnsRow.holds Try.pinned (OpenSpec.ofChange fifoTurnsSpec)

/-- ITS FALSE NEIGHBOUR: 'it returns false'. Refute it at one input. -/
def fifoTurnsWrong : ChangeSpec := { name := "fifoTurns", fn := fun _ => fun
  | [d1, d2] => { results := [.lit (.bool false)], args := [d1, d2] }
  | _ => none }
def FifoTurnsWrongFalsely : Prop := fifoTurnsRow.holds Try.pinned (OpenSpec.ofChange fifoTurnsWrong)

/-- 'wapentakelaw23.FifoPlays': WHATEVER THE INPUT: true; the input reads as it did. -/
def fifoPlaysSpec : ChangeSpec := { name := "fifoPlays", fn := fun _ => fun
  | [d1, d2] => { results := [.lit (.bool true)], args := [d1, d2] }
  | _ => none }
def fifoPlaysRow : OpenClaim := { program := "ytacddiidldppnaa", sum := "d2e0594ce9fbf1bea53540b04e2f5ff88cc66131b894b135a66c9a0862e53271", func := "wapentake/wapentakelaw23.FifoPlays", spec := "fifoPlays", apart := false }
def FifoPlaysSaid : Prop := fifoPlaysRow.holds Try.pinned (OpenSpec.ofChange fifoPlaysSpec)

/-- ITS FALSE NEIGHBOUR: 'it returns false'. Refute it at one input. -/
def fifoPlaysWrong : ChangeSpec := { name := "fifoPlays", fn := fun _ => fun
  | [d1, d2] => { results := [.lit (.bool false)], args := [d1, d2] }
  | _ => none }
def FifoPlaysWrongFalsely : Prop := fifoPlaysRow.holds Try.pinned (OpenSpec.ofChange fifoPlaysWrong)

/-- 'wapentakelaw23.FifoKnown': WHATEVER THE INPUT: true; the input reads as it did. -/
def fifoKnownSpec : ChangeSpec := { name := "fifoKnown", fn := fun _ => fun
  | [] => { results := [.lit (.bool true)], args := [] }
  | _ => none }
def fifoKnownRow : OpenClaim := { program := "ytacddiidldppnaa", sum := "d2e0594ce9fbf1bea53540b04e2f5ff88cc66131b894b135a66c9a0862e53271", func := "wapentake/wapentakelaw23.FifoKnown", spec := "fifoKnown", apart := false }
def FifoKnownSaid : Prop := fifoKnownRow.holds Try.pinned (OpenSpec.ofChange fifoKnownSpec)

/-- ITS FALSE NEIGHBOUR: 'it returns false'. Refute it at one input. -/
def fifoKnownWrong : ChangeSpec := { name := "fifoKnown", fn := fun _ => fun
  | [] => { results := [.lit (.bool false)], args := [] }
  | _ => none }
def FifoKnownWrongFalsely : Prop := fifoKnownRow.holds Try.pinned (OpenSpec.ofChange fifoKnownWrong)

/-- 'wapentakelaw23.FifoFair': WHATEVER THE INPUT: true; the input reads as it did. -/
def fifoFairSpec : ChangeSpec := { name := "fifoFair", fn := fun _ => fun
  | [d1, d2, d3] => { results := [.lit (.bool true)], args := [d1, d2, d3] }
  | _ => none }
def fifoFairRow : OpenClaim := { program := "ytacddiidldppnaa", sum := "d2e0594ce9fbf1bea53540b04e2f5ff88cc66131b894b135a66c9a0862e53271", func := "wapentake/wapentakelaw23.FifoFair", spec := "fifoFair", apart := false }
def FifoFairSaid : Prop := fifoFairRow.holds Try.pinned (OpenSpec.ofChange fifoFairSpec)

/-- ITS FALSE NEIGHBOUR: 'it returns false'. Refute it at one input. -/
def fifoFairWrong : ChangeSpec := { name := "fifoFair", fn := fun _ => fun
  | [d1, d2, d3] => { results := [.lit (.bool false)], args := [d1, d2, d3] }
  | _ => none }
def FifoFairWrongFalsely : Prop := fifoFairRow.holds Try.pinned (OpenSpec.ofChange fifoFairWrong)

/-- 'wapentakelaw23.FifoOwn': WHATEVER THE INPUT: true; the input reads as it did. -/
def fifoOwnSpec : ChangeSpec := { name := "fifoOwn", fn := fun _ => fun
  | [d] => { results := [.lit (.bool true)], args := [d] }
  | _ => none }
def fifoOwnRow : OpenClaim := { program := "ytacddiidldppnaa", sum := "d2e0594ce9fbf1bea53540b04e2f5ff88cc66131b894b135a66c9a0862e53271", func := "wapentake/wapentakelaw23.FifoOwn", spec := "fifoOwn", apart := false }
def FifoOwnSaid : Prop := fifoOwnRow.holds Try.pinned (OpenSpec.ofChange fifoOwnSpec)

/-- ITS FALSE NEIGHBOUR: 'it returns false'. Refute it at one input. -/
def fifoOwnWrong : ChangeSpec := { name := "fifoOwn", fn := fun _ => fun
  | [d] => { results := [.lit (.bool false)], args := [d] }
  | _ => none }
def FifoOwnWrongFalsely : Prop := fifoOwnRow.holds Try.pinned (OpenSpec.ofChange fifoOwnWrong)

/- THE SECOND FORM. 'bulk': how many values and letters a reading holds, each counted each time it is reached (what is shared counts as often as it is met; a slice's spare places count too). A statement '..UptoSaid' is the law's where the arguments, and the package variables that the reading takes, are together of bulk at most 1048576: NARROWER than '..Said'. Prove '..Said' where nothing that the law and all that it calls make is longer than what came in: it says more and counts as full. Else prove '..UptoSaid'. A law counts once. -/
mutual
def uptoBulk {H : Type} : DataW H → Nat
  | .lit (.string bytes) => bytes.length + 1
  | .lit _ => 1
  | .nil => 1
  | .ptr d => uptoBulk d + 1
  | .slice elems spare => uptoBulkAll elems + uptoBulkAll spare + 1
  | .agg parts => uptoBulkAll parts + 1
  | .iface _ d => uptoBulk d + 1
  | .map entries => uptoBulkEntries entries + 1
  | .held _ => 1
def uptoBulkAll {H : Type} : List (DataW H) → Nat
  | [] => 0
  | d :: r => uptoBulk d + uptoBulkAll r
def uptoBulkEntries {H : Type} : List (Lit × DataW H) → Nat
  | [] => 0
  | x :: r => uptoBulkEntry x + uptoBulkEntries r
def uptoBulkEntry {H : Type} : Lit × DataW H → Nat
  | (.string bytes, d) => bytes.length + uptoBulk d + 1
  | (_, d) => uptoBulk d + 1
 end
def uptoSmall : (H : Type) → List (DataW H) → Bool := fun _ ds => decide (uptoBulkAll ds ≤ 1048576)
def OpenSpec.upto (s : _root_.Go.ChangeSpec) : _root_.Go.OpenSpec := { _root_.Go.OpenSpec.ofChange s with cond := some uptoSmall }

/-- 'wapentakelaw23.FifoTurns', WHERE WHAT IT READS IS OF BULK AT MOST 1048576: true; the input reads as it did. -/
def fifoTurnsUptoRow : OpenClaim := { program := "ytacddiidldppnaa", sum := "d2e0594ce9fbf1bea53540b04e2f5ff88cc66131b894b135a66c9a0862e53271", func := "wapentake/wapentakelaw23.FifoTurns", spec := "fifoTurns", apart := false, narrowed := true }
def FifoTurnsUptoSaid : Prop := fifoTurnsUptoRow.holds Try.pinned (OpenSpec.upto fifoTurnsSpec)

/-- 'wapentakelaw23.FifoPlays', WHERE WHAT IT READS IS OF BULK AT MOST 1048576: true; the input reads as it did. -/
def fifoPlaysUptoRow : OpenClaim := { program := "ytacddiidldppnaa", sum := "d2e0594ce9fbf1bea53540b04e2f5ff88cc66131b894b135a66c9a0862e53271", func := "wapentake/wapentakelaw23.FifoPlays", spec := "fifoPlays", apart := false, narrowed := true }
def FifoPlaysUptoSaid : Prop := fifoPlaysUptoRow.holds Try.pinned (OpenSpec.upto fifoPlaysSpec)

/-- 'wapentakelaw23.FifoKnown', WHERE WHAT IT READS IS OF BULK AT MOST 1048576: true; the input reads as it did. -/
def fifoKnownUptoRow : OpenClaim := { program := "ytacddiidldppnaa", sum := "d2e0594ce9fbf1bea53540b04e2f5ff88cc66131b894b135a66c9a0862e53271", func := "wapentake/wapentakelaw23.FifoKnown", spec := "fifoKnown", apart := false, narrowed := true }
def FifoKnownUptoSaid : Prop := fifoKnownUptoRow.holds Try.pinned (OpenSpec.upto fifoKnownSpec)

/-- 'wapentakelaw23.FifoFair', WHERE WHAT IT READS IS OF BULK AT MOST 1048576: true; the input reads as it did. -/
def fifoFairUptoRow : OpenClaim := { program := "ytacddiidldppnaa", sum := "d2e0594ce9fbf1bea53540b04e2f5ff88cc66131b894b135a66c9a0862e53271", func := "wapentake/wapentakelaw23.FifoFair", spec := "fifoFair", apart := false, narrowed := true }
def FifoFairUptoSaid : Prop := fifoFairUptoRow.holds Try.pinned (OpenSpec.upto fifoFairSpec)

/-- 'wapentakelaw23.FifoOwn', WHERE WHAT IT READS IS OF BULK AT MOST 1048576: true; the input reads as it did. -/
def fifoOwnUptoRow : OpenClaim := { program := "ytacddiidldppnaa", sum := "d2e0594ce9fbf1bea53540b04e2f5ff88cc66131b894b135a66c9a0862e53271", func := "wapentake/wapentakelaw23.FifoOwn", spec := "fifoOwn", apart := false, narrowed := true }
def FifoOwnUptoSaid : Prop := fifoOwnUptoRow.holds Try.pinned (OpenSpec.upto fifoOwnSpec)

end Rows
end Go.Proofs.Ytacddiidldppnaa
