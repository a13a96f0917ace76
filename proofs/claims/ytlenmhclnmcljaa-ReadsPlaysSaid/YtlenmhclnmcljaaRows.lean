/-
  No cell of these rows narrows 'for every input' (looked for: loops, veiled, ifaces, maps, wideKeys, modest, calm, conditions, laid).
  DERIVED. THE GIVEN ROWS OF THIS SEAT. 4 by the template 'for every input the law returns true; each argument reads behind the call as it read before'; 0 by the template 'total and deterministic' (their statements: YtlenmhclnmcljaaTotals.lean).
  GIVEN WITH THE SEED: the statements are not yours to turn. If you find one false, say at which input.
  Laid BY PROGRAM, IN A SANDBOX (cutbox-rows.mjs): the forced cells as the released guide's own fill.sh prints them over the translation 0522e75dae91b1c1… (all of the seat's roots in one cut). By AI agents, Wed Nov 11 2026. No macro, syntax, notation, axiom, sorry.
-/
import Derived.Test.YtlenmhclnmcljaaChecked
import GoSem.Claim
import GoSem.ClaimJoined
import GoSem.ClaimMapViews
import Derived.JoinedTies
import Derived.KernelRfl
namespace Go.Proofs.Ytlenmhclnmcljaa
/- THE CELL 'sum', in the pinned program and in every row, IS THE sha256 OF THE DUMP (.gsa) THAT YtlenmhclnmcljaaProg.lean LOADS. Nothing in Lean hashes anything: it is a label: what it is worth is what the hold of that sum in a sandbox is worth. -/
noncomputable def Try.pinned : Pinned := { name := "ytlenmhclnmcljaa", sum := "0522e75dae91b1c16f5b28786f8beb1d7ea73c70cf71e27b3b7756f35ccaf242", checked := Try.checked }
namespace Rows
def none {H : Type} : Left H := { results := [], args := [] }

/-- 'wapentakelaw13.ReadsKnown': WHATEVER THE INPUT: true; the input reads as it did. -/
def readsKnownSpec : ChangeSpec := { name := "readsKnown", fn := fun _ => fun
  | [] => { results := [.lit (.bool true)], args := [] }
  | _ => none }
def readsKnownRow : OpenClaim := { program := "ytlenmhclnmcljaa", sum := "0522e75dae91b1c16f5b28786f8beb1d7ea73c70cf71e27b3b7756f35ccaf242", func := "wapentake/wapentakelaw13.ReadsKnown", spec := "readsKnown", unfollowed := true, recurses := true, apart := false }
def ReadsKnownSaid : Prop := readsKnownRow.holds Try.pinned (OpenSpec.ofChange readsKnownSpec)

/-- ITS FALSE NEIGHBOUR: 'it returns false'. Refute it at one input. -/
def readsKnownWrong : ChangeSpec := { name := "readsKnown", fn := fun _ => fun
  | [] => { results := [.lit (.bool false)], args := [] }
  | _ => none }
def ReadsKnownWrongFalsely : Prop := readsKnownRow.holds Try.pinned (OpenSpec.ofChange readsKnownWrong)

/-- 'wapentakelaw13.ReadsOnce': WHATEVER THE INPUT: true; the input reads as it did. -/
def readsOnceSpec : ChangeSpec := { name := "readsOnce", fn := fun _ => fun
  | [d] => { results := [.lit (.bool true)], args := [d] }
  | _ => none }
def readsOnceRow : OpenClaim := { program := "ytlenmhclnmcljaa", sum := "0522e75dae91b1c16f5b28786f8beb1d7ea73c70cf71e27b3b7756f35ccaf242", func := "wapentake/wapentakelaw13.ReadsOnce", spec := "readsOnce", unfollowed := true, recurses := true, apart := false }
def ReadsOnceSaid : Prop := readsOnceRow.holds Try.pinned (OpenSpec.ofChange readsOnceSpec)

/-- ITS FALSE NEIGHBOUR: 'it returns false'. Refute it at one input. -/
def readsOnceWrong : ChangeSpec := { name := "readsOnce", fn := fun _ => fun
  | [d] => { results := [.lit (.bool false)], args := [d] }
  | _ => none }
def ReadsOnceWrongFalsely : Prop := readsOnceRow.holds Try.pinned (OpenSpec.ofChange readsOnceWrong)

/-- 'wapentakelaw13.ReadsLate': WHATEVER THE INPUT: true; the input reads as it did. -/
def readsLateSpec : ChangeSpec := { name := "readsLate", fn := fun _ => fun
  | [d1, d2, d3, d4] => { results := [.lit (.bool true)], args := [d1, d2, d3, d4] }
  | _ => none }
def readsLateRow : OpenClaim := { program := "ytlenmhclnmcljaa", sum := "0522e75dae91b1c16f5b28786f8beb1d7ea73c70cf71e27b3b7756f35ccaf242", func := "wapentake/wapentakelaw13.ReadsLate", spec := "readsLate", unfollowed := true, recurses := true, apart := false }
def ReadsLateSaid : Prop := readsLateRow.holds Try.pinned (OpenSpec.ofChange readsLateSpec)

/-- ITS FALSE NEIGHBOUR: 'it returns false'. Refute it at one input. -/
def readsLateWrong : ChangeSpec := { name := "readsLate", fn := fun _ => fun
  | [d1, d2, d3, d4] => { results := [.lit (.bool false)], args := [d1, d2, d3, d4] }
  | _ => none }
def ReadsLateWrongFalsely : Prop := readsLateRow.holds Try.pinned (OpenSpec.ofChange readsLateWrong)

/-- 'wapentakelaw13.ReadsPlays': WHATEVER THE INPUT: true; the input reads as it did. -/
def readsPlaysSpec : ChangeSpec := { name := "readsPlays", fn := fun _ => fun
  | [d1, d2] => { results := [.lit (.bool true)], args := [d1, d2] }
  | _ => none }
def readsPlaysRow : OpenClaim := { program := "ytlenmhclnmcljaa", sum := "0522e75dae91b1c16f5b28786f8beb1d7ea73c70cf71e27b3b7756f35ccaf242", func := "wapentake/wapentakelaw13.ReadsPlays", spec := "readsPlays", unfollowed := true, recurses := true, apart := false }
def ReadsPlaysSaid : Prop := readsPlaysRow.holds Try.pinned (OpenSpec.ofChange readsPlaysSpec)

/-- ITS FALSE NEIGHBOUR: 'it returns false'. Refute it at one input. -/
def readsPlaysWrong : ChangeSpec := { name := "readsPlays", fn := fun _ => fun
  | [d1, d2] => { results := [.lit (.bool false)], args := [d1, d2] }
  | _ => none }
def ReadsPlaysWrongFalsely : Prop := readsPlaysRow.holds Try.pinned (OpenSpec.ofChange readsPlaysWrong)

/- THE SECOND FORM. 'bulk': how many values and letters a reading holds, each counted each time it is reached (what is shared counts as often as it is met; a slice's spare places count too). A statement '..UptoSaid' is the law's where the arguments, and the package variables that the reading takes, are together of bulk at most 1048576: NARROWER than '..Said'. Prove '..Said' where nothing that the law and all that it calls make is longer than what came in: it says more and counts as full. Else prove '..UptoSaid'. A law counts once. -/
mutual
def uptoBulk {H : Type} : DataW H → Nat
  | .lit (.string bytes) => bytes.length + 1
  | .lit _ => 1
  | .nil => 1
  | .ptr d => uptoBulk d + 1
  | .slice elems spare => uptoBulkAll elems + uptoBulkAll spare + 1
  | .agg parts => uptoBulkAll parts + 1
  | .iface _ d => uptoBulk d + 1
  | .map entries => uptoBulkEntries entries + 1
  | .held _ => 1
def uptoBulkAll {H : Type} : List (DataW H) → Nat
  | [] => 0
  | d :: r => uptoBulk d + uptoBulkAll r
def uptoBulkEntries {H : Type} : List (Lit × DataW H) → Nat
  | [] => 0
  | x :: r => uptoBulkEntry x + uptoBulkEntries r
def uptoBulkEntry {H : Type} : Lit × DataW H → Nat
  | (.string bytes, d) => bytes.length + uptoBulk d + 1
  | (_, d) => uptoBulk d + 1
 end
def uptoSmall : (H : Type) → List (DataW H) → Bool := fun _ ds => decide (uptoBulkAll ds ≤ 1048576)
def OpenSpec.upto (s : _root_.Go.ChangeSpec) : _root_.Go.OpenSpec := { _root_.Go.OpenSpec.ofChange s with cond := some uptoSmall }

/-- 'wapentakelaw13.ReadsKnown', WHERE WHAT IT READS IS OF BULK AT MOST 1048576: true; the input reads as it did. -/
def readsKnownUptoRow : OpenClaim := { program := "ytlenmhclnmcljaa", sum := "0522e75dae91b1c16f5b28786f8beb1d7ea73c70cf71e27b3b7756f35ccaf242", func := "wapentake/wapentakelaw13.ReadsKnown", spec := "readsKnown", unfollowed := true, recurses := true, apart := false, narrowed := true }
def ReadsKnownUptoSaid : Prop := readsKnownUptoRow.holds Try.pinned (OpenSpec.upto readsKnownSpec)

/-- 'wapentakelaw13.ReadsOnce', WHERE WHAT IT READS IS OF BULK AT MOST 1048576: true; the input reads as it did. -/
def readsOnceUptoRow : OpenClaim := { program := "ytlenmhclnmcljaa", sum := "0522e75dae91b1c16f5b28786f8beb1d7ea73c70cf71e27b3b7756f35ccaf242", func := "wapentake/wapentakelaw13.ReadsOnce", spec := "readsOnce", unfollowed := true, recurses := true, apart := false, narrowed := true }
def ReadsOnceUptoSaid : Prop := readsOnceUptoRow.holds Try.pinned (OpenSpec.upto readsOnceSpec)

/-- 'wapentakelaw13.ReadsLate', WHERE WHAT IT READS IS OF BULK AT MOST 1048576: true; the input reads as it did. -/
def readsLateUptoRow : OpenClaim := { program := "ytlenmhclnmcljaa", sum := "0522e75dae91b1c16f5b28786f8beb1d7ea73c70cf71e27b3b7756f35ccaf242", func := "wapentake/wapentakelaw13.ReadsLate", spec := "readsLate", unfollowed := true, recurses := true, apart := false, narrowed := true }
def ReadsLateUptoSaid : Prop := readsLateUptoRow.holds Try.pinned (OpenSpec.upto readsLateSpec)

/-- 'wapentakelaw13.ReadsPlays', WHERE WHAT IT READS IS OF BULK AT MOST 1048576: true; the input reads as it did. -/
def readsPlaysUptoRow : OpenClaim := { program := "ytlenmhclnmcljaa", sum := "0522e75dae91b1c16f5b28786f8beb1d7ea73c70cf71e27b3b7756f35ccaf242", func := "wapentake/wapentakelaw13.ReadsPlays", spec := "readsPlays", unfollowed := true, recurses := true, apart := false, narrowed := true }
def ReadsPlaysUptoSaid : Prop := readsPlaysUptoRow.holds Try.pinned (OpenSpec.upto readsPlaysSpec)

end Rows
end Go.Proofs.Ytlenmhclnmcljaa
