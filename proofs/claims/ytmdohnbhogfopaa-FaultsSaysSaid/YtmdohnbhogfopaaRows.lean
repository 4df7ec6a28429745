/-
  No cell of these rows narrows 'for every input' (looked for: loops, veiled, ifaces, maps, wideKeys, modest, calm, conditions, laid).
  DERIVED. THE GIVEN ROWS OF THIS SEAT. 12 by the template 'for every input the law returns true; each argument reads behind the call as it read before'; 0 by the template 'total and deterministic' (their statements: YtmdohnbhogfopaaTotals.lean).
  GIVEN WITH THE SEED: the statements are not yours to turn. If you find one false, say at which input.
  Laid BY PROGRAM, IN A SANDBOX (cutbox-rows.mjs): the forced cells as the released guide's own fill.sh prints them over the translation f1aae5f897c90df1… (all of the seat's roots in one cut). By AI agents, Wed Nov 11 2026. No macro, syntax, notation, axiom, sorry.
-/
import Derived.Test.YtmdohnbhogfopaaChecked
import GoSem.Claim
import GoSem.ClaimJoined
import GoSem.ClaimMapViews
import Derived.JoinedTies
import Derived.KernelRfl
namespace Go.Proofs.Ytmdohnbhogfopaa
/- THE CELL 'sum', in the pinned program and in every row, IS THE sha256 OF THE DUMP (.gsa) THAT YtmdohnbhogfopaaProg.lean LOADS. Nothing in Lean hashes anything: it is a label: what it is worth is what the hold of that sum in a sandbox is worth. -/
noncomputable def Try.pinned : Pinned := { name := "ytmdohnbhogfopaa", sum := "f1aae5f897c90df137f1c4e6aa414248ef90823847f4b400d7462b47075953ac", checked := Try.checked }
namespace Rows
def none {H : Type} : Left H := { results := [], args := [] }

/-- 'sennitlaw29.FaultsLate': WHATEVER THE INPUT: true; the input reads as it did. -/
def faultsLateSpec : ChangeSpec := { name := "faultsLate", fn := fun _ => fun
  | [d1, d2] => { results := [.lit (.bool true)], args := [d1, d2] }
  | _ => none }
def faultsLateRow : OpenClaim := { program := "ytmdohnbhogfopaa", sum := "f1aae5f897c90df137f1c4e6aa414248ef90823847f4b400d7462b47075953ac", func := "sennit/sennitlaw29.FaultsLate", spec := "faultsLate", unfollowed := true, recurses := true, plainKeys := false, apart := false }
def FaultsLateSaid : Prop := faultsLateRow.holds Try.pinned (OpenSpec.ofChange faultsLateSpec)

/-- ITS FALSE NEIGHBOUR: 'it returns false'. Refute it at one input. -/
def faultsLateWrong : ChangeSpec := { name := "faultsLate", fn := fun _ => fun
  | [d1, d2] => { results := [.lit (.bool false)], args := [d1, d2] }
  | _ => none }
def FaultsLateWrongFalsely : Prop := faultsLateRow.holds Try.pinned (OpenSpec.ofChange faultsLateWrong)

/-- 'sennitlaw29.FaultsFrame': WHATEVER THE INPUT: true; the input reads as it did. -/
def faultsFrameSpec : ChangeSpec := { name := "faultsFrame", fn := fun _ => fun
  | [d1, d2] => { results := [.lit (.bool true)], args := [d1, d2] }
  | _ => none }
def faultsFrameRow : OpenClaim := { program := "ytmdohnbhogfopaa", sum := "f1aae5f897c90df137f1c4e6aa414248ef90823847f4b400d7462b47075953ac", func := "sennit/sennitlaw29.FaultsFrame", spec := "faultsFrame", unfollowed := true, recurses := true, plainKeys := false, apart := false }
def FaultsFrameSaid : Prop := faultsFrameRow.holds Try.pinned (OpenSpec.ofChange faultsFrameSpec)

/-- ITS FALSE NEIGHBOUR: 'it returns false'. Refute it at one input. -/
def faultsFrameWrong : ChangeSpec := { name := "faultsFrame", fn := fun _ => fun
  | [d1, d2] => { results := [.lit (.bool false)], args := [d1, d2] }
  | _ => none }
def FaultsFrameWrongFalsely : Prop := faultsFrameRow.holds Try.pinned (OpenSpec.ofChange faultsFrameWrong)

/-- 'sennitlaw29.FaultsSays': WHATEVER THE INPUT: true; the input reads as it did. -/
def faultsSaysSpec : ChangeSpec := { name := "faultsSays", fn := fun _ => fun
  | [d1, d2, d3] => { results := [.lit (.bool true)], args := [d1, d2, d3] }
  | _ => none }
def faultsSaysRow : OpenClaim := { program := "ytmdohnbhogfopaa", sum := "f1aae5f897c90df137f1c4e6aa414248ef90823847f4b400d7462b47075953ac", func := "sennit/sennitlaw29.FaultsSays", spec := "faultsSays", unfollowed := true, recurses := true, plainKeys := false, apart := false }
def FaultsSaysSaid : Prop := faultsSaysRow.holds Try.pinned (OpenSpec.ofChange faultsSaysSpec)

/-- ITS FALSE NEIGHBOUR: 'it returns false'. Refute it at one input. -/
def faultsSaysWrong : ChangeSpec := { name := "faultsSays", fn := fun _ => fun
  | [d1, d2, d3] => { results := [.lit (.bool false)], args := [d1, d2, d3] }
  | _ => none }
def FaultsSaysWrongFalsely : Prop := faultsSaysRow.holds Try.pinned (OpenSpec.ofChange faultsSaysWrong)

/-- 'sennitlaw29.FaultsMix': WHATEVER THE INPUT: true; the input reads as it did. -/
def faultsMixSpec : ChangeSpec := { name := "faultsMix", fn := fun _ => fun
  | [d] => { results := [.lit (.bool true)], args := [d] }
  | _ => none }
def faultsMixRow : OpenClaim := { program := "ytmdohnbhogfopaa", sum := "f1aae5f897c90df137f1c4e6aa414248ef90823847f4b400d7462b47075953ac", func := "sennit/sennitlaw29.FaultsMix", spec := "faultsMix", unfollowed := true, recurses := true, plainKeys := false, apart := false }
def FaultsMixSaid : Prop := faultsMixRow.holds Try.pinned (OpenSpec.ofChange faultsMixSpec)

/-- ITS FALSE NEIGHBOUR: 'it returns false'. Refute it at one input. -/
def faultsMixWrong : ChangeSpec := { name := "faultsMix", fn := fun _ => fun
  | [d] => { results := [.lit (.bool false)], args := [d] }
  | _ => none }
def FaultsMixWrongFalsely : Prop := faultsMixRow.holds Try.pinned (OpenSpec.ofChange faultsMixWrong)

/-- 'sennitlaw29.FaultsVoid': WHATEVER THE INPUT: true; the input reads as it did. -/
def faultsVoidSpec : ChangeSpec := { name := "faultsVoid", fn := fun _ => fun
  | [d] => { results := [.lit (.bool true)], args := [d] }
  | _ => none }
def faultsVoidRow : OpenClaim := { program := "ytmdohnbhogfopaa", sum := "f1aae5f897c90df137f1c4e6aa414248ef90823847f4b400d7462b47075953ac", func := "sennit/sennitlaw29.FaultsVoid", spec := "faultsVoid", unfollowed := true, recurses := true, plainKeys := false, apart := false }
def FaultsVoidSaid : Prop := faultsVoidRow.holds Try.pinned (OpenSpec.ofChange faultsVoidSpec)

/-- ITS FALSE NEIGHBOUR: 'it returns false'. Refute it at one input. -/
def faultsVoidWrong : ChangeSpec := { name := "faultsVoid", fn := fun _ => fun
  | [d] => { results := [.lit (.bool false)], args := [d] }
  | _ => none }
def FaultsVoidWrongFalsely : Prop := faultsVoidRow.holds Try.pinned (OpenSpec.ofChange faultsVoidWrong)

/-- 'sennitlaw29.FaultsApart': WHATEVER THE INPUT: true; the input reads as it did. -/
def faultsApartSpec : ChangeSpec := { name := "faultsApart", fn := fun _ => fun
  | [d1, d2, d3] => { results := [.lit (.bool true)], args := [d1, d2, d3] }
  | _ => none }
def faultsApartRow : OpenClaim := { program := "ytmdohnbhogfopaa", sum := "f1aae5f897c90df137f1c4e6aa414248ef90823847f4b400d7462b47075953ac", func := "sennit/sennitlaw29.FaultsApart", spec := "faultsApart", unfollowed := true, recurses := true, plainKeys := false, apart := false }
def FaultsApartSaid : Prop := faultsApartRow.holds Try.pinned (OpenSpec.ofChange faultsApartSpec)

/-- ITS FALSE NEIGHBOUR: 'it returns false'. Refute it at one input. -/
def faultsApartWrong : ChangeSpec := { name := "faultsApart", fn := fun _ => fun
  | [d1, d2, d3] => { results := [.lit (.bool false)], args := [d1, d2, d3] }
  | _ => none }
def FaultsApartWrongFalsely : Prop := faultsApartRow.holds Try.pinned (OpenSpec.ofChange faultsApartWrong)

/-- 'sennitlaw29.FaultsAgain': WHATEVER THE INPUT: true; the input reads as it did. -/
def faultsAgainSpec : ChangeSpec := { name := "faultsAgain", fn := fun _ => fun
  | [d1, d2, d3] => { results := [.lit (.bool true)], args := [d1, d2, d3] }
  | _ => none }
def faultsAgainRow : OpenClaim := { program := "ytmdohnbhogfopaa", sum := "f1aae5f897c90df137f1c4e6aa414248ef90823847f4b400d7462b47075953ac", func := "sennit/sennitlaw29.FaultsAgain", spec := "faultsAgain", unfollowed := true, recurses := true, plainKeys := false, apart := false }
def FaultsAgainSaid : Prop := faultsAgainRow.holds Try.pinned (OpenSpec.ofChange faultsAgainSpec)

/-- ITS FALSE NEIGHBOUR: 'it returns false'. Refute it at one input. -/
def faultsAgainWrong : ChangeSpec := { name := "faultsAgain", fn := fun _ => fun
  | [d1, d2, d3] => { results := [.lit (.bool false)], args := [d1, d2, d3] }
  | _ => none }
def FaultsAgainWrongFalsely : Prop := faultsAgainRow.holds Try.pinned (OpenSpec.ofChange faultsAgainWrong)

/-- 'sennitlaw05.FramesPut': WHATEVER THE INPUT: true; the input reads as it did. -/
def framesPutSpec : ChangeSpec := { name := "framesPut", fn := fun _ => fun
  | [d1, d2, d3] => { results := [.lit (.bool true)], args := [d1, d2, d3] }
  | _ => none }
def framesPutRow : OpenClaim := { program := "ytmdohnbhogfopaa", sum := "f1aae5f897c90df137f1c4e6aa414248ef90823847f4b400d7462b47075953ac", func := "sennit/sennitlaw05.FramesPut", spec := "framesPut", unfollowed := true, recurses := true, plainKeys := false, apart := false }
def FramesPutSaid : Prop := framesPutRow.holds Try.pinned (OpenSpec.ofChange framesPutSpec)

/-- ITS FALSE NEIGHBOUR: 'it returns false'. Refute it at one input. -/
def framesPutWrong : ChangeSpec := { name := "framesPut", fn := fun _ => fun
  | [d1, d2, d3] => { results := [.lit (.bool false)], args := [d1, d2, d3] }
  | _ => none }
def FramesPutWrongFalsely : Prop := framesPutRow.holds Try.pinned (OpenSpec.ofChange framesPutWrong)

/-- 'sennitlaw05.FramesGet': WHATEVER THE INPUT: true; the input reads as it did. -/
def framesGetSpec : ChangeSpec := { name := "framesGet", fn := fun _ => fun
  | [d] => { results := [.lit (.bool true)], args := [d] }
  | _ => none }
def framesGetRow : OpenClaim := { program := "ytmdohnbhogfopaa", sum := "f1aae5f897c90df137f1c4e6aa414248ef90823847f4b400d7462b47075953ac", func := "sennit/sennitlaw05.FramesGet", spec := "framesGet", unfollowed := true, recurses := true, plainKeys := false, apart := false }
def FramesGetSaid : Prop := framesGetRow.holds Try.pinned (OpenSpec.ofChange framesGetSpec)

/-- ITS FALSE NEIGHBOUR: 'it returns false'. Refute it at one input. -/
def framesGetWrong : ChangeSpec := { name := "framesGet", fn := fun _ => fun
  | [d] => { results := [.lit (.bool false)], args := [d] }
  | _ => none }
def FramesGetWrongFalsely : Prop := framesGetRow.holds Try.pinned (OpenSpec.ofChange framesGetWrong)

/-- 'sennitlaw05.FramesRead': WHATEVER THE INPUT: true; the input reads as it did. -/
def framesReadSpec : ChangeSpec := { name := "framesRead", fn := fun _ => fun
  | [d] => { results := [.lit (.bool true)], args := [d] }
  | _ => none }
def framesReadRow : OpenClaim := { program := "ytmdohnbhogfopaa", sum := "f1aae5f897c90df137f1c4e6aa414248ef90823847f4b400d7462b47075953ac", func := "sennit/sennitlaw05.FramesRead", spec := "framesRead", unfollowed := true, recurses := true, plainKeys := false, apart := false }
def FramesReadSaid : Prop := framesReadRow.holds Try.pinned (OpenSpec.ofChange framesReadSpec)

/-- ITS FALSE NEIGHBOUR: 'it returns false'. Refute it at one input. -/
def framesReadWrong : ChangeSpec := { name := "framesRead", fn := fun _ => fun
  | [d] => { results := [.lit (.bool false)], args := [d] }
  | _ => none }
def FramesReadWrongFalsely : Prop := framesReadRow.holds Try.pinned (OpenSpec.ofChange framesReadWrong)

/-- 'sennitlaw05.FramesBack': WHATEVER THE INPUT: true; the input reads as it did. -/
def framesBackSpec : ChangeSpec := { name := "framesBack", fn := fun _ => fun
  | [d1, d2, d3] => { results := [.lit (.bool true)], args := [d1, d2, d3] }
  | _ => none }
def framesBackRow : OpenClaim := { program := "ytmdohnbhogfopaa", sum := "f1aae5f897c90df137f1c4e6aa414248ef90823847f4b400d7462b47075953ac", func := "sennit/sennitlaw05.FramesBack", spec := "framesBack", unfollowed := true, recurses := true, plainKeys := false, apart := false }
def FramesBackSaid : Prop := framesBackRow.holds Try.pinned (OpenSpec.ofChange framesBackSpec)

/-- ITS FALSE NEIGHBOUR: 'it returns false'. Refute it at one input. -/
def framesBackWrong : ChangeSpec := { name := "framesBack", fn := fun _ => fun
  | [d1, d2, d3] => { results := [.lit (.bool false)], args := [d1, d2, d3] }
  | _ => none }
def FramesBackWrongFalsely : Prop := framesBackRow.holds Try.pinned (OpenSpec.ofChange framesBackWrong)

/-- 'sennitlaw05.FramesTurned': WHATEVER THE INPUT: true; the input reads as it did. -/
def framesTurnedSpec : ChangeSpec := { name := "framesTurned", fn := fun _ => fun
  | [d1, d2, d3] => { results := [.lit (.bool true)], args := [d1, d2, d3] }
  | _ => none }
def framesTurnedRow : OpenClaim := { program := "ytmdohnbhogfopaa", sum := "f1aae5f897c90df137f1c4e6aa414248ef90823847f4b400d7462b47075953ac", func := "sennit/sennitlaw05.FramesTurned", spec := "framesTurned", unfollowed := true, recurses := true, plainKeys := false, apart := false }
def FramesTurnedSaid : Prop := framesTurnedRow.holds Try.pinned (OpenSpec.ofChange framesTurnedSpec)

/-- ITS FALSE NEIGHBOUR: 'it returns false'. Refute it at one input. -/
def framesTurnedWrong : ChangeSpec := { name := "framesTurned", fn := fun _ => fun
  | [d1, d2, d3] => { results := [.lit (.bool false)], args := [d1, d2, d3] }
  | _ => none }
def FramesTurnedWrongFalsely : Prop := framesTurnedRow.holds Try.pinned (OpenSpec.ofChange framesTurnedWrong)

/- THE SECOND FORM. 'bulk': how many values and letters a reading holds, each counted each time it is reached (what is shared counts as often as it is met; a slice's spare places count too). A statement '..UptoSaid' is the law's where the arguments, and the package variables that the reading takes, are together of bulk at most 1048576: NARROWER than '..Said'. Prove '..Said' where nothing that the law and all that it calls make is longer than what came in: it says more and counts as full. Else prove '..UptoSaid'. A law counts once. -/
mutual
def uptoBulk {H : Type} : DataW H → Nat
  | .lit (.string bytes) => bytes.length + 1
  | .lit _ => 1
  | .nil => 1
  | .ptr d => uptoBulk d + 1
  | .slice elems spare => uptoBulkAll elems + uptoBulkAll spare + 1
  | .agg parts => uptoBulkAll parts + 1
  | .iface _ d => uptoBulk d + 1
  | .map entries => uptoBulkEntries entries + 1
  | .held _ => 1
def uptoBulkAll {H : Type} : List (DataW H) → Nat
  | [] => 0
  | d :: r => uptoBulk d + uptoBulkAll r
def uptoBulkEntries {H : Type} : List (Lit × DataW H) → Nat
  | [] => 0
  | x :: r => uptoBulkEntry x + uptoBulkEntries r
def uptoBulkEntry {H : Type} : Lit × DataW H → Nat
  | (.string bytes, d) => bytes.length + uptoBulk d + 1
  | (_, d) => uptoBulk d + 1
 end
def uptoSmall : (H : Type) → List (DataW H) → Bool := fun _ ds => decide (uptoBulkAll ds ≤ 1048576)
def OpenSpec.upto (s : _root_.Go.ChangeSpec) : _root_.Go.OpenSpec := { _root_.Go.OpenSpec.ofChange s with cond := some uptoSmall }

/-- 'sennitlaw29.FaultsLate', WHERE WHAT IT READS IS OF BULK AT MOST 1048576: true; the input reads as it did. -/
def faultsLateUptoRow : OpenClaim := { program := "ytmdohnbhogfopaa", sum := "f1aae5f897c90df137f1c4e6aa414248ef90823847f4b400d7462b47075953ac", func := "sennit/sennitlaw29.FaultsLate", spec := "faultsLate", unfollowed := true, recurses := true, plainKeys := false, apart := false, narrowed := true }
def FaultsLateUptoSaid : Prop := faultsLateUptoRow.holds Try.pinned (OpenSpec.upto faultsLateSpec)

/-- 'sennitlaw29.FaultsFrame', WHERE WHAT IT READS IS OF BULK AT MOST 1048576: true; the input reads as it did. -/
def faultsFrameUptoRow : OpenClaim := { program := "ytmdohnbhogfopaa", sum := "f1aae5f897c90df137f1c4e6aa414248ef90823847f4b400d7462b47075953ac", func := "sennit/sennitlaw29.FaultsFrame", spec := "faultsFrame", unfollowed := true, recurses := true, plainKeys := false, apart := false, narrowed := true }
def FaultsFrameUptoSaid : Prop := faultsFrameUptoRow.holds Try.pinned (OpenSpec.upto faultsFrameSpec)

/-- 'sennitlaw29.FaultsSays', WHERE WHAT IT READS IS OF BULK AT MOST 1048576: true; the input reads as it did. -/
def faultsSaysUptoRow : OpenClaim := { program := "ytmdohnbhogfopaa", sum := "f1aae5f897c90df137f1c4e6aa414248ef90823847f4b400d7462b47075953ac", func := "sennit/sennitlaw29.FaultsSays", spec := "faultsSays", unfollowed := true, recurses := true, plainKeys := false, apart := false, narrowed := true }
def FaultsSaysUptoSaid : Prop := faultsSaysUptoRow.holds Try.pinned (OpenSpec.upto faultsSaysSpec)

/-- 'sennitlaw29.FaultsMix', WHERE WHAT IT READS IS OF BULK AT MOST 1048576: true; the input reads as it did. -/
def faultsMixUptoRow : OpenClaim := { program := "ytmdohnbhogfopaa", sum := "f1aae5f897c90df137f1c4e6aa414248ef90823847f4b400d7462b47075953ac", func := "sennit/sennitlaw29.FaultsMix", spec := "faultsMix", unfollowed := true, recurses := true, plainKeys := false, apart := false, narrowed := true }
def FaultsMixUptoSaid : Prop := faultsMixUptoRow.holds Try.pinned (OpenSpec.upto faultsMixSpec)

/-- 'sennitlaw29.FaultsVoid', WHERE WHAT IT READS IS OF BULK AT MOST 1048576: true; the input reads as it did. -/
def faultsVoidUptoRow : OpenClaim := { program := "ytmdohnbhogfopaa", sum := "f1aae5f897c90df137f1c4e6aa414248ef90823847f4b400d7462b47075953ac", func := "sennit/sennitlaw29.FaultsVoid", spec := "faultsVoid", unfollowed := true, recurses := true, plainKeys := false, apart := false, narrowed := true }
def FaultsVoidUptoSaid : Prop := faultsVoidUptoRow.holds Try.pinned (OpenSpec.upto faultsVoidSpec)

/-- 'sennitlaw29.FaultsApart', WHERE WHAT IT READS IS OF BULK AT MOST 1048576: true; the input reads as it did. -/
def faultsApartUptoRow : OpenClaim := { program := "ytmdohnbhogfopaa", sum := "f1aae5f897c90df137f1c4e6aa414248ef90823847f4b400d7462b47075953ac", func := "sennit/sennitlaw29.FaultsApart", spec := "faultsApart", unfollowed := true, recurses := true, plainKeys := false, apart := false, narrowed := true }
def FaultsApartUptoSaid : Prop := faultsApartUptoRow.holds Try.pinned (OpenSpec.upto faultsApartSpec)

/-- 'sennitlaw29.FaultsAgain', WHERE WHAT IT READS IS OF BULK AT MOST 1048576: true; the input reads as it did. -/
def faultsAgainUptoRow : OpenClaim := { program := "ytmdohnbhogfopaa", sum := "f1aae5f897c90df137f1c4e6aa414248ef90823847f4b400d7462b47075953ac", func := "sennit/sennitlaw29.FaultsAgain", spec := "faultsAgain", unfollowed := true, recurses := true, plainKeys := false, apart := false, narrowed := true }
def FaultsAgainUptoSaid : Prop := faultsAgainUptoRow.holds Try.pinned (OpenSpec.upto faultsAgainSpec)

/-- 'sennitlaw05.FramesPut', WHERE WHAT IT READS IS OF BULK AT MOST 1048576: true; the input reads as it did. -/
def framesPutUptoRow : OpenClaim := { program := "ytmdohnbhogfopaa", sum := "f1aae5f897c90df137f1c4e6aa414248ef90823847f4b400d7462b47075953ac", func := "sennit/sennitlaw05.FramesPut", spec := "framesPut", unfollowed := true, recurses := true, plainKeys := false, apart := false, narrowed := true }
def FramesPutUptoSaid : Prop := framesPutUptoRow.holds Try.pinned (OpenSpec.upto framesPutSpec)

/-- 'sennitlaw05.FramesGet', WHERE WHAT IT READS IS OF BULK AT MOST 1048576: true; the input reads as it did. -/
def framesGetUptoRow : OpenClaim := { program := "ytmdohnbhogfopaa", sum := "f1aae5f897c90df137f1c4e6aa414248ef90823847f4b400d7462b47075953ac", func := "sennit/sennitlaw05.FramesGet", spec := "framesGet", unfollowed := true, recurses := true, plainKeys := false, apart := false, narrowed := true }
def FramesGetUptoSaid : Prop := framesGetUptoRow.holds Try.pinned (OpenSpec.upto framesGetSpec)

/-- 'sennitlaw05.FramesRead', WHERE WHAT IT READS IS OF BULK AT MOST 1048576: true; the input reads as it did. -/
def framesReadUptoRow : OpenClaim := { program := "ytmdohnbhogfopaa", sum := "f1aae5f897c90df137f1c4e6aa414248ef90823847f4b400d7462b47075953ac", func := "sennit/sennitlaw05.FramesRead", spec := "framesRead", unfollowed := true, recurses := true, plainKeys := false, apart := false, narrowed := true }
def FramesReadUptoSaid : Prop := framesReadUptoRow.holds Try.pinned (OpenSpec.upto framesReadSpec)

/-- 'sennitlaw05.FramesBack', WHERE WHAT IT READS IS OF BULK AT MOST 1048576: true; the input reads as it did. -/
def framesBackUptoRow : OpenClaim := { program := "ytmdohnbhogfopaa", sum := "f1aae5f897c90df137f1c4e6aa414248ef90823847f4b400d7462b47075953ac", func := "sennit/sennitlaw05.FramesBack", spec := "framesBack", unfollowed := true, recurses := true, plainKeys := false, apart := false, narrowed := true }
def FramesBackUptoSaid : Prop := framesBackUptoRow.holds Try.pinned (OpenSpec.upto framesBackSpec)

/-- 'sennitlaw05.FramesTurned', WHERE WHAT IT READS IS OF BULK AT MOST 1048576: true; the input reads as it did. -/
def framesTurnedUptoRow : OpenClaim := { program := "ytmdohnbhogfopaa", sum := "f1aae5f897c90df137f1c4e6aa414248ef90823847f4b400d7462b47075953ac", func := "sennit/sennitlaw05.FramesTurned", spec := "framesTurned", unfollowed := true, recurses := true, plainKeys := false, apart := false, narrowed := true }
def FramesTurnedUptoSaid : Prop := framesTurnedUptoRow.holds Try.pinned (OpenSpec.upto framesTurnedSpec)

end Rows
end Go.Proofs.Ytmdohnbhogfopaa
