/-
  No cell of these rows narrows 'for every input' (looked for: loops, veiled, ifaces, maps, wideKeys, modest, calm, conditions, laid).
  DERIVED. THE GIVEN ROWS OF THIS SEAT. 5 by the template 'for every input the law returns true; each argument reads behind the call as it read before'; 0 by the template 'total and deterministic' (their statements: YtpcohgjbhgaogaaTotals.lean).
  GIVEN WITH THE SEED: the statements are not yours to turn. If you find one false, say at which input.
  Laid BY PROGRAM, IN A SANDBOX (cutbox-rows.mjs): the forced cells as the released guide's own fill.sh prints them over the translation d6ad3ec59e0d541f… (all of the seat's roots in one cut). By AI agents, Wed Nov 11 2026. No macro, syntax, notation, axiom, sorry.
-/
import Derived.Test.YtpcohgjbhgaogaaChecked
import GoSem.Claim
import GoSem.ClaimJoined
import GoSem.ClaimMapViews
import Derived.JoinedTies
import Derived.KernelRfl
namespace Go.Proofs.Ytpcohgjbhgaogaa
/- THE CELL 'sum', in the pinned program and in every row, IS THE sha256 OF THE DUMP (.gsa) THAT YtpcohgjbhgaogaaProg.lean LOADS. Nothing in Lean hashes anything: it is a label: what it is worth is what the hold of that sum in a sandbox is worth. -/
noncomputable def Try.pinned : Pinned := { name := "ytpcohgjbhgaogaa", sum := "d6ad3ec59e0d541f128e97b11f73b6c678aa05328fedfd66d4dff099b50706ac", checked := Try.checked }
namespace Rows
def none {H : Type} : Left H := { results := [], args := [] }

/-- 'sennitlaw02.SumsOf': WHATEVER THE INPUT: true; the input reads as it did. -/
def sumsOfSpec : ChangeSpec := { name := "sumsOf", fn := fun _ => fun
  | [d1, d2, d3] => { results := [.lit (.bool true)], args := [d1, d2, d3] }
  | _ => none }
def sumsOfRow : OpenClaim := { program := "ytpcohgjbhgaogaa", sum := "d6ad3ec59e0d541f128e97b11f73b6c678aa05328fedfd66d4dff099b50706ac", func := "sennit/sennitlaw02.SumsOf", spec := "sumsOf", unfollowed := true, recurses := true, apart := false }
def SumsOfSaid : Prop := sumsOfRow.holds Try.pinned (OpenSpec.ofChange sumsOfSpec)

/-- ITS FALSE NEIGHBOUR: 'it returns false'. Refute it at one input. -/
def sumsOfWrong : ChangeSpec := { name := "sumsOf", fn := fun _ => fun
  | [d1, d2, d3] => { results := [.lit (.bool false)], args := [d1, d2, d3] }
  | _ => none }
def SumsOfWrongFalsely : Prop := sumsOfRow.holds Try.pinned (OpenSpec.ofChange sumsOfWrong)

/-- 'sennitlaw02.SumsCheck': WHATEVER THE INPUT: true; the input reads as it did. -/
def sumsCheckSpec : ChangeSpec := { name := "sumsCheck", fn := fun _ => fun
  | [d] => { results := [.lit (.bool true)], args := [d] }
  | _ => none }
def sumsCheckRow : OpenClaim := { program := "ytpcohgjbhgaogaa", sum := "d6ad3ec59e0d541f128e97b11f73b6c678aa05328fedfd66d4dff099b50706ac", func := "sennit/sennitlaw02.SumsCheck", spec := "sumsCheck", unfollowed := true, recurses := true, apart := false }
def SumsCheckSaid : Prop := sumsCheckRow.holds Try.pinned (OpenSpec.ofChange sumsCheckSpec)

/-- ITS FALSE NEIGHBOUR: 'it returns false'. Refute it at one input. -/
def sumsCheckWrong : ChangeSpec := { name := "sumsCheck", fn := fun _ => fun
  | [d] => { results := [.lit (.bool false)], args := [d] }
  | _ => none }
def SumsCheckWrongFalsely : Prop := sumsCheckRow.holds Try.pinned (OpenSpec.ofChange sumsCheckWrong)

/-- 'sennitlaw02.SumsBurst': WHATEVER THE INPUT: true; the input reads as it did. -/
def sumsBurstSpec : ChangeSpec := { name := "sumsBurst", fn := fun _ => fun
  | [d1, d2, d3] => { results := [.lit (.bool true)], args := [d1, d2, d3] }
  | _ => none }
def sumsBurstRow : OpenClaim := { program := "ytpcohgjbhgaogaa", sum := "d6ad3ec59e0d541f128e97b11f73b6c678aa05328fedfd66d4dff099b50706ac", func := "sennit/sennitlaw02.SumsBurst", spec := "sumsBurst", unfollowed := true, recurses := true, apart := false }
def SumsBurstSaid : Prop := sumsBurstRow.holds Try.pinned (OpenSpec.ofChange sumsBurstSpec)

/-- ITS FALSE NEIGHBOUR: 'it returns false'. Refute it at one input. -/
def sumsBurstWrong : ChangeSpec := { name := "sumsBurst", fn := fun _ => fun
  | [d1, d2, d3] => { results := [.lit (.bool false)], args := [d1, d2, d3] }
  | _ => none }
def SumsBurstWrongFalsely : Prop := sumsBurstRow.holds Try.pinned (OpenSpec.ofChange sumsBurstWrong)

/-- 'sennitlaw02.SumsParts': WHATEVER THE INPUT: true; the input reads as it did. -/
def sumsPartsSpec : ChangeSpec := { name := "sumsParts", fn := fun _ => fun
  | [d1, d2] => { results := [.lit (.bool true)], args := [d1, d2] }
  | _ => none }
def sumsPartsRow : OpenClaim := { program := "ytpcohgjbhgaogaa", sum := "d6ad3ec59e0d541f128e97b11f73b6c678aa05328fedfd66d4dff099b50706ac", func := "sennit/sennitlaw02.SumsParts", spec := "sumsParts", unfollowed := true, recurses := true, apart := false }
def SumsPartsSaid : Prop := sumsPartsRow.holds Try.pinned (OpenSpec.ofChange sumsPartsSpec)

/-- ITS FALSE NEIGHBOUR: 'it returns false'. Refute it at one input. -/
def sumsPartsWrong : ChangeSpec := { name := "sumsParts", fn := fun _ => fun
  | [d1, d2] => { results := [.lit (.bool false)], args := [d1, d2] }
  | _ => none }
def SumsPartsWrongFalsely : Prop := sumsPartsRow.holds Try.pinned (OpenSpec.ofChange sumsPartsWrong)

/-- 'sennitlaw02.SumsEven': WHATEVER THE INPUT: true; the input reads as it did. -/
def sumsEvenSpec : ChangeSpec := { name := "sumsEven", fn := fun _ => fun
  | [d1, d2] => { results := [.lit (.bool true)], args := [d1, d2] }
  | _ => none }
def sumsEvenRow : OpenClaim := { program := "ytpcohgjbhgaogaa", sum := "d6ad3ec59e0d541f128e97b11f73b6c678aa05328fedfd66d4dff099b50706ac", func := "sennit/sennitlaw02.SumsEven", spec := "sumsEven", unfollowed := true, recurses := true, apart := false }
def SumsEvenSaid : Prop := sumsEvenRow.holds Try.pinned (OpenSpec.ofChange sumsEvenSpec)

/-- ITS FALSE NEIGHBOUR: 'it returns false'. Refute it at one input. -/
def sumsEvenWrong : ChangeSpec := { name := "sumsEven", fn := fun _ => fun
  | [d1, d2] => { results := [.lit (.bool false)], args := [d1, d2] }
  | _ => none }
def SumsEvenWrongFalsely : Prop := sumsEvenRow.holds Try.pinned (OpenSpec.ofChange sumsEvenWrong)

/- THE SECOND FORM. 'bulk': how many values and letters a reading holds, each counted each time it is reached (what is shared counts as often as it is met; a slice's spare places count too). A statement '..UptoSaid' is the law's where the arguments, and the package variables that the reading takes, are together of bulk at most 1048576: NARROWER than '..Said'. Prove '..Said' where nothing that the law and all that it calls make is longer than what came in: it says more and counts as full. Else prove '..UptoSaid'. A law counts once. -/
mutual
def uptoBulk {H : Type} : DataW H → Nat
  | .lit (.string bytes) => bytes.length + 1
  | .lit _ => 1
  | .nil => 1
  | .ptr d => uptoBulk d + 1
  | .slice elems spare => uptoBulkAll elems + uptoBulkAll spare + 1
  | .agg parts => uptoBulkAll parts + 1
  | .iface _ d => uptoBulk d + 1
  | .map entries => uptoBulkEntries entries + 1
  | .held _ => 1
def uptoBulkAll {H : Type} : List (DataW H) → Nat
  | [] => 0
  | d :: r => uptoBulk d + uptoBulkAll r
def uptoBulkEntries {H : Type} : List (Lit × DataW H) → Nat
  | [] => 0
  | x :: r => uptoBulkEntry x + uptoBulkEntries r
def uptoBulkEntry {H : Type} : Lit × DataW H → Nat
  | (.string bytes, d) => bytes.length + uptoBulk d + 1
  | (_, d) => uptoBulk d + 1
 end
def uptoSmall : (H : Type) → List (DataW H) → Bool := fun _ ds => decide (uptoBulkAll ds ≤ 1048576)
def OpenSpec.upto (s : _root_.Go.ChangeSpec) : _root_.Go.OpenSpec := { _root_.Go.OpenSpec.ofChange s with cond := some uptoSmall }

/-- 'sennitlaw02.SumsOf', WHERE WHAT IT READS IS OF BULK AT MOST 1048576: true; the input reads as it did. -/
def sumsOfUptoRow : OpenClaim := { program := "ytpcohgjbhgaogaa", sum := "d6ad3ec59e0d541f128e97b11f73b6c678aa05328fedfd66d4dff099b50706ac", func := "sennit/sennitlaw02.SumsOf", spec := "sumsOf", unfollowed := true, recurses := true, apart := false, narrowed := true }
def SumsOfUptoSaid : Prop := sumsOfUptoRow.holds Try.pinned (OpenSpec.upto sumsOfSpec)

/-- 'sennitlaw02.SumsCheck', WHERE WHAT IT READS IS OF BULK AT MOST 1048576: true; the input reads as it did. -/
def sumsCheckUptoRow : OpenClaim := { program := "ytpcohgjbhgaogaa", sum := "d6ad3ec59e0d541f128e97b11f73b6c678aa05328fedfd66d4dff099b50706ac", func := "sennit/sennitlaw02.SumsCheck", spec := "sumsCheck", unfollowed := true, recurses := true, apart := false, narrowed := true }
def SumsCheckUptoSaid : Prop := sumsCheckUptoRow.holds Try.pinned (OpenSpec.upto sumsCheckSpec)

/-- 'sennitlaw02.SumsBurst', WHERE WHAT IT READS IS OF BULK AT MOST 1048576: true; the input reads as it did. -/
def sumsBurstUptoRow : OpenClaim := { program := "ytpcohgjbhgaogaa", sum := "d6ad3ec59e0d541f128e97b11f73b6c678aa05328fedfd66d4dff099b50706ac", func := "sennit/sennitlaw02.SumsBurst", spec := "sumsBurst", unfollowed := true, recurses := true, apart := false, narrowed := true }
def SumsBurstUptoSaid : Prop := sumsBurstUptoRow.holds Try.pinned (OpenSpec.upto sumsBurstSpec)

/-- 'sennitlaw02.SumsParts', WHERE WHAT IT READS IS OF BULK AT MOST 1048576: true; the input reads as it did. -/
def sumsPartsUptoRow : OpenClaim := { program := "ytpcohgjbhgaogaa", sum := "d6ad3ec59e0d541f128e97b11f73b6c678aa05328fedfd66d4dff099b50706ac", func := "sennit/sennitlaw02.SumsParts", spec := "sumsParts", unfollowed := true, recurses := true, apart := false, narrowed := true }
def SumsPartsUptoSaid : Prop := sumsPartsUptoRow.holds Try.pinned (OpenSpec.upto sumsPartsSpec)

/-- 'sennitlaw02.SumsEven', WHERE WHAT IT READS IS OF BULK AT MOST 1048576: true; the input reads as it did. -/
def sumsEvenUptoRow : OpenClaim := { program := "ytpcohgjbhgaogaa", sum := "d6ad3ec59e0d541f128e97b11f73b6c678aa05328fedfd66d4dff099b50706ac", func := "sennit/sennitlaw02.SumsEven", spec := "sumsEven", unfollowed := true, recurses := true, apart := false, narrowed := true }
def SumsEvenUptoSaid : Prop := sumsEvenUptoRow.holds Try.pinned (OpenSpec.upto sumsEvenSpec)

end Rows
end Go.Proofs.Ytpcohgjbhgaogaa
