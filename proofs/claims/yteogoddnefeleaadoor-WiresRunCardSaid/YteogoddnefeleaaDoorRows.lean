/-
  NARROWER THAN 'FOR EVERY INPUT', by the rows' own cells (each row's printed sentence says how): RingsSteps: laid · RingsLinks: laid · RingsPaths: laid · RingsRound: laid · RingsDisjoint: laid · RingsNumbers: laid · RingsPlaces: laid · WiresTrack: laid · WiresAll: laid · WiresApart: laid · WiresRun: laid · WiresVoid: laid.
  DERIVED. THE GIVEN ROWS OF THIS SEAT. 12 by the template 'for every input the law returns true; each argument reads behind the call as it read before'; 0 by the template 'total and deterministic' (their statements: YteogoddnefeleaaDoorTotals.lean).
  GIVEN WITH THE SEED: the statements are not yours to turn. If you find one false, say at which input.
  Laid BY PROGRAM, IN A SANDBOX (cutbox-rows.mjs): the forced cells as the released guide's own fill.sh prints them over the translation 404a7146745361cf… (all of the seat's roots in one cut). By AI agents, Wed Nov 11 2026. No macro, syntax, notation, axiom, sorry.
-/
import Derived.Test.YteogoddnefeleaaDoorChecked
import GoSem.Claim
import GoSem.ClaimJoined
import GoSem.ClaimMapViews
import Derived.JoinedTies
import Derived.KernelRfl
namespace Go.Proofs.YteogoddnefeleaaDoor
/- THE CELL 'sum', in the pinned program and in every row, IS THE sha256 OF THE DUMP (.gsa) THAT YteogoddnefeleaaDoorProg.lean LOADS. Nothing in Lean hashes anything: it is a label: what it is worth is what the hold of that sum in a sandbox is worth. -/
noncomputable def Tryd.pinned : Pinned := { name := "yteogoddnefeleaadoor", sum := "404a7146745361cf36e37ed71dce2b0630706fa9101eb82209f992966e029cc5", checked := Tryd.checked }
namespace Rows
def none {H : Type} : Left H := { results := [], args := [] }

/- WHAT THE LISTED PACKAGE-LEVEL VARIABLES READ AS WHEN THE CALL BEGINS. Each datum BY PROGRAM (the guide's laid-datum.mjs) off the statement by which the dump's own 'gosem.cut.vars' lays the variable. In a bare row this is a premise. The card (YteogoddnefeleaaDoorCards.lean) ties it to the program's text. -/
def laid_sennit_rings_signs {H : Type} : DataW H := .agg [.lit (.int .i64 1), .lit (.int .i64 (-1))]

/-- 'sennitlaw03.RingsSteps': WHATEVER THE INPUT: true; the input reads as it did. -/
def ringsStepsSpec : ChangeSpec := { name := "ringsSteps", fn := fun _ => fun
  | [d1, d2, d3] => { results := [.lit (.bool true)], args := [d1, d2, d3] }
  | _ => none }
def ringsStepsRow : OpenClaim := { program := "yteogoddnefeleaadoor", sum := "404a7146745361cf36e37ed71dce2b0630706fa9101eb82209f992966e029cc5", func := "sennit/sennitlaw03.RingsSteps", spec := "ringsSteps", named := ["sennit/rings.signs"], apart := false, laid := [("sennit/rings.signs", laid_sennit_rings_signs)] }
def RingsStepsSaid : Prop := ringsStepsRow.holds Tryd.pinned (OpenSpec.ofChange ringsStepsSpec)

/-- ITS FALSE NEIGHBOUR: 'it returns false'. Refute it at one input. -/
def ringsStepsWrong : ChangeSpec := { name := "ringsSteps", fn := fun _ => fun
  | [d1, d2, d3] => { results := [.lit (.bool false)], args := [d1, d2, d3] }
  | _ => none }
def RingsStepsWrongFalsely : Prop := ringsStepsRow.holds Tryd.pinned (OpenSpec.ofChange ringsStepsWrong)

/-- 'sennitlaw03.RingsLinks': WHATEVER THE INPUT: true; the input reads as it did. -/
def ringsLinksSpec : ChangeSpec := { name := "ringsLinks", fn := fun _ => fun
  | [d1, d2, d3] => { results := [.lit (.bool true)], args := [d1, d2, d3] }
  | _ => none }
def ringsLinksRow : OpenClaim := { program := "yteogoddnefeleaadoor", sum := "404a7146745361cf36e37ed71dce2b0630706fa9101eb82209f992966e029cc5", func := "sennit/sennitlaw03.RingsLinks", spec := "ringsLinks", named := ["sennit/rings.signs"], apart := false, laid := [("sennit/rings.signs", laid_sennit_rings_signs)] }
def RingsLinksSaid : Prop := ringsLinksRow.holds Tryd.pinned (OpenSpec.ofChange ringsLinksSpec)

/-- ITS FALSE NEIGHBOUR: 'it returns false'. Refute it at one input. -/
def ringsLinksWrong : ChangeSpec := { name := "ringsLinks", fn := fun _ => fun
  | [d1, d2, d3] => { results := [.lit (.bool false)], args := [d1, d2, d3] }
  | _ => none }
def RingsLinksWrongFalsely : Prop := ringsLinksRow.holds Tryd.pinned (OpenSpec.ofChange ringsLinksWrong)

/-- 'sennitlaw03.RingsPaths': WHATEVER THE INPUT: true; the input reads as it did. -/
def ringsPathsSpec : ChangeSpec := { name := "ringsPaths", fn := fun _ => fun
  | [d1, d2, d3] => { results := [.lit (.bool true)], args := [d1, d2, d3] }
  | _ => none }
def ringsPathsRow : OpenClaim := { program := "yteogoddnefeleaadoor", sum := "404a7146745361cf36e37ed71dce2b0630706fa9101eb82209f992966e029cc5", func := "sennit/sennitlaw03.RingsPaths", spec := "ringsPaths", recurses := true, named := ["sennit/rings.signs"], apart := false, laid := [("sennit/rings.signs", laid_sennit_rings_signs)] }
def RingsPathsSaid : Prop := ringsPathsRow.holds Tryd.pinned (OpenSpec.ofChange ringsPathsSpec)

/-- ITS FALSE NEIGHBOUR: 'it returns false'. Refute it at one input. -/
def ringsPathsWrong : ChangeSpec := { name := "ringsPaths", fn := fun _ => fun
  | [d1, d2, d3] => { results := [.lit (.bool false)], args := [d1, d2, d3] }
  | _ => none }
def RingsPathsWrongFalsely : Prop := ringsPathsRow.holds Tryd.pinned (OpenSpec.ofChange ringsPathsWrong)

/-- 'sennitlaw03.RingsRound': WHATEVER THE INPUT: true; the input reads as it did. -/
def ringsRoundSpec : ChangeSpec := { name := "ringsRound", fn := fun _ => fun
  | [d1, d2, d3] => { results := [.lit (.bool true)], args := [d1, d2, d3] }
  | _ => none }
def ringsRoundRow : OpenClaim := { program := "yteogoddnefeleaadoor", sum := "404a7146745361cf36e37ed71dce2b0630706fa9101eb82209f992966e029cc5", func := "sennit/sennitlaw03.RingsRound", spec := "ringsRound", named := ["sennit/rings.signs"], apart := false, laid := [("sennit/rings.signs", laid_sennit_rings_signs)] }
def RingsRoundSaid : Prop := ringsRoundRow.holds Tryd.pinned (OpenSpec.ofChange ringsRoundSpec)

/-- ITS FALSE NEIGHBOUR: 'it returns false'. Refute it at one input. -/
def ringsRoundWrong : ChangeSpec := { name := "ringsRound", fn := fun _ => fun
  | [d1, d2, d3] => { results := [.lit (.bool false)], args := [d1, d2, d3] }
  | _ => none }
def RingsRoundWrongFalsely : Prop := ringsRoundRow.holds Tryd.pinned (OpenSpec.ofChange ringsRoundWrong)

/-- 'sennitlaw03.RingsDisjoint': WHATEVER THE INPUT: true; the input reads as it did. -/
def ringsDisjointSpec : ChangeSpec := { name := "ringsDisjoint", fn := fun _ => fun
  | [d1, d2] => { results := [.lit (.bool true)], args := [d1, d2] }
  | _ => none }
def ringsDisjointRow : OpenClaim := { program := "yteogoddnefeleaadoor", sum := "404a7146745361cf36e37ed71dce2b0630706fa9101eb82209f992966e029cc5", func := "sennit/sennitlaw03.RingsDisjoint", spec := "ringsDisjoint", named := ["sennit/rings.signs"], apart := false, laid := [("sennit/rings.signs", laid_sennit_rings_signs)] }
def RingsDisjointSaid : Prop := ringsDisjointRow.holds Tryd.pinned (OpenSpec.ofChange ringsDisjointSpec)

/-- ITS FALSE NEIGHBOUR: 'it returns false'. Refute it at one input. -/
def ringsDisjointWrong : ChangeSpec := { name := "ringsDisjoint", fn := fun _ => fun
  | [d1, d2] => { results := [.lit (.bool false)], args := [d1, d2] }
  | _ => none }
def RingsDisjointWrongFalsely : Prop := ringsDisjointRow.holds Tryd.pinned (OpenSpec.ofChange ringsDisjointWrong)

/-- 'sennitlaw03.RingsNumbers': WHATEVER THE INPUT: true; the input reads as it did. -/
def ringsNumbersSpec : ChangeSpec := { name := "ringsNumbers", fn := fun _ => fun
  | [d] => { results := [.lit (.bool true)], args := [d] }
  | _ => none }
def ringsNumbersRow : OpenClaim := { program := "yteogoddnefeleaadoor", sum := "404a7146745361cf36e37ed71dce2b0630706fa9101eb82209f992966e029cc5", func := "sennit/sennitlaw03.RingsNumbers", spec := "ringsNumbers", named := ["sennit/rings.signs"], apart := false, laid := [("sennit/rings.signs", laid_sennit_rings_signs)] }
def RingsNumbersSaid : Prop := ringsNumbersRow.holds Tryd.pinned (OpenSpec.ofChange ringsNumbersSpec)

/-- ITS FALSE NEIGHBOUR: 'it returns false'. Refute it at one input. -/
def ringsNumbersWrong : ChangeSpec := { name := "ringsNumbers", fn := fun _ => fun
  | [d] => { results := [.lit (.bool false)], args := [d] }
  | _ => none }
def RingsNumbersWrongFalsely : Prop := ringsNumbersRow.holds Tryd.pinned (OpenSpec.ofChange ringsNumbersWrong)

/-- 'sennitlaw03.RingsPlaces': WHATEVER THE INPUT: true; the input reads as it did. -/
def ringsPlacesSpec : ChangeSpec := { name := "ringsPlaces", fn := fun _ => fun
  | [d1, d2] => { results := [.lit (.bool true)], args := [d1, d2] }
  | _ => none }
def ringsPlacesRow : OpenClaim := { program := "yteogoddnefeleaadoor", sum := "404a7146745361cf36e37ed71dce2b0630706fa9101eb82209f992966e029cc5", func := "sennit/sennitlaw03.RingsPlaces", spec := "ringsPlaces", named := ["sennit/rings.signs"], apart := false, laid := [("sennit/rings.signs", laid_sennit_rings_signs)] }
def RingsPlacesSaid : Prop := ringsPlacesRow.holds Tryd.pinned (OpenSpec.ofChange ringsPlacesSpec)

/-- ITS FALSE NEIGHBOUR: 'it returns false'. Refute it at one input. -/
def ringsPlacesWrong : ChangeSpec := { name := "ringsPlaces", fn := fun _ => fun
  | [d1, d2] => { results := [.lit (.bool false)], args := [d1, d2] }
  | _ => none }
def RingsPlacesWrongFalsely : Prop := ringsPlacesRow.holds Tryd.pinned (OpenSpec.ofChange ringsPlacesWrong)

/-- 'sennitlaw08.WiresTrack': WHATEVER THE INPUT: true; the input reads as it did. -/
def wiresTrackSpec : ChangeSpec := { name := "wiresTrack", fn := fun _ => fun
  | [d1, d2, d3] => { results := [.lit (.bool true)], args := [d1, d2, d3] }
  | _ => none }
def wiresTrackRow : OpenClaim := { program := "yteogoddnefeleaadoor", sum := "404a7146745361cf36e37ed71dce2b0630706fa9101eb82209f992966e029cc5", func := "sennit/sennitlaw08.WiresTrack", spec := "wiresTrack", named := ["sennit/rings.signs"], apart := false, laid := [("sennit/rings.signs", laid_sennit_rings_signs)] }
def WiresTrackSaid : Prop := wiresTrackRow.holds Tryd.pinned (OpenSpec.ofChange wiresTrackSpec)

/-- ITS FALSE NEIGHBOUR: 'it returns false'. Refute it at one input. -/
def wiresTrackWrong : ChangeSpec := { name := "wiresTrack", fn := fun _ => fun
  | [d1, d2, d3] => { results := [.lit (.bool false)], args := [d1, d2, d3] }
  | _ => none }
def WiresTrackWrongFalsely : Prop := wiresTrackRow.holds Tryd.pinned (OpenSpec.ofChange wiresTrackWrong)

/-- 'sennitlaw08.WiresAll': WHATEVER THE INPUT: true; the input reads as it did. -/
def wiresAllSpec : ChangeSpec := { name := "wiresAll", fn := fun _ => fun
  | [d1, d2] => { results := [.lit (.bool true)], args := [d1, d2] }
  | _ => none }
def wiresAllRow : OpenClaim := { program := "yteogoddnefeleaadoor", sum := "404a7146745361cf36e37ed71dce2b0630706fa9101eb82209f992966e029cc5", func := "sennit/sennitlaw08.WiresAll", spec := "wiresAll", named := ["sennit/rings.signs"], apart := false, laid := [("sennit/rings.signs", laid_sennit_rings_signs)] }
def WiresAllSaid : Prop := wiresAllRow.holds Tryd.pinned (OpenSpec.ofChange wiresAllSpec)

/-- ITS FALSE NEIGHBOUR: 'it returns false'. Refute it at one input. -/
def wiresAllWrong : ChangeSpec := { name := "wiresAll", fn := fun _ => fun
  | [d1, d2] => { results := [.lit (.bool false)], args := [d1, d2] }
  | _ => none }
def WiresAllWrongFalsely : Prop := wiresAllRow.holds Tryd.pinned (OpenSpec.ofChange wiresAllWrong)

/-- 'sennitlaw08.WiresApart': WHATEVER THE INPUT: true; the input reads as it did. -/
def wiresApartSpec : ChangeSpec := { name := "wiresApart", fn := fun _ => fun
  | [d1, d2, d3] => { results := [.lit (.bool true)], args := [d1, d2, d3] }
  | _ => none }
def wiresApartRow : OpenClaim := { program := "yteogoddnefeleaadoor", sum := "404a7146745361cf36e37ed71dce2b0630706fa9101eb82209f992966e029cc5", func := "sennit/sennitlaw08.WiresApart", spec := "wiresApart", named := ["sennit/rings.signs"], apart := false, laid := [("sennit/rings.signs", laid_sennit_rings_signs)] }
def WiresApartSaid : Prop := wiresApartRow.holds Tryd.pinned (OpenSpec.ofChange wiresApartSpec)

/-- ITS FALSE NEIGHBOUR: 'it returns false'. Refute it at one input. -/
def wiresApartWrong : ChangeSpec := { name := "wiresApart", fn := fun _ => fun
  | [d1, d2, d3] => { results := [.lit (.bool false)], args := [d1, d2, d3] }
  | _ => none }
def WiresApartWrongFalsely : Prop := wiresApartRow.holds Tryd.pinned (OpenSpec.ofChange wiresApartWrong)

/-- 'sennitlaw08.WiresRun': WHATEVER THE INPUT: true; the input reads as it did. -/
def wiresRunSpec : ChangeSpec := { name := "wiresRun", fn := fun _ => fun
  | [d1, d2] => { results := [.lit (.bool true)], args := [d1, d2] }
  | _ => none }
def wiresRunRow : OpenClaim := { program := "yteogoddnefeleaadoor", sum := "404a7146745361cf36e37ed71dce2b0630706fa9101eb82209f992966e029cc5", func := "sennit/sennitlaw08.WiresRun", spec := "wiresRun", named := ["sennit/rings.signs"], apart := false, laid := [("sennit/rings.signs", laid_sennit_rings_signs)] }
def WiresRunSaid : Prop := wiresRunRow.holds Tryd.pinned (OpenSpec.ofChange wiresRunSpec)

/-- ITS FALSE NEIGHBOUR: 'it returns false'. Refute it at one input. -/
def wiresRunWrong : ChangeSpec := { name := "wiresRun", fn := fun _ => fun
  | [d1, d2] => { results := [.lit (.bool false)], args := [d1, d2] }
  | _ => none }
def WiresRunWrongFalsely : Prop := wiresRunRow.holds Tryd.pinned (OpenSpec.ofChange wiresRunWrong)

/-- 'sennitlaw08.WiresVoid': WHATEVER THE INPUT: true; the input reads as it did. -/
def wiresVoidSpec : ChangeSpec := { name := "wiresVoid", fn := fun _ => fun
  | [d] => { results := [.lit (.bool true)], args := [d] }
  | _ => none }
def wiresVoidRow : OpenClaim := { program := "yteogoddnefeleaadoor", sum := "404a7146745361cf36e37ed71dce2b0630706fa9101eb82209f992966e029cc5", func := "sennit/sennitlaw08.WiresVoid", spec := "wiresVoid", named := ["sennit/rings.signs"], apart := false, laid := [("sennit/rings.signs", laid_sennit_rings_signs)] }
def WiresVoidSaid : Prop := wiresVoidRow.holds Tryd.pinned (OpenSpec.ofChange wiresVoidSpec)

/-- ITS FALSE NEIGHBOUR: 'it returns false'. Refute it at one input. -/
def wiresVoidWrong : ChangeSpec := { name := "wiresVoid", fn := fun _ => fun
  | [d] => { results := [.lit (.bool false)], args := [d] }
  | _ => none }
def WiresVoidWrongFalsely : Prop := wiresVoidRow.holds Tryd.pinned (OpenSpec.ofChange wiresVoidWrong)

/- THE SECOND FORM. 'bulk': how many values and letters a reading holds, each counted each time it is reached (what is shared counts as often as it is met; a slice's spare places count too). A statement '..UptoSaid' is the law's where the arguments, and the package variables that the reading takes, are together of bulk at most 1048576: NARROWER than '..Said'. Prove '..Said' where nothing that the law and all that it calls make is longer than what came in: it says more and counts as full. Else prove '..UptoSaid'. A law counts once. -/
mutual
def uptoBulk {H : Type} : DataW H → Nat
  | .lit (.string bytes) => bytes.length + 1
  | .lit _ => 1
  | .nil => 1
  | .ptr d => uptoBulk d + 1
  | .slice elems spare => uptoBulkAll elems + uptoBulkAll spare + 1
  | .agg parts => uptoBulkAll parts + 1
  | .iface _ d => uptoBulk d + 1
  | .map entries => uptoBulkEntries entries + 1
  | .held _ => 1
def uptoBulkAll {H : Type} : List (DataW H) → Nat
  | [] => 0
  | d :: r => uptoBulk d + uptoBulkAll r
def uptoBulkEntries {H : Type} : List (Lit × DataW H) → Nat
  | [] => 0
  | x :: r => uptoBulkEntry x + uptoBulkEntries r
def uptoBulkEntry {H : Type} : Lit × DataW H → Nat
  | (.string bytes, d) => bytes.length + uptoBulk d + 1
  | (_, d) => uptoBulk d + 1
 end
def uptoSmall : (H : Type) → List (DataW H) → Bool := fun _ ds => decide (uptoBulkAll ds ≤ 1048576)
def OpenSpec.upto (s : _root_.Go.ChangeSpec) : _root_.Go.OpenSpec := { _root_.Go.OpenSpec.ofChange s with cond := some uptoSmall }

/-- 'sennitlaw03.RingsSteps', WHERE WHAT IT READS IS OF BULK AT MOST 1048576: true; the input reads as it did. -/
def ringsStepsUptoRow : OpenClaim := { program := "yteogoddnefeleaadoor", sum := "404a7146745361cf36e37ed71dce2b0630706fa9101eb82209f992966e029cc5", func := "sennit/sennitlaw03.RingsSteps", spec := "ringsSteps", named := ["sennit/rings.signs"], apart := false, laid := [("sennit/rings.signs", laid_sennit_rings_signs)], narrowed := true }
def RingsStepsUptoSaid : Prop := ringsStepsUptoRow.holds Tryd.pinned (OpenSpec.upto ringsStepsSpec)

/-- 'sennitlaw03.RingsLinks', WHERE WHAT IT READS IS OF BULK AT MOST 1048576: true; the input reads as it did. -/
def ringsLinksUptoRow : OpenClaim := { program := "yteogoddnefeleaadoor", sum := "404a7146745361cf36e37ed71dce2b0630706fa9101eb82209f992966e029cc5", func := "sennit/sennitlaw03.RingsLinks", spec := "ringsLinks", named := ["sennit/rings.signs"], apart := false, laid := [("sennit/rings.signs", laid_sennit_rings_signs)], narrowed := true }
def RingsLinksUptoSaid : Prop := ringsLinksUptoRow.holds Tryd.pinned (OpenSpec.upto ringsLinksSpec)

/-- 'sennitlaw03.RingsPaths', WHERE WHAT IT READS IS OF BULK AT MOST 1048576: true; the input reads as it did. -/
def ringsPathsUptoRow : OpenClaim := { program := "yteogoddnefeleaadoor", sum := "404a7146745361cf36e37ed71dce2b0630706fa9101eb82209f992966e029cc5", func := "sennit/sennitlaw03.RingsPaths", spec := "ringsPaths", recurses := true, named := ["sennit/rings.signs"], apart := false, laid := [("sennit/rings.signs", laid_sennit_rings_signs)], narrowed := true }
def RingsPathsUptoSaid : Prop := ringsPathsUptoRow.holds Tryd.pinned (OpenSpec.upto ringsPathsSpec)

/-- 'sennitlaw03.RingsRound', WHERE WHAT IT READS IS OF BULK AT MOST 1048576: true; the input reads as it did. -/
def ringsRoundUptoRow : OpenClaim := { program := "yteogoddnefeleaadoor", sum := "404a7146745361cf36e37ed71dce2b0630706fa9101eb82209f992966e029cc5", func := "sennit/sennitlaw03.RingsRound", spec := "ringsRound", named := ["sennit/rings.signs"], apart := false, laid := [("sennit/rings.signs", laid_sennit_rings_signs)], narrowed := true }
def RingsRoundUptoSaid : Prop := ringsRoundUptoRow.holds Tryd.pinned (OpenSpec.upto ringsRoundSpec)

/-- 'sennitlaw03.RingsDisjoint', WHERE WHAT IT READS IS OF BULK AT MOST 1048576: true; the input reads as it did. -/
def ringsDisjointUptoRow : OpenClaim := { program := "yteogoddnefeleaadoor", sum := "404a7146745361cf36e37ed71dce2b0630706fa9101eb82209f992966e029cc5", func := "sennit/sennitlaw03.RingsDisjoint", spec := "ringsDisjoint", named := ["sennit/rings.signs"], apart := false, laid := [("sennit/rings.signs", laid_sennit_rings_signs)], narrowed := true }
def RingsDisjointUptoSaid : Prop := ringsDisjointUptoRow.holds Tryd.pinned (OpenSpec.upto ringsDisjointSpec)

/-- 'sennitlaw03.RingsNumbers', WHERE WHAT IT READS IS OF BULK AT MOST 1048576: true; the input reads as it did. -/
def ringsNumbersUptoRow : OpenClaim := { program := "yteogoddnefeleaadoor", sum := "404a7146745361cf36e37ed71dce2b0630706fa9101eb82209f992966e029cc5", func := "sennit/sennitlaw03.RingsNumbers", spec := "ringsNumbers", named := ["sennit/rings.signs"], apart := false, laid := [("sennit/rings.signs", laid_sennit_rings_signs)], narrowed := true }
def RingsNumbersUptoSaid : Prop := ringsNumbersUptoRow.holds Tryd.pinned (OpenSpec.upto ringsNumbersSpec)

/-- 'sennitlaw03.RingsPlaces', WHERE WHAT IT READS IS OF BULK AT MOST 1048576: true; the input reads as it did. -/
def ringsPlacesUptoRow : OpenClaim := { program := "yteogoddnefeleaadoor", sum := "404a7146745361cf36e37ed71dce2b0630706fa9101eb82209f992966e029cc5", func := "sennit/sennitlaw03.RingsPlaces", spec := "ringsPlaces", named := ["sennit/rings.signs"], apart := false, laid := [("sennit/rings.signs", laid_sennit_rings_signs)], narrowed := true }
def RingsPlacesUptoSaid : Prop := ringsPlacesUptoRow.holds Tryd.pinned (OpenSpec.upto ringsPlacesSpec)

/-- 'sennitlaw08.WiresTrack', WHERE WHAT IT READS IS OF BULK AT MOST 1048576: true; the input reads as it did. -/
def wiresTrackUptoRow : OpenClaim := { program := "yteogoddnefeleaadoor", sum := "404a7146745361cf36e37ed71dce2b0630706fa9101eb82209f992966e029cc5", func := "sennit/sennitlaw08.WiresTrack", spec := "wiresTrack", named := ["sennit/rings.signs"], apart := false, laid := [("sennit/rings.signs", laid_sennit_rings_signs)], narrowed := true }
def WiresTrackUptoSaid : Prop := wiresTrackUptoRow.holds Tryd.pinned (OpenSpec.upto wiresTrackSpec)

/-- 'sennitlaw08.WiresAll', WHERE WHAT IT READS IS OF BULK AT MOST 1048576: true; the input reads as it did. -/
def wiresAllUptoRow : OpenClaim := { program := "yteogoddnefeleaadoor", sum := "404a7146745361cf36e37ed71dce2b0630706fa9101eb82209f992966e029cc5", func := "sennit/sennitlaw08.WiresAll", spec := "wiresAll", named := ["sennit/rings.signs"], apart := false, laid := [("sennit/rings.signs", laid_sennit_rings_signs)], narrowed := true }
def WiresAllUptoSaid : Prop := wiresAllUptoRow.holds Tryd.pinned (OpenSpec.upto wiresAllSpec)

/-- 'sennitlaw08.WiresApart', WHERE WHAT IT READS IS OF BULK AT MOST 1048576: true; the input reads as it did. -/
def wiresApartUptoRow : OpenClaim := { program := "yteogoddnefeleaadoor", sum := "404a7146745361cf36e37ed71dce2b0630706fa9101eb82209f992966e029cc5", func := "sennit/sennitlaw08.WiresApart", spec := "wiresApart", named := ["sennit/rings.signs"], apart := false, laid := [("sennit/rings.signs", laid_sennit_rings_signs)], narrowed := true }
def WiresApartUptoSaid : Prop := wiresApartUptoRow.holds Tryd.pinned (OpenSpec.upto wiresApartSpec)

/-- 'sennitlaw08.WiresRun', WHERE WHAT IT READS IS OF BULK AT MOST 1048576: true; the input reads as it did. -/
def wiresRunUptoRow : OpenClaim := { program := "yteogoddnefeleaadoor", sum := "404a7146745361cf36e37ed71dce2b0630706fa9101eb82209f992966e029cc5", func := "sennit/sennitlaw08.WiresRun", spec := "wiresRun", named := ["sennit/rings.signs"], apart := false, laid := [("sennit/rings.signs", laid_sennit_rings_signs)], narrowed := true }
def WiresRunUptoSaid : Prop := wiresRunUptoRow.holds Tryd.pinned (OpenSpec.upto wiresRunSpec)

/-- 'sennitlaw08.WiresVoid', WHERE WHAT IT READS IS OF BULK AT MOST 1048576: true; the input reads as it did. -/
def wiresVoidUptoRow : OpenClaim := { program := "yteogoddnefeleaadoor", sum := "404a7146745361cf36e37ed71dce2b0630706fa9101eb82209f992966e029cc5", func := "sennit/sennitlaw08.WiresVoid", spec := "wiresVoid", named := ["sennit/rings.signs"], apart := false, laid := [("sennit/rings.signs", laid_sennit_rings_signs)], narrowed := true }
def WiresVoidUptoSaid : Prop := wiresVoidUptoRow.holds Tryd.pinned (OpenSpec.upto wiresVoidSpec)

end Rows
end Go.Proofs.YteogoddnefeleaaDoor
