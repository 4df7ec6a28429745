/-
  DERIVED. GIVEN WITH THE SEED: THE CARDS: each row of YteogoddnefeleaaDoorRows.lean that lists a variable, with what it lists TIED to the program's text (the seventh form; the later family's looks); each row that meets fmt, with fmt's text TOLD by the authors' own Lean function (tested against real Go, not proved from fmt's source: count such statements apart). THE CARD IS WHAT COUNTS. Prove the row's statement (the work); the ties are given (YteogoddnefeleaaDoorTie.lean); close each card by the builder's one call (the guide's Derived/Test/ToyasCard.lean, 'card_holds'). Laid BY PROGRAM, IN A SANDBOX (cutbox-door.mjs). By AI agents, Wed Nov 11 2026. No macro, syntax, notation, axiom, sorry.
-/
import Derived.Test.YteogoddnefeleaaDoorRows
import GoSem.ClaimSeven
namespace Go.Proofs.YteogoddnefeleaaDoor
namespace Rows

/-- THE TIED CARD OF 'sennitlaw03.RingsSteps'. -/
def ringsStepsCard : Claim7 := { stood := { row := ringsStepsRow, standIns := [], harness := (true, "8a3025fee988f85c99ece6c98bc69756f62e66b44f80b6ac1da19e3147113691"), looks := false }, kinds := [], alts := [], laidByText := true, laidKinds := [.data], laidTests := true, laidLooks := .later }
def RingsStepsCardSaid : Prop := Claim7.holds Tryd.pinned (.plain (OpenSpec.ofChange ringsStepsSpec)) ringsStepsCard

/-- THE TIED CARD OF 'sennitlaw03.RingsLinks'. -/
def ringsLinksCard : Claim7 := { stood := { row := ringsLinksRow, standIns := [], harness := (true, "8a3025fee988f85c99ece6c98bc69756f62e66b44f80b6ac1da19e3147113691"), looks := false }, kinds := [], alts := [], laidByText := true, laidKinds := [.data], laidTests := true, laidLooks := .later }
def RingsLinksCardSaid : Prop := Claim7.holds Tryd.pinned (.plain (OpenSpec.ofChange ringsLinksSpec)) ringsLinksCard

/-- THE TIED CARD OF 'sennitlaw03.RingsPaths'. -/
def ringsPathsCard : Claim7 := { stood := { row := ringsPathsRow, standIns := [], harness := (true, "8a3025fee988f85c99ece6c98bc69756f62e66b44f80b6ac1da19e3147113691"), looks := false }, kinds := [], alts := [], laidByText := true, laidKinds := [.data], laidTests := true, laidLooks := .later }
def RingsPathsCardSaid : Prop := Claim7.holds Tryd.pinned (.plain (OpenSpec.ofChange ringsPathsSpec)) ringsPathsCard

/-- THE TIED CARD OF 'sennitlaw03.RingsRound'. -/
def ringsRoundCard : Claim7 := { stood := { row := ringsRoundRow, standIns := [], harness := (true, "8a3025fee988f85c99ece6c98bc69756f62e66b44f80b6ac1da19e3147113691"), looks := false }, kinds := [], alts := [], laidByText := true, laidKinds := [.data], laidTests := true, laidLooks := .later }
def RingsRoundCardSaid : Prop := Claim7.holds Tryd.pinned (.plain (OpenSpec.ofChange ringsRoundSpec)) ringsRoundCard

/-- THE TIED CARD OF 'sennitlaw03.RingsDisjoint'. -/
def ringsDisjointCard : Claim7 := { stood := { row := ringsDisjointRow, standIns := [], harness := (true, "8a3025fee988f85c99ece6c98bc69756f62e66b44f80b6ac1da19e3147113691"), looks := false }, kinds := [], alts := [], laidByText := true, laidKinds := [.data], laidTests := true, laidLooks := .later }
def RingsDisjointCardSaid : Prop := Claim7.holds Tryd.pinned (.plain (OpenSpec.ofChange ringsDisjointSpec)) ringsDisjointCard

/-- THE TIED CARD OF 'sennitlaw03.RingsNumbers'. -/
def ringsNumbersCard : Claim7 := { stood := { row := ringsNumbersRow, standIns := [], harness := (true, "8a3025fee988f85c99ece6c98bc69756f62e66b44f80b6ac1da19e3147113691"), looks := false }, kinds := [], alts := [], laidByText := true, laidKinds := [.data], laidTests := true, laidLooks := .later }
def RingsNumbersCardSaid : Prop := Claim7.holds Tryd.pinned (.plain (OpenSpec.ofChange ringsNumbersSpec)) ringsNumbersCard

/-- THE TIED CARD OF 'sennitlaw03.RingsPlaces'. -/
def ringsPlacesCard : Claim7 := { stood := { row := ringsPlacesRow, standIns := [], harness := (true, "8a3025fee988f85c99ece6c98bc69756f62e66b44f80b6ac1da19e3147113691"), looks := false }, kinds := [], alts := [], laidByText := true, laidKinds := [.data], laidTests := true, laidLooks := .later }
def RingsPlacesCardSaid : Prop := Claim7.holds Tryd.pinned (.plain (OpenSpec.ofChange ringsPlacesSpec)) ringsPlacesCard

/-- THE TIED CARD OF 'sennitlaw08.WiresTrack'. -/
def wiresTrackCard : Claim7 := { stood := { row := wiresTrackRow, standIns := [], harness := (true, "8a3025fee988f85c99ece6c98bc69756f62e66b44f80b6ac1da19e3147113691"), looks := false }, kinds := [], alts := [], laidByText := true, laidKinds := [.data], laidTests := true, laidLooks := .later }
def WiresTrackCardSaid : Prop := Claim7.holds Tryd.pinned (.plain (OpenSpec.ofChange wiresTrackSpec)) wiresTrackCard

/-- THE TIED CARD OF 'sennitlaw08.WiresAll'. -/
def wiresAllCard : Claim7 := { stood := { row := wiresAllRow, standIns := [], harness := (true, "8a3025fee988f85c99ece6c98bc69756f62e66b44f80b6ac1da19e3147113691"), looks := false }, kinds := [], alts := [], laidByText := true, laidKinds := [.data], laidTests := true, laidLooks := .later }
def WiresAllCardSaid : Prop := Claim7.holds Tryd.pinned (.plain (OpenSpec.ofChange wiresAllSpec)) wiresAllCard

/-- THE TIED CARD OF 'sennitlaw08.WiresApart'. -/
def wiresApartCard : Claim7 := { stood := { row := wiresApartRow, standIns := [], harness := (true, "8a3025fee988f85c99ece6c98bc69756f62e66b44f80b6ac1da19e3147113691"), looks := false }, kinds := [], alts := [], laidByText := true, laidKinds := [.data], laidTests := true, laidLooks := .later }
def WiresApartCardSaid : Prop := Claim7.holds Tryd.pinned (.plain (OpenSpec.ofChange wiresApartSpec)) wiresApartCard

/-- THE TIED CARD OF 'sennitlaw08.WiresRun'. -/
def wiresRunCard : Claim7 := { stood := { row := wiresRunRow, standIns := [], harness := (true, "8a3025fee988f85c99ece6c98bc69756f62e66b44f80b6ac1da19e3147113691"), looks := false }, kinds := [], alts := [], laidByText := true, laidKinds := [.data], laidTests := true, laidLooks := .later }
def WiresRunCardSaid : Prop := Claim7.holds Tryd.pinned (.plain (OpenSpec.ofChange wiresRunSpec)) wiresRunCard

/-- THE TIED CARD OF 'sennitlaw08.WiresVoid'. -/
def wiresVoidCard : Claim7 := { stood := { row := wiresVoidRow, standIns := [], harness := (true, "8a3025fee988f85c99ece6c98bc69756f62e66b44f80b6ac1da19e3147113691"), looks := false }, kinds := [], alts := [], laidByText := true, laidKinds := [.data], laidTests := true, laidLooks := .later }
def WiresVoidCardSaid : Prop := Claim7.holds Tryd.pinned (.plain (OpenSpec.ofChange wiresVoidSpec)) wiresVoidCard

/-- THE SECOND FORM's CARD OF 'sennitlaw03.RingsSteps'. -/
def ringsStepsUptoCard : Claim7 := { stood := { row := ringsStepsUptoRow, standIns := [], harness := (true, "8a3025fee988f85c99ece6c98bc69756f62e66b44f80b6ac1da19e3147113691"), looks := false }, kinds := [], alts := [], laidByText := true, laidKinds := [.data], laidTests := true, laidLooks := .later }
def RingsStepsUptoCardSaid : Prop := Claim7.holds Tryd.pinned (.plain (OpenSpec.upto ringsStepsSpec)) ringsStepsUptoCard

/-- THE SECOND FORM's CARD OF 'sennitlaw03.RingsLinks'. -/
def ringsLinksUptoCard : Claim7 := { stood := { row := ringsLinksUptoRow, standIns := [], harness := (true, "8a3025fee988f85c99ece6c98bc69756f62e66b44f80b6ac1da19e3147113691"), looks := false }, kinds := [], alts := [], laidByText := true, laidKinds := [.data], laidTests := true, laidLooks := .later }
def RingsLinksUptoCardSaid : Prop := Claim7.holds Tryd.pinned (.plain (OpenSpec.upto ringsLinksSpec)) ringsLinksUptoCard

/-- THE SECOND FORM's CARD OF 'sennitlaw03.RingsPaths'. -/
def ringsPathsUptoCard : Claim7 := { stood := { row := ringsPathsUptoRow, standIns := [], harness := (true, "8a3025fee988f85c99ece6c98bc69756f62e66b44f80b6ac1da19e3147113691"), looks := false }, kinds := [], alts := [], laidByText := true, laidKinds := [.data], laidTests := true, laidLooks := .later }
def RingsPathsUptoCardSaid : Prop := Claim7.holds Tryd.pinned (.plain (OpenSpec.upto ringsPathsSpec)) ringsPathsUptoCard

/-- THE SECOND FORM's CARD OF 'sennitlaw03.RingsRound'. -/
def ringsRoundUptoCard : Claim7 := { stood := { row := ringsRoundUptoRow, standIns := [], harness := (true, "8a3025fee988f85c99ece6c98bc69756f62e66b44f80b6ac1da19e3147113691"), looks := false }, kinds := [], alts := [], laidByText := true, laidKinds := [.data], laidTests := true, laidLooks := .later }
def RingsRoundUptoCardSaid : Prop := Claim7.holds Tryd.pinned (.plain (OpenSpec.upto ringsRoundSpec)) ringsRoundUptoCard

/-- THE SECOND FORM's CARD OF 'sennitlaw03.RingsDisjoint'. -/
def ringsDisjointUptoCard : Claim7 := { stood := { row := ringsDisjointUptoRow, standIns := [], harness := (true, "8a3025fee988f85c99ece6c98bc69756f62e66b44f80b6ac1da19e3147113691"), looks := false }, kinds := [], alts := [], laidByText := true, laidKinds := [.data], laidTests := true, laidLooks := .later }
def RingsDisjointUptoCardSaid : Prop := Claim7.holds Tryd.pinned (.plain (OpenSpec.upto ringsDisjointSpec)) ringsDisjointUptoCard

/-- THE SECOND FORM's CARD OF 'sennitlaw03.RingsNumbers'. -/
def ringsNumbersUptoCard : Claim7 := { stood := { row := ringsNumbersUptoRow, standIns := [], harness := (true, "8a3025fee988f85c99ece6c98bc69756f62e66b44f80b6ac1da19e3147113691"), looks := false }, kinds := [], alts := [], laidByText := true, laidKinds := [.data], laidTests := true, laidLooks := .later }
def RingsNumbersUptoCardSaid : Prop := Claim7.holds Tryd.pinned (.plain (OpenSpec.upto ringsNumbersSpec)) ringsNumbersUptoCard

/-- THE SECOND FORM's CARD OF 'sennitlaw03.RingsPlaces'. -/
def ringsPlacesUptoCard : Claim7 := { stood := { row := ringsPlacesUptoRow, standIns := [], harness := (true, "8a3025fee988f85c99ece6c98bc69756f62e66b44f80b6ac1da19e3147113691"), looks := false }, kinds := [], alts := [], laidByText := true, laidKinds := [.data], laidTests := true, laidLooks := .later }
def RingsPlacesUptoCardSaid : Prop := Claim7.holds Tryd.pinned (.plain (OpenSpec.upto ringsPlacesSpec)) ringsPlacesUptoCard

/-- THE SECOND FORM's CARD OF 'sennitlaw08.WiresTrack'. -/
def wiresTrackUptoCard : Claim7 := { stood := { row := wiresTrackUptoRow, standIns := [], harness := (true, "8a3025fee988f85c99ece6c98bc69756f62e66b44f80b6ac1da19e3147113691"), looks := false }, kinds := [], alts := [], laidByText := true, laidKinds := [.data], laidTests := true, laidLooks := .later }
def WiresTrackUptoCardSaid : Prop := Claim7.holds Tryd.pinned (.plain (OpenSpec.upto wiresTrackSpec)) wiresTrackUptoCard

/-- THE SECOND FORM's CARD OF 'sennitlaw08.WiresAll'. -/
def wiresAllUptoCard : Claim7 := { stood := { row := wiresAllUptoRow, standIns := [], harness := (true, "8a3025fee988f85c99ece6c98bc69756f62e66b44f80b6ac1da19e3147113691"), looks := false }, kinds := [], alts := [], laidByText := true, laidKinds := [.data], laidTests := true, laidLooks := .later }
def WiresAllUptoCardSaid : Prop := Claim7.holds Tryd.pinned (.plain (OpenSpec.upto wiresAllSpec)) wiresAllUptoCard

/-- THE SECOND FORM's CARD OF 'sennitlaw08.WiresApart'. -/
def wiresApartUptoCard : Claim7 := { stood := { row := wiresApartUptoRow, standIns := [], harness := (true, "8a3025fee988f85c99ece6c98bc69756f62e66b44f80b6ac1da19e3147113691"), looks := false }, kinds := [], alts := [], laidByText := true, laidKinds := [.data], laidTests := true, laidLooks := .later }
def WiresApartUptoCardSaid : Prop := Claim7.holds Tryd.pinned (.plain (OpenSpec.upto wiresApartSpec)) wiresApartUptoCard

/-- THE SECOND FORM's CARD OF 'sennitlaw08.WiresRun'. -/
def wiresRunUptoCard : Claim7 := { stood := { row := wiresRunUptoRow, standIns := [], harness := (true, "8a3025fee988f85c99ece6c98bc69756f62e66b44f80b6ac1da19e3147113691"), looks := false }, kinds := [], alts := [], laidByText := true, laidKinds := [.data], laidTests := true, laidLooks := .later }
def WiresRunUptoCardSaid : Prop := Claim7.holds Tryd.pinned (.plain (OpenSpec.upto wiresRunSpec)) wiresRunUptoCard

/-- THE SECOND FORM's CARD OF 'sennitlaw08.WiresVoid'. -/
def wiresVoidUptoCard : Claim7 := { stood := { row := wiresVoidUptoRow, standIns := [], harness := (true, "8a3025fee988f85c99ece6c98bc69756f62e66b44f80b6ac1da19e3147113691"), looks := false }, kinds := [], alts := [], laidByText := true, laidKinds := [.data], laidTests := true, laidLooks := .later }
def WiresVoidUptoCardSaid : Prop := Claim7.holds Tryd.pinned (.plain (OpenSpec.upto wiresVoidSpec)) wiresVoidUptoCard
end Rows
end Go.Proofs.YteogoddnefeleaaDoor
