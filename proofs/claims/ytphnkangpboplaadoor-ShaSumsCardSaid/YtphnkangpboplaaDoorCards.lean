/-
  DERIVED. GIVEN WITH THE SEED: THE CARDS: each row of YtphnkangpboplaaDoorRows.lean that lists a variable, with what it lists TIED to the program's text (the seventh form; the later family's looks); each row that meets fmt, with fmt's text TOLD by the authors' own Lean function (tested against real Go, not proved from fmt's source: count such statements apart). THE CARD IS WHAT COUNTS. Prove the row's statement (the work); the ties are given (YtphnkangpboplaaDoorTie.lean); close each card by the builder's one call (the guide's Derived/Test/ToyasCard.lean, 'card_holds'). Laid BY PROGRAM, IN A SANDBOX (cutbox-door.mjs). By AI agents, Wed Nov 11 2026. No macro, syntax, notation, axiom, sorry.
-/
import Derived.Test.YtphnkangpboplaaDoorRows
import GoSem.ClaimSeven
namespace Go.Proofs.YtphnkangpboplaaDoor
namespace Rows

/-- THE TIED CARD OF 'parterrelaw01.ShaParts'. -/
def shaPartsCard : Claim7 := { stood := { row := shaPartsRow, standIns := [], harness := (true, "4d49f18bc72106957a98e100f337eb8142b019abaee885470db39f93e0a84817"), looks := false }, kinds := [], alts := [], laidByText := true, laidKinds := [.data], laidTests := true, laidLooks := .later }
def ShaPartsCardSaid : Prop := Claim7.holds Tryd.pinned (.plain (OpenSpec.ofChange shaPartsSpec)) shaPartsCard

/-- THE TIED CARD OF 'parterrelaw01.ShaHexes'. -/
def shaHexesCard : Claim7 := { stood := { row := shaHexesRow, standIns := [], harness := (true, "4d49f18bc72106957a98e100f337eb8142b019abaee885470db39f93e0a84817"), looks := false }, kinds := [], alts := [], laidByText := true, laidKinds := [.data], laidTests := true, laidLooks := .later }
def ShaHexesCardSaid : Prop := Claim7.holds Tryd.pinned (.plain (OpenSpec.ofChange shaHexesSpec)) shaHexesCard

/-- THE TIED CARD OF 'parterrelaw01.ShaSums'. -/
def shaSumsCard : Claim7 := { stood := { row := shaSumsRow, standIns := [], harness := (true, "4d49f18bc72106957a98e100f337eb8142b019abaee885470db39f93e0a84817"), looks := false }, kinds := [], alts := [], laidByText := true, laidKinds := [.data], laidTests := true, laidLooks := .later }
def ShaSumsCardSaid : Prop := Claim7.holds Tryd.pinned (.plain (OpenSpec.ofChange shaSumsSpec)) shaSumsCard

/-- THE SECOND FORM's CARD OF 'parterrelaw01.ShaParts'. -/
def shaPartsUptoCard : Claim7 := { stood := { row := shaPartsUptoRow, standIns := [], harness := (true, "4d49f18bc72106957a98e100f337eb8142b019abaee885470db39f93e0a84817"), looks := false }, kinds := [], alts := [], laidByText := true, laidKinds := [.data], laidTests := true, laidLooks := .later }
def ShaPartsUptoCardSaid : Prop := Claim7.holds Tryd.pinned (.plain (OpenSpec.upto shaPartsSpec)) shaPartsUptoCard

/-- THE SECOND FORM's CARD OF 'parterrelaw01.ShaHexes'. -/
def shaHexesUptoCard : Claim7 := { stood := { row := shaHexesUptoRow, standIns := [], harness := (true, "4d49f18bc72106957a98e100f337eb8142b019abaee885470db39f93e0a84817"), looks := false }, kinds := [], alts := [], laidByText := true, laidKinds := [.data], laidTests := true, laidLooks := .later }
def ShaHexesUptoCardSaid : Prop := Claim7.holds Tryd.pinned (.plain (OpenSpec.upto shaHexesSpec)) shaHexesUptoCard

/-- THE SECOND FORM's CARD OF 'parterrelaw01.ShaSums'. -/
def shaSumsUptoCard : Claim7 := { stood := { row := shaSumsUptoRow, standIns := [], harness := (true, "4d49f18bc72106957a98e100f337eb8142b019abaee885470db39f93e0a84817"), looks := false }, kinds := [], alts := [], laidByText := true, laidKinds := [.data], laidTests := true, laidLooks := .later }
def ShaSumsUptoCardSaid : Prop := Claim7.holds Tryd.pinned (.plain (OpenSpec.upto shaSumsSpec)) shaSumsUptoCard
end Rows
end Go.Proofs.YtphnkangpboplaaDoor
