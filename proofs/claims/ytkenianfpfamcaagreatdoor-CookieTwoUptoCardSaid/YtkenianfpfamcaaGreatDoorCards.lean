/-
  DERIVED. GIVEN WITH THE SEED: THE CARDS: each row of YtkenianfpfamcaaGreatDoorRows.lean that lists a variable, with what it lists TIED to the program's text (the seventh form; the later family's looks); each row that meets fmt, with fmt's text TOLD by the authors' own Lean function (tested against real Go, not proved from fmt's source: count such statements apart). THE CARD IS WHAT COUNTS. Prove the row's statement (the work); the ties are given (YtkenianfpfamcaaGreatDoorTie.lean); close each card by the builder's one call (the guide's Derived/Test/ToyasCard.lean, 'card_holds'). Laid BY PROGRAM, IN A SANDBOX (cutbox-door.mjs). By AI agents, Wed Nov 11 2026. No macro, syntax, notation, axiom, sorry.
-/
import Derived.Test.YtkenianfpfamcaaGreatDoorRows
import GoSem.ClaimSeven
namespace Go.Proofs.YtkenianfpfamcaaGreatDoor
namespace Rows

/-- THE TIED CARD OF 'turnpikelaw16.CookiePrints'. -/
def cookiePrintsCard : Claim7 := { stood := { row := cookiePrintsRow, standIns := [], harness := (true, "0c783d6434474b908e0ee05e05829e136404cfefd8b91e792895fc0dadd94be2"), looks := false }, kinds := [], alts := [], laidByText := true, laidKinds := [.data, .data, .data, .data, .data, .widerDeep, .widerDeep, .pinned], laidTests := true, laidLooks := .later }
def CookiePrintsCardSaid : Prop := Claim7.holds Tryz.pinned (.plain (OpenSpec.ofChange cookiePrintsSpec)) cookiePrintsCard

/-- THE TIED CARD OF 'turnpikelaw16.CookieBack'. -/
def cookieBackCard : Claim7 := { stood := { row := cookieBackRow, standIns := [], harness := (true, "0c783d6434474b908e0ee05e05829e136404cfefd8b91e792895fc0dadd94be2"), looks := false }, kinds := [], alts := [], laidByText := true, laidKinds := [.data, .data, .data, .data, .data, .widerDeep, .widerDeep, .pinned], laidTests := true, laidLooks := .later }
def CookieBackCardSaid : Prop := Claim7.holds Tryz.pinned (.plain (OpenSpec.ofChange cookieBackSpec)) cookieBackCard

/-- THE TIED CARD OF 'turnpikelaw16.CookieSets'. -/
def cookieSetsCard : Claim7 := { stood := { row := cookieSetsRow, standIns := [], harness := (true, "0c783d6434474b908e0ee05e05829e136404cfefd8b91e792895fc0dadd94be2"), looks := false }, kinds := [], alts := [], laidByText := true, laidKinds := [.data, .data, .data, .data, .data, .widerDeep, .widerDeep, .pinned], laidTests := true, laidLooks := .later }
def CookieSetsCardSaid : Prop := Claim7.holds Tryz.pinned (.plain (OpenSpec.ofChange cookieSetsSpec)) cookieSetsCard

/-- THE TIED CARD OF 'turnpikelaw16.CookieSays'. -/
def cookieSaysCard : Claim7 := { stood := { row := cookieSaysRow, standIns := [], harness := (true, "0c783d6434474b908e0ee05e05829e136404cfefd8b91e792895fc0dadd94be2"), looks := false }, kinds := [], alts := [], laidByText := true, laidKinds := [.data, .data, .data, .data, .data, .widerDeep, .widerDeep, .pinned], laidTests := true, laidLooks := .later }
def CookieSaysCardSaid : Prop := Claim7.holds Tryz.pinned (.plain (OpenSpec.ofChange cookieSaysSpec)) cookieSaysCard

/-- THE TIED CARD OF 'turnpikelaw16.CookieMemory'. -/
def cookieMemoryCard : Claim7 := { stood := { row := cookieMemoryRow, standIns := [], harness := (true, "0c783d6434474b908e0ee05e05829e136404cfefd8b91e792895fc0dadd94be2"), looks := false }, kinds := [], alts := [], laidByText := true, laidKinds := [.data, .data, .data, .data, .data, .widerDeep, .widerDeep, .pinned], laidTests := true, laidLooks := .later }
def CookieMemoryCardSaid : Prop := Claim7.holds Tryz.pinned (.plain (OpenSpec.ofChange cookieMemorySpec)) cookieMemoryCard

/-- THE TIED CARD OF 'turnpikelaw16.CookieTwo'. -/
def cookieTwoCard : Claim7 := { stood := { row := cookieTwoRow, standIns := [], harness := (true, "0c783d6434474b908e0ee05e05829e136404cfefd8b91e792895fc0dadd94be2"), looks := false }, kinds := [], alts := [], laidByText := true, laidKinds := [.data, .data, .data, .data, .data, .widerDeep, .widerDeep, .pinned], laidTests := true, laidLooks := .later }
def CookieTwoCardSaid : Prop := Claim7.holds Tryz.pinned (.plain (OpenSpec.ofChange cookieTwoSpec)) cookieTwoCard

/-- THE TIED CARD OF 'turnpikelaw16.CookieOwn'. -/
def cookieOwnCard : Claim7 := { stood := { row := cookieOwnRow, standIns := [], harness := (true, "0c783d6434474b908e0ee05e05829e136404cfefd8b91e792895fc0dadd94be2"), looks := false }, kinds := [], alts := [], laidByText := true, laidKinds := [.data, .data, .data, .data, .data, .widerDeep, .widerDeep, .pinned], laidTests := true, laidLooks := .later }
def CookieOwnCardSaid : Prop := Claim7.holds Tryz.pinned (.plain (OpenSpec.ofChange cookieOwnSpec)) cookieOwnCard

/-- THE TIED CARD OF 'turnpikelaw16.CookieParses'. -/
def cookieParsesCard : Claim7 := { stood := { row := cookieParsesRow, standIns := [], harness := (true, "0c783d6434474b908e0ee05e05829e136404cfefd8b91e792895fc0dadd94be2"), looks := false }, kinds := [], alts := [], laidByText := true, laidKinds := [.data, .data, .data, .data, .data, .widerDeep, .widerDeep, .pinned], laidTests := true, laidLooks := .later }
def CookieParsesCardSaid : Prop := Claim7.holds Tryz.pinned (.plain (OpenSpec.ofChange cookieParsesSpec)) cookieParsesCard

/-- THE SECOND FORM's CARD OF 'turnpikelaw16.CookiePrints'. -/
def cookiePrintsUptoCard : Claim7 := { stood := { row := cookiePrintsUptoRow, standIns := [], harness := (true, "0c783d6434474b908e0ee05e05829e136404cfefd8b91e792895fc0dadd94be2"), looks := false }, kinds := [], alts := [], laidByText := true, laidKinds := [.data, .data, .data, .data, .data, .widerDeep, .widerDeep, .pinned], laidTests := true, laidLooks := .later }
def CookiePrintsUptoCardSaid : Prop := Claim7.holds Tryz.pinned (.plain (OpenSpec.upto cookiePrintsSpec)) cookiePrintsUptoCard

/-- THE SECOND FORM's CARD OF 'turnpikelaw16.CookieBack'. -/
def cookieBackUptoCard : Claim7 := { stood := { row := cookieBackUptoRow, standIns := [], harness := (true, "0c783d6434474b908e0ee05e05829e136404cfefd8b91e792895fc0dadd94be2"), looks := false }, kinds := [], alts := [], laidByText := true, laidKinds := [.data, .data, .data, .data, .data, .widerDeep, .widerDeep, .pinned], laidTests := true, laidLooks := .later }
def CookieBackUptoCardSaid : Prop := Claim7.holds Tryz.pinned (.plain (OpenSpec.upto cookieBackSpec)) cookieBackUptoCard

/-- THE SECOND FORM's CARD OF 'turnpikelaw16.CookieSets'. -/
def cookieSetsUptoCard : Claim7 := { stood := { row := cookieSetsUptoRow, standIns := [], harness := (true, "0c783d6434474b908e0ee05e05829e136404cfefd8b91e792895fc0dadd94be2"), looks := false }, kinds := [], alts := [], laidByText := true, laidKinds := [.data, .data, .data, .data, .data, .widerDeep, .widerDeep, .pinned], laidTests := true, laidLooks := .later }
def CookieSetsUptoCardSaid : Prop := Claim7.holds Tryz.pinned (.plain (OpenSpec.upto cookieSetsSpec)) cookieSetsUptoCard

/-- THE SECOND FORM's CARD OF 'turnpikelaw16.CookieSays'. -/
def cookieSaysUptoCard : Claim7 := { stood := { row := cookieSaysUptoRow, standIns := [], harness := (true, "0c783d6434474b908e0ee05e05829e136404cfefd8b91e792895fc0dadd94be2"), looks := false }, kinds := [], alts := [], laidByText := true, laidKinds := [.data, .data, .data, .data, .data, .widerDeep, .widerDeep, .pinned], laidTests := true, laidLooks := .later }
def CookieSaysUptoCardSaid : Prop := Claim7.holds Tryz.pinned (.plain (OpenSpec.upto cookieSaysSpec)) cookieSaysUptoCard

/-- THE SECOND FORM's CARD OF 'turnpikelaw16.CookieMemory'. -/
def cookieMemoryUptoCard : Claim7 := { stood := { row := cookieMemoryUptoRow, standIns := [], harness := (true, "0c783d6434474b908e0ee05e05829e136404cfefd8b91e792895fc0dadd94be2"), looks := false }, kinds := [], alts := [], laidByText := true, laidKinds := [.data, .data, .data, .data, .data, .widerDeep, .widerDeep, .pinned], laidTests := true, laidLooks := .later }
def CookieMemoryUptoCardSaid : Prop := Claim7.holds Tryz.pinned (.plain (OpenSpec.upto cookieMemorySpec)) cookieMemoryUptoCard

/-- THE SECOND FORM's CARD OF 'turnpikelaw16.CookieTwo'. -/
def cookieTwoUptoCard : Claim7 := { stood := { row := cookieTwoUptoRow, standIns := [], harness := (true, "0c783d6434474b908e0ee05e05829e136404cfefd8b91e792895fc0dadd94be2"), looks := false }, kinds := [], alts := [], laidByText := true, laidKinds := [.data, .data, .data, .data, .data, .widerDeep, .widerDeep, .pinned], laidTests := true, laidLooks := .later }
def CookieTwoUptoCardSaid : Prop := Claim7.holds Tryz.pinned (.plain (OpenSpec.upto cookieTwoSpec)) cookieTwoUptoCard

/-- THE SECOND FORM's CARD OF 'turnpikelaw16.CookieOwn'. -/
def cookieOwnUptoCard : Claim7 := { stood := { row := cookieOwnUptoRow, standIns := [], harness := (true, "0c783d6434474b908e0ee05e05829e136404cfefd8b91e792895fc0dadd94be2"), looks := false }, kinds := [], alts := [], laidByText := true, laidKinds := [.data, .data, .data, .data, .data, .widerDeep, .widerDeep, .pinned], laidTests := true, laidLooks := .later }
def CookieOwnUptoCardSaid : Prop := Claim7.holds Tryz.pinned (.plain (OpenSpec.upto cookieOwnSpec)) cookieOwnUptoCard

/-- THE SECOND FORM's CARD OF 'turnpikelaw16.CookieParses'. -/
def cookieParsesUptoCard : Claim7 := { stood := { row := cookieParsesUptoRow, standIns := [], harness := (true, "0c783d6434474b908e0ee05e05829e136404cfefd8b91e792895fc0dadd94be2"), looks := false }, kinds := [], alts := [], laidByText := true, laidKinds := [.data, .data, .data, .data, .data, .widerDeep, .widerDeep, .pinned], laidTests := true, laidLooks := .later }
def CookieParsesUptoCardSaid : Prop := Claim7.holds Tryz.pinned (.plain (OpenSpec.upto cookieParsesSpec)) cookieParsesUptoCard
end Rows
end Go.Proofs.YtkenianfpfamcaaGreatDoor
