/-
  DERIVED. GIVEN WITH THE SEED: THE CARDS: each row of YtddmbdigdnmfgaaGreatDoorRows.lean that lists a variable, with what it lists TIED to the program's text (the seventh form; the later family's looks); each row that meets fmt, with fmt's text TOLD by the authors' own Lean function (tested against real Go, not proved from fmt's source: count such statements apart). THE CARD IS WHAT COUNTS. Prove the row's statement (the work); the ties are given (YtddmbdigdnmfgaaGreatDoorTie.lean); close each card by the builder's one call (the guide's Derived/Test/ToyasCard.lean, 'card_holds'). Laid BY PROGRAM, IN A SANDBOX (cutbox-door.mjs). By AI agents, Wed Nov 11 2026. No macro, syntax, notation, axiom, sorry.
-/
import Derived.Test.YtddmbdigdnmfgaaGreatDoorRows
import GoSem.ClaimSeven
namespace Go.Proofs.YtddmbdigdnmfgaaGreatDoor
namespace Rows

/-- THE TIED CARD OF 'spencelaw21.RecipeBytes'. -/
def recipeBytesCard : Claim7 := { stood := { row := recipeBytesRow, standIns := [], harness := (true, "079cba2ee34e9106e758b0d1b4039b62c5b8d3d6b448bbd9b520c43c16901930"), looks := true }, kinds := [], alts := [], laidByText := true, laidKinds := [.data, .pinned], laidTests := true, laidLooks := .later }
def RecipeBytesCardSaid : Prop := Claim7.holds Tryz.pinned (.plain (OpenSpec.ofChange recipeBytesSpec)) recipeBytesCard

/-- THE TIED CARD OF 'spencelaw21.RecipeSmall'. -/
def recipeSmallCard : Claim7 := { stood := { row := recipeSmallRow, standIns := [], harness := (true, "079cba2ee34e9106e758b0d1b4039b62c5b8d3d6b448bbd9b520c43c16901930"), looks := true }, kinds := [], alts := [], laidByText := true, laidKinds := [.data, .pinned], laidTests := true, laidLooks := .later }
def RecipeSmallCardSaid : Prop := Claim7.holds Tryz.pinned (.plain (OpenSpec.ofChange recipeSmallSpec)) recipeSmallCard

/-- THE TIED CARD OF 'spencelaw21.RecipeFuel'. -/
def recipeFuelCard : Claim7 := { stood := { row := recipeFuelRow, standIns := [], harness := (true, "079cba2ee34e9106e758b0d1b4039b62c5b8d3d6b448bbd9b520c43c16901930"), looks := true }, kinds := [], alts := [], laidByText := true, laidKinds := [.data, .pinned], laidTests := true, laidLooks := .later }
def RecipeFuelCardSaid : Prop := Claim7.holds Tryz.pinned (.plain (OpenSpec.ofChange recipeFuelSpec)) recipeFuelCard

/-- THE TIED CARD OF 'spencelaw21.RecipeBack'. -/
def recipeBackCard : Claim7 := { stood := { row := recipeBackRow, standIns := [], harness := (true, "079cba2ee34e9106e758b0d1b4039b62c5b8d3d6b448bbd9b520c43c16901930"), looks := true }, kinds := [], alts := [], laidByText := true, laidKinds := [.data, .pinned], laidTests := true, laidLooks := .later }
def RecipeBackCardSaid : Prop := Claim7.holds Tryz.pinned (.plain (OpenSpec.ofChange recipeBackSpec)) recipeBackCard

/-- THE TIED CARD OF 'spencelaw21.RecipePure'. -/
def recipePureCard : Claim7 := { stood := { row := recipePureRow, standIns := [], harness := (true, "079cba2ee34e9106e758b0d1b4039b62c5b8d3d6b448bbd9b520c43c16901930"), looks := true }, kinds := [], alts := [], laidByText := true, laidKinds := [.data, .pinned], laidTests := true, laidLooks := .later }
def RecipePureCardSaid : Prop := Claim7.holds Tryz.pinned (.plain (OpenSpec.ofChange recipePureSpec)) recipePureCard

/-- THE SECOND FORM's CARD OF 'spencelaw21.RecipeBytes'. -/
def recipeBytesUptoCard : Claim7 := { stood := { row := recipeBytesUptoRow, standIns := [], harness := (true, "079cba2ee34e9106e758b0d1b4039b62c5b8d3d6b448bbd9b520c43c16901930"), looks := true }, kinds := [], alts := [], laidByText := true, laidKinds := [.data, .pinned], laidTests := true, laidLooks := .later }
def RecipeBytesUptoCardSaid : Prop := Claim7.holds Tryz.pinned (.plain (OpenSpec.upto recipeBytesSpec)) recipeBytesUptoCard

/-- THE SECOND FORM's CARD OF 'spencelaw21.RecipeSmall'. -/
def recipeSmallUptoCard : Claim7 := { stood := { row := recipeSmallUptoRow, standIns := [], harness := (true, "079cba2ee34e9106e758b0d1b4039b62c5b8d3d6b448bbd9b520c43c16901930"), looks := true }, kinds := [], alts := [], laidByText := true, laidKinds := [.data, .pinned], laidTests := true, laidLooks := .later }
def RecipeSmallUptoCardSaid : Prop := Claim7.holds Tryz.pinned (.plain (OpenSpec.upto recipeSmallSpec)) recipeSmallUptoCard

/-- THE SECOND FORM's CARD OF 'spencelaw21.RecipeFuel'. -/
def recipeFuelUptoCard : Claim7 := { stood := { row := recipeFuelUptoRow, standIns := [], harness := (true, "079cba2ee34e9106e758b0d1b4039b62c5b8d3d6b448bbd9b520c43c16901930"), looks := true }, kinds := [], alts := [], laidByText := true, laidKinds := [.data, .pinned], laidTests := true, laidLooks := .later }
def RecipeFuelUptoCardSaid : Prop := Claim7.holds Tryz.pinned (.plain (OpenSpec.upto recipeFuelSpec)) recipeFuelUptoCard

/-- THE SECOND FORM's CARD OF 'spencelaw21.RecipeBack'. -/
def recipeBackUptoCard : Claim7 := { stood := { row := recipeBackUptoRow, standIns := [], harness := (true, "079cba2ee34e9106e758b0d1b4039b62c5b8d3d6b448bbd9b520c43c16901930"), looks := true }, kinds := [], alts := [], laidByText := true, laidKinds := [.data, .pinned], laidTests := true, laidLooks := .later }
def RecipeBackUptoCardSaid : Prop := Claim7.holds Tryz.pinned (.plain (OpenSpec.upto recipeBackSpec)) recipeBackUptoCard

/-- THE SECOND FORM's CARD OF 'spencelaw21.RecipePure'. -/
def recipePureUptoCard : Claim7 := { stood := { row := recipePureUptoRow, standIns := [], harness := (true, "079cba2ee34e9106e758b0d1b4039b62c5b8d3d6b448bbd9b520c43c16901930"), looks := true }, kinds := [], alts := [], laidByText := true, laidKinds := [.data, .pinned], laidTests := true, laidLooks := .later }
def RecipePureUptoCardSaid : Prop := Claim7.holds Tryz.pinned (.plain (OpenSpec.upto recipePureSpec)) recipePureUptoCard
end Rows
end Go.Proofs.YtddmbdigdnmfgaaGreatDoor
