/-
  NARROWER THAN 'FOR EVERY INPUT', by the rows' own cells (each row's printed sentence says how): RecipeBytes: laid · RecipeSmall: laid · RecipeFuel: loops, laid · RecipeBack: laid · RecipePure: loops, laid.
  DERIVED. THE GIVEN ROWS OF THIS SEAT. 5 by the template 'for every input the law returns true; each argument reads behind the call as it read before'; 0 by the template 'total and deterministic' (their statements: YtddmbdigdnmfgaaGreatDoorTotals.lean).
  GIVEN WITH THE SEED: the statements are not yours to turn. If you find one false, say at which input.
  Laid BY PROGRAM, IN A SANDBOX (cutbox-rows.mjs): the forced cells as the released guide's own fill.sh prints them over the translation 75ca61ad4882ef6d… (all of the seat's roots in one cut). By AI agents, Wed Nov 11 2026. No macro, syntax, notation, axiom, sorry.
-/
import Derived.Test.YtddmbdigdnmfgaaGreatDoorChecked
import GoSem.PinnedTables
import GoSem.Claim
import GoSem.ClaimJoined
import GoSem.ClaimMapViews
import Derived.JoinedTies
import Derived.KernelRfl
namespace Go.Proofs.YtddmbdigdnmfgaaGreatDoor
/- THE CELL 'sum', in the pinned program and in every row, IS THE sha256 OF THE DUMP (.gsa) THAT YtddmbdigdnmfgaaGreatDoorProg.lean LOADS. Nothing in Lean hashes anything: it is a label: what it is worth is what the hold of that sum in a sandbox is worth. -/
noncomputable def Tryz.pinned : Pinned := { name := "ytddmbdigdnmfgaagreatdoor", sum := "75ca61ad4882ef6d849f98b429cb539bbcdf6dcbd1661d3c4633e1f5a63a101d", checked := Tryz.checked }
namespace Rows
def none {H : Type} : Left H := { results := [], args := [] }

/- WHAT THE LISTED PACKAGE-LEVEL VARIABLES READ AS WHEN THE CALL BEGINS. Each datum BY PROGRAM (the guide's laid-datum.mjs) off the statement by which the dump's own 'gosem.cut.vars' lays the variable. In a bare row this is a premise. The card (YtddmbdigdnmfgaaGreatDoorCards.lean) ties it to the program's text. -/
def laid_unicode_utf8_acceptRanges {H : Type} : DataW H := .agg [.agg [.lit (.int .u8 128), .lit (.int .u8 191)], .agg [.lit (.int .u8 160), .lit (.int .u8 191)], .agg [.lit (.int .u8 128), .lit (.int .u8 159)], .agg [.lit (.int .u8 144), .lit (.int .u8 191)], .agg [.lit (.int .u8 128), .lit (.int .u8 143)], .agg [.lit (.int .u8 0), .lit (.int .u8 0)], .agg [.lit (.int .u8 0), .lit (.int .u8 0)], .agg [.lit (.int .u8 0), .lit (.int .u8 0)], .agg [.lit (.int .u8 0), .lit (.int .u8 0)], .agg [.lit (.int .u8 0), .lit (.int .u8 0)], .agg [.lit (.int .u8 0), .lit (.int .u8 0)], .agg [.lit (.int .u8 0), .lit (.int .u8 0)], .agg [.lit (.int .u8 0), .lit (.int .u8 0)], .agg [.lit (.int .u8 0), .lit (.int .u8 0)], .agg [.lit (.int .u8 0), .lit (.int .u8 0)], .agg [.lit (.int .u8 0), .lit (.int .u8 0)]]
/-- One of Go's own tables, pinned by name: the form's constant. -/
def laid_unicode_utf8_first : DataW Unit := Go.Pinned.utf8First

/-- 'spencelaw21.RecipeBytes': WHATEVER THE INPUT: true; the input reads as it did. -/
def recipeBytesSpec : ChangeSpec := { name := "recipeBytes", fn := fun _ => fun
  | [d1, d2] => { results := [.lit (.bool true)], args := [d1, d2] }
  | _ => none }
def recipeBytesRow : OpenClaim := { program := "ytddmbdigdnmfgaagreatdoor", sum := "75ca61ad4882ef6d849f98b429cb539bbcdf6dcbd1661d3c4633e1f5a63a101d", func := "spence/spencelaw21.RecipeBytes", spec := "recipeBytes", inPlace := ["internal/bytealg.IndexByteString", "internal/bytealg.IndexString", "internal/bytealg.abigen_runtime_cmpstring", "slices.overlaps[spence/api.Kid]", "internal/bytealg.MakeNoZero", "internal/abi.NoEscape"], unfollowed := true, recurses := true, named := ["unicode/utf8.first", "unicode/utf8.acceptRanges", "internal/bytealg.MaxLen"], apart := false, laid := [("unicode/utf8.acceptRanges", laid_unicode_utf8_acceptRanges), ("unicode/utf8.first", laid_unicode_utf8_first)] }
def RecipeBytesSaid : Prop := recipeBytesRow.holds Tryz.pinned (OpenSpec.ofChange recipeBytesSpec)

/-- ITS FALSE NEIGHBOUR: 'it returns false'. Refute it at one input. -/
def recipeBytesWrong : ChangeSpec := { name := "recipeBytes", fn := fun _ => fun
  | [d1, d2] => { results := [.lit (.bool false)], args := [d1, d2] }
  | _ => none }
def RecipeBytesWrongFalsely : Prop := recipeBytesRow.holds Tryz.pinned (OpenSpec.ofChange recipeBytesWrong)

/-- 'spencelaw21.RecipeSmall': WHATEVER THE INPUT: true; the input reads as it did. -/
def recipeSmallSpec : ChangeSpec := { name := "recipeSmall", fn := fun _ => fun
  | [] => { results := [.lit (.bool true)], args := [] }
  | _ => none }
def recipeSmallRow : OpenClaim := { program := "ytddmbdigdnmfgaagreatdoor", sum := "75ca61ad4882ef6d849f98b429cb539bbcdf6dcbd1661d3c4633e1f5a63a101d", func := "spence/spencelaw21.RecipeSmall", spec := "recipeSmall", inPlace := ["internal/bytealg.IndexByteString", "internal/bytealg.IndexString", "internal/bytealg.abigen_runtime_cmpstring", "slices.overlaps[spence/api.Kid]", "internal/bytealg.MakeNoZero", "internal/abi.NoEscape"], unfollowed := true, recurses := true, named := ["unicode/utf8.first", "unicode/utf8.acceptRanges", "internal/bytealg.MaxLen"], apart := false, laid := [("unicode/utf8.acceptRanges", laid_unicode_utf8_acceptRanges), ("unicode/utf8.first", laid_unicode_utf8_first)] }
def RecipeSmallSaid : Prop := recipeSmallRow.holds Tryz.pinned (OpenSpec.ofChange recipeSmallSpec)

/-- ITS FALSE NEIGHBOUR: 'it returns false'. Refute it at one input. -/
def recipeSmallWrong : ChangeSpec := { name := "recipeSmall", fn := fun _ => fun
  | [] => { results := [.lit (.bool false)], args := [] }
  | _ => none }
def RecipeSmallWrongFalsely : Prop := recipeSmallRow.holds Tryz.pinned (OpenSpec.ofChange recipeSmallWrong)

/-- 'spencelaw21.RecipeFuel': WHATEVER THE INPUT: true; the input reads as it did. -/
def recipeFuelSpec : ChangeSpec := { name := "recipeFuel", fn := fun _ => fun
  | [d1, d2, d3, d4, d5] => { results := [.lit (.bool true)], args := [d1, d2, d3, d4, d5] }
  | _ => none }
def recipeFuelRow : OpenClaim := { program := "ytddmbdigdnmfgaagreatdoor", sum := "75ca61ad4882ef6d849f98b429cb539bbcdf6dcbd1661d3c4633e1f5a63a101d", func := "spence/spencelaw21.RecipeFuel", spec := "recipeFuel", inPlace := ["internal/bytealg.IndexByteString", "internal/bytealg.IndexString", "internal/bytealg.abigen_runtime_cmpstring", "slices.overlaps[spence/api.Kid]", "internal/bytealg.MakeNoZero", "internal/abi.NoEscape"], unfollowed := true, recurses := true, named := ["unicode/utf8.first", "unicode/utf8.acceptRanges", "internal/bytealg.MaxLen"], loops := true, apart := false, laid := [("unicode/utf8.acceptRanges", laid_unicode_utf8_acceptRanges), ("unicode/utf8.first", laid_unicode_utf8_first)] }
def RecipeFuelSaid : Prop := recipeFuelRow.holds Tryz.pinned (OpenSpec.ofChange recipeFuelSpec)

/-- ITS FALSE NEIGHBOUR: 'it returns false'. Refute it at one input. -/
def recipeFuelWrong : ChangeSpec := { name := "recipeFuel", fn := fun _ => fun
  | [d1, d2, d3, d4, d5] => { results := [.lit (.bool false)], args := [d1, d2, d3, d4, d5] }
  | _ => none }
def RecipeFuelWrongFalsely : Prop := recipeFuelRow.holds Tryz.pinned (OpenSpec.ofChange recipeFuelWrong)

/-- 'spencelaw21.RecipeBack': WHATEVER THE INPUT: true; the input reads as it did. -/
def recipeBackSpec : ChangeSpec := { name := "recipeBack", fn := fun _ => fun
  | [d1, d2, d3] => { results := [.lit (.bool true)], args := [d1, d2, d3] }
  | _ => none }
def recipeBackRow : OpenClaim := { program := "ytddmbdigdnmfgaagreatdoor", sum := "75ca61ad4882ef6d849f98b429cb539bbcdf6dcbd1661d3c4633e1f5a63a101d", func := "spence/spencelaw21.RecipeBack", spec := "recipeBack", inPlace := ["internal/bytealg.IndexByteString", "internal/bytealg.IndexString", "internal/bytealg.abigen_runtime_cmpstring", "slices.overlaps[spence/api.Kid]", "internal/bytealg.MakeNoZero", "internal/abi.NoEscape"], unfollowed := true, recurses := true, named := ["unicode/utf8.first", "unicode/utf8.acceptRanges", "internal/bytealg.MaxLen"], apart := false, laid := [("unicode/utf8.acceptRanges", laid_unicode_utf8_acceptRanges), ("unicode/utf8.first", laid_unicode_utf8_first)] }
def RecipeBackSaid : Prop := recipeBackRow.holds Tryz.pinned (OpenSpec.ofChange recipeBackSpec)

/-- ITS FALSE NEIGHBOUR: 'it returns false'. Refute it at one input. -/
def recipeBackWrong : ChangeSpec := { name := "recipeBack", fn := fun _ => fun
  | [d1, d2, d3] => { results := [.lit (.bool false)], args := [d1, d2, d3] }
  | _ => none }
def RecipeBackWrongFalsely : Prop := recipeBackRow.holds Tryz.pinned (OpenSpec.ofChange recipeBackWrong)

/-- 'spencelaw21.RecipePure': WHATEVER THE INPUT: true; the input reads as it did. -/
def recipePureSpec : ChangeSpec := { name := "recipePure", fn := fun _ => fun
  | [d1, d2, d3, d4, d5] => { results := [.lit (.bool true)], args := [d1, d2, d3, d4, d5] }
  | _ => none }
def recipePureRow : OpenClaim := { program := "ytddmbdigdnmfgaagreatdoor", sum := "75ca61ad4882ef6d849f98b429cb539bbcdf6dcbd1661d3c4633e1f5a63a101d", func := "spence/spencelaw21.RecipePure", spec := "recipePure", inPlace := ["internal/bytealg.IndexByteString", "internal/bytealg.IndexString", "internal/bytealg.abigen_runtime_cmpstring", "slices.overlaps[spence/api.Kid]", "internal/bytealg.MakeNoZero", "internal/abi.NoEscape"], unfollowed := true, recurses := true, named := ["unicode/utf8.first", "unicode/utf8.acceptRanges", "internal/bytealg.MaxLen"], loops := true, apart := false, laid := [("unicode/utf8.acceptRanges", laid_unicode_utf8_acceptRanges), ("unicode/utf8.first", laid_unicode_utf8_first)] }
def RecipePureSaid : Prop := recipePureRow.holds Tryz.pinned (OpenSpec.ofChange recipePureSpec)

/-- ITS FALSE NEIGHBOUR: 'it returns false'. Refute it at one input. -/
def recipePureWrong : ChangeSpec := { name := "recipePure", fn := fun _ => fun
  | [d1, d2, d3, d4, d5] => { results := [.lit (.bool false)], args := [d1, d2, d3, d4, d5] }
  | _ => none }
def RecipePureWrongFalsely : Prop := recipePureRow.holds Tryz.pinned (OpenSpec.ofChange recipePureWrong)

/- THE SECOND FORM. 'bulk': how many values and letters a reading holds, each counted each time it is reached (what is shared counts as often as it is met; a slice's spare places count too). A statement '..UptoSaid' is the law's where the arguments, and the package variables that the reading takes, are together of bulk at most 1048576: NARROWER than '..Said'. Prove '..Said' where nothing that the law and all that it calls make is longer than what came in: it says more and counts as full. Else prove '..UptoSaid'. A law counts once. -/
mutual
def uptoBulk {H : Type} : DataW H → Nat
  | .lit (.string bytes) => bytes.length + 1
  | .lit _ => 1
  | .nil => 1
  | .ptr d => uptoBulk d + 1
  | .slice elems spare => uptoBulkAll elems + uptoBulkAll spare + 1
  | .agg parts => uptoBulkAll parts + 1
  | .iface _ d => uptoBulk d + 1
  | .map entries => uptoBulkEntries entries + 1
  | .held _ => 1
def uptoBulkAll {H : Type} : List (DataW H) → Nat
  | [] => 0
  | d :: r => uptoBulk d + uptoBulkAll r
def uptoBulkEntries {H : Type} : List (Lit × DataW H) → Nat
  | [] => 0
  | x :: r => uptoBulkEntry x + uptoBulkEntries r
def uptoBulkEntry {H : Type} : Lit × DataW H → Nat
  | (.string bytes, d) => bytes.length + uptoBulk d + 1
  | (_, d) => uptoBulk d + 1
 end
def uptoSmall : (H : Type) → List (DataW H) → Bool := fun _ ds => decide (uptoBulkAll ds ≤ 1048576)
def OpenSpec.upto (s : _root_.Go.ChangeSpec) : _root_.Go.OpenSpec := { _root_.Go.OpenSpec.ofChange s with cond := some uptoSmall }

/-- 'spencelaw21.RecipeBytes', WHERE WHAT IT READS IS OF BULK AT MOST 1048576: true; the input reads as it did. -/
def recipeBytesUptoRow : OpenClaim := { program := "ytddmbdigdnmfgaagreatdoor", sum := "75ca61ad4882ef6d849f98b429cb539bbcdf6dcbd1661d3c4633e1f5a63a101d", func := "spence/spencelaw21.RecipeBytes", spec := "recipeBytes", inPlace := ["internal/bytealg.IndexByteString", "internal/bytealg.IndexString", "internal/bytealg.abigen_runtime_cmpstring", "slices.overlaps[spence/api.Kid]", "internal/bytealg.MakeNoZero", "internal/abi.NoEscape"], unfollowed := true, recurses := true, named := ["unicode/utf8.first", "unicode/utf8.acceptRanges", "internal/bytealg.MaxLen"], apart := false, laid := [("unicode/utf8.acceptRanges", laid_unicode_utf8_acceptRanges), ("unicode/utf8.first", laid_unicode_utf8_first)], narrowed := true }
def RecipeBytesUptoSaid : Prop := recipeBytesUptoRow.holds Tryz.pinned (OpenSpec.upto recipeBytesSpec)

/-- 'spencelaw21.RecipeSmall', WHERE WHAT IT READS IS OF BULK AT MOST 1048576: true; the input reads as it did. -/
def recipeSmallUptoRow : OpenClaim := { program := "ytddmbdigdnmfgaagreatdoor", sum := "75ca61ad4882ef6d849f98b429cb539bbcdf6dcbd1661d3c4633e1f5a63a101d", func := "spence/spencelaw21.RecipeSmall", spec := "recipeSmall", inPlace := ["internal/bytealg.IndexByteString", "internal/bytealg.IndexString", "internal/bytealg.abigen_runtime_cmpstring", "slices.overlaps[spence/api.Kid]", "internal/bytealg.MakeNoZero", "internal/abi.NoEscape"], unfollowed := true, recurses := true, named := ["unicode/utf8.first", "unicode/utf8.acceptRanges", "internal/bytealg.MaxLen"], apart := false, laid := [("unicode/utf8.acceptRanges", laid_unicode_utf8_acceptRanges), ("unicode/utf8.first", laid_unicode_utf8_first)], narrowed := true }
def RecipeSmallUptoSaid : Prop := recipeSmallUptoRow.holds Tryz.pinned (OpenSpec.upto recipeSmallSpec)

/-- 'spencelaw21.RecipeFuel', WHERE WHAT IT READS IS OF BULK AT MOST 1048576: true; the input reads as it did. -/
def recipeFuelUptoRow : OpenClaim := { program := "ytddmbdigdnmfgaagreatdoor", sum := "75ca61ad4882ef6d849f98b429cb539bbcdf6dcbd1661d3c4633e1f5a63a101d", func := "spence/spencelaw21.RecipeFuel", spec := "recipeFuel", inPlace := ["internal/bytealg.IndexByteString", "internal/bytealg.IndexString", "internal/bytealg.abigen_runtime_cmpstring", "slices.overlaps[spence/api.Kid]", "internal/bytealg.MakeNoZero", "internal/abi.NoEscape"], unfollowed := true, recurses := true, named := ["unicode/utf8.first", "unicode/utf8.acceptRanges", "internal/bytealg.MaxLen"], loops := true, apart := false, laid := [("unicode/utf8.acceptRanges", laid_unicode_utf8_acceptRanges), ("unicode/utf8.first", laid_unicode_utf8_first)], narrowed := true }
def RecipeFuelUptoSaid : Prop := recipeFuelUptoRow.holds Tryz.pinned (OpenSpec.upto recipeFuelSpec)

/-- 'spencelaw21.RecipeBack', WHERE WHAT IT READS IS OF BULK AT MOST 1048576: true; the input reads as it did. -/
def recipeBackUptoRow : OpenClaim := { program := "ytddmbdigdnmfgaagreatdoor", sum := "75ca61ad4882ef6d849f98b429cb539bbcdf6dcbd1661d3c4633e1f5a63a101d", func := "spence/spencelaw21.RecipeBack", spec := "recipeBack", inPlace := ["internal/bytealg.IndexByteString", "internal/bytealg.IndexString", "internal/bytealg.abigen_runtime_cmpstring", "slices.overlaps[spence/api.Kid]", "internal/bytealg.MakeNoZero", "internal/abi.NoEscape"], unfollowed := true, recurses := true, named := ["unicode/utf8.first", "unicode/utf8.acceptRanges", "internal/bytealg.MaxLen"], apart := false, laid := [("unicode/utf8.acceptRanges", laid_unicode_utf8_acceptRanges), ("unicode/utf8.first", laid_unicode_utf8_first)], narrowed := true }
def RecipeBackUptoSaid : Prop := recipeBackUptoRow.holds Tryz.pinned (OpenSpec.upto recipeBackSpec)

/-- 'spencelaw21.RecipePure', WHERE WHAT IT READS IS OF BULK AT MOST 1048576: true; the input reads as it did. -/
def recipePureUptoRow : OpenClaim := { program := "ytddmbdigdnmfgaagreatdoor", sum := "75ca61ad4882ef6d849f98b429cb539bbcdf6dcbd1661d3c4633e1f5a63a101d", func := "spence/spencelaw21.RecipePure", spec := "recipePure", inPlace := ["internal/bytealg.IndexByteString", "internal/bytealg.IndexString", "internal/bytealg.abigen_runtime_cmpstring", "slices.overlaps[spence/api.Kid]", "internal/bytealg.MakeNoZero", "internal/abi.NoEscape"], unfollowed := true, recurses := true, named := ["unicode/utf8.first", "unicode/utf8.acceptRanges", "internal/bytealg.MaxLen"], loops := true, apart := false, laid := [("unicode/utf8.acceptRanges", laid_unicode_utf8_acceptRanges), ("unicode/utf8.first", laid_unicode_utf8_first)], narrowed := true }
def RecipePureUptoSaid : Prop := recipePureUptoRow.holds Tryz.pinned (OpenSpec.upto recipePureSpec)

end Rows
end Go.Proofs.YtddmbdigdnmfgaaGreatDoor
