/-
  DERIVED. GIVEN WITH THE SEED: THE CARDS: each row of YtomninikmcmmcaaDoorRows.lean that lists a variable, with what it lists TIED to the program's text (the seventh form; the later family's looks); each row that meets fmt, with fmt's text TOLD by the authors' own Lean function (tested against real Go, not proved from fmt's source: count such statements apart). THE CARD IS WHAT COUNTS. Prove the row's statement (the work); the ties are given (YtomninikmcmmcaaDoorTie.lean); close each card by the builder's one call (the guide's Derived/Test/ToyasCard.lean, 'card_holds'). Laid BY PROGRAM, IN A SANDBOX (cutbox-door.mjs). By AI agents, Wed Nov 11 2026. No macro, syntax, notation, axiom, sorry.
-/
import Derived.Test.YtomninikmcmmcaaDoorRows
import GoSem.ClaimSeven
namespace Go.Proofs.YtomninikmcmmcaaDoor
namespace Rows

/-- THE TIED CARD OF 'paymasterlaw06.HmacNil'. -/
def hmacNilCard : Claim7 := { stood := { row := hmacNilRow, standIns := [], harness := (true, "7abea28027b2b745090f6c7fcc20f3681edb17c49dcc1c0793786ec3fddd6ba8"), looks := false }, kinds := [], alts := [], laidByText := true, laidKinds := [.data], laidTests := true, laidLooks := .later }
def HmacNilCardSaid : Prop := Claim7.holds Tryd.pinned (.plain (OpenSpec.ofChange hmacNilSpec)) hmacNilCard

/-- THE TIED CARD OF 'paymasterlaw07.TagTexts'. -/
def tagTextsCard : Claim7 := { stood := { row := tagTextsRow, standIns := [], harness := (true, "7abea28027b2b745090f6c7fcc20f3681edb17c49dcc1c0793786ec3fddd6ba8"), looks := false }, kinds := [], alts := [], laidByText := true, laidKinds := [.data, .pinned], laidTests := true, laidLooks := .later }
def TagTextsCardSaid : Prop := Claim7.holds Tryd.pinned (.plain (OpenSpec.ofChange tagTextsSpec)) tagTextsCard

/-- THE TIED CARD OF 'paymasterlaw06.HmacRuns'. -/
def hmacRunsCard : Claim7 := { stood := { row := hmacRunsRow, standIns := [], harness := (true, "7abea28027b2b745090f6c7fcc20f3681edb17c49dcc1c0793786ec3fddd6ba8"), looks := false }, kinds := [], alts := [], laidByText := true, laidKinds := [.data], laidTests := true, laidLooks := .later }
def HmacRunsCardSaid : Prop := Claim7.holds Tryd.pinned (.plain (OpenSpec.ofChange hmacRunsSpec)) hmacRunsCard

/-- THE TIED CARD OF 'paymasterlaw06.HmacSums'. -/
def hmacSumsCard : Claim7 := { stood := { row := hmacSumsRow, standIns := [], harness := (true, "7abea28027b2b745090f6c7fcc20f3681edb17c49dcc1c0793786ec3fddd6ba8"), looks := false }, kinds := [], alts := [], laidByText := true, laidKinds := [.data], laidTests := true, laidLooks := .later }
def HmacSumsCardSaid : Prop := Claim7.holds Tryd.pinned (.plain (OpenSpec.ofChange hmacSumsSpec)) hmacSumsCard

/-- THE TIED CARD OF 'paymasterlaw07.TagNodes'. -/
def tagNodesCard : Claim7 := { stood := { row := tagNodesRow, standIns := [], harness := (true, "7abea28027b2b745090f6c7fcc20f3681edb17c49dcc1c0793786ec3fddd6ba8"), looks := false }, kinds := [], alts := [], laidByText := true, laidKinds := [.data, .data, .pinned], laidTests := true, laidLooks := .later }
def TagNodesCardSaid : Prop := Claim7.holds Tryd.pinned (.plain (OpenSpec.ofChange tagNodesSpec)) tagNodesCard

/-- THE TIED CARD OF 'paymasterlaw06.HmacPieces'. -/
def hmacPiecesCard : Claim7 := { stood := { row := hmacPiecesRow, standIns := [], harness := (true, "7abea28027b2b745090f6c7fcc20f3681edb17c49dcc1c0793786ec3fddd6ba8"), looks := false }, kinds := [], alts := [], laidByText := true, laidKinds := [.data], laidTests := true, laidLooks := .later }
def HmacPiecesCardSaid : Prop := Claim7.holds Tryd.pinned (.plain (OpenSpec.ofChange hmacPiecesSpec)) hmacPiecesCard

/-- THE TIED CARD OF 'paymasterlaw06.HmacKeys'. -/
def hmacKeysCard : Claim7 := { stood := { row := hmacKeysRow, standIns := [], harness := (true, "7abea28027b2b745090f6c7fcc20f3681edb17c49dcc1c0793786ec3fddd6ba8"), looks := false }, kinds := [], alts := [], laidByText := true, laidKinds := [.data], laidTests := true, laidLooks := .later }
def HmacKeysCardSaid : Prop := Claim7.holds Tryd.pinned (.plain (OpenSpec.ofChange hmacKeysSpec)) hmacKeysCard

/-- THE TIED CARD OF 'paymasterlaw06.HmacDigests'. -/
def hmacDigestsCard : Claim7 := { stood := { row := hmacDigestsRow, standIns := [], harness := (true, "7abea28027b2b745090f6c7fcc20f3681edb17c49dcc1c0793786ec3fddd6ba8"), looks := false }, kinds := [], alts := [], laidByText := true, laidKinds := [.data], laidTests := true, laidLooks := .later }
def HmacDigestsCardSaid : Prop := Claim7.holds Tryd.pinned (.plain (OpenSpec.ofChange hmacDigestsSpec)) hmacDigestsCard

/-- THE TIED CARD OF 'paymasterlaw06.HmacIs'. -/
def hmacIsCard : Claim7 := { stood := { row := hmacIsRow, standIns := [], harness := (true, "7abea28027b2b745090f6c7fcc20f3681edb17c49dcc1c0793786ec3fddd6ba8"), looks := false }, kinds := [], alts := [], laidByText := true, laidKinds := [.data], laidTests := true, laidLooks := .later }
def HmacIsCardSaid : Prop := Claim7.holds Tryd.pinned (.plain (OpenSpec.ofChange hmacIsSpec)) hmacIsCard

/-- THE TIED CARD OF 'paymasterlaw07.TagSalts'. -/
def tagSaltsCard : Claim7 := { stood := { row := tagSaltsRow, standIns := [], harness := (true, "7abea28027b2b745090f6c7fcc20f3681edb17c49dcc1c0793786ec3fddd6ba8"), looks := false }, kinds := [], alts := [], laidByText := true, laidKinds := [.data], laidTests := true, laidLooks := .later }
def TagSaltsCardSaid : Prop := Claim7.holds Tryd.pinned (.plain (OpenSpec.ofChange tagSaltsSpec)) tagSaltsCard

/-- THE TIED CARD OF 'paymasterlaw07.TagBack'. -/
def tagBackCard : Claim7 := { stood := { row := tagBackRow, standIns := [], harness := (true, "7abea28027b2b745090f6c7fcc20f3681edb17c49dcc1c0793786ec3fddd6ba8"), looks := false }, kinds := [], alts := [], laidByText := true, laidKinds := [.data, .data, .pinned], laidTests := true, laidLooks := .later }
def TagBackCardSaid : Prop := Claim7.holds Tryd.pinned (.plain (OpenSpec.ofChange tagBackSpec)) tagBackCard

/-- THE TIED CARD OF 'paymasterlaw07.TagWidths'. -/
def tagWidthsCard : Claim7 := { stood := { row := tagWidthsRow, standIns := [], harness := (true, "7abea28027b2b745090f6c7fcc20f3681edb17c49dcc1c0793786ec3fddd6ba8"), looks := false }, kinds := [], alts := [], laidByText := true, laidKinds := [.data, .data, .pinned], laidTests := true, laidLooks := .later }
def TagWidthsCardSaid : Prop := Claim7.holds Tryd.pinned (.plain (OpenSpec.ofChange tagWidthsSpec)) tagWidthsCard

/-- THE TIED CARD OF 'paymasterlaw07.TagUnlike'. -/
def tagUnlikeCard : Claim7 := { stood := { row := tagUnlikeRow, standIns := [], harness := (true, "7abea28027b2b745090f6c7fcc20f3681edb17c49dcc1c0793786ec3fddd6ba8"), looks := false }, kinds := [], alts := [], laidByText := true, laidKinds := [.data, .data, .pinned], laidTests := true, laidLooks := .later }
def TagUnlikeCardSaid : Prop := Claim7.holds Tryd.pinned (.plain (OpenSpec.ofChange tagUnlikeSpec)) tagUnlikeCard

/-- THE TIED CARD OF 'paymasterlaw07.TagSeeds'. -/
def tagSeedsCard : Claim7 := { stood := { row := tagSeedsRow, standIns := [], harness := (true, "7abea28027b2b745090f6c7fcc20f3681edb17c49dcc1c0793786ec3fddd6ba8"), looks := false }, kinds := [], alts := [], laidByText := true, laidKinds := [.data, .data, .pinned], laidTests := true, laidLooks := .later }
def TagSeedsCardSaid : Prop := Claim7.holds Tryd.pinned (.plain (OpenSpec.ofChange tagSeedsSpec)) tagSeedsCard

/-- THE SECOND FORM's CARD OF 'paymasterlaw06.HmacNil'. -/
def hmacNilUptoCard : Claim7 := { stood := { row := hmacNilUptoRow, standIns := [], harness := (true, "7abea28027b2b745090f6c7fcc20f3681edb17c49dcc1c0793786ec3fddd6ba8"), looks := false }, kinds := [], alts := [], laidByText := true, laidKinds := [.data], laidTests := true, laidLooks := .later }
def HmacNilUptoCardSaid : Prop := Claim7.holds Tryd.pinned (.plain (OpenSpec.upto hmacNilSpec)) hmacNilUptoCard

/-- THE SECOND FORM's CARD OF 'paymasterlaw07.TagTexts'. -/
def tagTextsUptoCard : Claim7 := { stood := { row := tagTextsUptoRow, standIns := [], harness := (true, "7abea28027b2b745090f6c7fcc20f3681edb17c49dcc1c0793786ec3fddd6ba8"), looks := false }, kinds := [], alts := [], laidByText := true, laidKinds := [.data, .pinned], laidTests := true, laidLooks := .later }
def TagTextsUptoCardSaid : Prop := Claim7.holds Tryd.pinned (.plain (OpenSpec.upto tagTextsSpec)) tagTextsUptoCard

/-- THE SECOND FORM's CARD OF 'paymasterlaw06.HmacRuns'. -/
def hmacRunsUptoCard : Claim7 := { stood := { row := hmacRunsUptoRow, standIns := [], harness := (true, "7abea28027b2b745090f6c7fcc20f3681edb17c49dcc1c0793786ec3fddd6ba8"), looks := false }, kinds := [], alts := [], laidByText := true, laidKinds := [.data], laidTests := true, laidLooks := .later }
def HmacRunsUptoCardSaid : Prop := Claim7.holds Tryd.pinned (.plain (OpenSpec.upto hmacRunsSpec)) hmacRunsUptoCard

/-- THE SECOND FORM's CARD OF 'paymasterlaw06.HmacSums'. -/
def hmacSumsUptoCard : Claim7 := { stood := { row := hmacSumsUptoRow, standIns := [], harness := (true, "7abea28027b2b745090f6c7fcc20f3681edb17c49dcc1c0793786ec3fddd6ba8"), looks := false }, kinds := [], alts := [], laidByText := true, laidKinds := [.data], laidTests := true, laidLooks := .later }
def HmacSumsUptoCardSaid : Prop := Claim7.holds Tryd.pinned (.plain (OpenSpec.upto hmacSumsSpec)) hmacSumsUptoCard

/-- THE SECOND FORM's CARD OF 'paymasterlaw07.TagNodes'. -/
def tagNodesUptoCard : Claim7 := { stood := { row := tagNodesUptoRow, standIns := [], harness := (true, "7abea28027b2b745090f6c7fcc20f3681edb17c49dcc1c0793786ec3fddd6ba8"), looks := false }, kinds := [], alts := [], laidByText := true, laidKinds := [.data, .data, .pinned], laidTests := true, laidLooks := .later }
def TagNodesUptoCardSaid : Prop := Claim7.holds Tryd.pinned (.plain (OpenSpec.upto tagNodesSpec)) tagNodesUptoCard

/-- THE SECOND FORM's CARD OF 'paymasterlaw06.HmacPieces'. -/
def hmacPiecesUptoCard : Claim7 := { stood := { row := hmacPiecesUptoRow, standIns := [], harness := (true, "7abea28027b2b745090f6c7fcc20f3681edb17c49dcc1c0793786ec3fddd6ba8"), looks := false }, kinds := [], alts := [], laidByText := true, laidKinds := [.data], laidTests := true, laidLooks := .later }
def HmacPiecesUptoCardSaid : Prop := Claim7.holds Tryd.pinned (.plain (OpenSpec.upto hmacPiecesSpec)) hmacPiecesUptoCard

/-- THE SECOND FORM's CARD OF 'paymasterlaw06.HmacKeys'. -/
def hmacKeysUptoCard : Claim7 := { stood := { row := hmacKeysUptoRow, standIns := [], harness := (true, "7abea28027b2b745090f6c7fcc20f3681edb17c49dcc1c0793786ec3fddd6ba8"), looks := false }, kinds := [], alts := [], laidByText := true, laidKinds := [.data], laidTests := true, laidLooks := .later }
def HmacKeysUptoCardSaid : Prop := Claim7.holds Tryd.pinned (.plain (OpenSpec.upto hmacKeysSpec)) hmacKeysUptoCard

/-- THE SECOND FORM's CARD OF 'paymasterlaw06.HmacDigests'. -/
def hmacDigestsUptoCard : Claim7 := { stood := { row := hmacDigestsUptoRow, standIns := [], harness := (true, "7abea28027b2b745090f6c7fcc20f3681edb17c49dcc1c0793786ec3fddd6ba8"), looks := false }, kinds := [], alts := [], laidByText := true, laidKinds := [.data], laidTests := true, laidLooks := .later }
def HmacDigestsUptoCardSaid : Prop := Claim7.holds Tryd.pinned (.plain (OpenSpec.upto hmacDigestsSpec)) hmacDigestsUptoCard

/-- THE SECOND FORM's CARD OF 'paymasterlaw06.HmacIs'. -/
def hmacIsUptoCard : Claim7 := { stood := { row := hmacIsUptoRow, standIns := [], harness := (true, "7abea28027b2b745090f6c7fcc20f3681edb17c49dcc1c0793786ec3fddd6ba8"), looks := false }, kinds := [], alts := [], laidByText := true, laidKinds := [.data], laidTests := true, laidLooks := .later }
def HmacIsUptoCardSaid : Prop := Claim7.holds Tryd.pinned (.plain (OpenSpec.upto hmacIsSpec)) hmacIsUptoCard

/-- THE SECOND FORM's CARD OF 'paymasterlaw07.TagSalts'. -/
def tagSaltsUptoCard : Claim7 := { stood := { row := tagSaltsUptoRow, standIns := [], harness := (true, "7abea28027b2b745090f6c7fcc20f3681edb17c49dcc1c0793786ec3fddd6ba8"), looks := false }, kinds := [], alts := [], laidByText := true, laidKinds := [.data], laidTests := true, laidLooks := .later }
def TagSaltsUptoCardSaid : Prop := Claim7.holds Tryd.pinned (.plain (OpenSpec.upto tagSaltsSpec)) tagSaltsUptoCard

/-- THE SECOND FORM's CARD OF 'paymasterlaw07.TagBack'. -/
def tagBackUptoCard : Claim7 := { stood := { row := tagBackUptoRow, standIns := [], harness := (true, "7abea28027b2b745090f6c7fcc20f3681edb17c49dcc1c0793786ec3fddd6ba8"), looks := false }, kinds := [], alts := [], laidByText := true, laidKinds := [.data, .data, .pinned], laidTests := true, laidLooks := .later }
def TagBackUptoCardSaid : Prop := Claim7.holds Tryd.pinned (.plain (OpenSpec.upto tagBackSpec)) tagBackUptoCard

/-- THE SECOND FORM's CARD OF 'paymasterlaw07.TagWidths'. -/
def tagWidthsUptoCard : Claim7 := { stood := { row := tagWidthsUptoRow, standIns := [], harness := (true, "7abea28027b2b745090f6c7fcc20f3681edb17c49dcc1c0793786ec3fddd6ba8"), looks := false }, kinds := [], alts := [], laidByText := true, laidKinds := [.data, .data, .pinned], laidTests := true, laidLooks := .later }
def TagWidthsUptoCardSaid : Prop := Claim7.holds Tryd.pinned (.plain (OpenSpec.upto tagWidthsSpec)) tagWidthsUptoCard

/-- THE SECOND FORM's CARD OF 'paymasterlaw07.TagUnlike'. -/
def tagUnlikeUptoCard : Claim7 := { stood := { row := tagUnlikeUptoRow, standIns := [], harness := (true, "7abea28027b2b745090f6c7fcc20f3681edb17c49dcc1c0793786ec3fddd6ba8"), looks := false }, kinds := [], alts := [], laidByText := true, laidKinds := [.data, .data, .pinned], laidTests := true, laidLooks := .later }
def TagUnlikeUptoCardSaid : Prop := Claim7.holds Tryd.pinned (.plain (OpenSpec.upto tagUnlikeSpec)) tagUnlikeUptoCard

/-- THE SECOND FORM's CARD OF 'paymasterlaw07.TagSeeds'. -/
def tagSeedsUptoCard : Claim7 := { stood := { row := tagSeedsUptoRow, standIns := [], harness := (true, "7abea28027b2b745090f6c7fcc20f3681edb17c49dcc1c0793786ec3fddd6ba8"), looks := false }, kinds := [], alts := [], laidByText := true, laidKinds := [.data, .data, .pinned], laidTests := true, laidLooks := .later }
def TagSeedsUptoCardSaid : Prop := Claim7.holds Tryd.pinned (.plain (OpenSpec.upto tagSeedsSpec)) tagSeedsUptoCard
end Rows
end Go.Proofs.YtomninikmcmmcaaDoor
