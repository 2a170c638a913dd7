/-
  No cell of these rows narrows 'for every input' (looked for: loops, veiled, ifaces, maps, wideKeys, modest, calm, conditions, laid).
  DERIVED. THE GIVEN ROWS OF THIS SEAT. 22 by the template 'for every input the law returns true; each argument reads behind the call as it read before'; 0 by the template 'total and deterministic' (their statements: YtlhnfllfankjhaaTotals.lean).
  GIVEN WITH THE SEED: the statements are not yours to turn. If you find one false, say at which input.
  Laid BY PROGRAM, IN A SANDBOX (cutbox-rows.mjs): the forced cells as the released guide's own fill.sh prints them over the translation cd87b1c7b2824bf7… (all of the seat's roots in one cut). By AI agents, Wed Nov 11 2026. No macro, syntax, notation, axiom, sorry.
-/
import Derived.Test.YtlhnfllfankjhaaChecked
import GoSem.Claim
import GoSem.ClaimJoined
import GoSem.ClaimMapViews
import Derived.JoinedTies
import Derived.KernelRfl
namespace Go.Proofs.Ytlhnfllfankjhaa
/- THE CELL 'sum', in the pinned program and in every row, IS THE sha256 OF THE DUMP (.gsa) THAT YtlhnfllfankjhaaProg.lean LOADS. Nothing in Lean hashes anything: it is a label: what it is worth is what the hold of that sum in a sandbox is worth. -/
noncomputable def Try.pinned : Pinned := { name := "ytlhnfllfankjhaa", sum := "cd87b1c7b2824bf79b14832a5f6ceb66e1a924f5aff61a6eeb826b9ad823b03f", checked := Try.checked }
namespace Rows
def none {H : Type} : Left H := { results := [], args := [] }

/-- 'phosphorlaw16.DmaMoves': WHATEVER THE INPUT: true; the input reads as it did. -/
def dmaMovesSpec : ChangeSpec := { name := "dmaMoves", fn := fun _ => fun
  | [d1, d2, d3] => { results := [.lit (.bool true)], args := [d1, d2, d3] }
  | _ => none }
def dmaMovesRow : OpenClaim := { program := "ytlhnfllfankjhaa", sum := "cd87b1c7b2824bf79b14832a5f6ceb66e1a924f5aff61a6eeb826b9ad823b03f", func := "phosphor/phosphorlaw16.DmaMoves", spec := "dmaMoves", unfollowed := true, recurses := true, apart := false }
def DmaMovesSaid : Prop := dmaMovesRow.holds Try.pinned (OpenSpec.ofChange dmaMovesSpec)

/-- ITS FALSE NEIGHBOUR: 'it returns false'. Refute it at one input. -/
def dmaMovesWrong : ChangeSpec := { name := "dmaMoves", fn := fun _ => fun
  | [d1, d2, d3] => { results := [.lit (.bool false)], args := [d1, d2, d3] }
  | _ => none }
def DmaMovesWrongFalsely : Prop := dmaMovesRow.holds Try.pinned (OpenSpec.ofChange dmaMovesWrong)

/-- 'phosphorlaw16.DmaBack': WHATEVER THE INPUT: true; the input reads as it did. -/
def dmaBackSpec : ChangeSpec := { name := "dmaBack", fn := fun _ => fun
  | [d1, d2] => { results := [.lit (.bool true)], args := [d1, d2] }
  | _ => none }
def dmaBackRow : OpenClaim := { program := "ytlhnfllfankjhaa", sum := "cd87b1c7b2824bf79b14832a5f6ceb66e1a924f5aff61a6eeb826b9ad823b03f", func := "phosphor/phosphorlaw16.DmaBack", spec := "dmaBack", unfollowed := true, recurses := true, apart := false }
def DmaBackSaid : Prop := dmaBackRow.holds Try.pinned (OpenSpec.ofChange dmaBackSpec)

/-- ITS FALSE NEIGHBOUR: 'it returns false'. Refute it at one input. -/
def dmaBackWrong : ChangeSpec := { name := "dmaBack", fn := fun _ => fun
  | [d1, d2] => { results := [.lit (.bool false)], args := [d1, d2] }
  | _ => none }
def DmaBackWrongFalsely : Prop := dmaBackRow.holds Try.pinned (OpenSpec.ofChange dmaBackWrong)

/-- 'phosphorlaw16.DmaFills': WHATEVER THE INPUT: true; the input reads as it did. -/
def dmaFillsSpec : ChangeSpec := { name := "dmaFills", fn := fun _ => fun
  | [d1, d2, d3] => { results := [.lit (.bool true)], args := [d1, d2, d3] }
  | _ => none }
def dmaFillsRow : OpenClaim := { program := "ytlhnfllfankjhaa", sum := "cd87b1c7b2824bf79b14832a5f6ceb66e1a924f5aff61a6eeb826b9ad823b03f", func := "phosphor/phosphorlaw16.DmaFills", spec := "dmaFills", unfollowed := true, recurses := true, apart := false }
def DmaFillsSaid : Prop := dmaFillsRow.holds Try.pinned (OpenSpec.ofChange dmaFillsSpec)

/-- ITS FALSE NEIGHBOUR: 'it returns false'. Refute it at one input. -/
def dmaFillsWrong : ChangeSpec := { name := "dmaFills", fn := fun _ => fun
  | [d1, d2, d3] => { results := [.lit (.bool false)], args := [d1, d2, d3] }
  | _ => none }
def DmaFillsWrongFalsely : Prop := dmaFillsRow.holds Try.pinned (OpenSpec.ofChange dmaFillsWrong)

/-- 'phosphorlaw16.DmaTable': WHATEVER THE INPUT: true; the input reads as it did. -/
def dmaTableSpec : ChangeSpec := { name := "dmaTable", fn := fun _ => fun
  | [d1, d2, d3] => { results := [.lit (.bool true)], args := [d1, d2, d3] }
  | _ => none }
def dmaTableRow : OpenClaim := { program := "ytlhnfllfankjhaa", sum := "cd87b1c7b2824bf79b14832a5f6ceb66e1a924f5aff61a6eeb826b9ad823b03f", func := "phosphor/phosphorlaw16.DmaTable", spec := "dmaTable", apart := false }
def DmaTableSaid : Prop := dmaTableRow.holds Try.pinned (OpenSpec.ofChange dmaTableSpec)

/-- ITS FALSE NEIGHBOUR: 'it returns false'. Refute it at one input. -/
def dmaTableWrong : ChangeSpec := { name := "dmaTable", fn := fun _ => fun
  | [d1, d2, d3] => { results := [.lit (.bool false)], args := [d1, d2, d3] }
  | _ => none }
def DmaTableWrongFalsely : Prop := dmaTableRow.holds Try.pinned (OpenSpec.ofChange dmaTableWrong)

/-- 'phosphorlaw17.TilesPixel': WHATEVER THE INPUT: true; the input reads as it did. -/
def tilesPixelSpec : ChangeSpec := { name := "tilesPixel", fn := fun _ => fun
  | [d1, d2, d3] => { results := [.lit (.bool true)], args := [d1, d2, d3] }
  | _ => none }
def tilesPixelRow : OpenClaim := { program := "ytlhnfllfankjhaa", sum := "cd87b1c7b2824bf79b14832a5f6ceb66e1a924f5aff61a6eeb826b9ad823b03f", func := "phosphor/phosphorlaw17.TilesPixel", spec := "tilesPixel", apart := false }
def TilesPixelSaid : Prop := tilesPixelRow.holds Try.pinned (OpenSpec.ofChange tilesPixelSpec)

/-- ITS FALSE NEIGHBOUR: 'it returns false'. Refute it at one input. -/
def tilesPixelWrong : ChangeSpec := { name := "tilesPixel", fn := fun _ => fun
  | [d1, d2, d3] => { results := [.lit (.bool false)], args := [d1, d2, d3] }
  | _ => none }
def TilesPixelWrongFalsely : Prop := tilesPixelRow.holds Try.pinned (OpenSpec.ofChange tilesPixelWrong)

/-- 'phosphorlaw17.TilesPalette': WHATEVER THE INPUT: true; the input reads as it did. -/
def tilesPaletteSpec : ChangeSpec := { name := "tilesPalette", fn := fun _ => fun
  | [d1, d2, d3] => { results := [.lit (.bool true)], args := [d1, d2, d3] }
  | _ => none }
def tilesPaletteRow : OpenClaim := { program := "ytlhnfllfankjhaa", sum := "cd87b1c7b2824bf79b14832a5f6ceb66e1a924f5aff61a6eeb826b9ad823b03f", func := "phosphor/phosphorlaw17.TilesPalette", spec := "tilesPalette", apart := false }
def TilesPaletteSaid : Prop := tilesPaletteRow.holds Try.pinned (OpenSpec.ofChange tilesPaletteSpec)

/-- ITS FALSE NEIGHBOUR: 'it returns false'. Refute it at one input. -/
def tilesPaletteWrong : ChangeSpec := { name := "tilesPalette", fn := fun _ => fun
  | [d1, d2, d3] => { results := [.lit (.bool false)], args := [d1, d2, d3] }
  | _ => none }
def TilesPaletteWrongFalsely : Prop := tilesPaletteRow.holds Try.pinned (OpenSpec.ofChange tilesPaletteWrong)

/-- 'phosphorlaw17.TilesLine': WHATEVER THE INPUT: true; the input reads as it did. -/
def tilesLineSpec : ChangeSpec := { name := "tilesLine", fn := fun _ => fun
  | [d1, d2, d3] => { results := [.lit (.bool true)], args := [d1, d2, d3] }
  | _ => none }
def tilesLineRow : OpenClaim := { program := "ytlhnfllfankjhaa", sum := "cd87b1c7b2824bf79b14832a5f6ceb66e1a924f5aff61a6eeb826b9ad823b03f", func := "phosphor/phosphorlaw17.TilesLine", spec := "tilesLine", apart := false }
def TilesLineSaid : Prop := tilesLineRow.holds Try.pinned (OpenSpec.ofChange tilesLineSpec)

/-- ITS FALSE NEIGHBOUR: 'it returns false'. Refute it at one input. -/
def tilesLineWrong : ChangeSpec := { name := "tilesLine", fn := fun _ => fun
  | [d1, d2, d3] => { results := [.lit (.bool false)], args := [d1, d2, d3] }
  | _ => none }
def TilesLineWrongFalsely : Prop := tilesLineRow.holds Try.pinned (OpenSpec.ofChange tilesLineWrong)

/-- 'phosphorlaw17.TilesRound': WHATEVER THE INPUT: true; the input reads as it did. -/
def tilesRoundSpec : ChangeSpec := { name := "tilesRound", fn := fun _ => fun
  | [d1, d2, d3] => { results := [.lit (.bool true)], args := [d1, d2, d3] }
  | _ => none }
def tilesRoundRow : OpenClaim := { program := "ytlhnfllfankjhaa", sum := "cd87b1c7b2824bf79b14832a5f6ceb66e1a924f5aff61a6eeb826b9ad823b03f", func := "phosphor/phosphorlaw17.TilesRound", spec := "tilesRound", apart := false }
def TilesRoundSaid : Prop := tilesRoundRow.holds Try.pinned (OpenSpec.ofChange tilesRoundSpec)

/-- ITS FALSE NEIGHBOUR: 'it returns false'. Refute it at one input. -/
def tilesRoundWrong : ChangeSpec := { name := "tilesRound", fn := fun _ => fun
  | [d1, d2, d3] => { results := [.lit (.bool false)], args := [d1, d2, d3] }
  | _ => none }
def TilesRoundWrongFalsely : Prop := tilesRoundRow.holds Try.pinned (OpenSpec.ofChange tilesRoundWrong)

/-- 'phosphorlaw17.TilesEmpty': WHATEVER THE INPUT: true; the input reads as it did. -/
def tilesEmptySpec : ChangeSpec := { name := "tilesEmpty", fn := fun _ => fun
  | [d1, d2, d3] => { results := [.lit (.bool true)], args := [d1, d2, d3] }
  | _ => none }
def tilesEmptyRow : OpenClaim := { program := "ytlhnfllfankjhaa", sum := "cd87b1c7b2824bf79b14832a5f6ceb66e1a924f5aff61a6eeb826b9ad823b03f", func := "phosphor/phosphorlaw17.TilesEmpty", spec := "tilesEmpty", apart := false }
def TilesEmptySaid : Prop := tilesEmptyRow.holds Try.pinned (OpenSpec.ofChange tilesEmptySpec)

/-- ITS FALSE NEIGHBOUR: 'it returns false'. Refute it at one input. -/
def tilesEmptyWrong : ChangeSpec := { name := "tilesEmpty", fn := fun _ => fun
  | [d1, d2, d3] => { results := [.lit (.bool false)], args := [d1, d2, d3] }
  | _ => none }
def TilesEmptyWrongFalsely : Prop := tilesEmptyRow.holds Try.pinned (OpenSpec.ofChange tilesEmptyWrong)

/-- 'phosphorlaw13.VramSteps': WHATEVER THE INPUT: true; the input reads as it did. -/
def vramStepsSpec : ChangeSpec := { name := "vramSteps", fn := fun _ => fun
  | [d1, d2, d3] => { results := [.lit (.bool true)], args := [d1, d2, d3] }
  | _ => none }
def vramStepsRow : OpenClaim := { program := "ytlhnfllfankjhaa", sum := "cd87b1c7b2824bf79b14832a5f6ceb66e1a924f5aff61a6eeb826b9ad823b03f", func := "phosphor/phosphorlaw13.VramSteps", spec := "vramSteps", apart := false }
def VramStepsSaid : Prop := vramStepsRow.holds Try.pinned (OpenSpec.ofChange vramStepsSpec)

/-- ITS FALSE NEIGHBOUR: 'it returns false'. Refute it at one input. -/
def vramStepsWrong : ChangeSpec := { name := "vramSteps", fn := fun _ => fun
  | [d1, d2, d3] => { results := [.lit (.bool false)], args := [d1, d2, d3] }
  | _ => none }
def VramStepsWrongFalsely : Prop := vramStepsRow.holds Try.pinned (OpenSpec.ofChange vramStepsWrong)

/-- 'phosphorlaw13.VramBack': WHATEVER THE INPUT: true; the input reads as it did. -/
def vramBackSpec : ChangeSpec := { name := "vramBack", fn := fun _ => fun
  | [d1, d2, d3] => { results := [.lit (.bool true)], args := [d1, d2, d3] }
  | _ => none }
def vramBackRow : OpenClaim := { program := "ytlhnfllfankjhaa", sum := "cd87b1c7b2824bf79b14832a5f6ceb66e1a924f5aff61a6eeb826b9ad823b03f", func := "phosphor/phosphorlaw13.VramBack", spec := "vramBack", apart := false }
def VramBackSaid : Prop := vramBackRow.holds Try.pinned (OpenSpec.ofChange vramBackSpec)

/-- ITS FALSE NEIGHBOUR: 'it returns false'. Refute it at one input. -/
def vramBackWrong : ChangeSpec := { name := "vramBack", fn := fun _ => fun
  | [d1, d2, d3] => { results := [.lit (.bool false)], args := [d1, d2, d3] }
  | _ => none }
def VramBackWrongFalsely : Prop := vramBackRow.holds Try.pinned (OpenSpec.ofChange vramBackWrong)

/-- 'phosphorlaw13.VramPlays': WHATEVER THE INPUT: true; the input reads as it did. -/
def vramPlaysSpec : ChangeSpec := { name := "vramPlays", fn := fun _ => fun
  | [d1, d2, d3] => { results := [.lit (.bool true)], args := [d1, d2, d3] }
  | _ => none }
def vramPlaysRow : OpenClaim := { program := "ytlhnfllfankjhaa", sum := "cd87b1c7b2824bf79b14832a5f6ceb66e1a924f5aff61a6eeb826b9ad823b03f", func := "phosphor/phosphorlaw13.VramPlays", spec := "vramPlays", apart := false }
def VramPlaysSaid : Prop := vramPlaysRow.holds Try.pinned (OpenSpec.ofChange vramPlaysSpec)

/-- ITS FALSE NEIGHBOUR: 'it returns false'. Refute it at one input. -/
def vramPlaysWrong : ChangeSpec := { name := "vramPlays", fn := fun _ => fun
  | [d1, d2, d3] => { results := [.lit (.bool false)], args := [d1, d2, d3] }
  | _ => none }
def VramPlaysWrongFalsely : Prop := vramPlaysRow.holds Try.pinned (OpenSpec.ofChange vramPlaysWrong)

/-- 'phosphorlaw13.VramNobody': WHATEVER THE INPUT: true; the input reads as it did. -/
def vramNobodySpec : ChangeSpec := { name := "vramNobody", fn := fun _ => fun
  | [d] => { results := [.lit (.bool true)], args := [d] }
  | _ => none }
def vramNobodyRow : OpenClaim := { program := "ytlhnfllfankjhaa", sum := "cd87b1c7b2824bf79b14832a5f6ceb66e1a924f5aff61a6eeb826b9ad823b03f", func := "phosphor/phosphorlaw13.VramNobody", spec := "vramNobody", apart := false }
def VramNobodySaid : Prop := vramNobodyRow.holds Try.pinned (OpenSpec.ofChange vramNobodySpec)

/-- ITS FALSE NEIGHBOUR: 'it returns false'. Refute it at one input. -/
def vramNobodyWrong : ChangeSpec := { name := "vramNobody", fn := fun _ => fun
  | [d] => { results := [.lit (.bool false)], args := [d] }
  | _ => none }
def VramNobodyWrongFalsely : Prop := vramNobodyRow.holds Try.pinned (OpenSpec.ofChange vramNobodyWrong)

/-- 'phosphorlaw13.VramLoads': WHATEVER THE INPUT: true; the input reads as it did. -/
def vramLoadsSpec : ChangeSpec := { name := "vramLoads", fn := fun _ => fun
  | [d1, d2, d3] => { results := [.lit (.bool true)], args := [d1, d2, d3] }
  | _ => none }
def vramLoadsRow : OpenClaim := { program := "ytlhnfllfankjhaa", sum := "cd87b1c7b2824bf79b14832a5f6ceb66e1a924f5aff61a6eeb826b9ad823b03f", func := "phosphor/phosphorlaw13.VramLoads", spec := "vramLoads", unfollowed := true, recurses := true, apart := false }
def VramLoadsSaid : Prop := vramLoadsRow.holds Try.pinned (OpenSpec.ofChange vramLoadsSpec)

/-- ITS FALSE NEIGHBOUR: 'it returns false'. Refute it at one input. -/
def vramLoadsWrong : ChangeSpec := { name := "vramLoads", fn := fun _ => fun
  | [d1, d2, d3] => { results := [.lit (.bool false)], args := [d1, d2, d3] }
  | _ => none }
def VramLoadsWrongFalsely : Prop := vramLoadsRow.holds Try.pinned (OpenSpec.ofChange vramLoadsWrong)

/-- 'phosphorlaw18.SpritesLine': WHATEVER THE INPUT: true; the input reads as it did. -/
def spritesLineSpec : ChangeSpec := { name := "spritesLine", fn := fun _ => fun
  | [d1, d2, d3] => { results := [.lit (.bool true)], args := [d1, d2, d3] }
  | _ => none }
def spritesLineRow : OpenClaim := { program := "ytlhnfllfankjhaa", sum := "cd87b1c7b2824bf79b14832a5f6ceb66e1a924f5aff61a6eeb826b9ad823b03f", func := "phosphor/phosphorlaw18.SpritesLine", spec := "spritesLine", unfollowed := true, recurses := true, apart := false }
def SpritesLineSaid : Prop := spritesLineRow.holds Try.pinned (OpenSpec.ofChange spritesLineSpec)

/-- ITS FALSE NEIGHBOUR: 'it returns false'. Refute it at one input. -/
def spritesLineWrong : ChangeSpec := { name := "spritesLine", fn := fun _ => fun
  | [d1, d2, d3] => { results := [.lit (.bool false)], args := [d1, d2, d3] }
  | _ => none }
def SpritesLineWrongFalsely : Prop := spritesLineRow.holds Try.pinned (OpenSpec.ofChange spritesLineWrong)

/-- 'phosphorlaw18.SpritesAhead': WHATEVER THE INPUT: true; the input reads as it did. -/
def spritesAheadSpec : ChangeSpec := { name := "spritesAhead", fn := fun _ => fun
  | [d1, d2, d3] => { results := [.lit (.bool true)], args := [d1, d2, d3] }
  | _ => none }
def spritesAheadRow : OpenClaim := { program := "ytlhnfllfankjhaa", sum := "cd87b1c7b2824bf79b14832a5f6ceb66e1a924f5aff61a6eeb826b9ad823b03f", func := "phosphor/phosphorlaw18.SpritesAhead", spec := "spritesAhead", unfollowed := true, recurses := true, apart := false }
def SpritesAheadSaid : Prop := spritesAheadRow.holds Try.pinned (OpenSpec.ofChange spritesAheadSpec)

/-- ITS FALSE NEIGHBOUR: 'it returns false'. Refute it at one input. -/
def spritesAheadWrong : ChangeSpec := { name := "spritesAhead", fn := fun _ => fun
  | [d1, d2, d3] => { results := [.lit (.bool false)], args := [d1, d2, d3] }
  | _ => none }
def SpritesAheadWrongFalsely : Prop := spritesAheadRow.holds Try.pinned (OpenSpec.ofChange spritesAheadWrong)

/-- 'phosphorlaw18.SpritesFlip': WHATEVER THE INPUT: true; the input reads as it did. -/
def spritesFlipSpec : ChangeSpec := { name := "spritesFlip", fn := fun _ => fun
  | [d1, d2, d3] => { results := [.lit (.bool true)], args := [d1, d2, d3] }
  | _ => none }
def spritesFlipRow : OpenClaim := { program := "ytlhnfllfankjhaa", sum := "cd87b1c7b2824bf79b14832a5f6ceb66e1a924f5aff61a6eeb826b9ad823b03f", func := "phosphor/phosphorlaw18.SpritesFlip", spec := "spritesFlip", unfollowed := true, recurses := true, apart := false }
def SpritesFlipSaid : Prop := spritesFlipRow.holds Try.pinned (OpenSpec.ofChange spritesFlipSpec)

/-- ITS FALSE NEIGHBOUR: 'it returns false'. Refute it at one input. -/
def spritesFlipWrong : ChangeSpec := { name := "spritesFlip", fn := fun _ => fun
  | [d1, d2, d3] => { results := [.lit (.bool false)], args := [d1, d2, d3] }
  | _ => none }
def SpritesFlipWrongFalsely : Prop := spritesFlipRow.holds Try.pinned (OpenSpec.ofChange spritesFlipWrong)

/-- 'phosphorlaw18.SpritesMany': WHATEVER THE INPUT: true; the input reads as it did. -/
def spritesManySpec : ChangeSpec := { name := "spritesMany", fn := fun _ => fun
  | [d1, d2] => { results := [.lit (.bool true)], args := [d1, d2] }
  | _ => none }
def spritesManyRow : OpenClaim := { program := "ytlhnfllfankjhaa", sum := "cd87b1c7b2824bf79b14832a5f6ceb66e1a924f5aff61a6eeb826b9ad823b03f", func := "phosphor/phosphorlaw18.SpritesMany", spec := "spritesMany", unfollowed := true, recurses := true, apart := false }
def SpritesManySaid : Prop := spritesManyRow.holds Try.pinned (OpenSpec.ofChange spritesManySpec)

/-- ITS FALSE NEIGHBOUR: 'it returns false'. Refute it at one input. -/
def spritesManyWrong : ChangeSpec := { name := "spritesMany", fn := fun _ => fun
  | [d1, d2] => { results := [.lit (.bool false)], args := [d1, d2] }
  | _ => none }
def SpritesManyWrongFalsely : Prop := spritesManyRow.holds Try.pinned (OpenSpec.ofChange spritesManyWrong)

/-- 'phosphorlaw18.SpritesAway': WHATEVER THE INPUT: true; the input reads as it did. -/
def spritesAwaySpec : ChangeSpec := { name := "spritesAway", fn := fun _ => fun
  | [d1, d2, d3] => { results := [.lit (.bool true)], args := [d1, d2, d3] }
  | _ => none }
def spritesAwayRow : OpenClaim := { program := "ytlhnfllfankjhaa", sum := "cd87b1c7b2824bf79b14832a5f6ceb66e1a924f5aff61a6eeb826b9ad823b03f", func := "phosphor/phosphorlaw18.SpritesAway", spec := "spritesAway", unfollowed := true, recurses := true, apart := false }
def SpritesAwaySaid : Prop := spritesAwayRow.holds Try.pinned (OpenSpec.ofChange spritesAwaySpec)

/-- ITS FALSE NEIGHBOUR: 'it returns false'. Refute it at one input. -/
def spritesAwayWrong : ChangeSpec := { name := "spritesAway", fn := fun _ => fun
  | [d1, d2, d3] => { results := [.lit (.bool false)], args := [d1, d2, d3] }
  | _ => none }
def SpritesAwayWrongFalsely : Prop := spritesAwayRow.holds Try.pinned (OpenSpec.ofChange spritesAwayWrong)

/-- 'phosphorlaw19.LineDraws': WHATEVER THE INPUT: true; the input reads as it did. -/
def lineDrawsSpec : ChangeSpec := { name := "lineDraws", fn := fun _ => fun
  | [d] => { results := [.lit (.bool true)], args := [d] }
  | _ => none }
def lineDrawsRow : OpenClaim := { program := "ytlhnfllfankjhaa", sum := "cd87b1c7b2824bf79b14832a5f6ceb66e1a924f5aff61a6eeb826b9ad823b03f", func := "phosphor/phosphorlaw19.LineDraws", spec := "lineDraws", unfollowed := true, recurses := true, apart := false }
def LineDrawsSaid : Prop := lineDrawsRow.holds Try.pinned (OpenSpec.ofChange lineDrawsSpec)

/-- ITS FALSE NEIGHBOUR: 'it returns false'. Refute it at one input. -/
def lineDrawsWrong : ChangeSpec := { name := "lineDraws", fn := fun _ => fun
  | [d] => { results := [.lit (.bool false)], args := [d] }
  | _ => none }
def LineDrawsWrongFalsely : Prop := lineDrawsRow.holds Try.pinned (OpenSpec.ofChange lineDrawsWrong)

/-- 'phosphorlaw19.LinePlain': WHATEVER THE INPUT: true; the input reads as it did. -/
def linePlainSpec : ChangeSpec := { name := "linePlain", fn := fun _ => fun
  | [d] => { results := [.lit (.bool true)], args := [d] }
  | _ => none }
def linePlainRow : OpenClaim := { program := "ytlhnfllfankjhaa", sum := "cd87b1c7b2824bf79b14832a5f6ceb66e1a924f5aff61a6eeb826b9ad823b03f", func := "phosphor/phosphorlaw19.LinePlain", spec := "linePlain", unfollowed := true, recurses := true, apart := false }
def LinePlainSaid : Prop := linePlainRow.holds Try.pinned (OpenSpec.ofChange linePlainSpec)

/-- ITS FALSE NEIGHBOUR: 'it returns false'. Refute it at one input. -/
def linePlainWrong : ChangeSpec := { name := "linePlain", fn := fun _ => fun
  | [d] => { results := [.lit (.bool false)], args := [d] }
  | _ => none }
def LinePlainWrongFalsely : Prop := linePlainRow.holds Try.pinned (OpenSpec.ofChange linePlainWrong)

/-- 'phosphorlaw19.LineWide': WHATEVER THE INPUT: true; the input reads as it did. -/
def lineWideSpec : ChangeSpec := { name := "lineWide", fn := fun _ => fun
  | [d1, d2] => { results := [.lit (.bool true)], args := [d1, d2] }
  | _ => none }
def lineWideRow : OpenClaim := { program := "ytlhnfllfankjhaa", sum := "cd87b1c7b2824bf79b14832a5f6ceb66e1a924f5aff61a6eeb826b9ad823b03f", func := "phosphor/phosphorlaw19.LineWide", spec := "lineWide", unfollowed := true, recurses := true, apart := false }
def LineWideSaid : Prop := lineWideRow.holds Try.pinned (OpenSpec.ofChange lineWideSpec)

/-- ITS FALSE NEIGHBOUR: 'it returns false'. Refute it at one input. -/
def lineWideWrong : ChangeSpec := { name := "lineWide", fn := fun _ => fun
  | [d1, d2] => { results := [.lit (.bool false)], args := [d1, d2] }
  | _ => none }
def LineWideWrongFalsely : Prop := lineWideRow.holds Try.pinned (OpenSpec.ofChange lineWideWrong)

/- THE SECOND FORM. 'bulk': how many values and letters a reading holds, each counted each time it is reached (what is shared counts as often as it is met; a slice's spare places count too). A statement '..UptoSaid' is the law's where the arguments, and the package variables that the reading takes, are together of bulk at most 1048576: NARROWER than '..Said'. Prove '..Said' where nothing that the law and all that it calls make is longer than what came in: it says more and counts as full. Else prove '..UptoSaid'. A law counts once. -/
mutual
def uptoBulk {H : Type} : DataW H → Nat
  | .lit (.string bytes) => bytes.length + 1
  | .lit _ => 1
  | .nil => 1
  | .ptr d => uptoBulk d + 1
  | .slice elems spare => uptoBulkAll elems + uptoBulkAll spare + 1
  | .agg parts => uptoBulkAll parts + 1
  | .iface _ d => uptoBulk d + 1
  | .map entries => uptoBulkEntries entries + 1
  | .held _ => 1
def uptoBulkAll {H : Type} : List (DataW H) → Nat
  | [] => 0
  | d :: r => uptoBulk d + uptoBulkAll r
def uptoBulkEntries {H : Type} : List (Lit × DataW H) → Nat
  | [] => 0
  | x :: r => uptoBulkEntry x + uptoBulkEntries r
def uptoBulkEntry {H : Type} : Lit × DataW H → Nat
  | (.string bytes, d) => bytes.length + uptoBulk d + 1
  | (_, d) => uptoBulk d + 1
 end
def uptoSmall : (H : Type) → List (DataW H) → Bool := fun _ ds => decide (uptoBulkAll ds ≤ 1048576)
def OpenSpec.upto (s : _root_.Go.ChangeSpec) : _root_.Go.OpenSpec := { _root_.Go.OpenSpec.ofChange s with cond := some uptoSmall }

/-- 'phosphorlaw16.DmaMoves', WHERE WHAT IT READS IS OF BULK AT MOST 1048576: true; the input reads as it did. -/
def dmaMovesUptoRow : OpenClaim := { program := "ytlhnfllfankjhaa", sum := "cd87b1c7b2824bf79b14832a5f6ceb66e1a924f5aff61a6eeb826b9ad823b03f", func := "phosphor/phosphorlaw16.DmaMoves", spec := "dmaMoves", unfollowed := true, recurses := true, apart := false, narrowed := true }
def DmaMovesUptoSaid : Prop := dmaMovesUptoRow.holds Try.pinned (OpenSpec.upto dmaMovesSpec)

/-- 'phosphorlaw16.DmaBack', WHERE WHAT IT READS IS OF BULK AT MOST 1048576: true; the input reads as it did. -/
def dmaBackUptoRow : OpenClaim := { program := "ytlhnfllfankjhaa", sum := "cd87b1c7b2824bf79b14832a5f6ceb66e1a924f5aff61a6eeb826b9ad823b03f", func := "phosphor/phosphorlaw16.DmaBack", spec := "dmaBack", unfollowed := true, recurses := true, apart := false, narrowed := true }
def DmaBackUptoSaid : Prop := dmaBackUptoRow.holds Try.pinned (OpenSpec.upto dmaBackSpec)

/-- 'phosphorlaw16.DmaFills', WHERE WHAT IT READS IS OF BULK AT MOST 1048576: true; the input reads as it did. -/
def dmaFillsUptoRow : OpenClaim := { program := "ytlhnfllfankjhaa", sum := "cd87b1c7b2824bf79b14832a5f6ceb66e1a924f5aff61a6eeb826b9ad823b03f", func := "phosphor/phosphorlaw16.DmaFills", spec := "dmaFills", unfollowed := true, recurses := true, apart := false, narrowed := true }
def DmaFillsUptoSaid : Prop := dmaFillsUptoRow.holds Try.pinned (OpenSpec.upto dmaFillsSpec)

/-- 'phosphorlaw16.DmaTable', WHERE WHAT IT READS IS OF BULK AT MOST 1048576: true; the input reads as it did. -/
def dmaTableUptoRow : OpenClaim := { program := "ytlhnfllfankjhaa", sum := "cd87b1c7b2824bf79b14832a5f6ceb66e1a924f5aff61a6eeb826b9ad823b03f", func := "phosphor/phosphorlaw16.DmaTable", spec := "dmaTable", apart := false, narrowed := true }
def DmaTableUptoSaid : Prop := dmaTableUptoRow.holds Try.pinned (OpenSpec.upto dmaTableSpec)

/-- 'phosphorlaw17.TilesPixel', WHERE WHAT IT READS IS OF BULK AT MOST 1048576: true; the input reads as it did. -/
def tilesPixelUptoRow : OpenClaim := { program := "ytlhnfllfankjhaa", sum := "cd87b1c7b2824bf79b14832a5f6ceb66e1a924f5aff61a6eeb826b9ad823b03f", func := "phosphor/phosphorlaw17.TilesPixel", spec := "tilesPixel", apart := false, narrowed := true }
def TilesPixelUptoSaid : Prop := tilesPixelUptoRow.holds Try.pinned (OpenSpec.upto tilesPixelSpec)

/-- 'phosphorlaw17.TilesPalette', WHERE WHAT IT READS IS OF BULK AT MOST 1048576: true; the input reads as it did. -/
def tilesPaletteUptoRow : OpenClaim := { program := "ytlhnfllfankjhaa", sum := "cd87b1c7b2824bf79b14832a5f6ceb66e1a924f5aff61a6eeb826b9ad823b03f", func := "phosphor/phosphorlaw17.TilesPalette", spec := "tilesPalette", apart := false, narrowed := true }
def TilesPaletteUptoSaid : Prop := tilesPaletteUptoRow.holds Try.pinned (OpenSpec.upto tilesPaletteSpec)

/-- 'phosphorlaw17.TilesLine', WHERE WHAT IT READS IS OF BULK AT MOST 1048576: true; the input reads as it did. -/
def tilesLineUptoRow : OpenClaim := { program := "ytlhnfllfankjhaa", sum := "cd87b1c7b2824bf79b14832a5f6ceb66e1a924f5aff61a6eeb826b9ad823b03f", func := "phosphor/phosphorlaw17.TilesLine", spec := "tilesLine", apart := false, narrowed := true }
def TilesLineUptoSaid : Prop := tilesLineUptoRow.holds Try.pinned (OpenSpec.upto tilesLineSpec)

/-- 'phosphorlaw17.TilesRound', WHERE WHAT IT READS IS OF BULK AT MOST 1048576: true; the input reads as it did. -/
def tilesRoundUptoRow : OpenClaim := { program := "ytlhnfllfankjhaa", sum := "cd87b1c7b2824bf79b14832a5f6ceb66e1a924f5aff61a6eeb826b9ad823b03f", func := "phosphor/phosphorlaw17.TilesRound", spec := "tilesRound", apart := false, narrowed := true }
def TilesRoundUptoSaid : Prop := tilesRoundUptoRow.holds Try.pinned (OpenSpec.upto tilesRoundSpec)

/-- 'phosphorlaw17.TilesEmpty', WHERE WHAT IT READS IS OF BULK AT MOST 1048576: true; the input reads as it did. -/
def tilesEmptyUptoRow : OpenClaim := { program := "ytlhnfllfankjhaa", sum := "cd87b1c7b2824bf79b14832a5f6ceb66e1a924f5aff61a6eeb826b9ad823b03f", func := "phosphor/phosphorlaw17.TilesEmpty", spec := "tilesEmpty", apart := false, narrowed := true }
def TilesEmptyUptoSaid : Prop := tilesEmptyUptoRow.holds Try.pinned (OpenSpec.upto tilesEmptySpec)

/-- 'phosphorlaw13.VramSteps', WHERE WHAT IT READS IS OF BULK AT MOST 1048576: true; the input reads as it did. -/
def vramStepsUptoRow : OpenClaim := { program := "ytlhnfllfankjhaa", sum := "cd87b1c7b2824bf79b14832a5f6ceb66e1a924f5aff61a6eeb826b9ad823b03f", func := "phosphor/phosphorlaw13.VramSteps", spec := "vramSteps", apart := false, narrowed := true }
def VramStepsUptoSaid : Prop := vramStepsUptoRow.holds Try.pinned (OpenSpec.upto vramStepsSpec)

/-- 'phosphorlaw13.VramBack', WHERE WHAT IT READS IS OF BULK AT MOST 1048576: true; the input reads as it did. -/
def vramBackUptoRow : OpenClaim := { program := "ytlhnfllfankjhaa", sum := "cd87b1c7b2824bf79b14832a5f6ceb66e1a924f5aff61a6eeb826b9ad823b03f", func := "phosphor/phosphorlaw13.VramBack", spec := "vramBack", apart := false, narrowed := true }
def VramBackUptoSaid : Prop := vramBackUptoRow.holds Try.pinned (OpenSpec.upto vramBackSpec)

/-- 'phosphorlaw13.VramPlays', WHERE WHAT IT READS IS OF BULK AT MOST 1048576: true; the input reads as it did. -/
def vramPlaysUptoRow : OpenClaim := { program := "ytlhnfllfankjhaa", sum := "cd87b1c7b2824bf79b14832a5f6ceb66e1a924f5aff61a6eeb826b9ad823b03f", func := "phosphor/phosphorlaw13.VramPlays", spec := "vramPlays", apart := false, narrowed := true }
def VramPlaysUptoSaid : Prop := vramPlaysUptoRow.holds Try.pinned (OpenSpec.upto vramPlaysSpec)

/-- 'phosphorlaw13.VramNobody', WHERE WHAT IT READS IS OF BULK AT MOST 1048576: true; the input reads as it did. -/
def vramNobodyUptoRow : OpenClaim := { program := "ytlhnfllfankjhaa", sum := "cd87b1c7b2824bf79b14832a5f6ceb66e1a924f5aff61a6eeb826b9ad823b03f", func := "phosphor/phosphorlaw13.VramNobody", spec := "vramNobody", apart := false, narrowed := true }
def VramNobodyUptoSaid : Prop := vramNobodyUptoRow.holds Try.pinned (OpenSpec.upto vramNobodySpec)

/-- 'phosphorlaw13.VramLoads', WHERE WHAT IT READS IS OF BULK AT MOST 1048576: true; the input reads as it did. -/
def vramLoadsUptoRow : OpenClaim := { program := "ytlhnfllfankjhaa", sum := "cd87b1c7b2824bf79b14832a5f6ceb66e1a924f5aff61a6eeb826b9ad823b03f", func := "phosphor/phosphorlaw13.VramLoads", spec := "vramLoads", unfollowed := true, recurses := true, apart := false, narrowed := true }
def VramLoadsUptoSaid : Prop := vramLoadsUptoRow.holds Try.pinned (OpenSpec.upto vramLoadsSpec)

/-- 'phosphorlaw18.SpritesLine', WHERE WHAT IT READS IS OF BULK AT MOST 1048576: true; the input reads as it did. -/
def spritesLineUptoRow : OpenClaim := { program := "ytlhnfllfankjhaa", sum := "cd87b1c7b2824bf79b14832a5f6ceb66e1a924f5aff61a6eeb826b9ad823b03f", func := "phosphor/phosphorlaw18.SpritesLine", spec := "spritesLine", unfollowed := true, recurses := true, apart := false, narrowed := true }
def SpritesLineUptoSaid : Prop := spritesLineUptoRow.holds Try.pinned (OpenSpec.upto spritesLineSpec)

/-- 'phosphorlaw18.SpritesAhead', WHERE WHAT IT READS IS OF BULK AT MOST 1048576: true; the input reads as it did. -/
def spritesAheadUptoRow : OpenClaim := { program := "ytlhnfllfankjhaa", sum := "cd87b1c7b2824bf79b14832a5f6ceb66e1a924f5aff61a6eeb826b9ad823b03f", func := "phosphor/phosphorlaw18.SpritesAhead", spec := "spritesAhead", unfollowed := true, recurses := true, apart := false, narrowed := true }
def SpritesAheadUptoSaid : Prop := spritesAheadUptoRow.holds Try.pinned (OpenSpec.upto spritesAheadSpec)

/-- 'phosphorlaw18.SpritesFlip', WHERE WHAT IT READS IS OF BULK AT MOST 1048576: true; the input reads as it did. -/
def spritesFlipUptoRow : OpenClaim := { program := "ytlhnfllfankjhaa", sum := "cd87b1c7b2824bf79b14832a5f6ceb66e1a924f5aff61a6eeb826b9ad823b03f", func := "phosphor/phosphorlaw18.SpritesFlip", spec := "spritesFlip", unfollowed := true, recurses := true, apart := false, narrowed := true }
def SpritesFlipUptoSaid : Prop := spritesFlipUptoRow.holds Try.pinned (OpenSpec.upto spritesFlipSpec)

/-- 'phosphorlaw18.SpritesMany', WHERE WHAT IT READS IS OF BULK AT MOST 1048576: true; the input reads as it did. -/
def spritesManyUptoRow : OpenClaim := { program := "ytlhnfllfankjhaa", sum := "cd87b1c7b2824bf79b14832a5f6ceb66e1a924f5aff61a6eeb826b9ad823b03f", func := "phosphor/phosphorlaw18.SpritesMany", spec := "spritesMany", unfollowed := true, recurses := true, apart := false, narrowed := true }
def SpritesManyUptoSaid : Prop := spritesManyUptoRow.holds Try.pinned (OpenSpec.upto spritesManySpec)

/-- 'phosphorlaw18.SpritesAway', WHERE WHAT IT READS IS OF BULK AT MOST 1048576: true; the input reads as it did. -/
def spritesAwayUptoRow : OpenClaim := { program := "ytlhnfllfankjhaa", sum := "cd87b1c7b2824bf79b14832a5f6ceb66e1a924f5aff61a6eeb826b9ad823b03f", func := "phosphor/phosphorlaw18.SpritesAway", spec := "spritesAway", unfollowed := true, recurses := true, apart := false, narrowed := true }
def SpritesAwayUptoSaid : Prop := spritesAwayUptoRow.holds Try.pinned (OpenSpec.upto spritesAwaySpec)

/-- 'phosphorlaw19.LineDraws', WHERE WHAT IT READS IS OF BULK AT MOST 1048576: true; the input reads as it did. -/
def lineDrawsUptoRow : OpenClaim := { program := "ytlhnfllfankjhaa", sum := "cd87b1c7b2824bf79b14832a5f6ceb66e1a924f5aff61a6eeb826b9ad823b03f", func := "phosphor/phosphorlaw19.LineDraws", spec := "lineDraws", unfollowed := true, recurses := true, apart := false, narrowed := true }
def LineDrawsUptoSaid : Prop := lineDrawsUptoRow.holds Try.pinned (OpenSpec.upto lineDrawsSpec)

/-- 'phosphorlaw19.LinePlain', WHERE WHAT IT READS IS OF BULK AT MOST 1048576: true; the input reads as it did. -/
def linePlainUptoRow : OpenClaim := { program := "ytlhnfllfankjhaa", sum := "cd87b1c7b2824bf79b14832a5f6ceb66e1a924f5aff61a6eeb826b9ad823b03f", func := "phosphor/phosphorlaw19.LinePlain", spec := "linePlain", unfollowed := true, recurses := true, apart := false, narrowed := true }
def LinePlainUptoSaid : Prop := linePlainUptoRow.holds Try.pinned (OpenSpec.upto linePlainSpec)

/-- 'phosphorlaw19.LineWide', WHERE WHAT IT READS IS OF BULK AT MOST 1048576: true; the input reads as it did. -/
def lineWideUptoRow : OpenClaim := { program := "ytlhnfllfankjhaa", sum := "cd87b1c7b2824bf79b14832a5f6ceb66e1a924f5aff61a6eeb826b9ad823b03f", func := "phosphor/phosphorlaw19.LineWide", spec := "lineWide", unfollowed := true, recurses := true, apart := false, narrowed := true }
def LineWideUptoSaid : Prop := lineWideUptoRow.holds Try.pinned (OpenSpec.upto lineWideSpec)

end Rows
end Go.Proofs.Ytlhnfllfankjhaa
