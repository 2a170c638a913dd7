/-
  No cell of these rows narrows 'for every input' (looked for: loops, veiled, ifaces, maps, wideKeys, modest, calm, conditions, laid).
  DERIVED. THE GIVEN ROWS OF THIS SEAT. 8 by the template 'for every input the law returns true; each argument reads behind the call as it read before'; 0 by the template 'total and deterministic' (their statements: YtbjjjgmcdabkhaaTotals.lean).
  GIVEN WITH THE SEED: the statements are not yours to turn. If you find one false, say at which input.
  Laid BY PROGRAM, IN A SANDBOX (cutbox-rows.mjs): the forced cells as the released guide's own fill.sh prints them over the translation 4832b274fc100d9c… (all of the seat's roots in one cut). By AI agents, Wed Nov 11 2026. No macro, syntax, notation, axiom, sorry.
-/
import Derived.Test.YtbjjjgmcdabkhaaChecked
import GoSem.Claim
import GoSem.ClaimJoined
import GoSem.ClaimMapViews
import Derived.JoinedTies
import Derived.KernelRfl
namespace Go.Proofs.Ytbjjjgmcdabkhaa
/- THE CELL 'sum', in the pinned program and in every row, IS THE sha256 OF THE DUMP (.gsa) THAT YtbjjjgmcdabkhaaProg.lean LOADS. Nothing in Lean hashes anything: it is a label: what it is worth is what the hold of that sum in a sandbox is worth. -/
noncomputable def Try.pinned : Pinned := { name := "ytbjjjgmcdabkhaa", sum := "4832b274fc100d9c57b767bce1e13493feb7154d2842e8a2f96fcfa92dff577f", checked := Try.checked }
namespace Rows
def none {H : Type} : Left H := { results := [], args := [] }

/-- 'phosphorlaw27.StateSums': WHATEVER THE INPUT: true; the input reads as it did. -/
def stateSumsSpec : ChangeSpec := { name := "stateSums", fn := fun _ => fun
  | [d] => { results := [.lit (.bool true)], args := [d] }
  | _ => none }
def stateSumsRow : OpenClaim := { program := "ytbjjjgmcdabkhaa", sum := "4832b274fc100d9c57b767bce1e13493feb7154d2842e8a2f96fcfa92dff577f", func := "phosphor/phosphorlaw27.StateSums", spec := "stateSums", apart := false }
def StateSumsSaid : Prop := stateSumsRow.holds Try.pinned (OpenSpec.ofChange stateSumsSpec)

/-- ITS FALSE NEIGHBOUR: 'it returns false'. Refute it at one input. -/
def stateSumsWrong : ChangeSpec := { name := "stateSums", fn := fun _ => fun
  | [d] => { results := [.lit (.bool false)], args := [d] }
  | _ => none }
def StateSumsWrongFalsely : Prop := stateSumsRow.holds Try.pinned (OpenSpec.ofChange stateSumsWrong)

/-- 'phosphorlaw19.LineMixes': WHATEVER THE INPUT: true; the input reads as it did. -/
def lineMixesSpec : ChangeSpec := { name := "lineMixes", fn := fun _ => fun
  | [d1, d2] => { results := [.lit (.bool true)], args := [d1, d2] }
  | _ => none }
def lineMixesRow : OpenClaim := { program := "ytbjjjgmcdabkhaa", sum := "4832b274fc100d9c57b767bce1e13493feb7154d2842e8a2f96fcfa92dff577f", func := "phosphor/phosphorlaw19.LineMixes", spec := "lineMixes", unfollowed := true, recurses := true, apart := false }
def LineMixesSaid : Prop := lineMixesRow.holds Try.pinned (OpenSpec.ofChange lineMixesSpec)

/-- ITS FALSE NEIGHBOUR: 'it returns false'. Refute it at one input. -/
def lineMixesWrong : ChangeSpec := { name := "lineMixes", fn := fun _ => fun
  | [d1, d2] => { results := [.lit (.bool false)], args := [d1, d2] }
  | _ => none }
def LineMixesWrongFalsely : Prop := lineMixesRow.holds Try.pinned (OpenSpec.ofChange lineMixesWrong)

/-- 'phosphorlaw19.LineOrder': WHATEVER THE INPUT: true; the input reads as it did. -/
def lineOrderSpec : ChangeSpec := { name := "lineOrder", fn := fun _ => fun
  | [d1, d2, d3] => { results := [.lit (.bool true)], args := [d1, d2, d3] }
  | _ => none }
def lineOrderRow : OpenClaim := { program := "ytbjjjgmcdabkhaa", sum := "4832b274fc100d9c57b767bce1e13493feb7154d2842e8a2f96fcfa92dff577f", func := "phosphor/phosphorlaw19.LineOrder", spec := "lineOrder", unfollowed := true, recurses := true, apart := false }
def LineOrderSaid : Prop := lineOrderRow.holds Try.pinned (OpenSpec.ofChange lineOrderSpec)

/-- ITS FALSE NEIGHBOUR: 'it returns false'. Refute it at one input. -/
def lineOrderWrong : ChangeSpec := { name := "lineOrder", fn := fun _ => fun
  | [d1, d2, d3] => { results := [.lit (.bool false)], args := [d1, d2, d3] }
  | _ => none }
def LineOrderWrongFalsely : Prop := lineOrderRow.holds Try.pinned (OpenSpec.ofChange lineOrderWrong)

/-- 'phosphorlaw09.BlockSides': WHATEVER THE INPUT: true; the input reads as it did. -/
def blockSidesSpec : ChangeSpec := { name := "blockSides", fn := fun _ => fun
  | [d1, d2] => { results := [.lit (.bool true)], args := [d1, d2] }
  | _ => none }
def blockSidesRow : OpenClaim := { program := "ytbjjjgmcdabkhaa", sum := "4832b274fc100d9c57b767bce1e13493feb7154d2842e8a2f96fcfa92dff577f", func := "phosphor/phosphorlaw09.BlockSides", spec := "blockSides", apart := false }
def BlockSidesSaid : Prop := blockSidesRow.holds Try.pinned (OpenSpec.ofChange blockSidesSpec)

/-- ITS FALSE NEIGHBOUR: 'it returns false'. Refute it at one input. -/
def blockSidesWrong : ChangeSpec := { name := "blockSides", fn := fun _ => fun
  | [d1, d2] => { results := [.lit (.bool false)], args := [d1, d2] }
  | _ => none }
def BlockSidesWrongFalsely : Prop := blockSidesRow.holds Try.pinned (OpenSpec.ofChange blockSidesWrong)

/-- 'phosphorlaw09.BlockCovers': WHATEVER THE INPUT: true; the input reads as it did. -/
def blockCoversSpec : ChangeSpec := { name := "blockCovers", fn := fun _ => fun
  | [d1, d2, d3] => { results := [.lit (.bool true)], args := [d1, d2, d3] }
  | _ => none }
def blockCoversRow : OpenClaim := { program := "ytbjjjgmcdabkhaa", sum := "4832b274fc100d9c57b767bce1e13493feb7154d2842e8a2f96fcfa92dff577f", func := "phosphor/phosphorlaw09.BlockCovers", spec := "blockCovers", apart := false }
def BlockCoversSaid : Prop := blockCoversRow.holds Try.pinned (OpenSpec.ofChange blockCoversSpec)

/-- ITS FALSE NEIGHBOUR: 'it returns false'. Refute it at one input. -/
def blockCoversWrong : ChangeSpec := { name := "blockCovers", fn := fun _ => fun
  | [d1, d2, d3] => { results := [.lit (.bool false)], args := [d1, d2, d3] }
  | _ => none }
def BlockCoversWrongFalsely : Prop := blockCoversRow.holds Try.pinned (OpenSpec.ofChange blockCoversWrong)

/-- 'phosphorlaw18.SpritesOf': WHATEVER THE INPUT: true; the input reads as it did. -/
def spritesOfSpec : ChangeSpec := { name := "spritesOf", fn := fun _ => fun
  | [d1, d2] => { results := [.lit (.bool true)], args := [d1, d2] }
  | _ => none }
def spritesOfRow : OpenClaim := { program := "ytbjjjgmcdabkhaa", sum := "4832b274fc100d9c57b767bce1e13493feb7154d2842e8a2f96fcfa92dff577f", func := "phosphor/phosphorlaw18.SpritesOf", spec := "spritesOf", unfollowed := true, recurses := true, apart := false }
def SpritesOfSaid : Prop := spritesOfRow.holds Try.pinned (OpenSpec.ofChange spritesOfSpec)

/-- ITS FALSE NEIGHBOUR: 'it returns false'. Refute it at one input. -/
def spritesOfWrong : ChangeSpec := { name := "spritesOf", fn := fun _ => fun
  | [d1, d2] => { results := [.lit (.bool false)], args := [d1, d2] }
  | _ => none }
def SpritesOfWrongFalsely : Prop := spritesOfRow.holds Try.pinned (OpenSpec.ofChange spritesOfWrong)

/-- 'phosphorlaw28.ReportSums': WHATEVER THE INPUT: true; the input reads as it did. -/
def reportSumsSpec : ChangeSpec := { name := "reportSums", fn := fun _ => fun
  | [d1, d2] => { results := [.lit (.bool true)], args := [d1, d2] }
  | _ => none }
def reportSumsRow : OpenClaim := { program := "ytbjjjgmcdabkhaa", sum := "4832b274fc100d9c57b767bce1e13493feb7154d2842e8a2f96fcfa92dff577f", func := "phosphor/phosphorlaw28.ReportSums", spec := "reportSums", unfollowed := true, recurses := true, apart := false }
def ReportSumsSaid : Prop := reportSumsRow.holds Try.pinned (OpenSpec.ofChange reportSumsSpec)

/-- ITS FALSE NEIGHBOUR: 'it returns false'. Refute it at one input. -/
def reportSumsWrong : ChangeSpec := { name := "reportSums", fn := fun _ => fun
  | [d1, d2] => { results := [.lit (.bool false)], args := [d1, d2] }
  | _ => none }
def ReportSumsWrongFalsely : Prop := reportSumsRow.holds Try.pinned (OpenSpec.ofChange reportSumsWrong)

/-- 'phosphorlaw09.BlockTells': WHATEVER THE INPUT: true; the input reads as it did. -/
def blockTellsSpec : ChangeSpec := { name := "blockTells", fn := fun _ => fun
  | [d1, d2, d3] => { results := [.lit (.bool true)], args := [d1, d2, d3] }
  | _ => none }
def blockTellsRow : OpenClaim := { program := "ytbjjjgmcdabkhaa", sum := "4832b274fc100d9c57b767bce1e13493feb7154d2842e8a2f96fcfa92dff577f", func := "phosphor/phosphorlaw09.BlockTells", spec := "blockTells", apart := false }
def BlockTellsSaid : Prop := blockTellsRow.holds Try.pinned (OpenSpec.ofChange blockTellsSpec)

/-- ITS FALSE NEIGHBOUR: 'it returns false'. Refute it at one input. -/
def blockTellsWrong : ChangeSpec := { name := "blockTells", fn := fun _ => fun
  | [d1, d2, d3] => { results := [.lit (.bool false)], args := [d1, d2, d3] }
  | _ => none }
def BlockTellsWrongFalsely : Prop := blockTellsRow.holds Try.pinned (OpenSpec.ofChange blockTellsWrong)

/- THE SECOND FORM. 'bulk': how many values and letters a reading holds, each counted each time it is reached (what is shared counts as often as it is met; a slice's spare places count too). A statement '..UptoSaid' is the law's where the arguments, and the package variables that the reading takes, are together of bulk at most 1048576: NARROWER than '..Said'. Prove '..Said' where nothing that the law and all that it calls make is longer than what came in: it says more and counts as full. Else prove '..UptoSaid'. A law counts once. -/
mutual
def uptoBulk {H : Type} : DataW H → Nat
  | .lit (.string bytes) => bytes.length + 1
  | .lit _ => 1
  | .nil => 1
  | .ptr d => uptoBulk d + 1
  | .slice elems spare => uptoBulkAll elems + uptoBulkAll spare + 1
  | .agg parts => uptoBulkAll parts + 1
  | .iface _ d => uptoBulk d + 1
  | .map entries => uptoBulkEntries entries + 1
  | .held _ => 1
def uptoBulkAll {H : Type} : List (DataW H) → Nat
  | [] => 0
  | d :: r => uptoBulk d + uptoBulkAll r
def uptoBulkEntries {H : Type} : List (Lit × DataW H) → Nat
  | [] => 0
  | x :: r => uptoBulkEntry x + uptoBulkEntries r
def uptoBulkEntry {H : Type} : Lit × DataW H → Nat
  | (.string bytes, d) => bytes.length + uptoBulk d + 1
  | (_, d) => uptoBulk d + 1
 end
def uptoSmall : (H : Type) → List (DataW H) → Bool := fun _ ds => decide (uptoBulkAll ds ≤ 1048576)
def OpenSpec.upto (s : _root_.Go.ChangeSpec) : _root_.Go.OpenSpec := { _root_.Go.OpenSpec.ofChange s with cond := some uptoSmall }

/-- 'phosphorlaw27.StateSums', WHERE WHAT IT READS IS OF BULK AT MOST 1048576: true; the input reads as it did. -/
def stateSumsUptoRow : OpenClaim := { program := "ytbjjjgmcdabkhaa", sum := "4832b274fc100d9c57b767bce1e13493feb7154d2842e8a2f96fcfa92dff577f", func := "phosphor/phosphorlaw27.StateSums", spec := "stateSums", apart := false, narrowed := true }
def StateSumsUptoSaid : Prop := stateSumsUptoRow.holds Try.pinned (OpenSpec.upto stateSumsSpec)

/-- 'phosphorlaw19.LineMixes', WHERE WHAT IT READS IS OF BULK AT MOST 1048576: true; the input reads as it did. -/
def lineMixesUptoRow : OpenClaim := { program := "ytbjjjgmcdabkhaa", sum := "4832b274fc100d9c57b767bce1e13493feb7154d2842e8a2f96fcfa92dff577f", func := "phosphor/phosphorlaw19.LineMixes", spec := "lineMixes", unfollowed := true, recurses := true, apart := false, narrowed := true }
def LineMixesUptoSaid : Prop := lineMixesUptoRow.holds Try.pinned (OpenSpec.upto lineMixesSpec)

/-- 'phosphorlaw19.LineOrder', WHERE WHAT IT READS IS OF BULK AT MOST 1048576: true; the input reads as it did. -/
def lineOrderUptoRow : OpenClaim := { program := "ytbjjjgmcdabkhaa", sum := "4832b274fc100d9c57b767bce1e13493feb7154d2842e8a2f96fcfa92dff577f", func := "phosphor/phosphorlaw19.LineOrder", spec := "lineOrder", unfollowed := true, recurses := true, apart := false, narrowed := true }
def LineOrderUptoSaid : Prop := lineOrderUptoRow.holds Try.pinned (OpenSpec.upto lineOrderSpec)

/-- 'phosphorlaw09.BlockSides', WHERE WHAT IT READS IS OF BULK AT MOST 1048576: true; the input reads as it did. -/
def blockSidesUptoRow : OpenClaim := { program := "ytbjjjgmcdabkhaa", sum := "4832b274fc100d9c57b767bce1e13493feb7154d2842e8a2f96fcfa92dff577f", func := "phosphor/phosphorlaw09.BlockSides", spec := "blockSides", apart := false, narrowed := true }
def BlockSidesUptoSaid : Prop := blockSidesUptoRow.holds Try.pinned (OpenSpec.upto blockSidesSpec)

/-- 'phosphorlaw09.BlockCovers', WHERE WHAT IT READS IS OF BULK AT MOST 1048576: true; the input reads as it did. -/
def blockCoversUptoRow : OpenClaim := { program := "ytbjjjgmcdabkhaa", sum := "4832b274fc100d9c57b767bce1e13493feb7154d2842e8a2f96fcfa92dff577f", func := "phosphor/phosphorlaw09.BlockCovers", spec := "blockCovers", apart := false, narrowed := true }
def BlockCoversUptoSaid : Prop := blockCoversUptoRow.holds Try.pinned (OpenSpec.upto blockCoversSpec)

/-- 'phosphorlaw18.SpritesOf', WHERE WHAT IT READS IS OF BULK AT MOST 1048576: true; the input reads as it did. -/
def spritesOfUptoRow : OpenClaim := { program := "ytbjjjgmcdabkhaa", sum := "4832b274fc100d9c57b767bce1e13493feb7154d2842e8a2f96fcfa92dff577f", func := "phosphor/phosphorlaw18.SpritesOf", spec := "spritesOf", unfollowed := true, recurses := true, apart := false, narrowed := true }
def SpritesOfUptoSaid : Prop := spritesOfUptoRow.holds Try.pinned (OpenSpec.upto spritesOfSpec)

/-- 'phosphorlaw28.ReportSums', WHERE WHAT IT READS IS OF BULK AT MOST 1048576: true; the input reads as it did. -/
def reportSumsUptoRow : OpenClaim := { program := "ytbjjjgmcdabkhaa", sum := "4832b274fc100d9c57b767bce1e13493feb7154d2842e8a2f96fcfa92dff577f", func := "phosphor/phosphorlaw28.ReportSums", spec := "reportSums", unfollowed := true, recurses := true, apart := false, narrowed := true }
def ReportSumsUptoSaid : Prop := reportSumsUptoRow.holds Try.pinned (OpenSpec.upto reportSumsSpec)

/-- 'phosphorlaw09.BlockTells', WHERE WHAT IT READS IS OF BULK AT MOST 1048576: true; the input reads as it did. -/
def blockTellsUptoRow : OpenClaim := { program := "ytbjjjgmcdabkhaa", sum := "4832b274fc100d9c57b767bce1e13493feb7154d2842e8a2f96fcfa92dff577f", func := "phosphor/phosphorlaw09.BlockTells", spec := "blockTells", apart := false, narrowed := true }
def BlockTellsUptoSaid : Prop := blockTellsUptoRow.holds Try.pinned (OpenSpec.upto blockTellsSpec)

end Rows
end Go.Proofs.Ytbjjjgmcdabkhaa
