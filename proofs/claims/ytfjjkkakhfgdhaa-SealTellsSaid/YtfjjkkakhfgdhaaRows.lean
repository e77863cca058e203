/-
  No cell of these rows narrows 'for every input' (looked for: loops, veiled, ifaces, maps, wideKeys, modest, calm, conditions, laid).
  DERIVED. THE GIVEN ROWS OF THIS SEAT. 18 by the template 'for every input the law returns true; each argument reads behind the call as it read before'; 0 by the template 'total and deterministic' (their statements: YtfjjkkakhfgdhaaTotals.lean).
  GIVEN WITH THE SEED: the statements are not yours to turn. If you find one false, say at which input.
  Laid BY PROGRAM, IN A SANDBOX (cutbox-rows.mjs): the forced cells as the released guide's own fill.sh prints them over the translation c0e39018f8a2d9de… (all of the seat's roots in one cut). By AI agents, Wed Nov 11 2026. No macro, syntax, notation, axiom, sorry.
-/
import Derived.Test.YtfjjkkakhfgdhaaChecked
import GoSem.Claim
import GoSem.ClaimJoined
import GoSem.ClaimMapViews
import Derived.JoinedTies
import Derived.KernelRfl
namespace Go.Proofs.Ytfjjkkakhfgdhaa
/- THE CELL 'sum', in the pinned program and in every row, IS THE sha256 OF THE DUMP (.gsa) THAT YtfjjkkakhfgdhaaProg.lean LOADS. Nothing in Lean hashes anything: it is a label: what it is worth is what the hold of that sum in a sandbox is worth. -/
noncomputable def Try.pinned : Pinned := { name := "ytfjjkkakhfgdhaa", sum := "c0e39018f8a2d9dec4b4758a7203dc724740e671b901ea3270fb18351810d185", checked := Try.checked }
namespace Rows
def none {H : Type} : Left H := { results := [], args := [] }

/-- 'charterhouselaw02.MixBack': WHATEVER THE INPUT: true; the input reads as it did. -/
def mixBackSpec : ChangeSpec := { name := "mixBack", fn := fun _ => fun
  | [d] => { results := [.lit (.bool true)], args := [d] }
  | _ => none }
def mixBackRow : OpenClaim := { program := "ytfjjkkakhfgdhaa", sum := "c0e39018f8a2d9dec4b4758a7203dc724740e671b901ea3270fb18351810d185", func := "charterhouse/charterhouselaw02.MixBack", spec := "mixBack", unfollowed := true, recurses := true, apart := false }
def MixBackSaid : Prop := mixBackRow.holds Try.pinned (OpenSpec.ofChange mixBackSpec)

/-- ITS FALSE NEIGHBOUR: 'it returns false'. Refute it at one input. -/
def mixBackWrong : ChangeSpec := { name := "mixBack", fn := fun _ => fun
  | [d] => { results := [.lit (.bool false)], args := [d] }
  | _ => none }
def MixBackWrongFalsely : Prop := mixBackRow.holds Try.pinned (OpenSpec.ofChange mixBackWrong)

/-- 'charterhouselaw02.MixOften': WHATEVER THE INPUT: true; the input reads as it did. -/
def mixOftenSpec : ChangeSpec := { name := "mixOften", fn := fun _ => fun
  | [d1, d2] => { results := [.lit (.bool true)], args := [d1, d2] }
  | _ => none }
def mixOftenRow : OpenClaim := { program := "ytfjjkkakhfgdhaa", sum := "c0e39018f8a2d9dec4b4758a7203dc724740e671b901ea3270fb18351810d185", func := "charterhouse/charterhouselaw02.MixOften", spec := "mixOften", unfollowed := true, recurses := true, apart := false }
def MixOftenSaid : Prop := mixOftenRow.holds Try.pinned (OpenSpec.ofChange mixOftenSpec)

/-- ITS FALSE NEIGHBOUR: 'it returns false'. Refute it at one input. -/
def mixOftenWrong : ChangeSpec := { name := "mixOften", fn := fun _ => fun
  | [d1, d2] => { results := [.lit (.bool false)], args := [d1, d2] }
  | _ => none }
def MixOftenWrongFalsely : Prop := mixOftenRow.holds Try.pinned (OpenSpec.ofChange mixOftenWrong)

/-- 'charterhouselaw02.MixPiece': WHATEVER THE INPUT: true; the input reads as it did. -/
def mixPieceSpec : ChangeSpec := { name := "mixPiece", fn := fun _ => fun
  | [d1, d2, d3] => { results := [.lit (.bool true)], args := [d1, d2, d3] }
  | _ => none }
def mixPieceRow : OpenClaim := { program := "ytfjjkkakhfgdhaa", sum := "c0e39018f8a2d9dec4b4758a7203dc724740e671b901ea3270fb18351810d185", func := "charterhouse/charterhouselaw02.MixPiece", spec := "mixPiece", unfollowed := true, recurses := true, apart := false }
def MixPieceSaid : Prop := mixPieceRow.holds Try.pinned (OpenSpec.ofChange mixPieceSpec)

/-- ITS FALSE NEIGHBOUR: 'it returns false'. Refute it at one input. -/
def mixPieceWrong : ChangeSpec := { name := "mixPiece", fn := fun _ => fun
  | [d1, d2, d3] => { results := [.lit (.bool false)], args := [d1, d2, d3] }
  | _ => none }
def MixPieceWrongFalsely : Prop := mixPieceRow.holds Try.pinned (OpenSpec.ofChange mixPieceWrong)

/-- 'charterhouselaw02.MixParts': WHATEVER THE INPUT: true; the input reads as it did. -/
def mixPartsSpec : ChangeSpec := { name := "mixParts", fn := fun _ => fun
  | [d] => { results := [.lit (.bool true)], args := [d] }
  | _ => none }
def mixPartsRow : OpenClaim := { program := "ytfjjkkakhfgdhaa", sum := "c0e39018f8a2d9dec4b4758a7203dc724740e671b901ea3270fb18351810d185", func := "charterhouse/charterhouselaw02.MixParts", spec := "mixParts", unfollowed := true, recurses := true, apart := false }
def MixPartsSaid : Prop := mixPartsRow.holds Try.pinned (OpenSpec.ofChange mixPartsSpec)

/-- ITS FALSE NEIGHBOUR: 'it returns false'. Refute it at one input. -/
def mixPartsWrong : ChangeSpec := { name := "mixParts", fn := fun _ => fun
  | [d] => { results := [.lit (.bool false)], args := [d] }
  | _ => none }
def MixPartsWrongFalsely : Prop := mixPartsRow.holds Try.pinned (OpenSpec.ofChange mixPartsWrong)

/-- 'charterhouselaw02.MixNames': WHATEVER THE INPUT: true; the input reads as it did. -/
def mixNamesSpec : ChangeSpec := { name := "mixNames", fn := fun _ => fun
  | [] => { results := [.lit (.bool true)], args := [] }
  | _ => none }
def mixNamesRow : OpenClaim := { program := "ytfjjkkakhfgdhaa", sum := "c0e39018f8a2d9dec4b4758a7203dc724740e671b901ea3270fb18351810d185", func := "charterhouse/charterhouselaw02.MixNames", spec := "mixNames", unfollowed := true, recurses := true, apart := false }
def MixNamesSaid : Prop := mixNamesRow.holds Try.pinned (OpenSpec.ofChange mixNamesSpec)

/-- ITS FALSE NEIGHBOUR: 'it returns false'. Refute it at one input. -/
def mixNamesWrong : ChangeSpec := { name := "mixNames", fn := fun _ => fun
  | [] => { results := [.lit (.bool false)], args := [] }
  | _ => none }
def MixNamesWrongFalsely : Prop := mixNamesRow.holds Try.pinned (OpenSpec.ofChange mixNamesWrong)

/-- 'charterhouselaw02.MixTells': WHATEVER THE INPUT: true; the input reads as it did. -/
def mixTellsSpec : ChangeSpec := { name := "mixTells", fn := fun _ => fun
  | [d1, d2] => { results := [.lit (.bool true)], args := [d1, d2] }
  | _ => none }
def mixTellsRow : OpenClaim := { program := "ytfjjkkakhfgdhaa", sum := "c0e39018f8a2d9dec4b4758a7203dc724740e671b901ea3270fb18351810d185", func := "charterhouse/charterhouselaw02.MixTells", spec := "mixTells", unfollowed := true, recurses := true, apart := false }
def MixTellsSaid : Prop := mixTellsRow.holds Try.pinned (OpenSpec.ofChange mixTellsSpec)

/-- ITS FALSE NEIGHBOUR: 'it returns false'. Refute it at one input. -/
def mixTellsWrong : ChangeSpec := { name := "mixTells", fn := fun _ => fun
  | [d1, d2] => { results := [.lit (.bool false)], args := [d1, d2] }
  | _ => none }
def MixTellsWrongFalsely : Prop := mixTellsRow.holds Try.pinned (OpenSpec.ofChange mixTellsWrong)

/-- 'charterhouselaw03.MacNames': WHATEVER THE INPUT: true; the input reads as it did. -/
def macNamesSpec : ChangeSpec := { name := "macNames", fn := fun _ => fun
  | [] => { results := [.lit (.bool true)], args := [] }
  | _ => none }
def macNamesRow : OpenClaim := { program := "ytfjjkkakhfgdhaa", sum := "c0e39018f8a2d9dec4b4758a7203dc724740e671b901ea3270fb18351810d185", func := "charterhouse/charterhouselaw03.MacNames", spec := "macNames", unfollowed := true, recurses := true, apart := false }
def MacNamesSaid : Prop := macNamesRow.holds Try.pinned (OpenSpec.ofChange macNamesSpec)

/-- ITS FALSE NEIGHBOUR: 'it returns false'. Refute it at one input. -/
def macNamesWrong : ChangeSpec := { name := "macNames", fn := fun _ => fun
  | [] => { results := [.lit (.bool false)], args := [] }
  | _ => none }
def MacNamesWrongFalsely : Prop := macNamesRow.holds Try.pinned (OpenSpec.ofChange macNamesWrong)

/-- 'charterhouselaw03.MacTells': WHATEVER THE INPUT: true; the input reads as it did. -/
def macTellsSpec : ChangeSpec := { name := "macTells", fn := fun _ => fun
  | [d1, d2] => { results := [.lit (.bool true)], args := [d1, d2] }
  | _ => none }
def macTellsRow : OpenClaim := { program := "ytfjjkkakhfgdhaa", sum := "c0e39018f8a2d9dec4b4758a7203dc724740e671b901ea3270fb18351810d185", func := "charterhouse/charterhouselaw03.MacTells", spec := "macTells", unfollowed := true, recurses := true, apart := false }
def MacTellsSaid : Prop := macTellsRow.holds Try.pinned (OpenSpec.ofChange macTellsSpec)

/-- ITS FALSE NEIGHBOUR: 'it returns false'. Refute it at one input. -/
def macTellsWrong : ChangeSpec := { name := "macTells", fn := fun _ => fun
  | [d1, d2] => { results := [.lit (.bool false)], args := [d1, d2] }
  | _ => none }
def MacTellsWrongFalsely : Prop := macTellsRow.holds Try.pinned (OpenSpec.ofChange macTellsWrong)

/-- 'charterhouselaw03.MacNested': WHATEVER THE INPUT: true; the input reads as it did. -/
def macNestedSpec : ChangeSpec := { name := "macNested", fn := fun _ => fun
  | [d1, d2, d3] => { results := [.lit (.bool true)], args := [d1, d2, d3] }
  | _ => none }
def macNestedRow : OpenClaim := { program := "ytfjjkkakhfgdhaa", sum := "c0e39018f8a2d9dec4b4758a7203dc724740e671b901ea3270fb18351810d185", func := "charterhouse/charterhouselaw03.MacNested", spec := "macNested", unfollowed := true, recurses := true, apart := false }
def MacNestedSaid : Prop := macNestedRow.holds Try.pinned (OpenSpec.ofChange macNestedSpec)

/-- ITS FALSE NEIGHBOUR: 'it returns false'. Refute it at one input. -/
def macNestedWrong : ChangeSpec := { name := "macNested", fn := fun _ => fun
  | [d1, d2, d3] => { results := [.lit (.bool false)], args := [d1, d2, d3] }
  | _ => none }
def MacNestedWrongFalsely : Prop := macNestedRow.holds Try.pinned (OpenSpec.ofChange macNestedWrong)

/-- 'charterhouselaw03.MacInner': WHATEVER THE INPUT: true; the input reads as it did. -/
def macInnerSpec : ChangeSpec := { name := "macInner", fn := fun _ => fun
  | [d1, d2, d3, d4] => { results := [.lit (.bool true)], args := [d1, d2, d3, d4] }
  | _ => none }
def macInnerRow : OpenClaim := { program := "ytfjjkkakhfgdhaa", sum := "c0e39018f8a2d9dec4b4758a7203dc724740e671b901ea3270fb18351810d185", func := "charterhouse/charterhouselaw03.MacInner", spec := "macInner", unfollowed := true, recurses := true, apart := false }
def MacInnerSaid : Prop := macInnerRow.holds Try.pinned (OpenSpec.ofChange macInnerSpec)

/-- ITS FALSE NEIGHBOUR: 'it returns false'. Refute it at one input. -/
def macInnerWrong : ChangeSpec := { name := "macInner", fn := fun _ => fun
  | [d1, d2, d3, d4] => { results := [.lit (.bool false)], args := [d1, d2, d3, d4] }
  | _ => none }
def MacInnerWrongFalsely : Prop := macInnerRow.holds Try.pinned (OpenSpec.ofChange macInnerWrong)

/-- 'charterhouselaw05.CipherNames': WHATEVER THE INPUT: true; the input reads as it did. -/
def cipherNamesSpec : ChangeSpec := { name := "cipherNames", fn := fun _ => fun
  | [] => { results := [.lit (.bool true)], args := [] }
  | _ => none }
def cipherNamesRow : OpenClaim := { program := "ytfjjkkakhfgdhaa", sum := "c0e39018f8a2d9dec4b4758a7203dc724740e671b901ea3270fb18351810d185", func := "charterhouse/charterhouselaw05.CipherNames", spec := "cipherNames", unfollowed := true, recurses := true, apart := false }
def CipherNamesSaid : Prop := cipherNamesRow.holds Try.pinned (OpenSpec.ofChange cipherNamesSpec)

/-- ITS FALSE NEIGHBOUR: 'it returns false'. Refute it at one input. -/
def cipherNamesWrong : ChangeSpec := { name := "cipherNames", fn := fun _ => fun
  | [] => { results := [.lit (.bool false)], args := [] }
  | _ => none }
def CipherNamesWrongFalsely : Prop := cipherNamesRow.holds Try.pinned (OpenSpec.ofChange cipherNamesWrong)

/-- 'charterhouselaw05.CipherTells': WHATEVER THE INPUT: true; the input reads as it did. -/
def cipherTellsSpec : ChangeSpec := { name := "cipherTells", fn := fun _ => fun
  | [d1, d2, d3, d4] => { results := [.lit (.bool true)], args := [d1, d2, d3, d4] }
  | _ => none }
def cipherTellsRow : OpenClaim := { program := "ytfjjkkakhfgdhaa", sum := "c0e39018f8a2d9dec4b4758a7203dc724740e671b901ea3270fb18351810d185", func := "charterhouse/charterhouselaw05.CipherTells", spec := "cipherTells", unfollowed := true, recurses := true, apart := false }
def CipherTellsSaid : Prop := cipherTellsRow.holds Try.pinned (OpenSpec.ofChange cipherTellsSpec)

/-- ITS FALSE NEIGHBOUR: 'it returns false'. Refute it at one input. -/
def cipherTellsWrong : ChangeSpec := { name := "cipherTells", fn := fun _ => fun
  | [d1, d2, d3, d4] => { results := [.lit (.bool false)], args := [d1, d2, d3, d4] }
  | _ => none }
def CipherTellsWrongFalsely : Prop := cipherTellsRow.holds Try.pinned (OpenSpec.ofChange cipherTellsWrong)

/-- 'charterhouselaw05.CipherTwice': WHATEVER THE INPUT: true; the input reads as it did. -/
def cipherTwiceSpec : ChangeSpec := { name := "cipherTwice", fn := fun _ => fun
  | [d1, d2, d3, d4] => { results := [.lit (.bool true)], args := [d1, d2, d3, d4] }
  | _ => none }
def cipherTwiceRow : OpenClaim := { program := "ytfjjkkakhfgdhaa", sum := "c0e39018f8a2d9dec4b4758a7203dc724740e671b901ea3270fb18351810d185", func := "charterhouse/charterhouselaw05.CipherTwice", spec := "cipherTwice", unfollowed := true, recurses := true, apart := false }
def CipherTwiceSaid : Prop := cipherTwiceRow.holds Try.pinned (OpenSpec.ofChange cipherTwiceSpec)

/-- ITS FALSE NEIGHBOUR: 'it returns false'. Refute it at one input. -/
def cipherTwiceWrong : ChangeSpec := { name := "cipherTwice", fn := fun _ => fun
  | [d1, d2, d3, d4] => { results := [.lit (.bool false)], args := [d1, d2, d3, d4] }
  | _ => none }
def CipherTwiceWrongFalsely : Prop := cipherTwiceRow.holds Try.pinned (OpenSpec.ofChange cipherTwiceWrong)

/-- 'charterhouselaw05.CipherOver': WHATEVER THE INPUT: true; the input reads as it did. -/
def cipherOverSpec : ChangeSpec := { name := "cipherOver", fn := fun _ => fun
  | [d1, d2, d3, d4] => { results := [.lit (.bool true)], args := [d1, d2, d3, d4] }
  | _ => none }
def cipherOverRow : OpenClaim := { program := "ytfjjkkakhfgdhaa", sum := "c0e39018f8a2d9dec4b4758a7203dc724740e671b901ea3270fb18351810d185", func := "charterhouse/charterhouselaw05.CipherOver", spec := "cipherOver", unfollowed := true, recurses := true, apart := false }
def CipherOverSaid : Prop := cipherOverRow.holds Try.pinned (OpenSpec.ofChange cipherOverSpec)

/-- ITS FALSE NEIGHBOUR: 'it returns false'. Refute it at one input. -/
def cipherOverWrong : ChangeSpec := { name := "cipherOver", fn := fun _ => fun
  | [d1, d2, d3, d4] => { results := [.lit (.bool false)], args := [d1, d2, d3, d4] }
  | _ => none }
def CipherOverWrongFalsely : Prop := cipherOverRow.holds Try.pinned (OpenSpec.ofChange cipherOverWrong)

/-- 'charterhouselaw06.SealNames': WHATEVER THE INPUT: true; the input reads as it did. -/
def sealNamesSpec : ChangeSpec := { name := "sealNames", fn := fun _ => fun
  | [] => { results := [.lit (.bool true)], args := [] }
  | _ => none }
def sealNamesRow : OpenClaim := { program := "ytfjjkkakhfgdhaa", sum := "c0e39018f8a2d9dec4b4758a7203dc724740e671b901ea3270fb18351810d185", func := "charterhouse/charterhouselaw06.SealNames", spec := "sealNames", unfollowed := true, recurses := true, apart := false }
def SealNamesSaid : Prop := sealNamesRow.holds Try.pinned (OpenSpec.ofChange sealNamesSpec)

/-- ITS FALSE NEIGHBOUR: 'it returns false'. Refute it at one input. -/
def sealNamesWrong : ChangeSpec := { name := "sealNames", fn := fun _ => fun
  | [] => { results := [.lit (.bool false)], args := [] }
  | _ => none }
def SealNamesWrongFalsely : Prop := sealNamesRow.holds Try.pinned (OpenSpec.ofChange sealNamesWrong)

/-- 'charterhouselaw06.SealTells': WHATEVER THE INPUT: true; the input reads as it did. -/
def sealTellsSpec : ChangeSpec := { name := "sealTells", fn := fun _ => fun
  | [d1, d2, d3, d4] => { results := [.lit (.bool true)], args := [d1, d2, d3, d4] }
  | _ => none }
def sealTellsRow : OpenClaim := { program := "ytfjjkkakhfgdhaa", sum := "c0e39018f8a2d9dec4b4758a7203dc724740e671b901ea3270fb18351810d185", func := "charterhouse/charterhouselaw06.SealTells", spec := "sealTells", unfollowed := true, recurses := true, apart := false }
def SealTellsSaid : Prop := sealTellsRow.holds Try.pinned (OpenSpec.ofChange sealTellsSpec)

/-- ITS FALSE NEIGHBOUR: 'it returns false'. Refute it at one input. -/
def sealTellsWrong : ChangeSpec := { name := "sealTells", fn := fun _ => fun
  | [d1, d2, d3, d4] => { results := [.lit (.bool false)], args := [d1, d2, d3, d4] }
  | _ => none }
def SealTellsWrongFalsely : Prop := sealTellsRow.holds Try.pinned (OpenSpec.ofChange sealTellsWrong)

/-- 'charterhouselaw06.SealBack': WHATEVER THE INPUT: true; the input reads as it did. -/
def sealBackSpec : ChangeSpec := { name := "sealBack", fn := fun _ => fun
  | [d1, d2, d3, d4] => { results := [.lit (.bool true)], args := [d1, d2, d3, d4] }
  | _ => none }
def sealBackRow : OpenClaim := { program := "ytfjjkkakhfgdhaa", sum := "c0e39018f8a2d9dec4b4758a7203dc724740e671b901ea3270fb18351810d185", func := "charterhouse/charterhouselaw06.SealBack", spec := "sealBack", unfollowed := true, recurses := true, apart := false }
def SealBackSaid : Prop := sealBackRow.holds Try.pinned (OpenSpec.ofChange sealBackSpec)

/-- ITS FALSE NEIGHBOUR: 'it returns false'. Refute it at one input. -/
def sealBackWrong : ChangeSpec := { name := "sealBack", fn := fun _ => fun
  | [d1, d2, d3, d4] => { results := [.lit (.bool false)], args := [d1, d2, d3, d4] }
  | _ => none }
def SealBackWrongFalsely : Prop := sealBackRow.holds Try.pinned (OpenSpec.ofChange sealBackWrong)

/-- 'charterhouselaw06.SealApart': WHATEVER THE INPUT: true; the input reads as it did. -/
def sealApartSpec : ChangeSpec := { name := "sealApart", fn := fun _ => fun
  | [d1, d2, d3, d4] => { results := [.lit (.bool true)], args := [d1, d2, d3, d4] }
  | _ => none }
def sealApartRow : OpenClaim := { program := "ytfjjkkakhfgdhaa", sum := "c0e39018f8a2d9dec4b4758a7203dc724740e671b901ea3270fb18351810d185", func := "charterhouse/charterhouselaw06.SealApart", spec := "sealApart", unfollowed := true, recurses := true, apart := false }
def SealApartSaid : Prop := sealApartRow.holds Try.pinned (OpenSpec.ofChange sealApartSpec)

/-- ITS FALSE NEIGHBOUR: 'it returns false'. Refute it at one input. -/
def sealApartWrong : ChangeSpec := { name := "sealApart", fn := fun _ => fun
  | [d1, d2, d3, d4] => { results := [.lit (.bool false)], args := [d1, d2, d3, d4] }
  | _ => none }
def SealApartWrongFalsely : Prop := sealApartRow.holds Try.pinned (OpenSpec.ofChange sealApartWrong)

/- THE SECOND FORM. 'bulk': how many values and letters a reading holds, each counted each time it is reached (what is shared counts as often as it is met; a slice's spare places count too). A statement '..UptoSaid' is the law's where the arguments, and the package variables that the reading takes, are together of bulk at most 1048576: NARROWER than '..Said'. Prove '..Said' where nothing that the law and all that it calls make is longer than what came in: it says more and counts as full. Else prove '..UptoSaid'. A law counts once. -/
mutual
def uptoBulk {H : Type} : DataW H → Nat
  | .lit (.string bytes) => bytes.length + 1
  | .lit _ => 1
  | .nil => 1
  | .ptr d => uptoBulk d + 1
  | .slice elems spare => uptoBulkAll elems + uptoBulkAll spare + 1
  | .agg parts => uptoBulkAll parts + 1
  | .iface _ d => uptoBulk d + 1
  | .map entries => uptoBulkEntries entries + 1
  | .held _ => 1
def uptoBulkAll {H : Type} : List (DataW H) → Nat
  | [] => 0
  | d :: r => uptoBulk d + uptoBulkAll r
def uptoBulkEntries {H : Type} : List (Lit × DataW H) → Nat
  | [] => 0
  | x :: r => uptoBulkEntry x + uptoBulkEntries r
def uptoBulkEntry {H : Type} : Lit × DataW H → Nat
  | (.string bytes, d) => bytes.length + uptoBulk d + 1
  | (_, d) => uptoBulk d + 1
 end
def uptoSmall : (H : Type) → List (DataW H) → Bool := fun _ ds => decide (uptoBulkAll ds ≤ 1048576)
def OpenSpec.upto (s : _root_.Go.ChangeSpec) : _root_.Go.OpenSpec := { _root_.Go.OpenSpec.ofChange s with cond := some uptoSmall }

/-- 'charterhouselaw02.MixBack', WHERE WHAT IT READS IS OF BULK AT MOST 1048576: true; the input reads as it did. -/
def mixBackUptoRow : OpenClaim := { program := "ytfjjkkakhfgdhaa", sum := "c0e39018f8a2d9dec4b4758a7203dc724740e671b901ea3270fb18351810d185", func := "charterhouse/charterhouselaw02.MixBack", spec := "mixBack", unfollowed := true, recurses := true, apart := false, narrowed := true }
def MixBackUptoSaid : Prop := mixBackUptoRow.holds Try.pinned (OpenSpec.upto mixBackSpec)

/-- 'charterhouselaw02.MixOften', WHERE WHAT IT READS IS OF BULK AT MOST 1048576: true; the input reads as it did. -/
def mixOftenUptoRow : OpenClaim := { program := "ytfjjkkakhfgdhaa", sum := "c0e39018f8a2d9dec4b4758a7203dc724740e671b901ea3270fb18351810d185", func := "charterhouse/charterhouselaw02.MixOften", spec := "mixOften", unfollowed := true, recurses := true, apart := false, narrowed := true }
def MixOftenUptoSaid : Prop := mixOftenUptoRow.holds Try.pinned (OpenSpec.upto mixOftenSpec)

/-- 'charterhouselaw02.MixPiece', WHERE WHAT IT READS IS OF BULK AT MOST 1048576: true; the input reads as it did. -/
def mixPieceUptoRow : OpenClaim := { program := "ytfjjkkakhfgdhaa", sum := "c0e39018f8a2d9dec4b4758a7203dc724740e671b901ea3270fb18351810d185", func := "charterhouse/charterhouselaw02.MixPiece", spec := "mixPiece", unfollowed := true, recurses := true, apart := false, narrowed := true }
def MixPieceUptoSaid : Prop := mixPieceUptoRow.holds Try.pinned (OpenSpec.upto mixPieceSpec)

/-- 'charterhouselaw02.MixParts', WHERE WHAT IT READS IS OF BULK AT MOST 1048576: true; the input reads as it did. -/
def mixPartsUptoRow : OpenClaim := { program := "ytfjjkkakhfgdhaa", sum := "c0e39018f8a2d9dec4b4758a7203dc724740e671b901ea3270fb18351810d185", func := "charterhouse/charterhouselaw02.MixParts", spec := "mixParts", unfollowed := true, recurses := true, apart := false, narrowed := true }
def MixPartsUptoSaid : Prop := mixPartsUptoRow.holds Try.pinned (OpenSpec.upto mixPartsSpec)

/-- 'charterhouselaw02.MixNames', WHERE WHAT IT READS IS OF BULK AT MOST 1048576: true; the input reads as it did. -/
def mixNamesUptoRow : OpenClaim := { program := "ytfjjkkakhfgdhaa", sum := "c0e39018f8a2d9dec4b4758a7203dc724740e671b901ea3270fb18351810d185", func := "charterhouse/charterhouselaw02.MixNames", spec := "mixNames", unfollowed := true, recurses := true, apart := false, narrowed := true }
def MixNamesUptoSaid : Prop := mixNamesUptoRow.holds Try.pinned (OpenSpec.upto mixNamesSpec)

/-- 'charterhouselaw02.MixTells', WHERE WHAT IT READS IS OF BULK AT MOST 1048576: true; the input reads as it did. -/
def mixTellsUptoRow : OpenClaim := { program := "ytfjjkkakhfgdhaa", sum := "c0e39018f8a2d9dec4b4758a7203dc724740e671b901ea3270fb18351810d185", func := "charterhouse/charterhouselaw02.MixTells", spec := "mixTells", unfollowed := true, recurses := true, apart := false, narrowed := true }
def MixTellsUptoSaid : Prop := mixTellsUptoRow.holds Try.pinned (OpenSpec.upto mixTellsSpec)

/-- 'charterhouselaw03.MacNames', WHERE WHAT IT READS IS OF BULK AT MOST 1048576: true; the input reads as it did. -/
def macNamesUptoRow : OpenClaim := { program := "ytfjjkkakhfgdhaa", sum := "c0e39018f8a2d9dec4b4758a7203dc724740e671b901ea3270fb18351810d185", func := "charterhouse/charterhouselaw03.MacNames", spec := "macNames", unfollowed := true, recurses := true, apart := false, narrowed := true }
def MacNamesUptoSaid : Prop := macNamesUptoRow.holds Try.pinned (OpenSpec.upto macNamesSpec)

/-- 'charterhouselaw03.MacTells', WHERE WHAT IT READS IS OF BULK AT MOST 1048576: true; the input reads as it did. -/
def macTellsUptoRow : OpenClaim := { program := "ytfjjkkakhfgdhaa", sum := "c0e39018f8a2d9dec4b4758a7203dc724740e671b901ea3270fb18351810d185", func := "charterhouse/charterhouselaw03.MacTells", spec := "macTells", unfollowed := true, recurses := true, apart := false, narrowed := true }
def MacTellsUptoSaid : Prop := macTellsUptoRow.holds Try.pinned (OpenSpec.upto macTellsSpec)

/-- 'charterhouselaw03.MacNested', WHERE WHAT IT READS IS OF BULK AT MOST 1048576: true; the input reads as it did. -/
def macNestedUptoRow : OpenClaim := { program := "ytfjjkkakhfgdhaa", sum := "c0e39018f8a2d9dec4b4758a7203dc724740e671b901ea3270fb18351810d185", func := "charterhouse/charterhouselaw03.MacNested", spec := "macNested", unfollowed := true, recurses := true, apart := false, narrowed := true }
def MacNestedUptoSaid : Prop := macNestedUptoRow.holds Try.pinned (OpenSpec.upto macNestedSpec)

/-- 'charterhouselaw03.MacInner', WHERE WHAT IT READS IS OF BULK AT MOST 1048576: true; the input reads as it did. -/
def macInnerUptoRow : OpenClaim := { program := "ytfjjkkakhfgdhaa", sum := "c0e39018f8a2d9dec4b4758a7203dc724740e671b901ea3270fb18351810d185", func := "charterhouse/charterhouselaw03.MacInner", spec := "macInner", unfollowed := true, recurses := true, apart := false, narrowed := true }
def MacInnerUptoSaid : Prop := macInnerUptoRow.holds Try.pinned (OpenSpec.upto macInnerSpec)

/-- 'charterhouselaw05.CipherNames', WHERE WHAT IT READS IS OF BULK AT MOST 1048576: true; the input reads as it did. -/
def cipherNamesUptoRow : OpenClaim := { program := "ytfjjkkakhfgdhaa", sum := "c0e39018f8a2d9dec4b4758a7203dc724740e671b901ea3270fb18351810d185", func := "charterhouse/charterhouselaw05.CipherNames", spec := "cipherNames", unfollowed := true, recurses := true, apart := false, narrowed := true }
def CipherNamesUptoSaid : Prop := cipherNamesUptoRow.holds Try.pinned (OpenSpec.upto cipherNamesSpec)

/-- 'charterhouselaw05.CipherTells', WHERE WHAT IT READS IS OF BULK AT MOST 1048576: true; the input reads as it did. -/
def cipherTellsUptoRow : OpenClaim := { program := "ytfjjkkakhfgdhaa", sum := "c0e39018f8a2d9dec4b4758a7203dc724740e671b901ea3270fb18351810d185", func := "charterhouse/charterhouselaw05.CipherTells", spec := "cipherTells", unfollowed := true, recurses := true, apart := false, narrowed := true }
def CipherTellsUptoSaid : Prop := cipherTellsUptoRow.holds Try.pinned (OpenSpec.upto cipherTellsSpec)

/-- 'charterhouselaw05.CipherTwice', WHERE WHAT IT READS IS OF BULK AT MOST 1048576: true; the input reads as it did. -/
def cipherTwiceUptoRow : OpenClaim := { program := "ytfjjkkakhfgdhaa", sum := "c0e39018f8a2d9dec4b4758a7203dc724740e671b901ea3270fb18351810d185", func := "charterhouse/charterhouselaw05.CipherTwice", spec := "cipherTwice", unfollowed := true, recurses := true, apart := false, narrowed := true }
def CipherTwiceUptoSaid : Prop := cipherTwiceUptoRow.holds Try.pinned (OpenSpec.upto cipherTwiceSpec)

/-- 'charterhouselaw05.CipherOver', WHERE WHAT IT READS IS OF BULK AT MOST 1048576: true; the input reads as it did. -/
def cipherOverUptoRow : OpenClaim := { program := "ytfjjkkakhfgdhaa", sum := "c0e39018f8a2d9dec4b4758a7203dc724740e671b901ea3270fb18351810d185", func := "charterhouse/charterhouselaw05.CipherOver", spec := "cipherOver", unfollowed := true, recurses := true, apart := false, narrowed := true }
def CipherOverUptoSaid : Prop := cipherOverUptoRow.holds Try.pinned (OpenSpec.upto cipherOverSpec)

/-- 'charterhouselaw06.SealNames', WHERE WHAT IT READS IS OF BULK AT MOST 1048576: true; the input reads as it did. -/
def sealNamesUptoRow : OpenClaim := { program := "ytfjjkkakhfgdhaa", sum := "c0e39018f8a2d9dec4b4758a7203dc724740e671b901ea3270fb18351810d185", func := "charterhouse/charterhouselaw06.SealNames", spec := "sealNames", unfollowed := true, recurses := true, apart := false, narrowed := true }
def SealNamesUptoSaid : Prop := sealNamesUptoRow.holds Try.pinned (OpenSpec.upto sealNamesSpec)

/-- 'charterhouselaw06.SealTells', WHERE WHAT IT READS IS OF BULK AT MOST 1048576: true; the input reads as it did. -/
def sealTellsUptoRow : OpenClaim := { program := "ytfjjkkakhfgdhaa", sum := "c0e39018f8a2d9dec4b4758a7203dc724740e671b901ea3270fb18351810d185", func := "charterhouse/charterhouselaw06.SealTells", spec := "sealTells", unfollowed := true, recurses := true, apart := false, narrowed := true }
def SealTellsUptoSaid : Prop := sealTellsUptoRow.holds Try.pinned (OpenSpec.upto sealTellsSpec)

/-- 'charterhouselaw06.SealBack', WHERE WHAT IT READS IS OF BULK AT MOST 1048576: true; the input reads as it did. -/
def sealBackUptoRow : OpenClaim := { program := "ytfjjkkakhfgdhaa", sum := "c0e39018f8a2d9dec4b4758a7203dc724740e671b901ea3270fb18351810d185", func := "charterhouse/charterhouselaw06.SealBack", spec := "sealBack", unfollowed := true, recurses := true, apart := false, narrowed := true }
def SealBackUptoSaid : Prop := sealBackUptoRow.holds Try.pinned (OpenSpec.upto sealBackSpec)

/-- 'charterhouselaw06.SealApart', WHERE WHAT IT READS IS OF BULK AT MOST 1048576: true; the input reads as it did. -/
def sealApartUptoRow : OpenClaim := { program := "ytfjjkkakhfgdhaa", sum := "c0e39018f8a2d9dec4b4758a7203dc724740e671b901ea3270fb18351810d185", func := "charterhouse/charterhouselaw06.SealApart", spec := "sealApart", unfollowed := true, recurses := true, apart := false, narrowed := true }
def SealApartUptoSaid : Prop := sealApartUptoRow.holds Try.pinned (OpenSpec.upto sealApartSpec)

end Rows
end Go.Proofs.Ytfjjkkakhfgdhaa
