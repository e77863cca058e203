/-
  No cell of these rows narrows 'for every input' (looked for: loops, veiled, ifaces, maps, wideKeys, modest, calm, conditions, laid).
  DERIVED. THE GIVEN ROWS OF THIS SEAT. 16 by the template 'for every input the law returns true; each argument reads behind the call as it read before'; 0 by the template 'total and deterministic' (their statements: YtgcagenhfddpgaaTotals.lean).
  GIVEN WITH THE SEED: the statements are not yours to turn. If you find one false, say at which input.
  Laid BY PROGRAM, IN A SANDBOX (cutbox-rows.mjs): the forced cells as the released guide's own fill.sh prints them over the translation f0aee48aee4cc14c… (all of the seat's roots in one cut). By AI agents, Wed Nov 11 2026. No macro, syntax, notation, axiom, sorry.
-/
import Derived.Test.YtgcagenhfddpgaaChecked
import GoSem.Claim
import GoSem.ClaimJoined
import GoSem.ClaimMapViews
import Derived.JoinedTies
import Derived.KernelRfl
namespace Go.Proofs.Ytgcagenhfddpgaa
/- THE CELL 'sum', in the pinned program and in every row, IS THE sha256 OF THE DUMP (.gsa) THAT YtgcagenhfddpgaaProg.lean LOADS. Nothing in Lean hashes anything: it is a label: what it is worth is what the hold of that sum in a sandbox is worth. -/
noncomputable def Try.pinned : Pinned := { name := "ytgcagenhfddpgaa", sum := "f0aee48aee4cc14c070469a4e9cab6d0044ab3cbf82583a4f3bb00d1d5d81d5d", checked := Try.checked }
namespace Rows
def none {H : Type} : Left H := { results := [], args := [] }

/-- 'charterhouselaw01.CodeWider': WHATEVER THE INPUT: true; the input reads as it did. -/
def codeWiderSpec : ChangeSpec := { name := "codeWider", fn := fun _ => fun
  | [d1, d2] => { results := [.lit (.bool true)], args := [d1, d2] }
  | _ => none }
def codeWiderRow : OpenClaim := { program := "ytgcagenhfddpgaa", sum := "f0aee48aee4cc14c070469a4e9cab6d0044ab3cbf82583a4f3bb00d1d5d81d5d", func := "charterhouse/charterhouselaw01.CodeWider", spec := "codeWider", apart := false }
def CodeWiderSaid : Prop := codeWiderRow.holds Try.pinned (OpenSpec.ofChange codeWiderSpec)

/-- ITS FALSE NEIGHBOUR: 'it returns false'. Refute it at one input. -/
def codeWiderWrong : ChangeSpec := { name := "codeWider", fn := fun _ => fun
  | [d1, d2] => { results := [.lit (.bool false)], args := [d1, d2] }
  | _ => none }
def CodeWiderWrongFalsely : Prop := codeWiderRow.holds Try.pinned (OpenSpec.ofChange codeWiderWrong)

/-- 'charterhouselaw01.CodeOrder': WHATEVER THE INPUT: true; the input reads as it did. -/
def codeOrderSpec : ChangeSpec := { name := "codeOrder", fn := fun _ => fun
  | [d1, d2, d3] => { results := [.lit (.bool true)], args := [d1, d2, d3] }
  | _ => none }
def codeOrderRow : OpenClaim := { program := "ytgcagenhfddpgaa", sum := "f0aee48aee4cc14c070469a4e9cab6d0044ab3cbf82583a4f3bb00d1d5d81d5d", func := "charterhouse/charterhouselaw01.CodeOrder", spec := "codeOrder", apart := false }
def CodeOrderSaid : Prop := codeOrderRow.holds Try.pinned (OpenSpec.ofChange codeOrderSpec)

/-- ITS FALSE NEIGHBOUR: 'it returns false'. Refute it at one input. -/
def codeOrderWrong : ChangeSpec := { name := "codeOrder", fn := fun _ => fun
  | [d1, d2, d3] => { results := [.lit (.bool false)], args := [d1, d2, d3] }
  | _ => none }
def CodeOrderWrongFalsely : Prop := codeOrderRow.holds Try.pinned (OpenSpec.ofChange codeOrderWrong)

/-- 'charterhouselaw10.PtrUnlike': WHATEVER THE INPUT: true; the input reads as it did. -/
def ptrUnlikeSpec : ChangeSpec := { name := "ptrUnlike", fn := fun _ => fun
  | [d1, d2] => { results := [.lit (.bool true)], args := [d1, d2] }
  | _ => none }
def ptrUnlikeRow : OpenClaim := { program := "ytgcagenhfddpgaa", sum := "f0aee48aee4cc14c070469a4e9cab6d0044ab3cbf82583a4f3bb00d1d5d81d5d", func := "charterhouse/charterhouselaw10.PtrUnlike", spec := "ptrUnlike", apart := false }
def PtrUnlikeSaid : Prop := ptrUnlikeRow.holds Try.pinned (OpenSpec.ofChange ptrUnlikeSpec)

/-- ITS FALSE NEIGHBOUR: 'it returns false'. Refute it at one input. -/
def ptrUnlikeWrong : ChangeSpec := { name := "ptrUnlike", fn := fun _ => fun
  | [d1, d2] => { results := [.lit (.bool false)], args := [d1, d2] }
  | _ => none }
def PtrUnlikeWrongFalsely : Prop := ptrUnlikeRow.holds Try.pinned (OpenSpec.ofChange ptrUnlikeWrong)

/-- 'charterhouselaw01.CodeNames': WHATEVER THE INPUT: true; the input reads as it did. -/
def codeNamesSpec : ChangeSpec := { name := "codeNames", fn := fun _ => fun
  | [] => { results := [.lit (.bool true)], args := [] }
  | _ => none }
def codeNamesRow : OpenClaim := { program := "ytgcagenhfddpgaa", sum := "f0aee48aee4cc14c070469a4e9cab6d0044ab3cbf82583a4f3bb00d1d5d81d5d", func := "charterhouse/charterhouselaw01.CodeNames", spec := "codeNames", unfollowed := true, recurses := true, apart := false }
def CodeNamesSaid : Prop := codeNamesRow.holds Try.pinned (OpenSpec.ofChange codeNamesSpec)

/-- ITS FALSE NEIGHBOUR: 'it returns false'. Refute it at one input. -/
def codeNamesWrong : ChangeSpec := { name := "codeNames", fn := fun _ => fun
  | [] => { results := [.lit (.bool false)], args := [] }
  | _ => none }
def CodeNamesWrongFalsely : Prop := codeNamesRow.holds Try.pinned (OpenSpec.ofChange codeNamesWrong)

/-- 'charterhouselaw01.CodeTells': WHATEVER THE INPUT: true; the input reads as it did. -/
def codeTellsSpec : ChangeSpec := { name := "codeTells", fn := fun _ => fun
  | [d1, d2, d3, d4] => { results := [.lit (.bool true)], args := [d1, d2, d3, d4] }
  | _ => none }
def codeTellsRow : OpenClaim := { program := "ytgcagenhfddpgaa", sum := "f0aee48aee4cc14c070469a4e9cab6d0044ab3cbf82583a4f3bb00d1d5d81d5d", func := "charterhouse/charterhouselaw01.CodeTells", spec := "codeTells", unfollowed := true, recurses := true, apart := false }
def CodeTellsSaid : Prop := codeTellsRow.holds Try.pinned (OpenSpec.ofChange codeTellsSpec)

/-- ITS FALSE NEIGHBOUR: 'it returns false'. Refute it at one input. -/
def codeTellsWrong : ChangeSpec := { name := "codeTells", fn := fun _ => fun
  | [d1, d2, d3, d4] => { results := [.lit (.bool false)], args := [d1, d2, d3, d4] }
  | _ => none }
def CodeTellsWrongFalsely : Prop := codeTellsRow.holds Try.pinned (OpenSpec.ofChange codeTellsWrong)

/-- 'charterhouselaw01.CodeBack': WHATEVER THE INPUT: true; the input reads as it did. -/
def codeBackSpec : ChangeSpec := { name := "codeBack", fn := fun _ => fun
  | [d1, d2, d3, d4, d5] => { results := [.lit (.bool true)], args := [d1, d2, d3, d4, d5] }
  | _ => none }
def codeBackRow : OpenClaim := { program := "ytgcagenhfddpgaa", sum := "f0aee48aee4cc14c070469a4e9cab6d0044ab3cbf82583a4f3bb00d1d5d81d5d", func := "charterhouse/charterhouselaw01.CodeBack", spec := "codeBack", unfollowed := true, recurses := true, apart := false }
def CodeBackSaid : Prop := codeBackRow.holds Try.pinned (OpenSpec.ofChange codeBackSpec)

/-- ITS FALSE NEIGHBOUR: 'it returns false'. Refute it at one input. -/
def codeBackWrong : ChangeSpec := { name := "codeBack", fn := fun _ => fun
  | [d1, d2, d3, d4, d5] => { results := [.lit (.bool false)], args := [d1, d2, d3, d4, d5] }
  | _ => none }
def CodeBackWrongFalsely : Prop := codeBackRow.holds Try.pinned (OpenSpec.ofChange codeBackWrong)

/-- 'charterhouselaw10.PtrPlaces': WHATEVER THE INPUT: true; the input reads as it did. -/
def ptrPlacesSpec : ChangeSpec := { name := "ptrPlaces", fn := fun _ => fun
  | [d] => { results := [.lit (.bool true)], args := [d] }
  | _ => none }
def ptrPlacesRow : OpenClaim := { program := "ytgcagenhfddpgaa", sum := "f0aee48aee4cc14c070469a4e9cab6d0044ab3cbf82583a4f3bb00d1d5d81d5d", func := "charterhouse/charterhouselaw10.PtrPlaces", spec := "ptrPlaces", apart := false }
def PtrPlacesSaid : Prop := ptrPlacesRow.holds Try.pinned (OpenSpec.ofChange ptrPlacesSpec)

/-- ITS FALSE NEIGHBOUR: 'it returns false'. Refute it at one input. -/
def ptrPlacesWrong : ChangeSpec := { name := "ptrPlaces", fn := fun _ => fun
  | [d] => { results := [.lit (.bool false)], args := [d] }
  | _ => none }
def PtrPlacesWrongFalsely : Prop := ptrPlacesRow.holds Try.pinned (OpenSpec.ofChange ptrPlacesWrong)

/-- 'charterhouselaw10.PtrBack': WHATEVER THE INPUT: true; the input reads as it did. -/
def ptrBackSpec : ChangeSpec := { name := "ptrBack", fn := fun _ => fun
  | [d1, d2] => { results := [.lit (.bool true)], args := [d1, d2] }
  | _ => none }
def ptrBackRow : OpenClaim := { program := "ytgcagenhfddpgaa", sum := "f0aee48aee4cc14c070469a4e9cab6d0044ab3cbf82583a4f3bb00d1d5d81d5d", func := "charterhouse/charterhouselaw10.PtrBack", spec := "ptrBack", unfollowed := true, recurses := true, apart := false }
def PtrBackSaid : Prop := ptrBackRow.holds Try.pinned (OpenSpec.ofChange ptrBackSpec)

/-- ITS FALSE NEIGHBOUR: 'it returns false'. Refute it at one input. -/
def ptrBackWrong : ChangeSpec := { name := "ptrBack", fn := fun _ => fun
  | [d1, d2] => { results := [.lit (.bool false)], args := [d1, d2] }
  | _ => none }
def PtrBackWrongFalsely : Prop := ptrBackRow.holds Try.pinned (OpenSpec.ofChange ptrBackWrong)

/-- 'charterhouselaw14.ObjBounds': WHATEVER THE INPUT: true; the input reads as it did. -/
def objBoundsSpec : ChangeSpec := { name := "objBounds", fn := fun _ => fun
  | [d1, d2, d3, d4, d5] => { results := [.lit (.bool true)], args := [d1, d2, d3, d4, d5] }
  | _ => none }
def objBoundsRow : OpenClaim := { program := "ytgcagenhfddpgaa", sum := "f0aee48aee4cc14c070469a4e9cab6d0044ab3cbf82583a4f3bb00d1d5d81d5d", func := "charterhouse/charterhouselaw14.ObjBounds", spec := "objBounds", unfollowed := true, recurses := true, apart := false }
def ObjBoundsSaid : Prop := objBoundsRow.holds Try.pinned (OpenSpec.ofChange objBoundsSpec)

/-- ITS FALSE NEIGHBOUR: 'it returns false'. Refute it at one input. -/
def objBoundsWrong : ChangeSpec := { name := "objBounds", fn := fun _ => fun
  | [d1, d2, d3, d4, d5] => { results := [.lit (.bool false)], args := [d1, d2, d3, d4, d5] }
  | _ => none }
def ObjBoundsWrongFalsely : Prop := objBoundsRow.holds Try.pinned (OpenSpec.ofChange objBoundsWrong)

/-- 'charterhouselaw10.PtrNames': WHATEVER THE INPUT: true; the input reads as it did. -/
def ptrNamesSpec : ChangeSpec := { name := "ptrNames", fn := fun _ => fun
  | [] => { results := [.lit (.bool true)], args := [] }
  | _ => none }
def ptrNamesRow : OpenClaim := { program := "ytgcagenhfddpgaa", sum := "f0aee48aee4cc14c070469a4e9cab6d0044ab3cbf82583a4f3bb00d1d5d81d5d", func := "charterhouse/charterhouselaw10.PtrNames", spec := "ptrNames", unfollowed := true, recurses := true, apart := false }
def PtrNamesSaid : Prop := ptrNamesRow.holds Try.pinned (OpenSpec.ofChange ptrNamesSpec)

/-- ITS FALSE NEIGHBOUR: 'it returns false'. Refute it at one input. -/
def ptrNamesWrong : ChangeSpec := { name := "ptrNames", fn := fun _ => fun
  | [] => { results := [.lit (.bool false)], args := [] }
  | _ => none }
def PtrNamesWrongFalsely : Prop := ptrNamesRow.holds Try.pinned (OpenSpec.ofChange ptrNamesWrong)

/-- 'charterhouselaw10.PtrBytes': WHATEVER THE INPUT: true; the input reads as it did. -/
def ptrBytesSpec : ChangeSpec := { name := "ptrBytes", fn := fun _ => fun
  | [d1, d2, d3] => { results := [.lit (.bool true)], args := [d1, d2, d3] }
  | _ => none }
def ptrBytesRow : OpenClaim := { program := "ytgcagenhfddpgaa", sum := "f0aee48aee4cc14c070469a4e9cab6d0044ab3cbf82583a4f3bb00d1d5d81d5d", func := "charterhouse/charterhouselaw10.PtrBytes", spec := "ptrBytes", unfollowed := true, recurses := true, apart := false }
def PtrBytesSaid : Prop := ptrBytesRow.holds Try.pinned (OpenSpec.ofChange ptrBytesSpec)

/-- ITS FALSE NEIGHBOUR: 'it returns false'. Refute it at one input. -/
def ptrBytesWrong : ChangeSpec := { name := "ptrBytes", fn := fun _ => fun
  | [d1, d2, d3] => { results := [.lit (.bool false)], args := [d1, d2, d3] }
  | _ => none }
def PtrBytesWrongFalsely : Prop := ptrBytesRow.holds Try.pinned (OpenSpec.ofChange ptrBytesWrong)

/-- 'charterhouselaw10.PtrRows': WHATEVER THE INPUT: true; the input reads as it did. -/
def ptrRowsSpec : ChangeSpec := { name := "ptrRows", fn := fun _ => fun
  | [d1, d2] => { results := [.lit (.bool true)], args := [d1, d2] }
  | _ => none }
def ptrRowsRow : OpenClaim := { program := "ytgcagenhfddpgaa", sum := "f0aee48aee4cc14c070469a4e9cab6d0044ab3cbf82583a4f3bb00d1d5d81d5d", func := "charterhouse/charterhouselaw10.PtrRows", spec := "ptrRows", unfollowed := true, recurses := true, apart := false }
def PtrRowsSaid : Prop := ptrRowsRow.holds Try.pinned (OpenSpec.ofChange ptrRowsSpec)

/-- ITS FALSE NEIGHBOUR: 'it returns false'. Refute it at one input. -/
def ptrRowsWrong : ChangeSpec := { name := "ptrRows", fn := fun _ => fun
  | [d1, d2] => { results := [.lit (.bool false)], args := [d1, d2] }
  | _ => none }
def PtrRowsWrongFalsely : Prop := ptrRowsRow.holds Try.pinned (OpenSpec.ofChange ptrRowsWrong)

/-- 'charterhouselaw14.ObjParts': WHATEVER THE INPUT: true; the input reads as it did. -/
def objPartsSpec : ChangeSpec := { name := "objParts", fn := fun _ => fun
  | [d1, d2] => { results := [.lit (.bool true)], args := [d1, d2] }
  | _ => none }
def objPartsRow : OpenClaim := { program := "ytgcagenhfddpgaa", sum := "f0aee48aee4cc14c070469a4e9cab6d0044ab3cbf82583a4f3bb00d1d5d81d5d", func := "charterhouse/charterhouselaw14.ObjParts", spec := "objParts", unfollowed := true, recurses := true, apart := false }
def ObjPartsSaid : Prop := objPartsRow.holds Try.pinned (OpenSpec.ofChange objPartsSpec)

/-- ITS FALSE NEIGHBOUR: 'it returns false'. Refute it at one input. -/
def objPartsWrong : ChangeSpec := { name := "objParts", fn := fun _ => fun
  | [d1, d2] => { results := [.lit (.bool false)], args := [d1, d2] }
  | _ => none }
def ObjPartsWrongFalsely : Prop := objPartsRow.holds Try.pinned (OpenSpec.ofChange objPartsWrong)

/-- 'charterhouselaw14.ObjNames': WHATEVER THE INPUT: true; the input reads as it did. -/
def objNamesSpec : ChangeSpec := { name := "objNames", fn := fun _ => fun
  | [] => { results := [.lit (.bool true)], args := [] }
  | _ => none }
def objNamesRow : OpenClaim := { program := "ytgcagenhfddpgaa", sum := "f0aee48aee4cc14c070469a4e9cab6d0044ab3cbf82583a4f3bb00d1d5d81d5d", func := "charterhouse/charterhouselaw14.ObjNames", spec := "objNames", unfollowed := true, recurses := true, apart := false }
def ObjNamesSaid : Prop := objNamesRow.holds Try.pinned (OpenSpec.ofChange objNamesSpec)

/-- ITS FALSE NEIGHBOUR: 'it returns false'. Refute it at one input. -/
def objNamesWrong : ChangeSpec := { name := "objNames", fn := fun _ => fun
  | [] => { results := [.lit (.bool false)], args := [] }
  | _ => none }
def ObjNamesWrongFalsely : Prop := objNamesRow.holds Try.pinned (OpenSpec.ofChange objNamesWrong)

/-- 'charterhouselaw14.ObjBlocks': WHATEVER THE INPUT: true; the input reads as it did. -/
def objBlocksSpec : ChangeSpec := { name := "objBlocks", fn := fun _ => fun
  | [d1, d2, d3] => { results := [.lit (.bool true)], args := [d1, d2, d3] }
  | _ => none }
def objBlocksRow : OpenClaim := { program := "ytgcagenhfddpgaa", sum := "f0aee48aee4cc14c070469a4e9cab6d0044ab3cbf82583a4f3bb00d1d5d81d5d", func := "charterhouse/charterhouselaw14.ObjBlocks", spec := "objBlocks", unfollowed := true, recurses := true, apart := false }
def ObjBlocksSaid : Prop := objBlocksRow.holds Try.pinned (OpenSpec.ofChange objBlocksSpec)

/-- ITS FALSE NEIGHBOUR: 'it returns false'. Refute it at one input. -/
def objBlocksWrong : ChangeSpec := { name := "objBlocks", fn := fun _ => fun
  | [d1, d2, d3] => { results := [.lit (.bool false)], args := [d1, d2, d3] }
  | _ => none }
def ObjBlocksWrongFalsely : Prop := objBlocksRow.holds Try.pinned (OpenSpec.ofChange objBlocksWrong)

/-- 'charterhouselaw14.ObjBack': WHATEVER THE INPUT: true; the input reads as it did. -/
def objBackSpec : ChangeSpec := { name := "objBack", fn := fun _ => fun
  | [d1, d2] => { results := [.lit (.bool true)], args := [d1, d2] }
  | _ => none }
def objBackRow : OpenClaim := { program := "ytgcagenhfddpgaa", sum := "f0aee48aee4cc14c070469a4e9cab6d0044ab3cbf82583a4f3bb00d1d5d81d5d", func := "charterhouse/charterhouselaw14.ObjBack", spec := "objBack", unfollowed := true, recurses := true, apart := false }
def ObjBackSaid : Prop := objBackRow.holds Try.pinned (OpenSpec.ofChange objBackSpec)

/-- ITS FALSE NEIGHBOUR: 'it returns false'. Refute it at one input. -/
def objBackWrong : ChangeSpec := { name := "objBack", fn := fun _ => fun
  | [d1, d2] => { results := [.lit (.bool false)], args := [d1, d2] }
  | _ => none }
def ObjBackWrongFalsely : Prop := objBackRow.holds Try.pinned (OpenSpec.ofChange objBackWrong)

/- THE SECOND FORM. 'bulk': how many values and letters a reading holds, each counted each time it is reached (what is shared counts as often as it is met; a slice's spare places count too). A statement '..UptoSaid' is the law's where the arguments, and the package variables that the reading takes, are together of bulk at most 1048576: NARROWER than '..Said'. Prove '..Said' where nothing that the law and all that it calls make is longer than what came in: it says more and counts as full. Else prove '..UptoSaid'. A law counts once. -/
mutual
def uptoBulk {H : Type} : DataW H → Nat
  | .lit (.string bytes) => bytes.length + 1
  | .lit _ => 1
  | .nil => 1
  | .ptr d => uptoBulk d + 1
  | .slice elems spare => uptoBulkAll elems + uptoBulkAll spare + 1
  | .agg parts => uptoBulkAll parts + 1
  | .iface _ d => uptoBulk d + 1
  | .map entries => uptoBulkEntries entries + 1
  | .held _ => 1
def uptoBulkAll {H : Type} : List (DataW H) → Nat
  | [] => 0
  | d :: r => uptoBulk d + uptoBulkAll r
def uptoBulkEntries {H : Type} : List (Lit × DataW H) → Nat
  | [] => 0
  | x :: r => uptoBulkEntry x + uptoBulkEntries r
def uptoBulkEntry {H : Type} : Lit × DataW H → Nat
  | (.string bytes, d) => bytes.length + uptoBulk d + 1
  | (_, d) => uptoBulk d + 1
 end
def uptoSmall : (H : Type) → List (DataW H) → Bool := fun _ ds => decide (uptoBulkAll ds ≤ 1048576)
def OpenSpec.upto (s : _root_.Go.ChangeSpec) : _root_.Go.OpenSpec := { _root_.Go.OpenSpec.ofChange s with cond := some uptoSmall }

/-- 'charterhouselaw01.CodeWider', WHERE WHAT IT READS IS OF BULK AT MOST 1048576: true; the input reads as it did. -/
def codeWiderUptoRow : OpenClaim := { program := "ytgcagenhfddpgaa", sum := "f0aee48aee4cc14c070469a4e9cab6d0044ab3cbf82583a4f3bb00d1d5d81d5d", func := "charterhouse/charterhouselaw01.CodeWider", spec := "codeWider", apart := false, narrowed := true }
def CodeWiderUptoSaid : Prop := codeWiderUptoRow.holds Try.pinned (OpenSpec.upto codeWiderSpec)

/-- 'charterhouselaw01.CodeOrder', WHERE WHAT IT READS IS OF BULK AT MOST 1048576: true; the input reads as it did. -/
def codeOrderUptoRow : OpenClaim := { program := "ytgcagenhfddpgaa", sum := "f0aee48aee4cc14c070469a4e9cab6d0044ab3cbf82583a4f3bb00d1d5d81d5d", func := "charterhouse/charterhouselaw01.CodeOrder", spec := "codeOrder", apart := false, narrowed := true }
def CodeOrderUptoSaid : Prop := codeOrderUptoRow.holds Try.pinned (OpenSpec.upto codeOrderSpec)

/-- 'charterhouselaw10.PtrUnlike', WHERE WHAT IT READS IS OF BULK AT MOST 1048576: true; the input reads as it did. -/
def ptrUnlikeUptoRow : OpenClaim := { program := "ytgcagenhfddpgaa", sum := "f0aee48aee4cc14c070469a4e9cab6d0044ab3cbf82583a4f3bb00d1d5d81d5d", func := "charterhouse/charterhouselaw10.PtrUnlike", spec := "ptrUnlike", apart := false, narrowed := true }
def PtrUnlikeUptoSaid : Prop := ptrUnlikeUptoRow.holds Try.pinned (OpenSpec.upto ptrUnlikeSpec)

/-- 'charterhouselaw01.CodeNames', WHERE WHAT IT READS IS OF BULK AT MOST 1048576: true; the input reads as it did. -/
def codeNamesUptoRow : OpenClaim := { program := "ytgcagenhfddpgaa", sum := "f0aee48aee4cc14c070469a4e9cab6d0044ab3cbf82583a4f3bb00d1d5d81d5d", func := "charterhouse/charterhouselaw01.CodeNames", spec := "codeNames", unfollowed := true, recurses := true, apart := false, narrowed := true }
def CodeNamesUptoSaid : Prop := codeNamesUptoRow.holds Try.pinned (OpenSpec.upto codeNamesSpec)

/-- 'charterhouselaw01.CodeTells', WHERE WHAT IT READS IS OF BULK AT MOST 1048576: true; the input reads as it did. -/
def codeTellsUptoRow : OpenClaim := { program := "ytgcagenhfddpgaa", sum := "f0aee48aee4cc14c070469a4e9cab6d0044ab3cbf82583a4f3bb00d1d5d81d5d", func := "charterhouse/charterhouselaw01.CodeTells", spec := "codeTells", unfollowed := true, recurses := true, apart := false, narrowed := true }
def CodeTellsUptoSaid : Prop := codeTellsUptoRow.holds Try.pinned (OpenSpec.upto codeTellsSpec)

/-- 'charterhouselaw01.CodeBack', WHERE WHAT IT READS IS OF BULK AT MOST 1048576: true; the input reads as it did. -/
def codeBackUptoRow : OpenClaim := { program := "ytgcagenhfddpgaa", sum := "f0aee48aee4cc14c070469a4e9cab6d0044ab3cbf82583a4f3bb00d1d5d81d5d", func := "charterhouse/charterhouselaw01.CodeBack", spec := "codeBack", unfollowed := true, recurses := true, apart := false, narrowed := true }
def CodeBackUptoSaid : Prop := codeBackUptoRow.holds Try.pinned (OpenSpec.upto codeBackSpec)

/-- 'charterhouselaw10.PtrPlaces', WHERE WHAT IT READS IS OF BULK AT MOST 1048576: true; the input reads as it did. -/
def ptrPlacesUptoRow : OpenClaim := { program := "ytgcagenhfddpgaa", sum := "f0aee48aee4cc14c070469a4e9cab6d0044ab3cbf82583a4f3bb00d1d5d81d5d", func := "charterhouse/charterhouselaw10.PtrPlaces", spec := "ptrPlaces", apart := false, narrowed := true }
def PtrPlacesUptoSaid : Prop := ptrPlacesUptoRow.holds Try.pinned (OpenSpec.upto ptrPlacesSpec)

/-- 'charterhouselaw10.PtrBack', WHERE WHAT IT READS IS OF BULK AT MOST 1048576: true; the input reads as it did. -/
def ptrBackUptoRow : OpenClaim := { program := "ytgcagenhfddpgaa", sum := "f0aee48aee4cc14c070469a4e9cab6d0044ab3cbf82583a4f3bb00d1d5d81d5d", func := "charterhouse/charterhouselaw10.PtrBack", spec := "ptrBack", unfollowed := true, recurses := true, apart := false, narrowed := true }
def PtrBackUptoSaid : Prop := ptrBackUptoRow.holds Try.pinned (OpenSpec.upto ptrBackSpec)

/-- 'charterhouselaw14.ObjBounds', WHERE WHAT IT READS IS OF BULK AT MOST 1048576: true; the input reads as it did. -/
def objBoundsUptoRow : OpenClaim := { program := "ytgcagenhfddpgaa", sum := "f0aee48aee4cc14c070469a4e9cab6d0044ab3cbf82583a4f3bb00d1d5d81d5d", func := "charterhouse/charterhouselaw14.ObjBounds", spec := "objBounds", unfollowed := true, recurses := true, apart := false, narrowed := true }
def ObjBoundsUptoSaid : Prop := objBoundsUptoRow.holds Try.pinned (OpenSpec.upto objBoundsSpec)

/-- 'charterhouselaw10.PtrNames', WHERE WHAT IT READS IS OF BULK AT MOST 1048576: true; the input reads as it did. -/
def ptrNamesUptoRow : OpenClaim := { program := "ytgcagenhfddpgaa", sum := "f0aee48aee4cc14c070469a4e9cab6d0044ab3cbf82583a4f3bb00d1d5d81d5d", func := "charterhouse/charterhouselaw10.PtrNames", spec := "ptrNames", unfollowed := true, recurses := true, apart := false, narrowed := true }
def PtrNamesUptoSaid : Prop := ptrNamesUptoRow.holds Try.pinned (OpenSpec.upto ptrNamesSpec)

/-- 'charterhouselaw10.PtrBytes', WHERE WHAT IT READS IS OF BULK AT MOST 1048576: true; the input reads as it did. -/
def ptrBytesUptoRow : OpenClaim := { program := "ytgcagenhfddpgaa", sum := "f0aee48aee4cc14c070469a4e9cab6d0044ab3cbf82583a4f3bb00d1d5d81d5d", func := "charterhouse/charterhouselaw10.PtrBytes", spec := "ptrBytes", unfollowed := true, recurses := true, apart := false, narrowed := true }
def PtrBytesUptoSaid : Prop := ptrBytesUptoRow.holds Try.pinned (OpenSpec.upto ptrBytesSpec)

/-- 'charterhouselaw10.PtrRows', WHERE WHAT IT READS IS OF BULK AT MOST 1048576: true; the input reads as it did. -/
def ptrRowsUptoRow : OpenClaim := { program := "ytgcagenhfddpgaa", sum := "f0aee48aee4cc14c070469a4e9cab6d0044ab3cbf82583a4f3bb00d1d5d81d5d", func := "charterhouse/charterhouselaw10.PtrRows", spec := "ptrRows", unfollowed := true, recurses := true, apart := false, narrowed := true }
def PtrRowsUptoSaid : Prop := ptrRowsUptoRow.holds Try.pinned (OpenSpec.upto ptrRowsSpec)

/-- 'charterhouselaw14.ObjParts', WHERE WHAT IT READS IS OF BULK AT MOST 1048576: true; the input reads as it did. -/
def objPartsUptoRow : OpenClaim := { program := "ytgcagenhfddpgaa", sum := "f0aee48aee4cc14c070469a4e9cab6d0044ab3cbf82583a4f3bb00d1d5d81d5d", func := "charterhouse/charterhouselaw14.ObjParts", spec := "objParts", unfollowed := true, recurses := true, apart := false, narrowed := true }
def ObjPartsUptoSaid : Prop := objPartsUptoRow.holds Try.pinned (OpenSpec.upto objPartsSpec)

/-- 'charterhouselaw14.ObjNames', WHERE WHAT IT READS IS OF BULK AT MOST 1048576: true; the input reads as it did. -/
def objNamesUptoRow : OpenClaim := { program := "ytgcagenhfddpgaa", sum := "f0aee48aee4cc14c070469a4e9cab6d0044ab3cbf82583a4f3bb00d1d5d81d5d", func := "charterhouse/charterhouselaw14.ObjNames", spec := "objNames", unfollowed := true, recurses := true, apart := false, narrowed := true }
def ObjNamesUptoSaid : Prop := objNamesUptoRow.holds Try.pinned (OpenSpec.upto objNamesSpec)

/-- 'charterhouselaw14.ObjBlocks', WHERE WHAT IT READS IS OF BULK AT MOST 1048576: true; the input reads as it did. -/
def objBlocksUptoRow : OpenClaim := { program := "ytgcagenhfddpgaa", sum := "f0aee48aee4cc14c070469a4e9cab6d0044ab3cbf82583a4f3bb00d1d5d81d5d", func := "charterhouse/charterhouselaw14.ObjBlocks", spec := "objBlocks", unfollowed := true, recurses := true, apart := false, narrowed := true }
def ObjBlocksUptoSaid : Prop := objBlocksUptoRow.holds Try.pinned (OpenSpec.upto objBlocksSpec)

/-- 'charterhouselaw14.ObjBack', WHERE WHAT IT READS IS OF BULK AT MOST 1048576: true; the input reads as it did. -/
def objBackUptoRow : OpenClaim := { program := "ytgcagenhfddpgaa", sum := "f0aee48aee4cc14c070469a4e9cab6d0044ab3cbf82583a4f3bb00d1d5d81d5d", func := "charterhouse/charterhouselaw14.ObjBack", spec := "objBack", unfollowed := true, recurses := true, apart := false, narrowed := true }
def ObjBackUptoSaid : Prop := objBackUptoRow.holds Try.pinned (OpenSpec.upto objBackSpec)

end Rows
end Go.Proofs.Ytgcagenhfddpgaa
