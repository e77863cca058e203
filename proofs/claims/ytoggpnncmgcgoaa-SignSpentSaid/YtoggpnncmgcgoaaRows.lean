/-
  No cell of these rows narrows 'for every input' (looked for: loops, veiled, ifaces, maps, wideKeys, modest, calm, conditions, laid).
  DERIVED. THE GIVEN ROWS OF THIS SEAT. 15 by the template 'for every input the law returns true; each argument reads behind the call as it read before'; 0 by the template 'total and deterministic' (their statements: YtoggpnncmgcgoaaTotals.lean).
  GIVEN WITH THE SEED: the statements are not yours to turn. If you find one false, say at which input.
  Laid BY PROGRAM, IN A SANDBOX (cutbox-rows.mjs): the forced cells as the released guide's own fill.sh prints them over the translation 7c3e3711143f5b40… (all of the seat's roots in one cut). By AI agents, Wed Nov 11 2026. No macro, syntax, notation, axiom, sorry.
-/
import Derived.Test.YtoggpnncmgcgoaaChecked
import GoSem.Claim
import GoSem.ClaimJoined
import GoSem.ClaimMapViews
import Derived.JoinedTies
import Derived.KernelRfl
namespace Go.Proofs.Ytoggpnncmgcgoaa
/- THE CELL 'sum', in the pinned program and in every row, IS THE sha256 OF THE DUMP (.gsa) THAT YtoggpnncmgcgoaaProg.lean LOADS. Nothing in Lean hashes anything: it is a label: what it is worth is what the hold of that sum in a sandbox is worth. -/
noncomputable def Try.pinned : Pinned := { name := "ytoggpnncmgcgoaa", sum := "7c3e3711143f5b40cb4703473432d3264d0b7127a8d991b5a715f3f4173ebf01", checked := Try.checked }
namespace Rows
def none {H : Type} : Left H := { results := [], args := [] }

/-- 'charterhouselaw08.SignChecks': WHATEVER THE INPUT: true; the input reads as it did. -/
def signChecksSpec : ChangeSpec := { name := "signChecks", fn := fun _ => fun
  | [d1, d2, d3] => { results := [.lit (.bool true)], args := [d1, d2, d3] }
  | _ => none }
def signChecksRow : OpenClaim := { program := "ytoggpnncmgcgoaa", sum := "7c3e3711143f5b40cb4703473432d3264d0b7127a8d991b5a715f3f4173ebf01", func := "charterhouse/charterhouselaw08.SignChecks", spec := "signChecks", unfollowed := true, recurses := true, apart := false }
def SignChecksSaid : Prop := signChecksRow.holds Try.pinned (OpenSpec.ofChange signChecksSpec)

/-- ITS FALSE NEIGHBOUR: 'it returns false'. Refute it at one input. -/
def signChecksWrong : ChangeSpec := { name := "signChecks", fn := fun _ => fun
  | [d1, d2, d3] => { results := [.lit (.bool false)], args := [d1, d2, d3] }
  | _ => none }
def SignChecksWrongFalsely : Prop := signChecksRow.holds Try.pinned (OpenSpec.ofChange signChecksWrong)

/-- 'charterhouselaw07.ChainNames': WHATEVER THE INPUT: true; the input reads as it did. -/
def chainNamesSpec : ChangeSpec := { name := "chainNames", fn := fun _ => fun
  | [] => { results := [.lit (.bool true)], args := [] }
  | _ => none }
def chainNamesRow : OpenClaim := { program := "ytoggpnncmgcgoaa", sum := "7c3e3711143f5b40cb4703473432d3264d0b7127a8d991b5a715f3f4173ebf01", func := "charterhouse/charterhouselaw07.ChainNames", spec := "chainNames", unfollowed := true, recurses := true, apart := false }
def ChainNamesSaid : Prop := chainNamesRow.holds Try.pinned (OpenSpec.ofChange chainNamesSpec)

/-- ITS FALSE NEIGHBOUR: 'it returns false'. Refute it at one input. -/
def chainNamesWrong : ChangeSpec := { name := "chainNames", fn := fun _ => fun
  | [] => { results := [.lit (.bool false)], args := [] }
  | _ => none }
def ChainNamesWrongFalsely : Prop := chainNamesRow.holds Try.pinned (OpenSpec.ofChange chainNamesWrong)

/-- 'charterhouselaw07.ChainTells': WHATEVER THE INPUT: true; the input reads as it did. -/
def chainTellsSpec : ChangeSpec := { name := "chainTells", fn := fun _ => fun
  | [d1, d2, d3, d4] => { results := [.lit (.bool true)], args := [d1, d2, d3, d4] }
  | _ => none }
def chainTellsRow : OpenClaim := { program := "ytoggpnncmgcgoaa", sum := "7c3e3711143f5b40cb4703473432d3264d0b7127a8d991b5a715f3f4173ebf01", func := "charterhouse/charterhouselaw07.ChainTells", spec := "chainTells", unfollowed := true, recurses := true, apart := false }
def ChainTellsSaid : Prop := chainTellsRow.holds Try.pinned (OpenSpec.ofChange chainTellsSpec)

/-- ITS FALSE NEIGHBOUR: 'it returns false'. Refute it at one input. -/
def chainTellsWrong : ChangeSpec := { name := "chainTells", fn := fun _ => fun
  | [d1, d2, d3, d4] => { results := [.lit (.bool false)], args := [d1, d2, d3, d4] }
  | _ => none }
def ChainTellsWrongFalsely : Prop := chainTellsRow.holds Try.pinned (OpenSpec.ofChange chainTellsWrong)

/-- 'charterhouselaw07.ChainBack': WHATEVER THE INPUT: true; the input reads as it did. -/
def chainBackSpec : ChangeSpec := { name := "chainBack", fn := fun _ => fun
  | [d1, d2, d3] => { results := [.lit (.bool true)], args := [d1, d2, d3] }
  | _ => none }
def chainBackRow : OpenClaim := { program := "ytoggpnncmgcgoaa", sum := "7c3e3711143f5b40cb4703473432d3264d0b7127a8d991b5a715f3f4173ebf01", func := "charterhouse/charterhouselaw07.ChainBack", spec := "chainBack", unfollowed := true, recurses := true, apart := false }
def ChainBackSaid : Prop := chainBackRow.holds Try.pinned (OpenSpec.ofChange chainBackSpec)

/-- ITS FALSE NEIGHBOUR: 'it returns false'. Refute it at one input. -/
def chainBackWrong : ChangeSpec := { name := "chainBack", fn := fun _ => fun
  | [d1, d2, d3] => { results := [.lit (.bool false)], args := [d1, d2, d3] }
  | _ => none }
def ChainBackWrongFalsely : Prop := chainBackRow.holds Try.pinned (OpenSpec.ofChange chainBackWrong)

/-- 'charterhouselaw07.ChainLess': WHATEVER THE INPUT: true; the input reads as it did. -/
def chainLessSpec : ChangeSpec := { name := "chainLess", fn := fun _ => fun
  | [d1, d2] => { results := [.lit (.bool true)], args := [d1, d2] }
  | _ => none }
def chainLessRow : OpenClaim := { program := "ytoggpnncmgcgoaa", sum := "7c3e3711143f5b40cb4703473432d3264d0b7127a8d991b5a715f3f4173ebf01", func := "charterhouse/charterhouselaw07.ChainLess", spec := "chainLess", unfollowed := true, recurses := true, apart := false }
def ChainLessSaid : Prop := chainLessRow.holds Try.pinned (OpenSpec.ofChange chainLessSpec)

/-- ITS FALSE NEIGHBOUR: 'it returns false'. Refute it at one input. -/
def chainLessWrong : ChangeSpec := { name := "chainLess", fn := fun _ => fun
  | [d1, d2] => { results := [.lit (.bool false)], args := [d1, d2] }
  | _ => none }
def ChainLessWrongFalsely : Prop := chainLessRow.holds Try.pinned (OpenSpec.ofChange chainLessWrong)

/-- 'charterhouselaw07.ChainSame': WHATEVER THE INPUT: true; the input reads as it did. -/
def chainSameSpec : ChangeSpec := { name := "chainSame", fn := fun _ => fun
  | [d1, d2, d3, d4] => { results := [.lit (.bool true)], args := [d1, d2, d3, d4] }
  | _ => none }
def chainSameRow : OpenClaim := { program := "ytoggpnncmgcgoaa", sum := "7c3e3711143f5b40cb4703473432d3264d0b7127a8d991b5a715f3f4173ebf01", func := "charterhouse/charterhouselaw07.ChainSame", spec := "chainSame", unfollowed := true, recurses := true, apart := false }
def ChainSameSaid : Prop := chainSameRow.holds Try.pinned (OpenSpec.ofChange chainSameSpec)

/-- ITS FALSE NEIGHBOUR: 'it returns false'. Refute it at one input. -/
def chainSameWrong : ChangeSpec := { name := "chainSame", fn := fun _ => fun
  | [d1, d2, d3, d4] => { results := [.lit (.bool false)], args := [d1, d2, d3, d4] }
  | _ => none }
def ChainSameWrongFalsely : Prop := chainSameRow.holds Try.pinned (OpenSpec.ofChange chainSameWrong)

/-- 'charterhouselaw08.SignTells': WHATEVER THE INPUT: true; the input reads as it did. -/
def signTellsSpec : ChangeSpec := { name := "signTells", fn := fun _ => fun
  | [d1, d2] => { results := [.lit (.bool true)], args := [d1, d2] }
  | _ => none }
def signTellsRow : OpenClaim := { program := "ytoggpnncmgcgoaa", sum := "7c3e3711143f5b40cb4703473432d3264d0b7127a8d991b5a715f3f4173ebf01", func := "charterhouse/charterhouselaw08.SignTells", spec := "signTells", unfollowed := true, recurses := true, apart := false }
def SignTellsSaid : Prop := signTellsRow.holds Try.pinned (OpenSpec.ofChange signTellsSpec)

/-- ITS FALSE NEIGHBOUR: 'it returns false'. Refute it at one input. -/
def signTellsWrong : ChangeSpec := { name := "signTells", fn := fun _ => fun
  | [d1, d2] => { results := [.lit (.bool false)], args := [d1, d2] }
  | _ => none }
def SignTellsWrongFalsely : Prop := signTellsRow.holds Try.pinned (OpenSpec.ofChange signTellsWrong)

/-- 'charterhouselaw08.SignNames': WHATEVER THE INPUT: true; the input reads as it did. -/
def signNamesSpec : ChangeSpec := { name := "signNames", fn := fun _ => fun
  | [] => { results := [.lit (.bool true)], args := [] }
  | _ => none }
def signNamesRow : OpenClaim := { program := "ytoggpnncmgcgoaa", sum := "7c3e3711143f5b40cb4703473432d3264d0b7127a8d991b5a715f3f4173ebf01", func := "charterhouse/charterhouselaw08.SignNames", spec := "signNames", unfollowed := true, recurses := true, apart := false }
def SignNamesSaid : Prop := signNamesRow.holds Try.pinned (OpenSpec.ofChange signNamesSpec)

/-- ITS FALSE NEIGHBOUR: 'it returns false'. Refute it at one input. -/
def signNamesWrong : ChangeSpec := { name := "signNames", fn := fun _ => fun
  | [] => { results := [.lit (.bool false)], args := [] }
  | _ => none }
def SignNamesWrongFalsely : Prop := signNamesRow.holds Try.pinned (OpenSpec.ofChange signNamesWrong)

/-- 'charterhouselaw08.SignRight': WHATEVER THE INPUT: true; the input reads as it did. -/
def signRightSpec : ChangeSpec := { name := "signRight", fn := fun _ => fun
  | [d1, d2] => { results := [.lit (.bool true)], args := [d1, d2] }
  | _ => none }
def signRightRow : OpenClaim := { program := "ytoggpnncmgcgoaa", sum := "7c3e3711143f5b40cb4703473432d3264d0b7127a8d991b5a715f3f4173ebf01", func := "charterhouse/charterhouselaw08.SignRight", spec := "signRight", unfollowed := true, recurses := true, apart := false }
def SignRightSaid : Prop := signRightRow.holds Try.pinned (OpenSpec.ofChange signRightSpec)

/-- ITS FALSE NEIGHBOUR: 'it returns false'. Refute it at one input. -/
def signRightWrong : ChangeSpec := { name := "signRight", fn := fun _ => fun
  | [d1, d2] => { results := [.lit (.bool false)], args := [d1, d2] }
  | _ => none }
def SignRightWrongFalsely : Prop := signRightRow.holds Try.pinned (OpenSpec.ofChange signRightWrong)

/-- 'charterhouselaw08.SignSpent': WHATEVER THE INPUT: true; the input reads as it did. -/
def signSpentSpec : ChangeSpec := { name := "signSpent", fn := fun _ => fun
  | [d1, d2] => { results := [.lit (.bool true)], args := [d1, d2] }
  | _ => none }
def signSpentRow : OpenClaim := { program := "ytoggpnncmgcgoaa", sum := "7c3e3711143f5b40cb4703473432d3264d0b7127a8d991b5a715f3f4173ebf01", func := "charterhouse/charterhouselaw08.SignSpent", spec := "signSpent", unfollowed := true, recurses := true, apart := false }
def SignSpentSaid : Prop := signSpentRow.holds Try.pinned (OpenSpec.ofChange signSpentSpec)

/-- ITS FALSE NEIGHBOUR: 'it returns false'. Refute it at one input. -/
def signSpentWrong : ChangeSpec := { name := "signSpent", fn := fun _ => fun
  | [d1, d2] => { results := [.lit (.bool false)], args := [d1, d2] }
  | _ => none }
def SignSpentWrongFalsely : Prop := signSpentRow.holds Try.pinned (OpenSpec.ofChange signSpentWrong)

/-- 'charterhouselaw04.WrapNames': WHATEVER THE INPUT: true; the input reads as it did. -/
def wrapNamesSpec : ChangeSpec := { name := "wrapNames", fn := fun _ => fun
  | [] => { results := [.lit (.bool true)], args := [] }
  | _ => none }
def wrapNamesRow : OpenClaim := { program := "ytoggpnncmgcgoaa", sum := "7c3e3711143f5b40cb4703473432d3264d0b7127a8d991b5a715f3f4173ebf01", func := "charterhouse/charterhouselaw04.WrapNames", spec := "wrapNames", unfollowed := true, recurses := true, apart := false }
def WrapNamesSaid : Prop := wrapNamesRow.holds Try.pinned (OpenSpec.ofChange wrapNamesSpec)

/-- ITS FALSE NEIGHBOUR: 'it returns false'. Refute it at one input. -/
def wrapNamesWrong : ChangeSpec := { name := "wrapNames", fn := fun _ => fun
  | [] => { results := [.lit (.bool false)], args := [] }
  | _ => none }
def WrapNamesWrongFalsely : Prop := wrapNamesRow.holds Try.pinned (OpenSpec.ofChange wrapNamesWrong)

/-- 'charterhouselaw04.WrapTells': WHATEVER THE INPUT: true; the input reads as it did. -/
def wrapTellsSpec : ChangeSpec := { name := "wrapTells", fn := fun _ => fun
  | [d1, d2, d3, d4] => { results := [.lit (.bool true)], args := [d1, d2, d3, d4] }
  | _ => none }
def wrapTellsRow : OpenClaim := { program := "ytoggpnncmgcgoaa", sum := "7c3e3711143f5b40cb4703473432d3264d0b7127a8d991b5a715f3f4173ebf01", func := "charterhouse/charterhouselaw04.WrapTells", spec := "wrapTells", unfollowed := true, recurses := true, apart := false }
def WrapTellsSaid : Prop := wrapTellsRow.holds Try.pinned (OpenSpec.ofChange wrapTellsSpec)

/-- ITS FALSE NEIGHBOUR: 'it returns false'. Refute it at one input. -/
def wrapTellsWrong : ChangeSpec := { name := "wrapTells", fn := fun _ => fun
  | [d1, d2, d3, d4] => { results := [.lit (.bool false)], args := [d1, d2, d3, d4] }
  | _ => none }
def WrapTellsWrongFalsely : Prop := wrapTellsRow.holds Try.pinned (OpenSpec.ofChange wrapTellsWrong)

/-- 'charterhouselaw04.WrapBack': WHATEVER THE INPUT: true; the input reads as it did. -/
def wrapBackSpec : ChangeSpec := { name := "wrapBack", fn := fun _ => fun
  | [d1, d2, d3, d4] => { results := [.lit (.bool true)], args := [d1, d2, d3, d4] }
  | _ => none }
def wrapBackRow : OpenClaim := { program := "ytoggpnncmgcgoaa", sum := "7c3e3711143f5b40cb4703473432d3264d0b7127a8d991b5a715f3f4173ebf01", func := "charterhouse/charterhouselaw04.WrapBack", spec := "wrapBack", unfollowed := true, recurses := true, apart := false }
def WrapBackSaid : Prop := wrapBackRow.holds Try.pinned (OpenSpec.ofChange wrapBackSpec)

/-- ITS FALSE NEIGHBOUR: 'it returns false'. Refute it at one input. -/
def wrapBackWrong : ChangeSpec := { name := "wrapBack", fn := fun _ => fun
  | [d1, d2, d3, d4] => { results := [.lit (.bool false)], args := [d1, d2, d3, d4] }
  | _ => none }
def WrapBackWrongFalsely : Prop := wrapBackRow.holds Try.pinned (OpenSpec.ofChange wrapBackWrong)

/-- 'charterhouselaw04.WrapApart': WHATEVER THE INPUT: true; the input reads as it did. -/
def wrapApartSpec : ChangeSpec := { name := "wrapApart", fn := fun _ => fun
  | [d1, d2, d3, d4] => { results := [.lit (.bool true)], args := [d1, d2, d3, d4] }
  | _ => none }
def wrapApartRow : OpenClaim := { program := "ytoggpnncmgcgoaa", sum := "7c3e3711143f5b40cb4703473432d3264d0b7127a8d991b5a715f3f4173ebf01", func := "charterhouse/charterhouselaw04.WrapApart", spec := "wrapApart", unfollowed := true, recurses := true, apart := false }
def WrapApartSaid : Prop := wrapApartRow.holds Try.pinned (OpenSpec.ofChange wrapApartSpec)

/-- ITS FALSE NEIGHBOUR: 'it returns false'. Refute it at one input. -/
def wrapApartWrong : ChangeSpec := { name := "wrapApart", fn := fun _ => fun
  | [d1, d2, d3, d4] => { results := [.lit (.bool false)], args := [d1, d2, d3, d4] }
  | _ => none }
def WrapApartWrongFalsely : Prop := wrapApartRow.holds Try.pinned (OpenSpec.ofChange wrapApartWrong)

/-- 'charterhouselaw04.WrapGreat': WHATEVER THE INPUT: true; the input reads as it did. -/
def wrapGreatSpec : ChangeSpec := { name := "wrapGreat", fn := fun _ => fun
  | [d1, d2] => { results := [.lit (.bool true)], args := [d1, d2] }
  | _ => none }
def wrapGreatRow : OpenClaim := { program := "ytoggpnncmgcgoaa", sum := "7c3e3711143f5b40cb4703473432d3264d0b7127a8d991b5a715f3f4173ebf01", func := "charterhouse/charterhouselaw04.WrapGreat", spec := "wrapGreat", unfollowed := true, recurses := true, apart := false }
def WrapGreatSaid : Prop := wrapGreatRow.holds Try.pinned (OpenSpec.ofChange wrapGreatSpec)

/-- ITS FALSE NEIGHBOUR: 'it returns false'. Refute it at one input. -/
def wrapGreatWrong : ChangeSpec := { name := "wrapGreat", fn := fun _ => fun
  | [d1, d2] => { results := [.lit (.bool false)], args := [d1, d2] }
  | _ => none }
def WrapGreatWrongFalsely : Prop := wrapGreatRow.holds Try.pinned (OpenSpec.ofChange wrapGreatWrong)

/- THE SECOND FORM. 'bulk': how many values and letters a reading holds, each counted each time it is reached (what is shared counts as often as it is met; a slice's spare places count too). A statement '..UptoSaid' is the law's where the arguments, and the package variables that the reading takes, are together of bulk at most 1048576: NARROWER than '..Said'. Prove '..Said' where nothing that the law and all that it calls make is longer than what came in: it says more and counts as full. Else prove '..UptoSaid'. A law counts once. -/
mutual
def uptoBulk {H : Type} : DataW H → Nat
  | .lit (.string bytes) => bytes.length + 1
  | .lit _ => 1
  | .nil => 1
  | .ptr d => uptoBulk d + 1
  | .slice elems spare => uptoBulkAll elems + uptoBulkAll spare + 1
  | .agg parts => uptoBulkAll parts + 1
  | .iface _ d => uptoBulk d + 1
  | .map entries => uptoBulkEntries entries + 1
  | .held _ => 1
def uptoBulkAll {H : Type} : List (DataW H) → Nat
  | [] => 0
  | d :: r => uptoBulk d + uptoBulkAll r
def uptoBulkEntries {H : Type} : List (Lit × DataW H) → Nat
  | [] => 0
  | x :: r => uptoBulkEntry x + uptoBulkEntries r
def uptoBulkEntry {H : Type} : Lit × DataW H → Nat
  | (.string bytes, d) => bytes.length + uptoBulk d + 1
  | (_, d) => uptoBulk d + 1
 end
def uptoSmall : (H : Type) → List (DataW H) → Bool := fun _ ds => decide (uptoBulkAll ds ≤ 1048576)
def OpenSpec.upto (s : _root_.Go.ChangeSpec) : _root_.Go.OpenSpec := { _root_.Go.OpenSpec.ofChange s with cond := some uptoSmall }

/-- 'charterhouselaw08.SignChecks', WHERE WHAT IT READS IS OF BULK AT MOST 1048576: true; the input reads as it did. -/
def signChecksUptoRow : OpenClaim := { program := "ytoggpnncmgcgoaa", sum := "7c3e3711143f5b40cb4703473432d3264d0b7127a8d991b5a715f3f4173ebf01", func := "charterhouse/charterhouselaw08.SignChecks", spec := "signChecks", unfollowed := true, recurses := true, apart := false, narrowed := true }
def SignChecksUptoSaid : Prop := signChecksUptoRow.holds Try.pinned (OpenSpec.upto signChecksSpec)

/-- 'charterhouselaw07.ChainNames', WHERE WHAT IT READS IS OF BULK AT MOST 1048576: true; the input reads as it did. -/
def chainNamesUptoRow : OpenClaim := { program := "ytoggpnncmgcgoaa", sum := "7c3e3711143f5b40cb4703473432d3264d0b7127a8d991b5a715f3f4173ebf01", func := "charterhouse/charterhouselaw07.ChainNames", spec := "chainNames", unfollowed := true, recurses := true, apart := false, narrowed := true }
def ChainNamesUptoSaid : Prop := chainNamesUptoRow.holds Try.pinned (OpenSpec.upto chainNamesSpec)

/-- 'charterhouselaw07.ChainTells', WHERE WHAT IT READS IS OF BULK AT MOST 1048576: true; the input reads as it did. -/
def chainTellsUptoRow : OpenClaim := { program := "ytoggpnncmgcgoaa", sum := "7c3e3711143f5b40cb4703473432d3264d0b7127a8d991b5a715f3f4173ebf01", func := "charterhouse/charterhouselaw07.ChainTells", spec := "chainTells", unfollowed := true, recurses := true, apart := false, narrowed := true }
def ChainTellsUptoSaid : Prop := chainTellsUptoRow.holds Try.pinned (OpenSpec.upto chainTellsSpec)

/-- 'charterhouselaw07.ChainBack', WHERE WHAT IT READS IS OF BULK AT MOST 1048576: true; the input reads as it did. -/
def chainBackUptoRow : OpenClaim := { program := "ytoggpnncmgcgoaa", sum := "7c3e3711143f5b40cb4703473432d3264d0b7127a8d991b5a715f3f4173ebf01", func := "charterhouse/charterhouselaw07.ChainBack", spec := "chainBack", unfollowed := true, recurses := true, apart := false, narrowed := true }
def ChainBackUptoSaid : Prop := chainBackUptoRow.holds Try.pinned (OpenSpec.upto chainBackSpec)

/-- 'charterhouselaw07.ChainLess', WHERE WHAT IT READS IS OF BULK AT MOST 1048576: true; the input reads as it did. -/
def chainLessUptoRow : OpenClaim := { program := "ytoggpnncmgcgoaa", sum := "7c3e3711143f5b40cb4703473432d3264d0b7127a8d991b5a715f3f4173ebf01", func := "charterhouse/charterhouselaw07.ChainLess", spec := "chainLess", unfollowed := true, recurses := true, apart := false, narrowed := true }
def ChainLessUptoSaid : Prop := chainLessUptoRow.holds Try.pinned (OpenSpec.upto chainLessSpec)

/-- 'charterhouselaw07.ChainSame', WHERE WHAT IT READS IS OF BULK AT MOST 1048576: true; the input reads as it did. -/
def chainSameUptoRow : OpenClaim := { program := "ytoggpnncmgcgoaa", sum := "7c3e3711143f5b40cb4703473432d3264d0b7127a8d991b5a715f3f4173ebf01", func := "charterhouse/charterhouselaw07.ChainSame", spec := "chainSame", unfollowed := true, recurses := true, apart := false, narrowed := true }
def ChainSameUptoSaid : Prop := chainSameUptoRow.holds Try.pinned (OpenSpec.upto chainSameSpec)

/-- 'charterhouselaw08.SignTells', WHERE WHAT IT READS IS OF BULK AT MOST 1048576: true; the input reads as it did. -/
def signTellsUptoRow : OpenClaim := { program := "ytoggpnncmgcgoaa", sum := "7c3e3711143f5b40cb4703473432d3264d0b7127a8d991b5a715f3f4173ebf01", func := "charterhouse/charterhouselaw08.SignTells", spec := "signTells", unfollowed := true, recurses := true, apart := false, narrowed := true }
def SignTellsUptoSaid : Prop := signTellsUptoRow.holds Try.pinned (OpenSpec.upto signTellsSpec)

/-- 'charterhouselaw08.SignNames', WHERE WHAT IT READS IS OF BULK AT MOST 1048576: true; the input reads as it did. -/
def signNamesUptoRow : OpenClaim := { program := "ytoggpnncmgcgoaa", sum := "7c3e3711143f5b40cb4703473432d3264d0b7127a8d991b5a715f3f4173ebf01", func := "charterhouse/charterhouselaw08.SignNames", spec := "signNames", unfollowed := true, recurses := true, apart := false, narrowed := true }
def SignNamesUptoSaid : Prop := signNamesUptoRow.holds Try.pinned (OpenSpec.upto signNamesSpec)

/-- 'charterhouselaw08.SignRight', WHERE WHAT IT READS IS OF BULK AT MOST 1048576: true; the input reads as it did. -/
def signRightUptoRow : OpenClaim := { program := "ytoggpnncmgcgoaa", sum := "7c3e3711143f5b40cb4703473432d3264d0b7127a8d991b5a715f3f4173ebf01", func := "charterhouse/charterhouselaw08.SignRight", spec := "signRight", unfollowed := true, recurses := true, apart := false, narrowed := true }
def SignRightUptoSaid : Prop := signRightUptoRow.holds Try.pinned (OpenSpec.upto signRightSpec)

/-- 'charterhouselaw08.SignSpent', WHERE WHAT IT READS IS OF BULK AT MOST 1048576: true; the input reads as it did. -/
def signSpentUptoRow : OpenClaim := { program := "ytoggpnncmgcgoaa", sum := "7c3e3711143f5b40cb4703473432d3264d0b7127a8d991b5a715f3f4173ebf01", func := "charterhouse/charterhouselaw08.SignSpent", spec := "signSpent", unfollowed := true, recurses := true, apart := false, narrowed := true }
def SignSpentUptoSaid : Prop := signSpentUptoRow.holds Try.pinned (OpenSpec.upto signSpentSpec)

/-- 'charterhouselaw04.WrapNames', WHERE WHAT IT READS IS OF BULK AT MOST 1048576: true; the input reads as it did. -/
def wrapNamesUptoRow : OpenClaim := { program := "ytoggpnncmgcgoaa", sum := "7c3e3711143f5b40cb4703473432d3264d0b7127a8d991b5a715f3f4173ebf01", func := "charterhouse/charterhouselaw04.WrapNames", spec := "wrapNames", unfollowed := true, recurses := true, apart := false, narrowed := true }
def WrapNamesUptoSaid : Prop := wrapNamesUptoRow.holds Try.pinned (OpenSpec.upto wrapNamesSpec)

/-- 'charterhouselaw04.WrapTells', WHERE WHAT IT READS IS OF BULK AT MOST 1048576: true; the input reads as it did. -/
def wrapTellsUptoRow : OpenClaim := { program := "ytoggpnncmgcgoaa", sum := "7c3e3711143f5b40cb4703473432d3264d0b7127a8d991b5a715f3f4173ebf01", func := "charterhouse/charterhouselaw04.WrapTells", spec := "wrapTells", unfollowed := true, recurses := true, apart := false, narrowed := true }
def WrapTellsUptoSaid : Prop := wrapTellsUptoRow.holds Try.pinned (OpenSpec.upto wrapTellsSpec)

/-- 'charterhouselaw04.WrapBack', WHERE WHAT IT READS IS OF BULK AT MOST 1048576: true; the input reads as it did. -/
def wrapBackUptoRow : OpenClaim := { program := "ytoggpnncmgcgoaa", sum := "7c3e3711143f5b40cb4703473432d3264d0b7127a8d991b5a715f3f4173ebf01", func := "charterhouse/charterhouselaw04.WrapBack", spec := "wrapBack", unfollowed := true, recurses := true, apart := false, narrowed := true }
def WrapBackUptoSaid : Prop := wrapBackUptoRow.holds Try.pinned (OpenSpec.upto wrapBackSpec)

/-- 'charterhouselaw04.WrapApart', WHERE WHAT IT READS IS OF BULK AT MOST 1048576: true; the input reads as it did. -/
def wrapApartUptoRow : OpenClaim := { program := "ytoggpnncmgcgoaa", sum := "7c3e3711143f5b40cb4703473432d3264d0b7127a8d991b5a715f3f4173ebf01", func := "charterhouse/charterhouselaw04.WrapApart", spec := "wrapApart", unfollowed := true, recurses := true, apart := false, narrowed := true }
def WrapApartUptoSaid : Prop := wrapApartUptoRow.holds Try.pinned (OpenSpec.upto wrapApartSpec)

/-- 'charterhouselaw04.WrapGreat', WHERE WHAT IT READS IS OF BULK AT MOST 1048576: true; the input reads as it did. -/
def wrapGreatUptoRow : OpenClaim := { program := "ytoggpnncmgcgoaa", sum := "7c3e3711143f5b40cb4703473432d3264d0b7127a8d991b5a715f3f4173ebf01", func := "charterhouse/charterhouselaw04.WrapGreat", spec := "wrapGreat", unfollowed := true, recurses := true, apart := false, narrowed := true }
def WrapGreatUptoSaid : Prop := wrapGreatUptoRow.holds Try.pinned (OpenSpec.upto wrapGreatSpec)

end Rows
end Go.Proofs.Ytoggpnncmgcgoaa
