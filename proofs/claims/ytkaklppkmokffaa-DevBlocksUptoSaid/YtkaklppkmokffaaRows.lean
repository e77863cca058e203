/-
  No cell of these rows narrows 'for every input' (looked for: loops, veiled, ifaces, maps, wideKeys, modest, calm, conditions, laid).
  DERIVED. THE GIVEN ROWS OF THIS SEAT. 9 by the template 'for every input the law returns true; each argument reads behind the call as it read before'; 0 by the template 'total and deterministic' (their statements: YtkaklppkmokffaaTotals.lean).
  GIVEN WITH THE SEED: the statements are not yours to turn. If you find one false, say at which input.
  Laid BY PROGRAM, IN A SANDBOX (cutbox-rows.mjs): the forced cells as the released guide's own fill.sh prints them over the translation d723caf7b5e9508d… (all of the seat's roots in one cut). By AI agents, Wed Nov 11 2026. No macro, syntax, notation, axiom, sorry.
-/
import Derived.Test.YtkaklppkmokffaaChecked
import GoSem.Claim
import GoSem.ClaimJoined
import GoSem.ClaimMapViews
import Derived.JoinedTies
import Derived.KernelRfl
namespace Go.Proofs.Ytkaklppkmokffaa
/- THE CELL 'sum', in the pinned program and in every row, IS THE sha256 OF THE DUMP (.gsa) THAT YtkaklppkmokffaaProg.lean LOADS. Nothing in Lean hashes anything: it is a label: what it is worth is what the hold of that sum in a sandbox is worth. -/
noncomputable def Try.pinned : Pinned := { name := "ytkaklppkmokffaa", sum := "d723caf7b5e9508d3bb1be54c2be8e96ba1dedaffecf41b4f3d14bfad805e12d", checked := Try.checked }
namespace Rows
def none {H : Type} : Left H := { results := [], args := [] }

/-- 'charterhouselaw09.DevLeaves': WHATEVER THE INPUT: true; the input reads as it did. -/
def devLeavesSpec : ChangeSpec := { name := "devLeaves", fn := fun _ => fun
  | [d1, d2, d3, d4, d5] => { results := [.lit (.bool true)], args := [d1, d2, d3, d4, d5] }
  | _ => none }
def devLeavesRow : OpenClaim := { program := "ytkaklppkmokffaa", sum := "d723caf7b5e9508d3bb1be54c2be8e96ba1dedaffecf41b4f3d14bfad805e12d", func := "charterhouse/charterhouselaw09.DevLeaves", spec := "devLeaves", unfollowed := true, recurses := true, apart := false }
def DevLeavesSaid : Prop := devLeavesRow.holds Try.pinned (OpenSpec.ofChange devLeavesSpec)

/-- ITS FALSE NEIGHBOUR: 'it returns false'. Refute it at one input. -/
def devLeavesWrong : ChangeSpec := { name := "devLeaves", fn := fun _ => fun
  | [d1, d2, d3, d4, d5] => { results := [.lit (.bool false)], args := [d1, d2, d3, d4, d5] }
  | _ => none }
def DevLeavesWrongFalsely : Prop := devLeavesRow.holds Try.pinned (OpenSpec.ofChange devLeavesWrong)

/-- 'charterhouselaw09.DevBlocks': WHATEVER THE INPUT: true; the input reads as it did. -/
def devBlocksSpec : ChangeSpec := { name := "devBlocks", fn := fun _ => fun
  | [d1, d2, d3] => { results := [.lit (.bool true)], args := [d1, d2, d3] }
  | _ => none }
def devBlocksRow : OpenClaim := { program := "ytkaklppkmokffaa", sum := "d723caf7b5e9508d3bb1be54c2be8e96ba1dedaffecf41b4f3d14bfad805e12d", func := "charterhouse/charterhouselaw09.DevBlocks", spec := "devBlocks", unfollowed := true, recurses := true, apart := false }
def DevBlocksSaid : Prop := devBlocksRow.holds Try.pinned (OpenSpec.ofChange devBlocksSpec)

/-- ITS FALSE NEIGHBOUR: 'it returns false'. Refute it at one input. -/
def devBlocksWrong : ChangeSpec := { name := "devBlocks", fn := fun _ => fun
  | [d1, d2, d3] => { results := [.lit (.bool false)], args := [d1, d2, d3] }
  | _ => none }
def DevBlocksWrongFalsely : Prop := devBlocksRow.holds Try.pinned (OpenSpec.ofChange devBlocksWrong)

/-- 'charterhouselaw09.DevPairs': WHATEVER THE INPUT: true; the input reads as it did. -/
def devPairsSpec : ChangeSpec := { name := "devPairs", fn := fun _ => fun
  | [d1, d2] => { results := [.lit (.bool true)], args := [d1, d2] }
  | _ => none }
def devPairsRow : OpenClaim := { program := "ytkaklppkmokffaa", sum := "d723caf7b5e9508d3bb1be54c2be8e96ba1dedaffecf41b4f3d14bfad805e12d", func := "charterhouse/charterhouselaw09.DevPairs", spec := "devPairs", inPlace := ["internal/bytealg.Compare"], unfollowed := true, recurses := true, apart := false }
def DevPairsSaid : Prop := devPairsRow.holds Try.pinned (OpenSpec.ofChange devPairsSpec)

/-- ITS FALSE NEIGHBOUR: 'it returns false'. Refute it at one input. -/
def devPairsWrong : ChangeSpec := { name := "devPairs", fn := fun _ => fun
  | [d1, d2] => { results := [.lit (.bool false)], args := [d1, d2] }
  | _ => none }
def DevPairsWrongFalsely : Prop := devPairsRow.holds Try.pinned (OpenSpec.ofChange devPairsWrong)

/-- 'charterhouselaw09.DevLast': WHATEVER THE INPUT: true; the input reads as it did. -/
def devLastSpec : ChangeSpec := { name := "devLast", fn := fun _ => fun
  | [d1, d2, d3] => { results := [.lit (.bool true)], args := [d1, d2, d3] }
  | _ => none }
def devLastRow : OpenClaim := { program := "ytkaklppkmokffaa", sum := "d723caf7b5e9508d3bb1be54c2be8e96ba1dedaffecf41b4f3d14bfad805e12d", func := "charterhouse/charterhouselaw09.DevLast", spec := "devLast", unfollowed := true, recurses := true, apart := false }
def DevLastSaid : Prop := devLastRow.holds Try.pinned (OpenSpec.ofChange devLastSpec)

/-- ITS FALSE NEIGHBOUR: 'it returns false'. Refute it at one input. -/
def devLastWrong : ChangeSpec := { name := "devLast", fn := fun _ => fun
  | [d1, d2, d3] => { results := [.lit (.bool false)], args := [d1, d2, d3] }
  | _ => none }
def DevLastWrongFalsely : Prop := devLastRow.holds Try.pinned (OpenSpec.ofChange devLastWrong)

/-- 'charterhouselaw09.DevMark': WHATEVER THE INPUT: true; the input reads as it did. -/
def devMarkSpec : ChangeSpec := { name := "devMark", fn := fun _ => fun
  | [d1, d2, d3] => { results := [.lit (.bool true)], args := [d1, d2, d3] }
  | _ => none }
def devMarkRow : OpenClaim := { program := "ytkaklppkmokffaa", sum := "d723caf7b5e9508d3bb1be54c2be8e96ba1dedaffecf41b4f3d14bfad805e12d", func := "charterhouse/charterhouselaw09.DevMark", spec := "devMark", unfollowed := true, recurses := true, apart := false }
def DevMarkSaid : Prop := devMarkRow.holds Try.pinned (OpenSpec.ofChange devMarkSpec)

/-- ITS FALSE NEIGHBOUR: 'it returns false'. Refute it at one input. -/
def devMarkWrong : ChangeSpec := { name := "devMark", fn := fun _ => fun
  | [d1, d2, d3] => { results := [.lit (.bool false)], args := [d1, d2, d3] }
  | _ => none }
def DevMarkWrongFalsely : Prop := devMarkRow.holds Try.pinned (OpenSpec.ofChange devMarkWrong)

/-- 'charterhouselaw09.DevSeen': WHATEVER THE INPUT: true; the input reads as it did. -/
def devSeenSpec : ChangeSpec := { name := "devSeen", fn := fun _ => fun
  | [d1, d2, d3, d4] => { results := [.lit (.bool true)], args := [d1, d2, d3, d4] }
  | _ => none }
def devSeenRow : OpenClaim := { program := "ytkaklppkmokffaa", sum := "d723caf7b5e9508d3bb1be54c2be8e96ba1dedaffecf41b4f3d14bfad805e12d", func := "charterhouse/charterhouselaw09.DevSeen", spec := "devSeen", unfollowed := true, recurses := true, apart := false }
def DevSeenSaid : Prop := devSeenRow.holds Try.pinned (OpenSpec.ofChange devSeenSpec)

/-- ITS FALSE NEIGHBOUR: 'it returns false'. Refute it at one input. -/
def devSeenWrong : ChangeSpec := { name := "devSeen", fn := fun _ => fun
  | [d1, d2, d3, d4] => { results := [.lit (.bool false)], args := [d1, d2, d3, d4] }
  | _ => none }
def DevSeenWrongFalsely : Prop := devSeenRow.holds Try.pinned (OpenSpec.ofChange devSeenWrong)

/-- 'charterhouselaw09.DevTurned': WHATEVER THE INPUT: true; the input reads as it did. -/
def devTurnedSpec : ChangeSpec := { name := "devTurned", fn := fun _ => fun
  | [d1, d2, d3, d4] => { results := [.lit (.bool true)], args := [d1, d2, d3, d4] }
  | _ => none }
def devTurnedRow : OpenClaim := { program := "ytkaklppkmokffaa", sum := "d723caf7b5e9508d3bb1be54c2be8e96ba1dedaffecf41b4f3d14bfad805e12d", func := "charterhouse/charterhouselaw09.DevTurned", spec := "devTurned", unfollowed := true, recurses := true, apart := false }
def DevTurnedSaid : Prop := devTurnedRow.holds Try.pinned (OpenSpec.ofChange devTurnedSpec)

/-- ITS FALSE NEIGHBOUR: 'it returns false'. Refute it at one input. -/
def devTurnedWrong : ChangeSpec := { name := "devTurned", fn := fun _ => fun
  | [d1, d2, d3, d4] => { results := [.lit (.bool false)], args := [d1, d2, d3, d4] }
  | _ => none }
def DevTurnedWrongFalsely : Prop := devTurnedRow.holds Try.pinned (OpenSpec.ofChange devTurnedWrong)

/-- 'charterhouselaw09.DevNames': WHATEVER THE INPUT: true; the input reads as it did. -/
def devNamesSpec : ChangeSpec := { name := "devNames", fn := fun _ => fun
  | [] => { results := [.lit (.bool true)], args := [] }
  | _ => none }
def devNamesRow : OpenClaim := { program := "ytkaklppkmokffaa", sum := "d723caf7b5e9508d3bb1be54c2be8e96ba1dedaffecf41b4f3d14bfad805e12d", func := "charterhouse/charterhouselaw09.DevNames", spec := "devNames", unfollowed := true, recurses := true, apart := false }
def DevNamesSaid : Prop := devNamesRow.holds Try.pinned (OpenSpec.ofChange devNamesSpec)

/-- ITS FALSE NEIGHBOUR: 'it returns false'. Refute it at one input. -/
def devNamesWrong : ChangeSpec := { name := "devNames", fn := fun _ => fun
  | [] => { results := [.lit (.bool false)], args := [] }
  | _ => none }
def DevNamesWrongFalsely : Prop := devNamesRow.holds Try.pinned (OpenSpec.ofChange devNamesWrong)

/-- 'charterhouselaw09.DevLost': WHATEVER THE INPUT: true; the input reads as it did. -/
def devLostSpec : ChangeSpec := { name := "devLost", fn := fun _ => fun
  | [d1, d2] => { results := [.lit (.bool true)], args := [d1, d2] }
  | _ => none }
def devLostRow : OpenClaim := { program := "ytkaklppkmokffaa", sum := "d723caf7b5e9508d3bb1be54c2be8e96ba1dedaffecf41b4f3d14bfad805e12d", func := "charterhouse/charterhouselaw09.DevLost", spec := "devLost", inPlace := ["internal/bytealg.Compare"], unfollowed := true, recurses := true, apart := false }
def DevLostSaid : Prop := devLostRow.holds Try.pinned (OpenSpec.ofChange devLostSpec)

/-- ITS FALSE NEIGHBOUR: 'it returns false'. Refute it at one input. -/
def devLostWrong : ChangeSpec := { name := "devLost", fn := fun _ => fun
  | [d1, d2] => { results := [.lit (.bool false)], args := [d1, d2] }
  | _ => none }
def DevLostWrongFalsely : Prop := devLostRow.holds Try.pinned (OpenSpec.ofChange devLostWrong)

/- THE SECOND FORM. 'bulk': how many values and letters a reading holds, each counted each time it is reached (what is shared counts as often as it is met; a slice's spare places count too). A statement '..UptoSaid' is the law's where the arguments, and the package variables that the reading takes, are together of bulk at most 1048576: NARROWER than '..Said'. Prove '..Said' where nothing that the law and all that it calls make is longer than what came in: it says more and counts as full. Else prove '..UptoSaid'. A law counts once. -/
mutual
def uptoBulk {H : Type} : DataW H → Nat
  | .lit (.string bytes) => bytes.length + 1
  | .lit _ => 1
  | .nil => 1
  | .ptr d => uptoBulk d + 1
  | .slice elems spare => uptoBulkAll elems + uptoBulkAll spare + 1
  | .agg parts => uptoBulkAll parts + 1
  | .iface _ d => uptoBulk d + 1
  | .map entries => uptoBulkEntries entries + 1
  | .held _ => 1
def uptoBulkAll {H : Type} : List (DataW H) → Nat
  | [] => 0
  | d :: r => uptoBulk d + uptoBulkAll r
def uptoBulkEntries {H : Type} : List (Lit × DataW H) → Nat
  | [] => 0
  | x :: r => uptoBulkEntry x + uptoBulkEntries r
def uptoBulkEntry {H : Type} : Lit × DataW H → Nat
  | (.string bytes, d) => bytes.length + uptoBulk d + 1
  | (_, d) => uptoBulk d + 1
 end
def uptoSmall : (H : Type) → List (DataW H) → Bool := fun _ ds => decide (uptoBulkAll ds ≤ 1048576)
def OpenSpec.upto (s : _root_.Go.ChangeSpec) : _root_.Go.OpenSpec := { _root_.Go.OpenSpec.ofChange s with cond := some uptoSmall }

/-- 'charterhouselaw09.DevLeaves', WHERE WHAT IT READS IS OF BULK AT MOST 1048576: true; the input reads as it did. -/
def devLeavesUptoRow : OpenClaim := { program := "ytkaklppkmokffaa", sum := "d723caf7b5e9508d3bb1be54c2be8e96ba1dedaffecf41b4f3d14bfad805e12d", func := "charterhouse/charterhouselaw09.DevLeaves", spec := "devLeaves", unfollowed := true, recurses := true, apart := false, narrowed := true }
def DevLeavesUptoSaid : Prop := devLeavesUptoRow.holds Try.pinned (OpenSpec.upto devLeavesSpec)

/-- 'charterhouselaw09.DevBlocks', WHERE WHAT IT READS IS OF BULK AT MOST 1048576: true; the input reads as it did. -/
def devBlocksUptoRow : OpenClaim := { program := "ytkaklppkmokffaa", sum := "d723caf7b5e9508d3bb1be54c2be8e96ba1dedaffecf41b4f3d14bfad805e12d", func := "charterhouse/charterhouselaw09.DevBlocks", spec := "devBlocks", unfollowed := true, recurses := true, apart := false, narrowed := true }
def DevBlocksUptoSaid : Prop := devBlocksUptoRow.holds Try.pinned (OpenSpec.upto devBlocksSpec)

/-- 'charterhouselaw09.DevPairs', WHERE WHAT IT READS IS OF BULK AT MOST 1048576: true; the input reads as it did. -/
def devPairsUptoRow : OpenClaim := { program := "ytkaklppkmokffaa", sum := "d723caf7b5e9508d3bb1be54c2be8e96ba1dedaffecf41b4f3d14bfad805e12d", func := "charterhouse/charterhouselaw09.DevPairs", spec := "devPairs", inPlace := ["internal/bytealg.Compare"], unfollowed := true, recurses := true, apart := false, narrowed := true }
def DevPairsUptoSaid : Prop := devPairsUptoRow.holds Try.pinned (OpenSpec.upto devPairsSpec)

/-- 'charterhouselaw09.DevLast', WHERE WHAT IT READS IS OF BULK AT MOST 1048576: true; the input reads as it did. -/
def devLastUptoRow : OpenClaim := { program := "ytkaklppkmokffaa", sum := "d723caf7b5e9508d3bb1be54c2be8e96ba1dedaffecf41b4f3d14bfad805e12d", func := "charterhouse/charterhouselaw09.DevLast", spec := "devLast", unfollowed := true, recurses := true, apart := false, narrowed := true }
def DevLastUptoSaid : Prop := devLastUptoRow.holds Try.pinned (OpenSpec.upto devLastSpec)

/-- 'charterhouselaw09.DevMark', WHERE WHAT IT READS IS OF BULK AT MOST 1048576: true; the input reads as it did. -/
def devMarkUptoRow : OpenClaim := { program := "ytkaklppkmokffaa", sum := "d723caf7b5e9508d3bb1be54c2be8e96ba1dedaffecf41b4f3d14bfad805e12d", func := "charterhouse/charterhouselaw09.DevMark", spec := "devMark", unfollowed := true, recurses := true, apart := false, narrowed := true }
def DevMarkUptoSaid : Prop := devMarkUptoRow.holds Try.pinned (OpenSpec.upto devMarkSpec)

/-- 'charterhouselaw09.DevSeen', WHERE WHAT IT READS IS OF BULK AT MOST 1048576: true; the input reads as it did. -/
def devSeenUptoRow : OpenClaim := { program := "ytkaklppkmokffaa", sum := "d723caf7b5e9508d3bb1be54c2be8e96ba1dedaffecf41b4f3d14bfad805e12d", func := "charterhouse/charterhouselaw09.DevSeen", spec := "devSeen", unfollowed := true, recurses := true, apart := false, narrowed := true }
def DevSeenUptoSaid : Prop := devSeenUptoRow.holds Try.pinned (OpenSpec.upto devSeenSpec)

/-- 'charterhouselaw09.DevTurned', WHERE WHAT IT READS IS OF BULK AT MOST 1048576: true; the input reads as it did. -/
def devTurnedUptoRow : OpenClaim := { program := "ytkaklppkmokffaa", sum := "d723caf7b5e9508d3bb1be54c2be8e96ba1dedaffecf41b4f3d14bfad805e12d", func := "charterhouse/charterhouselaw09.DevTurned", spec := "devTurned", unfollowed := true, recurses := true, apart := false, narrowed := true }
def DevTurnedUptoSaid : Prop := devTurnedUptoRow.holds Try.pinned (OpenSpec.upto devTurnedSpec)

/-- 'charterhouselaw09.DevNames', WHERE WHAT IT READS IS OF BULK AT MOST 1048576: true; the input reads as it did. -/
def devNamesUptoRow : OpenClaim := { program := "ytkaklppkmokffaa", sum := "d723caf7b5e9508d3bb1be54c2be8e96ba1dedaffecf41b4f3d14bfad805e12d", func := "charterhouse/charterhouselaw09.DevNames", spec := "devNames", unfollowed := true, recurses := true, apart := false, narrowed := true }
def DevNamesUptoSaid : Prop := devNamesUptoRow.holds Try.pinned (OpenSpec.upto devNamesSpec)

/-- 'charterhouselaw09.DevLost', WHERE WHAT IT READS IS OF BULK AT MOST 1048576: true; the input reads as it did. -/
def devLostUptoRow : OpenClaim := { program := "ytkaklppkmokffaa", sum := "d723caf7b5e9508d3bb1be54c2be8e96ba1dedaffecf41b4f3d14bfad805e12d", func := "charterhouse/charterhouselaw09.DevLost", spec := "devLost", inPlace := ["internal/bytealg.Compare"], unfollowed := true, recurses := true, apart := false, narrowed := true }
def DevLostUptoSaid : Prop := devLostUptoRow.holds Try.pinned (OpenSpec.upto devLostSpec)

end Rows
end Go.Proofs.Ytkaklppkmokffaa
