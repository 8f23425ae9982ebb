/-
  No cell of these rows narrows 'for every input' (looked for: loops, veiled, ifaces, maps, wideKeys, modest, calm, conditions, laid).
  DERIVED. THE GIVEN ROWS OF THIS SEAT. 5 by the template 'for every input the law returns true; each argument reads behind the call as it read before'; 0 by the template 'total and deterministic' (their statements: YtlcifhkbkmhcfaaTotals.lean).
  GIVEN WITH THE SEED: the statements are not yours to turn. If you find one false, say at which input.
  Laid BY PROGRAM, IN A SANDBOX (cutbox-rows.mjs): the forced cells as the released guide's own fill.sh prints them over the translation 5b37991ce7a04eab… (all of the seat's roots in one cut). By AI agents, Wed Nov 11 2026. No macro, syntax, notation, axiom, sorry.
-/
import Derived.Test.YtlcifhkbkmhcfaaChecked
import GoSem.Claim
import GoSem.ClaimJoined
import GoSem.ClaimMapViews
import Derived.JoinedTies
import Derived.KernelRfl
namespace Go.Proofs.Ytlcifhkbkmhcfaa
/- THE CELL 'sum', in the pinned program and in every row, IS THE sha256 OF THE DUMP (.gsa) THAT YtlcifhkbkmhcfaaProg.lean LOADS. Nothing in Lean hashes anything: it is a label: what it is worth is what the hold of that sum in a sandbox is worth. -/
noncomputable def Try.pinned : Pinned := { name := "ytlcifhkbkmhcfaa", sum := "5b37991ce7a04eabf59ad4ed1a54707a258bb0c19217a76c748149d2937ae737", checked := Try.checked }
namespace Rows
def none {H : Type} : Left H := { results := [], args := [] }

/-- 'laws.FnExactPrefer': WHATEVER THE INPUT: true; the input reads as it did. -/
def fnExactPreferSpec : ChangeSpec := { name := "fnExactPrefer", fn := fun _ => fun
  | [d1, d2, d3] => { results := [.lit (.bool true)], args := [d1, d2, d3] }
  | _ => none }
def fnExactPreferRow : OpenClaim := { program := "ytlcifhkbkmhcfaa", sum := "5b37991ce7a04eabf59ad4ed1a54707a258bb0c19217a76c748149d2937ae737", func := "loop.example/savingsclub/laws.FnExactPrefer", spec := "fnExactPrefer", apart := false }
def FnExactPreferSaid : Prop := fnExactPreferRow.holds Try.pinned (OpenSpec.ofChange fnExactPreferSpec)

/-- ITS FALSE NEIGHBOUR: 'it returns false'. Refute it at one input. -/
def fnExactPreferWrong : ChangeSpec := { name := "fnExactPrefer", fn := fun _ => fun
  | [d1, d2, d3] => { results := [.lit (.bool false)], args := [d1, d2, d3] }
  | _ => none }
def FnExactPreferWrongFalsely : Prop := fnExactPreferRow.holds Try.pinned (OpenSpec.ofChange fnExactPreferWrong)

/-- 'laws.FnExactUndo': WHATEVER THE INPUT: true; the input reads as it did. -/
def fnExactUndoSpec : ChangeSpec := { name := "fnExactUndo", fn := fun _ => fun
  | [d] => { results := [.lit (.bool true)], args := [d] }
  | _ => none }
def fnExactUndoRow : OpenClaim := { program := "ytlcifhkbkmhcfaa", sum := "5b37991ce7a04eabf59ad4ed1a54707a258bb0c19217a76c748149d2937ae737", func := "loop.example/savingsclub/laws.FnExactUndo", spec := "fnExactUndo", unfollowed := true, recurses := true, apart := false }
def FnExactUndoSaid : Prop := fnExactUndoRow.holds Try.pinned (OpenSpec.ofChange fnExactUndoSpec)

/-- ITS FALSE NEIGHBOUR: 'it returns false'. Refute it at one input. -/
def fnExactUndoWrong : ChangeSpec := { name := "fnExactUndo", fn := fun _ => fun
  | [d] => { results := [.lit (.bool false)], args := [d] }
  | _ => none }
def FnExactUndoWrongFalsely : Prop := fnExactUndoRow.holds Try.pinned (OpenSpec.ofChange fnExactUndoWrong)

/-- 'laws.FnExactSaldiOf': WHATEVER THE INPUT: true; the input reads as it did. -/
def fnExactSaldiOfSpec : ChangeSpec := { name := "fnExactSaldiOf", fn := fun _ => fun
  | [d] => { results := [.lit (.bool true)], args := [d] }
  | _ => none }
def fnExactSaldiOfRow : OpenClaim := { program := "ytlcifhkbkmhcfaa", sum := "5b37991ce7a04eabf59ad4ed1a54707a258bb0c19217a76c748149d2937ae737", func := "loop.example/savingsclub/laws.FnExactSaldiOf", spec := "fnExactSaldiOf", apart := false }
def FnExactSaldiOfSaid : Prop := fnExactSaldiOfRow.holds Try.pinned (OpenSpec.ofChange fnExactSaldiOfSpec)

/-- ITS FALSE NEIGHBOUR: 'it returns false'. Refute it at one input. -/
def fnExactSaldiOfWrong : ChangeSpec := { name := "fnExactSaldiOf", fn := fun _ => fun
  | [d] => { results := [.lit (.bool false)], args := [d] }
  | _ => none }
def FnExactSaldiOfWrongFalsely : Prop := fnExactSaldiOfRow.holds Try.pinned (OpenSpec.ofChange fnExactSaldiOfWrong)

/-- 'laws.FnSaldiOf': WHATEVER THE INPUT: true; the input reads as it did. -/
def fnSaldiOfSpec : ChangeSpec := { name := "fnSaldiOf", fn := fun _ => fun
  | [d] => { results := [.lit (.bool true)], args := [d] }
  | _ => none }
def fnSaldiOfRow : OpenClaim := { program := "ytlcifhkbkmhcfaa", sum := "5b37991ce7a04eabf59ad4ed1a54707a258bb0c19217a76c748149d2937ae737", func := "loop.example/savingsclub/laws.FnSaldiOf", spec := "fnSaldiOf", apart := false }
def FnSaldiOfSaid : Prop := fnSaldiOfRow.holds Try.pinned (OpenSpec.ofChange fnSaldiOfSpec)

/-- ITS FALSE NEIGHBOUR: 'it returns false'. Refute it at one input. -/
def fnSaldiOfWrong : ChangeSpec := { name := "fnSaldiOf", fn := fun _ => fun
  | [d] => { results := [.lit (.bool false)], args := [d] }
  | _ => none }
def FnSaldiOfWrongFalsely : Prop := fnSaldiOfRow.holds Try.pinned (OpenSpec.ofChange fnSaldiOfWrong)

/-- 'laws.FnNetAfter': WHATEVER THE INPUT: true; the input reads as it did. -/
def fnNetAfterSpec : ChangeSpec := { name := "fnNetAfter", fn := fun _ => fun
  | [d] => { results := [.lit (.bool true)], args := [d] }
  | _ => none }
def fnNetAfterRow : OpenClaim := { program := "ytlcifhkbkmhcfaa", sum := "5b37991ce7a04eabf59ad4ed1a54707a258bb0c19217a76c748149d2937ae737", func := "loop.example/savingsclub/laws.FnNetAfter", spec := "fnNetAfter", apart := false }
def FnNetAfterSaid : Prop := fnNetAfterRow.holds Try.pinned (OpenSpec.ofChange fnNetAfterSpec)

/-- ITS FALSE NEIGHBOUR: 'it returns false'. Refute it at one input. -/
def fnNetAfterWrong : ChangeSpec := { name := "fnNetAfter", fn := fun _ => fun
  | [d] => { results := [.lit (.bool false)], args := [d] }
  | _ => none }
def FnNetAfterWrongFalsely : Prop := fnNetAfterRow.holds Try.pinned (OpenSpec.ofChange fnNetAfterWrong)

/- THE SECOND FORM. 'bulk': how many values and letters a reading holds, each counted each time it is reached (what is shared counts as often as it is met; a slice's spare places count too). A statement '..UptoSaid' is the law's where the arguments, and the package variables that the reading takes, are together of bulk at most 1048576: NARROWER than '..Said'. Prove '..Said' where nothing that the law and all that it calls make is longer than what came in: it says more and counts as full. Else prove '..UptoSaid'. A law counts once. -/
mutual
def uptoBulk {H : Type} : DataW H → Nat
  | .lit (.string bytes) => bytes.length + 1
  | .lit _ => 1
  | .nil => 1
  | .ptr d => uptoBulk d + 1
  | .slice elems spare => uptoBulkAll elems + uptoBulkAll spare + 1
  | .agg parts => uptoBulkAll parts + 1
  | .iface _ d => uptoBulk d + 1
  | .map entries => uptoBulkEntries entries + 1
  | .held _ => 1
def uptoBulkAll {H : Type} : List (DataW H) → Nat
  | [] => 0
  | d :: r => uptoBulk d + uptoBulkAll r
def uptoBulkEntries {H : Type} : List (Lit × DataW H) → Nat
  | [] => 0
  | x :: r => uptoBulkEntry x + uptoBulkEntries r
def uptoBulkEntry {H : Type} : Lit × DataW H → Nat
  | (.string bytes, d) => bytes.length + uptoBulk d + 1
  | (_, d) => uptoBulk d + 1
 end
def uptoSmall : (H : Type) → List (DataW H) → Bool := fun _ ds => decide (uptoBulkAll ds ≤ 1048576)
def OpenSpec.upto (s : _root_.Go.ChangeSpec) : _root_.Go.OpenSpec := { _root_.Go.OpenSpec.ofChange s with cond := some uptoSmall }

/-- 'laws.FnExactPrefer', WHERE WHAT IT READS IS OF BULK AT MOST 1048576: true; the input reads as it did. -/
def fnExactPreferUptoRow : OpenClaim := { program := "ytlcifhkbkmhcfaa", sum := "5b37991ce7a04eabf59ad4ed1a54707a258bb0c19217a76c748149d2937ae737", func := "loop.example/savingsclub/laws.FnExactPrefer", spec := "fnExactPrefer", apart := false, narrowed := true }
def FnExactPreferUptoSaid : Prop := fnExactPreferUptoRow.holds Try.pinned (OpenSpec.upto fnExactPreferSpec)

/-- 'laws.FnExactUndo', WHERE WHAT IT READS IS OF BULK AT MOST 1048576: true; the input reads as it did. -/
def fnExactUndoUptoRow : OpenClaim := { program := "ytlcifhkbkmhcfaa", sum := "5b37991ce7a04eabf59ad4ed1a54707a258bb0c19217a76c748149d2937ae737", func := "loop.example/savingsclub/laws.FnExactUndo", spec := "fnExactUndo", unfollowed := true, recurses := true, apart := false, narrowed := true }
def FnExactUndoUptoSaid : Prop := fnExactUndoUptoRow.holds Try.pinned (OpenSpec.upto fnExactUndoSpec)

/-- 'laws.FnExactSaldiOf', WHERE WHAT IT READS IS OF BULK AT MOST 1048576: true; the input reads as it did. -/
def fnExactSaldiOfUptoRow : OpenClaim := { program := "ytlcifhkbkmhcfaa", sum := "5b37991ce7a04eabf59ad4ed1a54707a258bb0c19217a76c748149d2937ae737", func := "loop.example/savingsclub/laws.FnExactSaldiOf", spec := "fnExactSaldiOf", apart := false, narrowed := true }
def FnExactSaldiOfUptoSaid : Prop := fnExactSaldiOfUptoRow.holds Try.pinned (OpenSpec.upto fnExactSaldiOfSpec)

/-- 'laws.FnSaldiOf', WHERE WHAT IT READS IS OF BULK AT MOST 1048576: true; the input reads as it did. -/
def fnSaldiOfUptoRow : OpenClaim := { program := "ytlcifhkbkmhcfaa", sum := "5b37991ce7a04eabf59ad4ed1a54707a258bb0c19217a76c748149d2937ae737", func := "loop.example/savingsclub/laws.FnSaldiOf", spec := "fnSaldiOf", apart := false, narrowed := true }
def FnSaldiOfUptoSaid : Prop := fnSaldiOfUptoRow.holds Try.pinned (OpenSpec.upto fnSaldiOfSpec)

/-- 'laws.FnNetAfter', WHERE WHAT IT READS IS OF BULK AT MOST 1048576: true; the input reads as it did. -/
def fnNetAfterUptoRow : OpenClaim := { program := "ytlcifhkbkmhcfaa", sum := "5b37991ce7a04eabf59ad4ed1a54707a258bb0c19217a76c748149d2937ae737", func := "loop.example/savingsclub/laws.FnNetAfter", spec := "fnNetAfter", apart := false, narrowed := true }
def FnNetAfterUptoSaid : Prop := fnNetAfterUptoRow.holds Try.pinned (OpenSpec.upto fnNetAfterSpec)

end Rows
end Go.Proofs.Ytlcifhkbkmhcfaa
