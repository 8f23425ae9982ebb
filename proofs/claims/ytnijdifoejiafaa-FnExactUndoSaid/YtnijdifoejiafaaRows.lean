/-
  NARROWER THAN 'FOR EVERY INPUT', by the rows' own cells (each row's printed sentence says how): FnExactValidLock: loops.
  DERIVED. THE GIVEN ROWS OF THIS SEAT. 8 by the template 'for every input the law returns true; each argument reads behind the call as it read before'; 0 by the template 'total and deterministic' (their statements: YtnijdifoejiafaaTotals.lean).
  GIVEN WITH THE SEED: the statements are not yours to turn. If you find one false, say at which input.
  Laid BY PROGRAM, IN A SANDBOX (cutbox-rows.mjs): the forced cells as the released guide's own fill.sh prints them over the translation 2462ec978072fdad… (all of the seat's roots in one cut). By AI agents, Wed Nov 11 2026. No macro, syntax, notation, axiom, sorry.
-/
import Derived.Test.YtnijdifoejiafaaChecked
import GoSem.Claim
import GoSem.ClaimJoined
import GoSem.ClaimMapViews
import Derived.JoinedTies
import Derived.KernelRfl
namespace Go.Proofs.Ytnijdifoejiafaa
/- THE CELL 'sum', in the pinned program and in every row, IS THE sha256 OF THE DUMP (.gsa) THAT YtnijdifoejiafaaProg.lean LOADS. Nothing in Lean hashes anything: it is a label: what it is worth is what the hold of that sum in a sandbox is worth. -/
noncomputable def Try.pinned : Pinned := { name := "ytnijdifoejiafaa", sum := "2462ec978072fdad4e0e05d0b1bc1ca205412de28b45aba7c22bee9f3342912e", checked := Try.checked }
namespace Rows
def none {H : Type} : Left H := { results := [], args := [] }

/-- 'laws.FnExactLeaveWith': WHATEVER THE INPUT: true; the input reads as it did. -/
def fnExactLeaveWithSpec : ChangeSpec := { name := "fnExactLeaveWith", fn := fun _ => fun
  | [d1, d2, d3, d4] => { results := [.lit (.bool true)], args := [d1, d2, d3, d4] }
  | _ => none }
def fnExactLeaveWithRow : OpenClaim := { program := "ytnijdifoejiafaa", sum := "2462ec978072fdad4e0e05d0b1bc1ca205412de28b45aba7c22bee9f3342912e", func := "loop.example/savingsclub/laws.FnExactLeaveWith", spec := "fnExactLeaveWith", named := ["math/bits.divideError", "math/bits.overflowError"], apart := false }
def FnExactLeaveWithSaid : Prop := fnExactLeaveWithRow.holds Try.pinned (OpenSpec.ofChange fnExactLeaveWithSpec)

/-- ITS FALSE NEIGHBOUR: 'it returns false'. Refute it at one input. -/
def fnExactLeaveWithWrong : ChangeSpec := { name := "fnExactLeaveWith", fn := fun _ => fun
  | [d1, d2, d3, d4] => { results := [.lit (.bool false)], args := [d1, d2, d3, d4] }
  | _ => none }
def FnExactLeaveWithWrongFalsely : Prop := fnExactLeaveWithRow.holds Try.pinned (OpenSpec.ofChange fnExactLeaveWithWrong)

/-- 'laws.FnVested': WHATEVER THE INPUT: true; the input reads as it did. -/
def fnVestedSpec : ChangeSpec := { name := "fnVested", fn := fun _ => fun
  | [d] => { results := [.lit (.bool true)], args := [d] }
  | _ => none }
def fnVestedRow : OpenClaim := { program := "ytnijdifoejiafaa", sum := "2462ec978072fdad4e0e05d0b1bc1ca205412de28b45aba7c22bee9f3342912e", func := "loop.example/savingsclub/laws.FnVested", spec := "fnVested", named := ["math/bits.divideError", "math/bits.overflowError"], apart := false }
def FnVestedSaid : Prop := fnVestedRow.holds Try.pinned (OpenSpec.ofChange fnVestedSpec)

/-- ITS FALSE NEIGHBOUR: 'it returns false'. Refute it at one input. -/
def fnVestedWrong : ChangeSpec := { name := "fnVested", fn := fun _ => fun
  | [d] => { results := [.lit (.bool false)], args := [d] }
  | _ => none }
def FnVestedWrongFalsely : Prop := fnVestedRow.holds Try.pinned (OpenSpec.ofChange fnVestedWrong)

/-- 'laws.FnLeaveWith': WHATEVER THE INPUT: true; the input reads as it did. -/
def fnLeaveWithSpec : ChangeSpec := { name := "fnLeaveWith", fn := fun _ => fun
  | [d] => { results := [.lit (.bool true)], args := [d] }
  | _ => none }
def fnLeaveWithRow : OpenClaim := { program := "ytnijdifoejiafaa", sum := "2462ec978072fdad4e0e05d0b1bc1ca205412de28b45aba7c22bee9f3342912e", func := "loop.example/savingsclub/laws.FnLeaveWith", spec := "fnLeaveWith", named := ["math/bits.divideError", "math/bits.overflowError"], apart := false }
def FnLeaveWithSaid : Prop := fnLeaveWithRow.holds Try.pinned (OpenSpec.ofChange fnLeaveWithSpec)

/-- ITS FALSE NEIGHBOUR: 'it returns false'. Refute it at one input. -/
def fnLeaveWithWrong : ChangeSpec := { name := "fnLeaveWith", fn := fun _ => fun
  | [d] => { results := [.lit (.bool false)], args := [d] }
  | _ => none }
def FnLeaveWithWrongFalsely : Prop := fnLeaveWithRow.holds Try.pinned (OpenSpec.ofChange fnLeaveWithWrong)

/-- 'laws.FnUndo': WHATEVER THE INPUT: true; the input reads as it did. -/
def fnUndoSpec : ChangeSpec := { name := "fnUndo", fn := fun _ => fun
  | [d] => { results := [.lit (.bool true)], args := [d] }
  | _ => none }
def fnUndoRow : OpenClaim := { program := "ytnijdifoejiafaa", sum := "2462ec978072fdad4e0e05d0b1bc1ca205412de28b45aba7c22bee9f3342912e", func := "loop.example/savingsclub/laws.FnUndo", spec := "fnUndo", unfollowed := true, recurses := true, apart := false }
def FnUndoSaid : Prop := fnUndoRow.holds Try.pinned (OpenSpec.ofChange fnUndoSpec)

/-- ITS FALSE NEIGHBOUR: 'it returns false'. Refute it at one input. -/
def fnUndoWrong : ChangeSpec := { name := "fnUndo", fn := fun _ => fun
  | [d] => { results := [.lit (.bool false)], args := [d] }
  | _ => none }
def FnUndoWrongFalsely : Prop := fnUndoRow.holds Try.pinned (OpenSpec.ofChange fnUndoWrong)

/-- 'laws.FnExactUndo': WHATEVER THE INPUT: true; the input reads as it did. -/
def fnExactUndoSpec : ChangeSpec := { name := "fnExactUndo", fn := fun _ => fun
  | [d] => { results := [.lit (.bool true)], args := [d] }
  | _ => none }
def fnExactUndoRow : OpenClaim := { program := "ytnijdifoejiafaa", sum := "2462ec978072fdad4e0e05d0b1bc1ca205412de28b45aba7c22bee9f3342912e", func := "loop.example/savingsclub/laws.FnExactUndo", spec := "fnExactUndo", unfollowed := true, recurses := true, apart := false }
def FnExactUndoSaid : Prop := fnExactUndoRow.holds Try.pinned (OpenSpec.ofChange fnExactUndoSpec)

/-- ITS FALSE NEIGHBOUR: 'it returns false'. Refute it at one input. -/
def fnExactUndoWrong : ChangeSpec := { name := "fnExactUndo", fn := fun _ => fun
  | [d] => { results := [.lit (.bool false)], args := [d] }
  | _ => none }
def FnExactUndoWrongFalsely : Prop := fnExactUndoRow.holds Try.pinned (OpenSpec.ofChange fnExactUndoWrong)

/-- 'laws.FnExactValidLock': WHATEVER THE INPUT: true; the input reads as it did. -/
def fnExactValidLockSpec : ChangeSpec := { name := "fnExactValidLock", fn := fun _ => fun
  | [d] => { results := [.lit (.bool true)], args := [d] }
  | _ => none }
def fnExactValidLockRow : OpenClaim := { program := "ytnijdifoejiafaa", sum := "2462ec978072fdad4e0e05d0b1bc1ca205412de28b45aba7c22bee9f3342912e", func := "loop.example/savingsclub/laws.FnExactValidLock", spec := "fnExactValidLock", recurses := true, loops := true, apart := false }
def FnExactValidLockSaid : Prop := fnExactValidLockRow.holds Try.pinned (OpenSpec.ofChange fnExactValidLockSpec)

/-- ITS FALSE NEIGHBOUR: 'it returns false'. Refute it at one input. -/
def fnExactValidLockWrong : ChangeSpec := { name := "fnExactValidLock", fn := fun _ => fun
  | [d] => { results := [.lit (.bool false)], args := [d] }
  | _ => none }
def FnExactValidLockWrongFalsely : Prop := fnExactValidLockRow.holds Try.pinned (OpenSpec.ofChange fnExactValidLockWrong)

/-- 'laws.FnExactNewClub': WHATEVER THE INPUT: true; the input reads as it did. -/
def fnExactNewClubSpec : ChangeSpec := { name := "fnExactNewClub", fn := fun _ => fun
  | [d] => { results := [.lit (.bool true)], args := [d] }
  | _ => none }
def fnExactNewClubRow : OpenClaim := { program := "ytnijdifoejiafaa", sum := "2462ec978072fdad4e0e05d0b1bc1ca205412de28b45aba7c22bee9f3342912e", func := "loop.example/savingsclub/laws.FnExactNewClub", spec := "fnExactNewClub", apart := false }
def FnExactNewClubSaid : Prop := fnExactNewClubRow.holds Try.pinned (OpenSpec.ofChange fnExactNewClubSpec)

/-- ITS FALSE NEIGHBOUR: 'it returns false'. Refute it at one input. -/
def fnExactNewClubWrong : ChangeSpec := { name := "fnExactNewClub", fn := fun _ => fun
  | [d] => { results := [.lit (.bool false)], args := [d] }
  | _ => none }
def FnExactNewClubWrongFalsely : Prop := fnExactNewClubRow.holds Try.pinned (OpenSpec.ofChange fnExactNewClubWrong)

/-- 'laws.FnDrawOfFair': WHATEVER THE INPUT: true; the input reads as it did. -/
def fnDrawOfFairSpec : ChangeSpec := { name := "fnDrawOfFair", fn := fun _ => fun
  | [d] => { results := [.lit (.bool true)], args := [d] }
  | _ => none }
def fnDrawOfFairRow : OpenClaim := { program := "ytnijdifoejiafaa", sum := "2462ec978072fdad4e0e05d0b1bc1ca205412de28b45aba7c22bee9f3342912e", func := "loop.example/savingsclub/laws.FnDrawOfFair", spec := "fnDrawOfFair", apart := false }
def FnDrawOfFairSaid : Prop := fnDrawOfFairRow.holds Try.pinned (OpenSpec.ofChange fnDrawOfFairSpec)

/-- ITS FALSE NEIGHBOUR: 'it returns false'. Refute it at one input. -/
def fnDrawOfFairWrong : ChangeSpec := { name := "fnDrawOfFair", fn := fun _ => fun
  | [d] => { results := [.lit (.bool false)], args := [d] }
  | _ => none }
def FnDrawOfFairWrongFalsely : Prop := fnDrawOfFairRow.holds Try.pinned (OpenSpec.ofChange fnDrawOfFairWrong)

/- THE SECOND FORM. 'bulk': how many values and letters a reading holds, each counted each time it is reached (what is shared counts as often as it is met; a slice's spare places count too). A statement '..UptoSaid' is the law's where the arguments, and the package variables that the reading takes, are together of bulk at most 1048576: NARROWER than '..Said'. Prove '..Said' where nothing that the law and all that it calls make is longer than what came in: it says more and counts as full. Else prove '..UptoSaid'. A law counts once. -/
mutual
def uptoBulk {H : Type} : DataW H → Nat
  | .lit (.string bytes) => bytes.length + 1
  | .lit _ => 1
  | .nil => 1
  | .ptr d => uptoBulk d + 1
  | .slice elems spare => uptoBulkAll elems + uptoBulkAll spare + 1
  | .agg parts => uptoBulkAll parts + 1
  | .iface _ d => uptoBulk d + 1
  | .map entries => uptoBulkEntries entries + 1
  | .held _ => 1
def uptoBulkAll {H : Type} : List (DataW H) → Nat
  | [] => 0
  | d :: r => uptoBulk d + uptoBulkAll r
def uptoBulkEntries {H : Type} : List (Lit × DataW H) → Nat
  | [] => 0
  | x :: r => uptoBulkEntry x + uptoBulkEntries r
def uptoBulkEntry {H : Type} : Lit × DataW H → Nat
  | (.string bytes, d) => bytes.length + uptoBulk d + 1
  | (_, d) => uptoBulk d + 1
 end
def uptoSmall : (H : Type) → List (DataW H) → Bool := fun _ ds => decide (uptoBulkAll ds ≤ 1048576)
def OpenSpec.upto (s : _root_.Go.ChangeSpec) : _root_.Go.OpenSpec := { _root_.Go.OpenSpec.ofChange s with cond := some uptoSmall }

/-- 'laws.FnExactLeaveWith', WHERE WHAT IT READS IS OF BULK AT MOST 1048576: true; the input reads as it did. -/
def fnExactLeaveWithUptoRow : OpenClaim := { program := "ytnijdifoejiafaa", sum := "2462ec978072fdad4e0e05d0b1bc1ca205412de28b45aba7c22bee9f3342912e", func := "loop.example/savingsclub/laws.FnExactLeaveWith", spec := "fnExactLeaveWith", named := ["math/bits.divideError", "math/bits.overflowError"], apart := false, narrowed := true }
def FnExactLeaveWithUptoSaid : Prop := fnExactLeaveWithUptoRow.holds Try.pinned (OpenSpec.upto fnExactLeaveWithSpec)

/-- 'laws.FnVested', WHERE WHAT IT READS IS OF BULK AT MOST 1048576: true; the input reads as it did. -/
def fnVestedUptoRow : OpenClaim := { program := "ytnijdifoejiafaa", sum := "2462ec978072fdad4e0e05d0b1bc1ca205412de28b45aba7c22bee9f3342912e", func := "loop.example/savingsclub/laws.FnVested", spec := "fnVested", named := ["math/bits.divideError", "math/bits.overflowError"], apart := false, narrowed := true }
def FnVestedUptoSaid : Prop := fnVestedUptoRow.holds Try.pinned (OpenSpec.upto fnVestedSpec)

/-- 'laws.FnLeaveWith', WHERE WHAT IT READS IS OF BULK AT MOST 1048576: true; the input reads as it did. -/
def fnLeaveWithUptoRow : OpenClaim := { program := "ytnijdifoejiafaa", sum := "2462ec978072fdad4e0e05d0b1bc1ca205412de28b45aba7c22bee9f3342912e", func := "loop.example/savingsclub/laws.FnLeaveWith", spec := "fnLeaveWith", named := ["math/bits.divideError", "math/bits.overflowError"], apart := false, narrowed := true }
def FnLeaveWithUptoSaid : Prop := fnLeaveWithUptoRow.holds Try.pinned (OpenSpec.upto fnLeaveWithSpec)

/-- 'laws.FnUndo', WHERE WHAT IT READS IS OF BULK AT MOST 1048576: true; the input reads as it did. -/
def fnUndoUptoRow : OpenClaim := { program := "ytnijdifoejiafaa", sum := "2462ec978072fdad4e0e05d0b1bc1ca205412de28b45aba7c22bee9f3342912e", func := "loop.example/savingsclub/laws.FnUndo", spec := "fnUndo", unfollowed := true, recurses := true, apart := false, narrowed := true }
def FnUndoUptoSaid : Prop := fnUndoUptoRow.holds Try.pinned (OpenSpec.upto fnUndoSpec)

/-- 'laws.FnExactUndo', WHERE WHAT IT READS IS OF BULK AT MOST 1048576: true; the input reads as it did. -/
def fnExactUndoUptoRow : OpenClaim := { program := "ytnijdifoejiafaa", sum := "2462ec978072fdad4e0e05d0b1bc1ca205412de28b45aba7c22bee9f3342912e", func := "loop.example/savingsclub/laws.FnExactUndo", spec := "fnExactUndo", unfollowed := true, recurses := true, apart := false, narrowed := true }
def FnExactUndoUptoSaid : Prop := fnExactUndoUptoRow.holds Try.pinned (OpenSpec.upto fnExactUndoSpec)

/-- 'laws.FnExactValidLock', WHERE WHAT IT READS IS OF BULK AT MOST 1048576: true; the input reads as it did. -/
def fnExactValidLockUptoRow : OpenClaim := { program := "ytnijdifoejiafaa", sum := "2462ec978072fdad4e0e05d0b1bc1ca205412de28b45aba7c22bee9f3342912e", func := "loop.example/savingsclub/laws.FnExactValidLock", spec := "fnExactValidLock", recurses := true, loops := true, apart := false, narrowed := true }
def FnExactValidLockUptoSaid : Prop := fnExactValidLockUptoRow.holds Try.pinned (OpenSpec.upto fnExactValidLockSpec)

/-- 'laws.FnExactNewClub', WHERE WHAT IT READS IS OF BULK AT MOST 1048576: true; the input reads as it did. -/
def fnExactNewClubUptoRow : OpenClaim := { program := "ytnijdifoejiafaa", sum := "2462ec978072fdad4e0e05d0b1bc1ca205412de28b45aba7c22bee9f3342912e", func := "loop.example/savingsclub/laws.FnExactNewClub", spec := "fnExactNewClub", apart := false, narrowed := true }
def FnExactNewClubUptoSaid : Prop := fnExactNewClubUptoRow.holds Try.pinned (OpenSpec.upto fnExactNewClubSpec)

/-- 'laws.FnDrawOfFair', WHERE WHAT IT READS IS OF BULK AT MOST 1048576: true; the input reads as it did. -/
def fnDrawOfFairUptoRow : OpenClaim := { program := "ytnijdifoejiafaa", sum := "2462ec978072fdad4e0e05d0b1bc1ca205412de28b45aba7c22bee9f3342912e", func := "loop.example/savingsclub/laws.FnDrawOfFair", spec := "fnDrawOfFair", apart := false, narrowed := true }
def FnDrawOfFairUptoSaid : Prop := fnDrawOfFairUptoRow.holds Try.pinned (OpenSpec.upto fnDrawOfFairSpec)

end Rows
end Go.Proofs.Ytnijdifoejiafaa
