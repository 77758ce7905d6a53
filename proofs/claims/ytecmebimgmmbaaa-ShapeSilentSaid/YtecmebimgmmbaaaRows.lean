/-
  No cell of these rows narrows 'for every input' (looked for: loops, veiled, ifaces, maps, wideKeys, modest, calm, conditions, laid).
  DERIVED. THE GIVEN ROWS OF THIS SEAT. 4 by the template 'for every input the law returns true; each argument reads behind the call as it read before'; 0 by the template 'total and deterministic' (their statements: YtecmebimgmmbaaaTotals.lean).
  GIVEN WITH THE SEED: the statements are not yours to turn. If you find one false, say at which input.
  Laid BY PROGRAM, IN A SANDBOX (cutbox-rows.mjs): the forced cells as the released guide's own fill.sh prints them over the translation 6ef9744776b5d5c5… (all of the seat's roots in one cut). By AI agents, Wed Nov 11 2026. No macro, syntax, notation, axiom, sorry.
-/
import Derived.Test.YtecmebimgmmbaaaChecked
import GoSem.Claim
import GoSem.ClaimJoined
import GoSem.ClaimMapViews
import Derived.JoinedTies
import Derived.KernelRfl
namespace Go.Proofs.Ytecmebimgmmbaaa
/- THE CELL 'sum', in the pinned program and in every row, IS THE sha256 OF THE DUMP (.gsa) THAT YtecmebimgmmbaaaProg.lean LOADS. Nothing in Lean hashes anything: it is a label: what it is worth is what the hold of that sum in a sandbox is worth. -/
noncomputable def Try.pinned : Pinned := { name := "ytecmebimgmmbaaa", sum := "6ef9744776b5d5c579a69449a1e8d1236c3181d9d18b8611c759759eb27ec81a", checked := Try.checked }
namespace Rows
def none {H : Type} : Left H := { results := [], args := [] }

/-- 'lanthornlaw15.ShapeNoise': WHATEVER THE INPUT: true; the input reads as it did. -/
def shapeNoiseSpec : ChangeSpec := { name := "shapeNoise", fn := fun _ => fun
  | [d1, d2] => { results := [.lit (.bool true)], args := [d1, d2] }
  | _ => none }
def shapeNoiseRow : OpenClaim := { program := "ytecmebimgmmbaaa", sum := "6ef9744776b5d5c579a69449a1e8d1236c3181d9d18b8611c759759eb27ec81a", func := "lanthorn/lanthornlaw15.ShapeNoise", spec := "shapeNoise", apart := false }
def ShapeNoiseSaid : Prop := shapeNoiseRow.holds Try.pinned (OpenSpec.ofChange shapeNoiseSpec)

/-- ITS FALSE NEIGHBOUR: 'it returns false'. Refute it at one input. -/
def shapeNoiseWrong : ChangeSpec := { name := "shapeNoise", fn := fun _ => fun
  | [d1, d2] => { results := [.lit (.bool false)], args := [d1, d2] }
  | _ => none }
def ShapeNoiseWrongFalsely : Prop := shapeNoiseRow.holds Try.pinned (OpenSpec.ofChange shapeNoiseWrong)

/-- 'lanthornlaw15.ShapeBeats': WHATEVER THE INPUT: true; the input reads as it did. -/
def shapeBeatsSpec : ChangeSpec := { name := "shapeBeats", fn := fun _ => fun
  | [d1, d2] => { results := [.lit (.bool true)], args := [d1, d2] }
  | _ => none }
def shapeBeatsRow : OpenClaim := { program := "ytecmebimgmmbaaa", sum := "6ef9744776b5d5c579a69449a1e8d1236c3181d9d18b8611c759759eb27ec81a", func := "lanthorn/lanthornlaw15.ShapeBeats", spec := "shapeBeats", apart := false }
def ShapeBeatsSaid : Prop := shapeBeatsRow.holds Try.pinned (OpenSpec.ofChange shapeBeatsSpec)

/-- ITS FALSE NEIGHBOUR: 'it returns false'. Refute it at one input. -/
def shapeBeatsWrong : ChangeSpec := { name := "shapeBeats", fn := fun _ => fun
  | [d1, d2] => { results := [.lit (.bool false)], args := [d1, d2] }
  | _ => none }
def ShapeBeatsWrongFalsely : Prop := shapeBeatsRow.holds Try.pinned (OpenSpec.ofChange shapeBeatsWrong)

/-- 'lanthornlaw15.ShapeBounds': WHATEVER THE INPUT: true; the input reads as it did. -/
def shapeBoundsSpec : ChangeSpec := { name := "shapeBounds", fn := fun _ => fun
  | [d1, d2] => { results := [.lit (.bool true)], args := [d1, d2] }
  | _ => none }
def shapeBoundsRow : OpenClaim := { program := "ytecmebimgmmbaaa", sum := "6ef9744776b5d5c579a69449a1e8d1236c3181d9d18b8611c759759eb27ec81a", func := "lanthorn/lanthornlaw15.ShapeBounds", spec := "shapeBounds", unfollowed := true, recurses := true, apart := false }
def ShapeBoundsSaid : Prop := shapeBoundsRow.holds Try.pinned (OpenSpec.ofChange shapeBoundsSpec)

/-- ITS FALSE NEIGHBOUR: 'it returns false'. Refute it at one input. -/
def shapeBoundsWrong : ChangeSpec := { name := "shapeBounds", fn := fun _ => fun
  | [d1, d2] => { results := [.lit (.bool false)], args := [d1, d2] }
  | _ => none }
def ShapeBoundsWrongFalsely : Prop := shapeBoundsRow.holds Try.pinned (OpenSpec.ofChange shapeBoundsWrong)

/-- 'lanthornlaw15.ShapeSilent': WHATEVER THE INPUT: true; the input reads as it did. -/
def shapeSilentSpec : ChangeSpec := { name := "shapeSilent", fn := fun _ => fun
  | [d1, d2] => { results := [.lit (.bool true)], args := [d1, d2] }
  | _ => none }
def shapeSilentRow : OpenClaim := { program := "ytecmebimgmmbaaa", sum := "6ef9744776b5d5c579a69449a1e8d1236c3181d9d18b8611c759759eb27ec81a", func := "lanthorn/lanthornlaw15.ShapeSilent", spec := "shapeSilent", unfollowed := true, recurses := true, apart := false }
def ShapeSilentSaid : Prop := shapeSilentRow.holds Try.pinned (OpenSpec.ofChange shapeSilentSpec)

/-- ITS FALSE NEIGHBOUR: 'it returns false'. Refute it at one input. -/
def shapeSilentWrong : ChangeSpec := { name := "shapeSilent", fn := fun _ => fun
  | [d1, d2] => { results := [.lit (.bool false)], args := [d1, d2] }
  | _ => none }
def ShapeSilentWrongFalsely : Prop := shapeSilentRow.holds Try.pinned (OpenSpec.ofChange shapeSilentWrong)

/- THE SECOND FORM. 'bulk': how many values and letters a reading holds, each counted each time it is reached (what is shared counts as often as it is met; a slice's spare places count too). A statement '..UptoSaid' is the law's where the arguments, and the package variables that the reading takes, are together of bulk at most 1048576: NARROWER than '..Said'. Prove '..Said' where nothing that the law and all that it calls make is longer than what came in: it says more and counts as full. Else prove '..UptoSaid'. A law counts once. -/
mutual
def uptoBulk {H : Type} : DataW H → Nat
  | .lit (.string bytes) => bytes.length + 1
  | .lit _ => 1
  | .nil => 1
  | .ptr d => uptoBulk d + 1
  | .slice elems spare => uptoBulkAll elems + uptoBulkAll spare + 1
  | .agg parts => uptoBulkAll parts + 1
  | .iface _ d => uptoBulk d + 1
  | .map entries => uptoBulkEntries entries + 1
  | .held _ => 1
def uptoBulkAll {H : Type} : List (DataW H) → Nat
  | [] => 0
  | d :: r => uptoBulk d + uptoBulkAll r
def uptoBulkEntries {H : Type} : List (Lit × DataW H) → Nat
  | [] => 0
  | x :: r => uptoBulkEntry x + uptoBulkEntries r
def uptoBulkEntry {H : Type} : Lit × DataW H → Nat
  | (.string bytes, d) => bytes.length + uptoBulk d + 1
  | (_, d) => uptoBulk d + 1
 end
def uptoSmall : (H : Type) → List (DataW H) → Bool := fun _ ds => decide (uptoBulkAll ds ≤ 1048576)
def OpenSpec.upto (s : _root_.Go.ChangeSpec) : _root_.Go.OpenSpec := { _root_.Go.OpenSpec.ofChange s with cond := some uptoSmall }

/-- 'lanthornlaw15.ShapeNoise', WHERE WHAT IT READS IS OF BULK AT MOST 1048576: true; the input reads as it did. -/
def shapeNoiseUptoRow : OpenClaim := { program := "ytecmebimgmmbaaa", sum := "6ef9744776b5d5c579a69449a1e8d1236c3181d9d18b8611c759759eb27ec81a", func := "lanthorn/lanthornlaw15.ShapeNoise", spec := "shapeNoise", apart := false, narrowed := true }
def ShapeNoiseUptoSaid : Prop := shapeNoiseUptoRow.holds Try.pinned (OpenSpec.upto shapeNoiseSpec)

/-- 'lanthornlaw15.ShapeBeats', WHERE WHAT IT READS IS OF BULK AT MOST 1048576: true; the input reads as it did. -/
def shapeBeatsUptoRow : OpenClaim := { program := "ytecmebimgmmbaaa", sum := "6ef9744776b5d5c579a69449a1e8d1236c3181d9d18b8611c759759eb27ec81a", func := "lanthorn/lanthornlaw15.ShapeBeats", spec := "shapeBeats", apart := false, narrowed := true }
def ShapeBeatsUptoSaid : Prop := shapeBeatsUptoRow.holds Try.pinned (OpenSpec.upto shapeBeatsSpec)

/-- 'lanthornlaw15.ShapeBounds', WHERE WHAT IT READS IS OF BULK AT MOST 1048576: true; the input reads as it did. -/
def shapeBoundsUptoRow : OpenClaim := { program := "ytecmebimgmmbaaa", sum := "6ef9744776b5d5c579a69449a1e8d1236c3181d9d18b8611c759759eb27ec81a", func := "lanthorn/lanthornlaw15.ShapeBounds", spec := "shapeBounds", unfollowed := true, recurses := true, apart := false, narrowed := true }
def ShapeBoundsUptoSaid : Prop := shapeBoundsUptoRow.holds Try.pinned (OpenSpec.upto shapeBoundsSpec)

/-- 'lanthornlaw15.ShapeSilent', WHERE WHAT IT READS IS OF BULK AT MOST 1048576: true; the input reads as it did. -/
def shapeSilentUptoRow : OpenClaim := { program := "ytecmebimgmmbaaa", sum := "6ef9744776b5d5c579a69449a1e8d1236c3181d9d18b8611c759759eb27ec81a", func := "lanthorn/lanthornlaw15.ShapeSilent", spec := "shapeSilent", unfollowed := true, recurses := true, apart := false, narrowed := true }
def ShapeSilentUptoSaid : Prop := shapeSilentUptoRow.holds Try.pinned (OpenSpec.upto shapeSilentSpec)

end Rows
end Go.Proofs.Ytecmebimgmmbaaa
