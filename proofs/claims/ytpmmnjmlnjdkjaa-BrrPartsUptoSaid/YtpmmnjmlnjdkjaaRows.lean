/-
  No cell of these rows narrows 'for every input' (looked for: loops, veiled, ifaces, maps, wideKeys, modest, calm, conditions, laid).
  DERIVED. THE GIVEN ROWS OF THIS SEAT. 8 by the template 'for every input the law returns true; each argument reads behind the call as it read before'; 0 by the template 'total and deterministic' (their statements: YtpmmnjmlnjdkjaaTotals.lean).
  GIVEN WITH THE SEED: the statements are not yours to turn. If you find one false, say at which input.
  Laid BY PROGRAM, IN A SANDBOX (cutbox-rows.mjs): the forced cells as the released guide's own fill.sh prints them over the translation 38ba4887753bdbf7… (all of the seat's roots in one cut). By AI agents, Wed Nov 11 2026. No macro, syntax, notation, axiom, sorry.
-/
import Derived.Test.YtpmmnjmlnjdkjaaChecked
import GoSem.Claim
import GoSem.ClaimJoined
import GoSem.ClaimMapViews
import Derived.JoinedTies
import Derived.KernelRfl
namespace Go.Proofs.Ytpmmnjmlnjdkjaa
/- THE CELL 'sum', in the pinned program and in every row, IS THE sha256 OF THE DUMP (.gsa) THAT YtpmmnjmlnjdkjaaProg.lean LOADS. Nothing in Lean hashes anything: it is a label: what it is worth is what the hold of that sum in a sandbox is worth. -/
noncomputable def Try.pinned : Pinned := { name := "ytpmmnjmlnjdkjaa", sum := "38ba4887753bdbf7a97512ebb17529bf4ffc2ebb7b9ec3f2d0d88ddf12d78e2f", checked := Try.checked }
namespace Rows
def none {H : Type} : Left H := { results := [], args := [] }

/-- 'lanthornlaw14.BrrDecodes': WHATEVER THE INPUT: true; the input reads as it did. -/
def brrDecodesSpec : ChangeSpec := { name := "brrDecodes", fn := fun _ => fun
  | [d1, d2, d3] => { results := [.lit (.bool true)], args := [d1, d2, d3] }
  | _ => none }
def brrDecodesRow : OpenClaim := { program := "ytpmmnjmlnjdkjaa", sum := "38ba4887753bdbf7a97512ebb17529bf4ffc2ebb7b9ec3f2d0d88ddf12d78e2f", func := "lanthorn/lanthornlaw14.BrrDecodes", spec := "brrDecodes", unfollowed := true, recurses := true, apart := false }
def BrrDecodesSaid : Prop := brrDecodesRow.holds Try.pinned (OpenSpec.ofChange brrDecodesSpec)

/-- ITS FALSE NEIGHBOUR: 'it returns false'. Refute it at one input. -/
def brrDecodesWrong : ChangeSpec := { name := "brrDecodes", fn := fun _ => fun
  | [d1, d2, d3] => { results := [.lit (.bool false)], args := [d1, d2, d3] }
  | _ => none }
def BrrDecodesWrongFalsely : Prop := brrDecodesRow.holds Try.pinned (OpenSpec.ofChange brrDecodesWrong)

/-- 'lanthornlaw14.BrrEncodes': WHATEVER THE INPUT: true; the input reads as it did. -/
def brrEncodesSpec : ChangeSpec := { name := "brrEncodes", fn := fun _ => fun
  | [d1, d2] => { results := [.lit (.bool true)], args := [d1, d2] }
  | _ => none }
def brrEncodesRow : OpenClaim := { program := "ytpmmnjmlnjdkjaa", sum := "38ba4887753bdbf7a97512ebb17529bf4ffc2ebb7b9ec3f2d0d88ddf12d78e2f", func := "lanthorn/lanthornlaw14.BrrEncodes", spec := "brrEncodes", unfollowed := true, recurses := true, apart := false }
def BrrEncodesSaid : Prop := brrEncodesRow.holds Try.pinned (OpenSpec.ofChange brrEncodesSpec)

/-- ITS FALSE NEIGHBOUR: 'it returns false'. Refute it at one input. -/
def brrEncodesWrong : ChangeSpec := { name := "brrEncodes", fn := fun _ => fun
  | [d1, d2] => { results := [.lit (.bool false)], args := [d1, d2] }
  | _ => none }
def BrrEncodesWrongFalsely : Prop := brrEncodesRow.holds Try.pinned (OpenSpec.ofChange brrEncodesWrong)

/-- 'lanthornlaw14.BrrAlls': WHATEVER THE INPUT: true; the input reads as it did. -/
def brrAllsSpec : ChangeSpec := { name := "brrAlls", fn := fun _ => fun
  | [d] => { results := [.lit (.bool true)], args := [d] }
  | _ => none }
def brrAllsRow : OpenClaim := { program := "ytpmmnjmlnjdkjaa", sum := "38ba4887753bdbf7a97512ebb17529bf4ffc2ebb7b9ec3f2d0d88ddf12d78e2f", func := "lanthorn/lanthornlaw14.BrrAlls", spec := "brrAlls", unfollowed := true, recurses := true, apart := false }
def BrrAllsSaid : Prop := brrAllsRow.holds Try.pinned (OpenSpec.ofChange brrAllsSpec)

/-- ITS FALSE NEIGHBOUR: 'it returns false'. Refute it at one input. -/
def brrAllsWrong : ChangeSpec := { name := "brrAlls", fn := fun _ => fun
  | [d] => { results := [.lit (.bool false)], args := [d] }
  | _ => none }
def BrrAllsWrongFalsely : Prop := brrAllsRow.holds Try.pinned (OpenSpec.ofChange brrAllsWrong)

/-- 'lanthornlaw14.BrrParts': WHATEVER THE INPUT: true; the input reads as it did. -/
def brrPartsSpec : ChangeSpec := { name := "brrParts", fn := fun _ => fun
  | [d] => { results := [.lit (.bool true)], args := [d] }
  | _ => none }
def brrPartsRow : OpenClaim := { program := "ytpmmnjmlnjdkjaa", sum := "38ba4887753bdbf7a97512ebb17529bf4ffc2ebb7b9ec3f2d0d88ddf12d78e2f", func := "lanthorn/lanthornlaw14.BrrParts", spec := "brrParts", unfollowed := true, recurses := true, apart := false }
def BrrPartsSaid : Prop := brrPartsRow.holds Try.pinned (OpenSpec.ofChange brrPartsSpec)

/-- ITS FALSE NEIGHBOUR: 'it returns false'. Refute it at one input. -/
def brrPartsWrong : ChangeSpec := { name := "brrParts", fn := fun _ => fun
  | [d] => { results := [.lit (.bool false)], args := [d] }
  | _ => none }
def BrrPartsWrongFalsely : Prop := brrPartsRow.holds Try.pinned (OpenSpec.ofChange brrPartsWrong)

/-- 'lanthornlaw14.BrrNearest': WHATEVER THE INPUT: true; the input reads as it did. -/
def brrNearestSpec : ChangeSpec := { name := "brrNearest", fn := fun _ => fun
  | [d1, d2, d3] => { results := [.lit (.bool true)], args := [d1, d2, d3] }
  | _ => none }
def brrNearestRow : OpenClaim := { program := "ytpmmnjmlnjdkjaa", sum := "38ba4887753bdbf7a97512ebb17529bf4ffc2ebb7b9ec3f2d0d88ddf12d78e2f", func := "lanthorn/lanthornlaw14.BrrNearest", spec := "brrNearest", unfollowed := true, recurses := true, apart := false }
def BrrNearestSaid : Prop := brrNearestRow.holds Try.pinned (OpenSpec.ofChange brrNearestSpec)

/-- ITS FALSE NEIGHBOUR: 'it returns false'. Refute it at one input. -/
def brrNearestWrong : ChangeSpec := { name := "brrNearest", fn := fun _ => fun
  | [d1, d2, d3] => { results := [.lit (.bool false)], args := [d1, d2, d3] }
  | _ => none }
def BrrNearestWrongFalsely : Prop := brrNearestRow.holds Try.pinned (OpenSpec.ofChange brrNearestWrong)

/-- 'lanthornlaw14.BrrPacks': WHATEVER THE INPUT: true; the input reads as it did. -/
def brrPacksSpec : ChangeSpec := { name := "brrPacks", fn := fun _ => fun
  | [d] => { results := [.lit (.bool true)], args := [d] }
  | _ => none }
def brrPacksRow : OpenClaim := { program := "ytpmmnjmlnjdkjaa", sum := "38ba4887753bdbf7a97512ebb17529bf4ffc2ebb7b9ec3f2d0d88ddf12d78e2f", func := "lanthorn/lanthornlaw14.BrrPacks", spec := "brrPacks", unfollowed := true, recurses := true, apart := false }
def BrrPacksSaid : Prop := brrPacksRow.holds Try.pinned (OpenSpec.ofChange brrPacksSpec)

/-- ITS FALSE NEIGHBOUR: 'it returns false'. Refute it at one input. -/
def brrPacksWrong : ChangeSpec := { name := "brrPacks", fn := fun _ => fun
  | [d] => { results := [.lit (.bool false)], args := [d] }
  | _ => none }
def BrrPacksWrongFalsely : Prop := brrPacksRow.holds Try.pinned (OpenSpec.ofChange brrPacksWrong)

/-- 'lanthornlaw14.BrrBack': WHATEVER THE INPUT: true; the input reads as it did. -/
def brrBackSpec : ChangeSpec := { name := "brrBack", fn := fun _ => fun
  | [d] => { results := [.lit (.bool true)], args := [d] }
  | _ => none }
def brrBackRow : OpenClaim := { program := "ytpmmnjmlnjdkjaa", sum := "38ba4887753bdbf7a97512ebb17529bf4ffc2ebb7b9ec3f2d0d88ddf12d78e2f", func := "lanthorn/lanthornlaw14.BrrBack", spec := "brrBack", unfollowed := true, recurses := true, apart := false }
def BrrBackSaid : Prop := brrBackRow.holds Try.pinned (OpenSpec.ofChange brrBackSpec)

/-- ITS FALSE NEIGHBOUR: 'it returns false'. Refute it at one input. -/
def brrBackWrong : ChangeSpec := { name := "brrBack", fn := fun _ => fun
  | [d] => { results := [.lit (.bool false)], args := [d] }
  | _ => none }
def BrrBackWrongFalsely : Prop := brrBackRow.holds Try.pinned (OpenSpec.ofChange brrBackWrong)

/-- 'lanthornlaw14.BrrSilent': WHATEVER THE INPUT: true; the input reads as it did. -/
def brrSilentSpec : ChangeSpec := { name := "brrSilent", fn := fun _ => fun
  | [d] => { results := [.lit (.bool true)], args := [d] }
  | _ => none }
def brrSilentRow : OpenClaim := { program := "ytpmmnjmlnjdkjaa", sum := "38ba4887753bdbf7a97512ebb17529bf4ffc2ebb7b9ec3f2d0d88ddf12d78e2f", func := "lanthorn/lanthornlaw14.BrrSilent", spec := "brrSilent", unfollowed := true, recurses := true, apart := false }
def BrrSilentSaid : Prop := brrSilentRow.holds Try.pinned (OpenSpec.ofChange brrSilentSpec)

/-- ITS FALSE NEIGHBOUR: 'it returns false'. Refute it at one input. -/
def brrSilentWrong : ChangeSpec := { name := "brrSilent", fn := fun _ => fun
  | [d] => { results := [.lit (.bool false)], args := [d] }
  | _ => none }
def BrrSilentWrongFalsely : Prop := brrSilentRow.holds Try.pinned (OpenSpec.ofChange brrSilentWrong)

/- THE SECOND FORM. 'bulk': how many values and letters a reading holds, each counted each time it is reached (what is shared counts as often as it is met; a slice's spare places count too). A statement '..UptoSaid' is the law's where the arguments, and the package variables that the reading takes, are together of bulk at most 1048576: NARROWER than '..Said'. Prove '..Said' where nothing that the law and all that it calls make is longer than what came in: it says more and counts as full. Else prove '..UptoSaid'. A law counts once. -/
mutual
def uptoBulk {H : Type} : DataW H → Nat
  | .lit (.string bytes) => bytes.length + 1
  | .lit _ => 1
  | .nil => 1
  | .ptr d => uptoBulk d + 1
  | .slice elems spare => uptoBulkAll elems + uptoBulkAll spare + 1
  | .agg parts => uptoBulkAll parts + 1
  | .iface _ d => uptoBulk d + 1
  | .map entries => uptoBulkEntries entries + 1
  | .held _ => 1
def uptoBulkAll {H : Type} : List (DataW H) → Nat
  | [] => 0
  | d :: r => uptoBulk d + uptoBulkAll r
def uptoBulkEntries {H : Type} : List (Lit × DataW H) → Nat
  | [] => 0
  | x :: r => uptoBulkEntry x + uptoBulkEntries r
def uptoBulkEntry {H : Type} : Lit × DataW H → Nat
  | (.string bytes, d) => bytes.length + uptoBulk d + 1
  | (_, d) => uptoBulk d + 1
 end
def uptoSmall : (H : Type) → List (DataW H) → Bool := fun _ ds => decide (uptoBulkAll ds ≤ 1048576)
def OpenSpec.upto (s : _root_.Go.ChangeSpec) : _root_.Go.OpenSpec := { _root_.Go.OpenSpec.ofChange s with cond := some uptoSmall }

/-- 'lanthornlaw14.BrrDecodes', WHERE WHAT IT READS IS OF BULK AT MOST 1048576: true; the input reads as it did. -/
def brrDecodesUptoRow : OpenClaim := { program := "ytpmmnjmlnjdkjaa", sum := "38ba4887753bdbf7a97512ebb17529bf4ffc2ebb7b9ec3f2d0d88ddf12d78e2f", func := "lanthorn/lanthornlaw14.BrrDecodes", spec := "brrDecodes", unfollowed := true, recurses := true, apart := false, narrowed := true }
def BrrDecodesUptoSaid : Prop := brrDecodesUptoRow.holds Try.pinned (OpenSpec.upto brrDecodesSpec)

/-- 'lanthornlaw14.BrrEncodes', WHERE WHAT IT READS IS OF BULK AT MOST 1048576: true; the input reads as it did. -/
def brrEncodesUptoRow : OpenClaim := { program := "ytpmmnjmlnjdkjaa", sum := "38ba4887753bdbf7a97512ebb17529bf4ffc2ebb7b9ec3f2d0d88ddf12d78e2f", func := "lanthorn/lanthornlaw14.BrrEncodes", spec := "brrEncodes", unfollowed := true, recurses := true, apart := false, narrowed := true }
def BrrEncodesUptoSaid : Prop := brrEncodesUptoRow.holds Try.pinned (OpenSpec.upto brrEncodesSpec)

/-- 'lanthornlaw14.BrrAlls', WHERE WHAT IT READS IS OF BULK AT MOST 1048576: true; the input reads as it did. -/
def brrAllsUptoRow : OpenClaim := { program := "ytpmmnjmlnjdkjaa", sum := "38ba4887753bdbf7a97512ebb17529bf4ffc2ebb7b9ec3f2d0d88ddf12d78e2f", func := "lanthorn/lanthornlaw14.BrrAlls", spec := "brrAlls", unfollowed := true, recurses := true, apart := false, narrowed := true }
def BrrAllsUptoSaid : Prop := brrAllsUptoRow.holds Try.pinned (OpenSpec.upto brrAllsSpec)

/-- 'lanthornlaw14.BrrParts', WHERE WHAT IT READS IS OF BULK AT MOST 1048576: true; the input reads as it did. -/
def brrPartsUptoRow : OpenClaim := { program := "ytpmmnjmlnjdkjaa", sum := "38ba4887753bdbf7a97512ebb17529bf4ffc2ebb7b9ec3f2d0d88ddf12d78e2f", func := "lanthorn/lanthornlaw14.BrrParts", spec := "brrParts", unfollowed := true, recurses := true, apart := false, narrowed := true }
def BrrPartsUptoSaid : Prop := brrPartsUptoRow.holds Try.pinned (OpenSpec.upto brrPartsSpec)

/-- 'lanthornlaw14.BrrNearest', WHERE WHAT IT READS IS OF BULK AT MOST 1048576: true; the input reads as it did. -/
def brrNearestUptoRow : OpenClaim := { program := "ytpmmnjmlnjdkjaa", sum := "38ba4887753bdbf7a97512ebb17529bf4ffc2ebb7b9ec3f2d0d88ddf12d78e2f", func := "lanthorn/lanthornlaw14.BrrNearest", spec := "brrNearest", unfollowed := true, recurses := true, apart := false, narrowed := true }
def BrrNearestUptoSaid : Prop := brrNearestUptoRow.holds Try.pinned (OpenSpec.upto brrNearestSpec)

/-- 'lanthornlaw14.BrrPacks', WHERE WHAT IT READS IS OF BULK AT MOST 1048576: true; the input reads as it did. -/
def brrPacksUptoRow : OpenClaim := { program := "ytpmmnjmlnjdkjaa", sum := "38ba4887753bdbf7a97512ebb17529bf4ffc2ebb7b9ec3f2d0d88ddf12d78e2f", func := "lanthorn/lanthornlaw14.BrrPacks", spec := "brrPacks", unfollowed := true, recurses := true, apart := false, narrowed := true }
def BrrPacksUptoSaid : Prop := brrPacksUptoRow.holds Try.pinned (OpenSpec.upto brrPacksSpec)

/-- 'lanthornlaw14.BrrBack', WHERE WHAT IT READS IS OF BULK AT MOST 1048576: true; the input reads as it did. -/
def brrBackUptoRow : OpenClaim := { program := "ytpmmnjmlnjdkjaa", sum := "38ba4887753bdbf7a97512ebb17529bf4ffc2ebb7b9ec3f2d0d88ddf12d78e2f", func := "lanthorn/lanthornlaw14.BrrBack", spec := "brrBack", unfollowed := true, recurses := true, apart := false, narrowed := true }
def BrrBackUptoSaid : Prop := brrBackUptoRow.holds Try.pinned (OpenSpec.upto brrBackSpec)

/-- 'lanthornlaw14.BrrSilent', WHERE WHAT IT READS IS OF BULK AT MOST 1048576: true; the input reads as it did. -/
def brrSilentUptoRow : OpenClaim := { program := "ytpmmnjmlnjdkjaa", sum := "38ba4887753bdbf7a97512ebb17529bf4ffc2ebb7b9ec3f2d0d88ddf12d78e2f", func := "lanthorn/lanthornlaw14.BrrSilent", spec := "brrSilent", unfollowed := true, recurses := true, apart := false, narrowed := true }
def BrrSilentUptoSaid : Prop := brrSilentUptoRow.holds Try.pinned (OpenSpec.upto brrSilentSpec)

end Rows
end Go.Proofs.Ytpmmnjmlnjdkjaa
