/- A shape, its form and a sample's number that came in, opened. -/
import Derived.Test.YtecmebimgmmbaaaShut
import Derived.Lib.SmallJoins
import Derived.Deep.Strs
import Derived.OpenShut
namespace Go.Proofs.Ytecmebimgmmbaaa
open Go.ChangeShapes Go.WideShapes Go.ChangeAt Go.RowKit Go.Joins
set_option linter.unusedVariables false

def IsGoing (v : Value) : Prop := ∃ ph lv at_ su ga n : Int, v = .agg #[.int .u8 ph, .int .i64 lv, .int .u8 at_, .int .u8 su, .int .u8 ga, .int .i64 n] ∧
  (Lit.int .u8 ph).wf = true ∧ (Lit.int .i64 lv).wf = true ∧ (Lit.int .u8 at_).wf = true ∧ (Lit.int .u8 su).wf = true ∧ (Lit.int .u8 ga).wf = true ∧ (Lit.int .i64 n).wf = true

theorem open_shapeSilent_0 {H : Type} {enc : TypeId × Value → H} {W : World} {base : Nat} {v : Value} {d : DataW H} {p : List MemPlace} (hv : Value.okWide Try.prog W .any base 39 v)
    (h : DataW.Trod enc Try.prog W 0 (fun _ => true) true 39 v d p) : ∃ _u : Unit, IsGoing v := by
  obtain ⟨⟨cs⟩, rfl, hsz⟩ := okWide_struct Try.underlying39 hv
  have e39 : Try.prog.cellsOf 39 = 6 := by kernel_rfl
  have e29 : Try.prog.cellsOf 29 = 2 := by kernel_rfl
  have e32 : Try.prog.cellsOf 32 = 3 := by kernel_rfl
  have e2 : Try.prog.cellsOf 2 = 1 := by kernel_rfl
  have e3 : Try.prog.cellsOf 3 = 1 := by kernel_rfl
  have e5 : Try.prog.cellsOf 5 = 1 := by kernel_rfl
  rw [e39] at hsz
  have hl : cs.length = 6 := hsz
  obtain ⟨fuel, hf⟩ := h
  match cs, hl with
  | [c0, c1, c2, c3, c4, c5], _ =>
    obtain ⟨y0, y1, y2, m, -, -, h0, h1, h2⟩ := Go.Deep.trod_struct3 Try.underlying39 hf
    simp only [e29, e32, e2] at h0 h1 h2
    have k0 : DataW.trod enc Try.prog W 0 (fun _ => true) true m 29 [c0, c1] = some y0 := h0
    have k1 : DataW.trod enc Try.prog W 0 (fun _ => true) true m 32 [c2, c3, c4] = some y1 := h1
    have k2 : DataW.trod enc Try.prog W 0 (fun _ => true) true m 2 [c5] = some y2 := h2
    obtain ⟨z0, z1, m0, -, -, g0, g1⟩ := trod_struct2 Try.underlying29 k0
    obtain ⟨z2, z3, z4, m2, -, -, g2, g3, g4⟩ := Go.Deep.trod_struct3 Try.underlying32 k1
    simp only [e5, e3] at g0 g1 g2 g3 g4
    have j0 : DataW.trod enc Try.prog W 0 (fun _ => true) true m0 5 [c0] = some z0 := g0
    have j1 : DataW.trod enc Try.prog W 0 (fun _ => true) true m0 3 [c1] = some z1 := g1
    have j2 : DataW.trod enc Try.prog W 0 (fun _ => true) true m2 5 [c2] = some z2 := g2
    have j3 : DataW.trod enc Try.prog W 0 (fun _ => true) true m2 5 [c3] = some z3 := g3
    have j4 : DataW.trod enc Try.prog W 0 (fun _ => true) true m2 5 [c4] = some z4 := g4
    obtain ⟨a, r0, -, b0⟩ := DataW.trod_int Try.underlying5 j0
    obtain ⟨b, r1, -, b1⟩ := DataW.trod_int Try.underlying3 j1
    obtain ⟨c, r2, -, b2⟩ := DataW.trod_int Try.underlying5 j2
    obtain ⟨e, r3, -, b3⟩ := DataW.trod_int Try.underlying5 j3
    obtain ⟨f, r4, -, b4⟩ := DataW.trod_int Try.underlying5 j4
    obtain ⟨g, r5, -, b5⟩ := DataW.trod_int Try.underlying2 k2
    simp only [List.cons.injEq, and_true] at r0 r1 r2 r3 r4 r5
    subst r0 r1 r2 r3 r4 r5
    exact ⟨(), a, b, c, e, f, g, rfl, b0, b1, b2, b3, b4, b5⟩

theorem walk_silent2 (v : Value) (_u : Unit) (more : Int) (w : World) (h : IsGoing v) (wm : (Lit.int .i64 more).wf = true) :
    Calls Try.prog 6 #[v, .int .i64 more] w fun e w' => e = .returned (.bool true) ∧ Below w.heap.size w w' := by
  obtain ⟨ph, lv, at_, su, ga, n, rfl, h0, h1, h2, h3, h4, h5⟩ := h
  exact walk_silent ph lv at_ su ga n more w h0 h1 h2 h3 h4 h5 wm
end Go.Proofs.Ytecmebimgmmbaaa
