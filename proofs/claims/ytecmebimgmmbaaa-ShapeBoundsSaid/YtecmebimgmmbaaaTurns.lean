/- A slice of turns that came in, opened. -/
import Derived.Test.YtecmebimgmmbaaaBounds
import Derived.Lib.SmallJoins
import Derived.Deep.Slices
import Derived.Deep.Strs
import Derived.OpenShut
namespace Go.Proofs.Ytecmebimgmmbaaa
open Go.ChangeShapes Go.WideShapes Go.ChangeAt Go.RowKit Go.Joins
set_option linter.unusedVariables false

theorem open_turn {H : Type} {enc : TypeId × Value → H} {W : World} {n : Nat} {cs : List Value} {x : DataW H × List MemPlace} (h : DataW.trod enc Try.prog W 0 (fun _ => true) true n 34 cs = some x) :
    ∃ wh at_ su ga : Int, cs = [.int .i64 wh, .int .u8 at_, .int .u8 su, .int .u8 ga] ∧ 0 ≤ at_ ∧ at_ ≤ 255 ∧ 0 ≤ su ∧ su ≤ 255 ∧ 0 ≤ ga ∧ ga ≤ 255 := by
  obtain ⟨y0, y1, m, rfl, hl, h0, h1⟩ := trod_struct2 Try.underlying34 h
  have e34 : Try.prog.cellsOf 34 = 4 := by kernel_rfl
  have e3 : Try.prog.cellsOf 3 = 1 := by kernel_rfl
  have e32 : Try.prog.cellsOf 32 = 3 := by kernel_rfl
  rw [e34] at hl
  match cs, hl with
  | [c0, c1, c2, c3], _ =>
    simp only [e3, e32] at h0 h1
    have k0 : DataW.trod enc Try.prog W 0 (fun _ => true) true m 3 [c0] = some y0 := h0
    have k1 : DataW.trod enc Try.prog W 0 (fun _ => true) true m 32 [c1, c2, c3] = some y1 := h1
    obtain ⟨wh, q0, -, -⟩ := DataW.trod_int Try.underlying3 k0
    obtain ⟨z0, z1, z2, m2, -, -, g0, g1, g2⟩ := Go.Deep.trod_struct3 Try.underlying32 k1
    have e5 : Try.prog.cellsOf 5 = 1 := by kernel_rfl
    simp only [e5] at g0 g1 g2
    have j0 : DataW.trod enc Try.prog W 0 (fun _ => true) true m2 5 [c1] = some z0 := g0
    have j1 : DataW.trod enc Try.prog W 0 (fun _ => true) true m2 5 [c2] = some z1 := g1
    have j2 : DataW.trod enc Try.prog W 0 (fun _ => true) true m2 5 [c3] = some z2 := g2
    obtain ⟨a, r0, -, b0⟩ := DataW.trod_int Try.underlying5 j0
    obtain ⟨s, r1, -, b1⟩ := DataW.trod_int Try.underlying5 j1
    obtain ⟨g, r2, -, b2⟩ := DataW.trod_int Try.underlying5 j2
    simp only [List.cons.injEq, and_true] at q0 r0 r1 r2
    subst q0 r0 r1 r2
    have u0 := bounds_u8 b0
    have u1 := bounds_u8 b1
    have u2 := bounds_u8 b2
    exact ⟨wh, a, s, g, rfl, u0.1, u0.2, u1.1, u1.2, u2.1, u2.2⟩

theorem open_shapeBounds_0 {H : Type} {enc : TypeId × Value → H} {W : World} {base : Nat} {v : Value} {d : DataW H} {p : List MemPlace} (hv : Value.okWide Try.prog W .any base 27 v)
    (h : DataW.Trod enc Try.prog W 0 (fun _ => true) true 27 v d p) : ∃ m, Turns W v m := by
  obtain ⟨a, len, cap, rfl⟩ := okWide_slice Try.underlying27 hv
  obtain ⟨fuel, hf⟩ := h
  have e34 : Try.prog.cellsOf 34 = 4 := by kernel_rfl
  rcases Go.Deep.open_slice Try.underlying27 hf with ⟨hcs, _⟩ | ⟨a2, l2, c2, m, n, D, Pl, hcs, _, hl, hm, hmm, _, hx⟩
  · simp [Value.cells] at hcs
    obtain ⟨rfl, rfl, rfl⟩ := hcs
    exact ⟨0, none, 0, rfl, Nat.zero_le _, fun h => absurd h (by decide)⟩
  · simp [Value.cells] at hcs
    obtain ⟨rfl, rfl, rfl⟩ := hcs
    rw [if_pos rfl] at hmm
    subst hmm
    refine ⟨len, some a2, _, rfl, by omega, fun h0 => ?_⟩
    have hone : ∀ i, i < len → ∃ wh at_ su ga : Int, 0 ≤ at_ ∧ at_ ≤ 255 ∧ 0 ≤ su ∧ su ≤ 255 ∧ 0 ≤ ga ∧ ga ≤ 255 ∧
        W.cell? ((a2.add (i * 4)).add 0) = some (.int .i64 wh) ∧ W.cell? ((a2.add (i * 4)).add 1) = some (.int .u8 at_) ∧ W.cell? ((a2.add (i * 4)).add 2) = some (.int .u8 su) ∧ W.cell? ((a2.add (i * 4)).add 3) = some (.int .u8 ga) := fun i hi => by
      obtain ⟨cs', h1, h2⟩ := hx i (by omega)
      rw [e34] at h1
      obtain ⟨wh, at_, su, ga, rfl, b0, b1, b2, b3, b4, b5⟩ := open_turn h2
      have hs := World.cells?_some h1
      refine ⟨wh, at_, su, ga, b0, b1, b2, b3, b4, b5, ?_⟩
      have d0 := hs.2.2 0 (by decide)
      have d1 := hs.2.2 1 (by decide)
      have d2 := hs.2.2 2 (by decide)
      have d3 := hs.2.2 3 (by decide)
      exact ⟨d0, d1, d2, d3⟩
    obtain ⟨b, off, spot⟩ := a2
    have hspot : spot = none := by
      obtain ⟨wh, _, _, _, _, _, _, _, _, _, hc, _⟩ := hone 0 h0
      simpa [Addr.add] using World.cell?_spot hc
    subst hspot
    have hadd : ∀ i, (⟨b, off, none⟩ : Addr).add i = ⟨b, off + i, none⟩ := fun i => by unfold Addr.add; split <;> simp_all
    refine ⟨b, off, rfl, fun i hi => ?_⟩
    obtain ⟨wh, at_, su, ga, b0, b1, b2, b3, b4, b5, c0, c1, c2, c3⟩ := hone i hi
    have hadd2 : ∀ i j, (⟨b, off + i, none⟩ : Addr).add j = ⟨b, off + i + j, none⟩ := fun i j => by unfold Addr.add; split <;> simp_all
    rw [hadd] at c0 c1 c2 c3
    rw [hadd2] at c0 c1 c2 c3
    rw [Nat.add_zero] at c0
    exact ⟨wh, at_, su, ga, b0, b1, b2, b3, b4, b5, c0, c1, c2, c3⟩

theorem walk_bounds (v : Value) (m : Nat) (n : Int) (w : World) (h : Turns w v m) (_wn : (Lit.int .i64 n).wf = true) :
    Calls Try.prog 5 #[v, .int .i64 n] w fun e w' => e = .returned (.bool true) ∧ Below w.heap.size w w' := law_bounds v m n w h
end Go.Proofs.Ytecmebimgmmbaaa
