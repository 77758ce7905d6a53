/- CartLooks: the walk at whatever comes in. -/
import Derived.Test.YtjaeglllijafkaaDoorCartLooksLaw
namespace Go.Proofs.YtjaeglllijafkaaDoor
open Go.Joins Go.ChangeShapes Go.WideShapes Go.RowKit Go.Deep
set_option linter.unusedVariables false

def IsImage (W : World) (v : Value) (u : Int × Int × Value × List (Int × List Int)) : Prop := v = .agg #[.int .i64 u.1, .int .u8 u.2.1, u.2.2.1] ∧ 0 ≤ u.2.1 ∧ u.2.1 ≤ 255 ∧ Patches W u.2.2.1 u.2.2.2 ∧ ∀ q ∈ u.2.2.2, Fits .u8 q.2
def IsCard (v : Value) : Prop := ∃ c : Card, v = c.v ∧ c.Fits
set_option maxRecDepth 100000 in
theorem open_cartLooks_0 {H : Type} {enc : TypeId × Value → H} {W : World} {base : Nat} {v : Value} {d : DataW H} {p : List MemPlace} (hv : Value.okWide Tryd.prog W .any base 24 v)
    (h : DataW.Trod enc Tryd.prog W 0 (fun _ => true) true 24 v d p) : ∃ u, IsImage W v u := by
  obtain ⟨a, b, c, e, h1⟩ := open_image hv h
  exact ⟨(a, b, c, e), h1⟩
section
variable {H : Type} {enc : TypeId × Value → H} {P : Program} {w : World} {base : Nat} {spare : Nat → Bool} {held : Bool}
theorem open_agg7 {r : Reach} {b0 : Nat} {t : TypeId} {f0 f1 f2 f3 f4 f5 f6 : Field} {v : Value} {d : DataW H} {p : List MemPlace} (hs : P.underlying t = some (.struct #[f0, f1, f2, f3, f4, f5, f6])) (hone : oneCellFields P #[f0, f1, f2, f3, f4, f5, f6] = true) (hC : P.cellsOf t = 7)
    (hv : Value.okWide P w r b0 t v) (h : DataW.Trod enc P w base spare held t v d p) :
    ∃ (v0 v1 v2 v3 v4 v5 v6 : Value) (y0 y1 y2 y3 y4 y5 y6 : DataW H × List MemPlace) (n : Nat), v = .agg #[v0, v1, v2, v3, v4, v5, v6] ∧
      DataW.trod enc P w base spare held n f0.type [v0] = some y0 ∧ DataW.trod enc P w base spare held n f1.type [v1] = some y1 ∧ DataW.trod enc P w base spare held n f2.type [v2] = some y2 ∧ DataW.trod enc P w base spare held n f3.type [v3] = some y3 ∧ DataW.trod enc P w base spare held n f4.type [v4] = some y4 ∧ DataW.trod enc P w base spare held n f5.type [v5] = some y5 ∧ DataW.trod enc P w base spare held n f6.type [v6] = some y6 := by
  obtain ⟨cs, rfl, hsz⟩ := okWide_struct hs hv
  obtain ⟨l⟩ := cs
  match l, hsz.trans hC with
  | [c0, c1, c2, c3, c4, c5, c6], _ =>
    obtain ⟨fuel, hf⟩ := h
    obtain ⟨xs, n, _, hx, _, hlen, hg⟩ := DataW.trod_struct hs hf
    obtain ⟨o0, k0⟩ := Go.Deep.hone_of hone 0 f0 rfl
    obtain ⟨o1, k1⟩ := Go.Deep.hone_of hone 1 f1 rfl
    obtain ⟨o2, k2⟩ := Go.Deep.hone_of hone 2 f2 rfl
    obtain ⟨o3, k3⟩ := Go.Deep.hone_of hone 3 f3 rfl
    obtain ⟨o4, k4⟩ := Go.Deep.hone_of hone 4 f4 rfl
    obtain ⟨o5, k5⟩ := Go.Deep.hone_of hone 5 f5 rfl
    obtain ⟨o6, k6⟩ := Go.Deep.hone_of hone 6 f6 rfl
    match xs, hlen with
    | [y0, y1, y2, y3, y4, y5, y6], _ =>
      exact ⟨c0, c1, c2, c3, c4, c5, c6, y0, y1, y2, y3, y4, y5, y6, n, rfl, by simpa [Value.cells, o0, k0] using hg 0 f0 rfl, by simpa [Value.cells, o1, k1] using hg 1 f1 rfl, by simpa [Value.cells, o2, k2] using hg 2 f2 rfl, by simpa [Value.cells, o3, k3] using hg 3 f3 rfl, by simpa [Value.cells, o4, k4] using hg 4 f4 rfl, by simpa [Value.cells, o5, k5] using hg 5 f5 rfl, by simpa [Value.cells, o6, k6] using hg 6 f6 rfl⟩
end
theorem bounds_u16 {x : Int} (h : (Lit.int .u16 x).wf = true) : 0 ≤ x ∧ x ≤ 65535 := by simpa [Lit.wf, IntKind.min, IntKind.max, IntKind.signed, IntKind.bits] using h
set_option maxRecDepth 100000 in
theorem open_cartLooks_2 {H : Type} {enc : TypeId × Value → H} {W : World} {base : Nat} {v : Value} {d : DataW H} {p : List MemPlace} (hv : Value.okWide Tryd.prog W .any base 27 v)
    (h : DataW.Trod enc Tryd.prog W 0 (fun _ => true) true 27 v d p) : ∃ u : Unit, IsCard v := by
  obtain ⟨v0, v1, v2, v3, v4, v5, v6, y0, y1, y2, y3, y4, y5, y6, n, rfl, h0, h1, h2, h3, h4, h5, h6⟩ := open_agg7 Tryd.underlying27 (by kernel_rfl) (by kernel_rfl : Tryd.prog.cellsOf 27 = 7) hv h
  obtain ⟨ti, e0, -, w0⟩ := DataW.trod_string Tryd.underlying9 h0
  obtain ⟨a1, e1, -, w1⟩ := DataW.trod_int Tryd.underlying5 h1
  obtain ⟨a2, e2, -, w2⟩ := DataW.trod_int Tryd.underlying5 h2
  obtain ⟨a3, e3, -, w3⟩ := DataW.trod_int Tryd.underlying5 h3
  obtain ⟨a4, e4, -, w4⟩ := DataW.trod_int Tryd.underlying25 h4
  obtain ⟨a5, e5, -, w5⟩ := DataW.trod_int Tryd.underlying25 h5
  obtain ⟨a6, e6, -, w6⟩ := DataW.trod_int Tryd.underlying25 h6
  simp only [List.cons.injEq, and_true] at e0 e1 e2 e3 e4 e5 e6
  subst e0 e1 e2 e3 e4 e5 e6
  unfold maxLen at w0
  exact ⟨(), ⟨ti, a1, a2, a3, a4, a5, a6⟩, rfl, ⟨bounds_u8 w1, bounds_u8 w2, bounds_u8 w3, bounds_u16 w4, bounds_u16 w5, bounds_u16 w6, w0⟩⟩
set_option maxRecDepth 100000 in
theorem raw_looks (v0 : Value) (u0 : Int × Int × Value × List (Int × List Int)) (l : Int) (v2 : Value) (u2 : Unit) (w : World) (w0 : IsImage w v0 u0) (w1 : (Lit.int .u8 l).wf = true) (w2 : IsCard v2) :
    Calls Tryd.prog 3 #[v0, .int .u8 l, v2] w fun e w' => e = .returned (.bool true) ∧ Below w.heap.size w w' := by
  obtain ⟨size, by_, pv, ps⟩ := u0
  obtain ⟨rfl, b0, b1, hp, hpf⟩ := w0
  obtain ⟨c, rfl, hc⟩ := w2
  have hl := bounds_u8 w1
  exact walk_looks size by_ pv ps l c w hp hpf b0 b1 hl.1 hl.2 hc
end Go.Proofs.YtjaeglllijafkaaDoor
