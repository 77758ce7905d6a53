/- What comes in as an image and as a cartridge, opened. -/
import Derived.Test.YtjaeglllijafkaaDoorProg
import Derived.Test.YtjaeglllijafkaaDoorKit
import Derived.Test.YtjaeglllijafkaaDoorImage
import Derived.Lib.SmallJoins
import Derived.Deep.Slices
import Derived.Deep.Fields
import Derived.ChangeSame
namespace Go.Proofs.YtjaeglllijafkaaDoor
open Go.Joins Go.ChangeShapes Go.WideShapes Go.RowKit Go.Deep
set_option linter.unusedVariables false

section
variable {H : Type} {enc : TypeId × Value → H} {P : Program} {w : World} {base : Nat} {spare : Nat → Bool} {held : Bool}
theorem open_agg8 {r : Reach} {b0 : Nat} {t : TypeId} {f0 f1 f2 f3 f4 f5 f6 f7 : Field} {v : Value} {d : DataW H} {p : List MemPlace} (hs : P.underlying t = some (.struct #[f0, f1, f2, f3, f4, f5, f6, f7])) (hone : oneCellFields P #[f0, f1, f2, f3, f4, f5, f6, f7] = true) (hC : P.cellsOf t = 8)
    (hv : Value.okWide P w r b0 t v) (h : DataW.Trod enc P w base spare held t v d p) :
    ∃ (v0 v1 v2 v3 v4 v5 v6 v7 : Value) (y0 y1 y2 y3 y4 y5 y6 y7 : DataW H × List MemPlace) (n : Nat), v = .agg #[v0, v1, v2, v3, v4, v5, v6, v7] ∧
      DataW.trod enc P w base spare held n f0.type [v0] = some y0 ∧ DataW.trod enc P w base spare held n f1.type [v1] = some y1 ∧ DataW.trod enc P w base spare held n f2.type [v2] = some y2 ∧ DataW.trod enc P w base spare held n f3.type [v3] = some y3 ∧ DataW.trod enc P w base spare held n f4.type [v4] = some y4 ∧ DataW.trod enc P w base spare held n f5.type [v5] = some y5 ∧ DataW.trod enc P w base spare held n f6.type [v6] = some y6 ∧ DataW.trod enc P w base spare held n f7.type [v7] = some y7 := by
  obtain ⟨cs, rfl, hsz⟩ := okWide_struct hs hv
  obtain ⟨l⟩ := cs
  match l, hsz.trans hC with
  | [c0, c1, c2, c3, c4, c5, c6, c7], _ =>
    obtain ⟨fuel, hf⟩ := h
    obtain ⟨xs, n, _, hx, _, hlen, hg⟩ := DataW.trod_struct hs hf
    obtain ⟨o0, k0⟩ := hone_of hone 0 f0 rfl
    obtain ⟨o1, k1⟩ := hone_of hone 1 f1 rfl
    obtain ⟨o2, k2⟩ := hone_of hone 2 f2 rfl
    obtain ⟨o3, k3⟩ := hone_of hone 3 f3 rfl
    obtain ⟨o4, k4⟩ := hone_of hone 4 f4 rfl
    obtain ⟨o5, k5⟩ := hone_of hone 5 f5 rfl
    obtain ⟨o6, k6⟩ := hone_of hone 6 f6 rfl
    obtain ⟨o7, k7⟩ := hone_of hone 7 f7 rfl
    match xs, hlen with
    | [y0, y1, y2, y3, y4, y5, y6, y7], _ =>
      exact ⟨c0, c1, c2, c3, c4, c5, c6, c7, y0, y1, y2, y3, y4, y5, y6, y7, n, rfl, by simpa [Value.cells, o0, k0] using hg 0 f0 rfl, by simpa [Value.cells, o1, k1] using hg 1 f1 rfl, by simpa [Value.cells, o2, k2] using hg 2 f2 rfl, by simpa [Value.cells, o3, k3] using hg 3 f3 rfl, by simpa [Value.cells, o4, k4] using hg 4 f4 rfl, by simpa [Value.cells, o5, k5] using hg 5 f5 rfl, by simpa [Value.cells, o6, k6] using hg 6 f6 rfl, by simpa [Value.cells, o7, k7] using hg 7 f7 rfl⟩
end
theorem open_row {H : Type} {enc : TypeId × Value → H} {W : World} {n : Nat} {v : Value} {y : DataW H × List MemPlace} (h : DataW.trod enc Tryd.prog W 0 (fun _ => true) true n 28 [v] = some y) :
    ∃ a l c zs, v = .slice a l c ∧ IsRow .u8 W a l c zs := by
  rcases open_ints Tryd.underlying28 Tryd.underlying5 (by kernel_rfl) h with ⟨hcs, _⟩ | ⟨x, l, c, zs, hcs, _, hl, hm, hz, hx, hcell, hwz⟩
  · simp only [List.cons.injEq, and_true] at hcs
    exact ⟨_, _, _, [], hcs, .inl ⟨rfl, rfl, rfl, rfl⟩⟩
  · simp only [List.cons.injEq, and_true] at hcs
    exact ⟨_, _, _, zs, hcs, .inr ⟨_, rfl, hl, hm, by simpa using hz, hcell, hwz⟩⟩
set_option maxRecDepth 100000 in
theorem open_patch {H : Type} {enc : TypeId × Value → H} {W : World} {n : Nat} {cs : List Value} {y : DataW H × List MemPlace} (h : DataW.trod enc Tryd.prog W 0 (fun _ => true) true n 51 cs = some y) :
    ∃ (q : Int × List Int) (pv : Value), cs = [.int .i64 q.1, pv] ∧ Row .u8 W pv q.2 ∧ Fits .u8 q.2 := by
  obtain ⟨ys, n', hn', hy, hlen, hyl, hf⟩ := DataW.trod_struct Tryd.underlying51 h
  rw [show Tryd.prog.cellsOf 51 = 2 from by kernel_rfl] at hlen
  match cs, hlen, ys, hyl with
  | [c0, c1], _, [y0, y1], _ =>
    have h0 : DataW.trod enc Tryd.prog W 0 (fun _ => true) true n' 3 (([c0, c1].drop 0).take (Tryd.prog.cellsOf 3)) = some y0 := hf 0 _ rfl
    have h1 : DataW.trod enc Tryd.prog W 0 (fun _ => true) true n' 28 (([c0, c1].drop 1).take (Tryd.prog.cellsOf 28)) = some y1 := hf 1 _ rfl
    rw [show Tryd.prog.cellsOf 3 = 1 from by kernel_rfl] at h0
    rw [show Tryd.prog.cellsOf 28 = 1 from by kernel_rfl] at h1
    obtain ⟨a, e0, -, -⟩ := DataW.trod_int Tryd.underlying3 (show DataW.trod enc Tryd.prog W 0 (fun _ => true) true n' 3 [c0] = some y0 from h0)
    obtain ⟨b, l, c, zs, rfl, hr⟩ := open_row (show DataW.trod enc Tryd.prog W 0 (fun _ => true) true n' 28 [c1] = some y1 from h1)
    simp only [List.cons.injEq, and_true] at e0
    subst e0
    obtain ⟨r1, r2, -, -⟩ := Row.came hr
    exact ⟨(a, _), _, rfl, r1, r2⟩
set_option maxRecDepth 100000 in
theorem open_image {H : Type} {enc : TypeId × Value → H} {W : World} {base : Nat} {v : Value} {d : DataW H} {p : List MemPlace} (hv : Value.okWide Tryd.prog W .any base 24 v)
    (h : DataW.Trod enc Tryd.prog W 0 (fun _ => true) true 24 v d p) : ∃ (size by_ : Int) (pv : Value) (ps : List (Int × List Int)), v = .agg #[.int .i64 size, .int .u8 by_, pv] ∧ 0 ≤ by_ ∧ by_ ≤ 255 ∧ Patches W pv ps ∧ ∀ q ∈ ps, Fits .u8 q.2 := by
  obtain ⟨v0, v1, v2, y0, y1, y2, n, rfl, -, -, h0, h1, h2⟩ := open_agg3 Tryd.underlying24 (by kernel_rfl) (by kernel_rfl : Tryd.prog.cellsOf 24 = 3) hv h
  obtain ⟨size, e0, -, w0⟩ := DataW.trod_int Tryd.underlying3 h0
  obtain ⟨by_, e1, -, w1⟩ := DataW.trod_int Tryd.underlying5 h1
  simp only [List.cons.injEq, and_true] at e0 e1
  subst e0 e1
  have wb := bounds_u8 w1
  refine ⟨size, by_, v2, ?_⟩
  have e34 : Tryd.prog.cellsOf 51 = 2 := by kernel_rfl
  rcases Go.Deep.open_slice Tryd.underlying22 h2 with ⟨hcs, _⟩ | ⟨a2, l2, c2, m, n, D, Pl, hcs, _, hl, hm, hmm, _, hx⟩
  · simp only [List.cons.injEq, and_true] at hcs
    subst hcs
    exact ⟨[], rfl, wb.1, wb.2, ⟨none, 0, rfl, Nat.zero_le _, fun h => absurd h (by decide)⟩, fun q hq => by cases hq⟩
  · simp only [List.cons.injEq, and_true] at hcs
    subst hcs
    rw [if_pos rfl] at hmm
    subst hmm
    have hone : ∀ i, ∃ q : Int × List Int, i < l2 → ∃ pv, W.cell? (a2.add (i * 2)) = some (.int .i64 q.1) ∧ W.cell? ((a2.add (i * 2)).add 1) = some pv ∧ Row .u8 W pv q.2 ∧ Fits .u8 q.2 := fun i => by
      by_cases hi : i < l2
      · obtain ⟨cs', h1, h2⟩ := hx i (by omega)
        rw [e34] at h1
        obtain ⟨q, pv, rfl, hr, hf⟩ := open_patch h2
        have hs := World.cells?_some h1
        exact ⟨q, fun _ => ⟨pv, hs.2.2 0 (by decide), hs.2.2 1 (by decide), hr, hf⟩⟩
      · exact ⟨(0, []), fun h => absurd h hi⟩
    obtain ⟨f, hf⟩ := Classical.axiomOfChoice hone
    refine ⟨(List.range l2).map f, rfl, wb.1, wb.2, ⟨some a2, _, by simp; rfl, by simp; omega, fun h0 => ?_⟩, fun q hq => ?_⟩
    · have h0' : 0 < l2 := by simpa using h0
      obtain ⟨b, off, spot⟩ := a2
      have hspot : spot = none := by
        obtain ⟨pv, hc, _⟩ := hf 0 h0'
        simpa [Addr.add] using World.cell?_spot hc
      subst hspot
      have hadd : ∀ i, (⟨b, off, none⟩ : Addr).add i = ⟨b, off + i, none⟩ := fun i => by unfold Addr.add; split <;> simp_all
      have hadd2 : ∀ i j, (⟨b, off + i, none⟩ : Addr).add j = ⟨b, off + i + j, none⟩ := fun i j => by unfold Addr.add; split <;> simp_all
      refine ⟨b, off, rfl, fun k hk => ?_⟩
      have hk' : k < l2 := by simpa using hk
      obtain ⟨pv, g0, g1, g2, g3⟩ := hf k hk'
      rw [hadd] at g0 g1
      rw [hadd2] at g1
      have hget : ((List.range l2).map f)[k]?.getD (0, []) = f k := by
        rw [List.getElem?_map, List.getElem?_range hk']; rfl
      rw [hget]
      exact ⟨g0, pv, g1, g2⟩
    · obtain ⟨i, hi, rfl⟩ := List.mem_map.1 hq
      obtain ⟨pv, -, -, -, hfit⟩ := hf i (List.mem_range.1 hi)
      exact hfit
set_option maxRecDepth 100000 in
theorem open_cart {H : Type} {enc : TypeId × Value → H} {W : World} {base : Nat} {v : Value} {d : DataW H} {p : List MemPlace} (hv : Value.okWide Tryd.prog W .any base 36 v)
    (h : DataW.Trod enc Tryd.prog W 0 (fun _ => true) true 36 v d p) : ∃ (l ch : Int) (r0 : Value) (ram : Int) (ti : ByteArray) (rs : Int) (fa : Bool) (sa : Option Addr) (sn sc : Nat), v = .agg #[.int .u8 l, .int .u8 ch, r0, .int .i64 ram, .string ti, .int .u16 rs, .bool fa, .slice sa sn sc] ∧
      0 ≤ l ∧ l ≤ 255 ∧ 0 ≤ ch ∧ ch ≤ 255 ∧ ti.size ≤ 9223372036854775807 ∧ 0 ≤ rs ∧ rs ≤ 65535 := by
  obtain ⟨v0, v1, v2, v3, v4, v5, v6, v7, y0, y1, y2, y3, y4, y5, y6, y7, n, rfl, h0, h1, h2, h3, h4, h5, h6, h7⟩ := open_agg8 Tryd.underlying36 (by kernel_rfl) (by kernel_rfl : Tryd.prog.cellsOf 36 = 8) hv h
  obtain ⟨l, e0, -, w0⟩ := DataW.trod_int Tryd.underlying5 h0
  obtain ⟨ch, e1, -, w1⟩ := DataW.trod_int Tryd.underlying5 h1
  obtain ⟨ram, e3, -, w3⟩ := DataW.trod_int Tryd.underlying3 h3
  obtain ⟨ti, e4, -, w4⟩ := DataW.trod_string Tryd.underlying9 h4
  obtain ⟨rs, e5, -, w5⟩ := DataW.trod_int Tryd.underlying25 h5
  obtain ⟨fa, e6, -⟩ := DataW.trod_bool Tryd.underlying4 h6
  obtain ⟨sa, sn, sc, zs, rfl, hr⟩ := open_row h7
  simp only [List.cons.injEq, and_true] at e0 e1 e3 e4 e5 e6
  subst e0 e1 e3 e4 e5 e6
  have b0 := bounds_u8 w0
  have b1 := bounds_u8 w1
  have b5 : 0 ≤ rs ∧ rs ≤ 65535 := by simpa [Lit.wf, IntKind.min, IntKind.max, IntKind.signed, IntKind.bits] using w5
  unfold maxLen at w4
  exact ⟨l, ch, v2, ram, ti, rs, fa, sa, sn, sc, rfl, b0.1, b0.2, b1.1, b1.2, w4, b5.1, b5.2⟩
end Go.Proofs.YtjaeglllijafkaaDoor
