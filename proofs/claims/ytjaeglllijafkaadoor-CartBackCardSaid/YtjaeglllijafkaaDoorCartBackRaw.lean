/- CartBack: the walk at whatever comes in. -/
import Derived.Test.YtjaeglllijafkaaDoorCartBackLaw
import Derived.Test.YtjaeglllijafkaaDoorCartRead
import Derived.Test.YtjaeglllijafkaaDoorCartOpen
namespace Go.Proofs.YtjaeglllijafkaaDoor
open Go.Joins Go.ChangeShapes Go.WideShapes Go.RowKit Go.Deep
set_option linter.unusedVariables false

def IsImage (W : World) (v : Value) (u : Int × Int × Value × List (Int × List Int)) : Prop := v = .agg #[.int .i64 u.1, .int .u8 u.2.1, u.2.2.1] ∧ 0 ≤ u.2.1 ∧ u.2.1 ≤ 255 ∧ Patches W u.2.2.1 u.2.2.2 ∧ ∀ q ∈ u.2.2.2, Fits .u8 q.2
def IsCart (v : Value) : Prop := ∃ (l ch : Int) (r0 : Value) (ram : Int) (ti : ByteArray) (rs : Int) (fa : Bool) (sa : Option Addr) (sn sc : Nat), v = .agg #[.int .u8 l, .int .u8 ch, r0, .int .i64 ram, .string ti, .int .u16 rs, .bool fa, .slice sa sn sc] ∧
      0 ≤ l ∧ l ≤ 255 ∧ 0 ≤ ch ∧ ch ≤ 255 ∧ ti.size ≤ 9223372036854775807 ∧ 0 ≤ rs ∧ rs ≤ 65535
set_option maxRecDepth 100000 in
theorem open_cartBack_0 {H : Type} {enc : TypeId × Value → H} {W : World} {base : Nat} {v : Value} {d : DataW H} {p : List MemPlace} (hv : Value.okWide Tryd.prog W .any base 24 v)
    (h : DataW.Trod enc Tryd.prog W 0 (fun _ => true) true 24 v d p) : ∃ u, IsImage W v u := by
  obtain ⟨a, b, c, e, h1⟩ := open_image hv h
  exact ⟨(a, b, c, e), h1⟩
set_option maxRecDepth 100000 in
theorem open_cartBack_1 {H : Type} {enc : TypeId × Value → H} {W : World} {base : Nat} {v : Value} {d : DataW H} {p : List MemPlace} (hv : Value.okWide Tryd.prog W .any base 36 v)
    (h : DataW.Trod enc Tryd.prog W 0 (fun _ => true) true 36 v d p) : ∃ u : Unit, IsCart v := ⟨(), open_cart hv h⟩
set_option maxRecDepth 100000 in
theorem raw_back (v0 : Value) (u0 : Int × Int × Value × List (Int × List Int)) (v1 : Value) (u1 : Unit) (w : World) (w0 : IsImage w v0 u0) (w1 : IsCart v1) :
    Calls Tryd.prog 5 #[v0, v1] w fun e w' => e = .returned (.bool true) ∧ Below w.heap.size w w' := by
  obtain ⟨size, by_, pv, ps⟩ := u0
  obtain ⟨rfl, b0, b1, hp, hpf⟩ := w0
  obtain ⟨l, ch, r0, ram, ti, rs, fa, sa, sn, sc, rfl, l0, l1, c0, -, hs, rs0, rs1⟩ := w1
  exact walk_back (fun a n c sa sn sc xs ss w h1 h2 h3 h4 h5 h6 h7 => read_walk a n c sa sn sc xs ss w h1 h2 h3 h4 h5 h6 h7) size by_ pv ps l ch r0 ram ti rs fa sa sn sc w hp hpf b0 b1 l0 l1 c0 hs rs0 rs1
end Go.Proofs.YtjaeglllijafkaaDoor
