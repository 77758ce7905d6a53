/- CartSound: the walk at whatever comes in. -/
import Derived.Test.YtjaeglllijafkaaDoorCartSoundLaw
import Derived.Test.YtjaeglllijafkaaDoorCartRead
import Derived.Test.YtjaeglllijafkaaDoorCartOpen
namespace Go.Proofs.YtjaeglllijafkaaDoor
open Go.Joins Go.ChangeShapes Go.WideShapes Go.RowKit Go.Deep
set_option linter.unusedVariables false

def ImageIn (W : World) (v : Value) (u : Int × Int × Value × List (Int × List Int)) : Prop := v = .agg #[.int .i64 u.1, .int .u8 u.2.1, u.2.2.1] ∧ 0 ≤ u.2.1 ∧ u.2.1 ≤ 255 ∧ Patches W u.2.2.1 u.2.2.2 ∧ ∀ q ∈ u.2.2.2, Fits .u8 q.2
set_option maxRecDepth 100000 in
theorem open_cartSound_0 {H : Type} {enc : TypeId × Value → H} {W : World} {base : Nat} {v : Value} {d : DataW H} {p : List MemPlace} (hv : Value.okWide Tryd.prog W .any base 24 v)
    (h : DataW.Trod enc Tryd.prog W 0 (fun _ => true) true 24 v d p) : ∃ u, ImageIn W v u := by
  obtain ⟨a, b, c, e, h1⟩ := open_image hv h
  exact ⟨(a, b, c, e), h1⟩
set_option maxRecDepth 100000 in
theorem raw_sound (v0 : Value) (u0 : Int × Int × Value × List (Int × List Int)) (g : Int) (w : World) (w0 : ImageIn w v0 u0) (w1 : (Lit.int .i64 g).wf = true) :
    Calls Tryd.prog 6 #[v0, .int .i64 g] w fun e w' => e = .returned (.bool true) ∧ Below w.heap.size w w' := by
  obtain ⟨size, by_, pv, ps⟩ := u0
  obtain ⟨rfl, b0, b1, hp, hpf⟩ := w0
  exact walk_sound (fun a n c sa sn sc xs ss w h1 h2 h3 h4 h5 h6 h7 => read_walk a n c sa sn sc xs ss w h1 h2 h3 h4 h5 h6 h7) size by_ pv ps g w hp hpf b0 b1
end Go.Proofs.YtjaeglllijafkaaDoor
