/- cart.Make, whatever is asked for. -/
import Derived.Test.YtjaeglllijafkaaDoorProg
import Derived.Test.YtjaeglllijafkaaDoorCartMakeB
namespace Go.Proofs.YtjaeglllijafkaaDoor
open Go.RowKit
set_option linter.unusedVariables false

/-- What is made, and the code. -/
def outN (l ch : Int) (n : Nat) (ram : Int) (ti : ByteArray) (rs : Int) (fa : Bool) (xs : List Int) : List Int := if badN l ch n ram ti rs then [] else madeN xs (placeN l).toNat ti l fa ch ram rs
def codeN (l ch : Int) (n : Nat) (ram : Int) (ti : ByteArray) (rs : Int) : Int := if badN l ch n ram ti rs then 2 else 0
theorem owns_nil (w : World) (lo : Nat) : w.ownsRow lo 5 1 (.slice none 0 0) 0 (([] : List Int).map (Value.int .u8)) := ⟨rfl, .inl ⟨rfl, rfl⟩⟩

theorem make_any (l ch : Int) (ra : Option Addr) (n rc : Nat) (ram : Int) (ti : ByteArray) (rs : Int) (fa : Bool) (sa : Option Addr) (sn sc : Nat) (w : World) (l0 : 0 ≤ l) (l1 : l ≤ 255) (hs : ti.size ≤ 9223372036854775807) (rs0 : 0 ≤ rs) (rs1 : rs ≤ 65535) (xs : List Int) (hr : Row .u8 w (.slice ra n rc) xs) (hn : xs.length = n) :
    Calls Tryd.prog 19 #[.agg #[.int .u8 l, .int .u8 ch, .slice ra n rc, .int .i64 ram, .string ti, .int .u16 rs, .bool fa, .slice sa sn sc]] w fun e w' => ∃ r, e = .returned (.tuple #[r, .int .i64 (codeN l ch n ram ti rs)]) ∧ w'.ownsRow w.heap.size 5 1 r (outN l ch n ram ti rs fa xs).length ((outN l ch n ram ti rs fa xs).map (Value.int .u8)) ∧ Below w.heap.size w w' := by
  have no : badN l ch n ram ti rs = true → ∀ (e : Ending) (w' : World), (e = .returned (.tuple #[.slice none 0 0, .int .i64 2]) ∧ Below w.heap.size w w') → ∃ r, e = .returned (.tuple #[r, .int .i64 (codeN l ch n ram ti rs)]) ∧ w'.ownsRow w.heap.size 5 1 r (outN l ch n ram ti rs fa xs).length ((outN l ch n ram ti rs fa xs).map (Value.int .u8)) ∧ Below w.heap.size w w' := by
    rintro hb e w' ⟨rfl, hbl⟩
    unfold codeN outN
    rw [hb]
    exact ⟨_, rfl, owns_nil _ _, hbl⟩
  cases e0 : !(isL l)
  case true => exact (make_no0 l ch ra n rc ram ti rs fa sa sn sc w l0 l1 hs e0).mono (no (by unfold badN; rw [e0]; rfl))
  case false =>
  cases e1 : decide (2 < ch)
  case true => exact (make_no1 l ch ra n rc ram ti rs fa sa sn sc w l0 l1 hs e0 e1).mono (no (by unfold badN; rw [e0, e1]; rfl))
  case false =>
  cases e2 : decide (sizeR ram = 255)
  case true => exact (make_no2 l ch ra n rc ram ti rs fa sa sn sc w l0 l1 hs e0 e1 e2).mono (no (by unfold badN; rw [e0, e1, e2]; rfl))
  case false =>
  cases e3 : badLen n
  case true => exact (make_no3 l ch ra n rc ram ti rs fa sa sn sc w l0 l1 hs e0 e1 e2 e3).mono (no (by unfold badN; rw [e0, e1, e2, e3]; rfl))
  case false =>
  cases e4 : decide ((n : Int) < placeN l + 64)
  case true => exact (make_no4 l ch ra n rc ram ti rs fa sa sn sc w l0 l1 hs e0 e1 e2 e3 e4).mono (no (by unfold badN; rw [e0, e1, e2, e3, e4]; rfl))
  case false =>
  cases e5 : badName ti
  case true => exact (make_no5 l ch ra n rc ram ti rs fa sa sn sc w l0 l1 hs e0 e1 e2 e3 e4 e5).mono (no (by unfold badN; rw [e0, e1, e2, e3, e4, e5]; rfl))
  case false =>
  cases e6 : decide (rs < 32768)
  case true => exact (make_no6 l ch ra n rc ram ti rs fa sa sn sc w l0 l1 hs e0 e1 e2 e3 e4 e5 e6).mono (no (by unfold badN; rw [e0, e1, e2, e3, e4, e5, e6]; rfl))
  case false =>
  have hb : badN l ch n ram ti rs = false := by unfold badN; rw [e0, e1, e2, e3, e4, e5, e6]; rfl
  refine (make_yes l ch ra n rc ram ti rs fa sa sn sc w l0 l1 hs e0 e1 e2 e3 e4 e5 e6 rs0 rs1 xs hr hn).mono ?_
  rintro e w' ⟨r, rfl, ho, hbl⟩
  unfold codeN outN
  rw [hb]
  refine ⟨r, rfl, ?_, hbl⟩
  show w'.ownsRow w.heap.size 5 1 r (madeN xs (placeN l).toNat ti l fa ch ram rs).length _
  rw [madeN_length, hn]
  exact ho

end Go.Proofs.YtjaeglllijafkaaDoor
