/- The row of tests; whether a cartridge may be made, by the first of them that speaks. -/
import Derived.Test.YtjaeglllijafkaaDoorProg
import Derived.Test.YtjaeglllijafkaaDoorCartMay
namespace Go.Proofs.YtjaeglllijafkaaDoor
open Go.RowKit
set_option linter.unusedVariables false
set_option linter.unusedSimpArgs false

def ptr (P : Nat) : Value := .pointer (some ⟨P, 0, none⟩)
/-- The seven functions. -/
def tests (P T I : Nat) : List Value := [.func (.func 42) #[] #[ptr I], .func (.func 43) #[] #[ptr P], .func (.func 44) #[] #[ptr P], .func (.func 45) #[] #[ptr P], .func (.func 46) #[] #[ptr P, ptr T], .func (.func 47) #[] #[ptr P], .func (.func 49) #[] #[ptr P]]

set_option maxRecDepth 100000 in
set_option maxHeartbeats 4000000 in
theorem mayNot_walk (l ch : Int) (ra : Option Addr) (n rc : Nat) (ram : Int) (ti : ByteArray) (rs : Int) (fa : Bool) (sa : Option Addr) (sn sc : Nat) (w : World) (l0 : 0 ≤ l) (l1 : l ≤ 255) :
    Calls Tryd.prog 32 #[.agg #[.int .u8 l, .int .u8 ch, .slice ra n rc, .int .i64 ram, .string ti, .int .u16 rs, .bool fa, .slice sa sn sc]] w fun e w' =>
      ∃ P T I Q, e = .returned (.slice (some ⟨Q, 0, none⟩) 7 7) ∧ CartAt w' P l ch (.slice ra n rc) ram ti rs fa (.slice sa sn sc) ∧ w'.cell? ⟨I, 0, none⟩ = some (.bool (isL l)) ∧ w'.cell? ⟨T, 0, none⟩ = some (.int .i64 (placeN l)) ∧
        (∀ j, j < 7 → w'.cell? ⟨Q, j, none⟩ = (tests P T I)[j]?) ∧ Below w.heap.size w w' := by
  go_enter Tryd.func32, Tryd.ntmps32
  go_upto_region 1 with fail
  obtain ⟨wB, hwB⟩ : ∃ wB, w.alloc (.cells #[.int .u8 l, .int .u8 ch, .slice ra n rc, .int .i64 ram, .string ti, .int .u16 rs, .bool fa, .slice sa sn sc] 36) = wB := ⟨_, rfl⟩
  have hC : CartAt wB w.heap.size l ch (.slice ra n rc) ram ti rs fa (.slice sa sn sc) := by
    rw [← hwB]
    exact ⟨by simp [go_sem], by simp [go_sem], by simp [go_sem], by simp [go_sem], by simp [go_sem], by simp [go_sem], by simp [go_sem], by simp [go_sem]⟩
  have hb0 : Below w.heap.size w wB := by rw [← hwB]; exact (Below.refl _ w).alloc (Nat.le_refl _) _
  have hz : w.heap.size < wB.heap.size := by rw [← hwB]; simp
  have c0 := hC.c0
  rw [hwB]
  have HC := Lib.hid hC
  have HB0 := Lib.hid hb0
  have HZ := Lib.hid hz
  clear hwB hC hb0 hz
  go_upto_region 2 with (go_at_call 23; refine (of_walk _ _ l0 l1).mono ?_; rintro e w1 ⟨rfl, hb⟩)
  obtain ⟨W2, hW2⟩ : ∃ W2, (w1.alloc (.cells #[.int .i64 (placeN l), .int .u8 (m0N l), .int .u8 (m1N l)] 56)).alloc (.cells #[.bool (isL l)] 4) = W2 := ⟨_, rfl⟩
  have t0 : W2.cell? ⟨w1.heap.size, 0, none⟩ = some (.int .i64 (placeN l)) := by rw [← hW2]; simp [go_sem]
  have t1 : W2.cell? ⟨w1.heap.size + 1, 0, none⟩ = some (.bool (isL l)) := by rw [← hW2]; simp [go_sem]
  have hb2 : Below w1.heap.size w1 W2 := by rw [← hW2]; exact ((Below.refl _ w1).alloc (Nat.le_refl _) _).alloc (by simp) _
  have hz2 : W2.heap.size = w1.heap.size + 1 + 1 := by rw [← hW2]; simp
  have hb3 := hb.trans (hb2.mono hb.size)
  have hs1 := Lib.hid hb.size
  have HC2 := Lib.hid (HC.out.keep hb3 HZ.out)
  have HB3 := Lib.hid (HB0.out.trans (hb3.mono (Nat.le_of_lt HZ.out)))
  obtain ⟨T, hT⟩ : ∃ T, w1.heap.size = T := ⟨_, rfl⟩
  have HT0 := Lib.hid t0
  have HT1 := Lib.hid t1
  have HZ2 := Lib.hid hz2
  rw [hW2]
  clear c0 t0 t1 hb2 hb3 hz2 hb hW2
  have hmf : ∀ (fn : Fn) (first cap : Array Value) (w : World), (Instr.makeFunc fn first cap).run Tryd.prog w = .ok (.func fn first cap) w := fun _ _ _ _ => rfl
  go_wp2_with fail
  go_returns
  have hba := fun o => (Below.refl W2.heap.size W2).alloc (Nat.le_refl _) o
  have hT1 : T < W2.heap.size := by rw [HZ2.out, hT]; omega
  have hT2 : T + 1 < W2.heap.size := by rw [HZ2.out, hT]; omega
  have hP : w.heap.size < W2.heap.size := Nat.lt_of_lt_of_le (Nat.lt_of_lt_of_le HZ.out hs1.out) (by rw [HZ2.out]; omega)
  have e0 := HT0.out
  have e1 := HT1.out
  rw [hT] at e0 e1
  refine ⟨w.heap.size, T, T + 1, W2.heap.size, rfl, HC2.out.keep (hba _) hP, ((hba _).cell hT2).trans e1, ((hba _).cell hT1).trans e0, fun j hj => ?_, HB3.out.alloc (Nat.le_of_lt hP) _⟩
  match j, hj with
  | 0, _ => simp [go_sem, tests, ptr]
  | 1, _ => simp [go_sem, tests, ptr]
  | 2, _ => simp [go_sem, tests, ptr]
  | 3, _ => simp [go_sem, tests, ptr]
  | 4, _ => simp [go_sem, tests, ptr]
  | 5, _ => simp [go_sem, tests, ptr]
  | 6, _ => simp [go_sem, tests, ptr]
end Go.Proofs.YtjaeglllijafkaaDoor
