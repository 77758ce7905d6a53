/- A cartridge's table of places; a title's padding; a word put. -/
import Derived.Test.YtjaeglllijafkaaDoorProg
import Derived.Test.YtjaeglllijafkaaDoorKit
import Derived.Test.YtjaeglllijafkaaDoorCopy
import Derived.Test.YtjaeglllijafkaaDoorLib
import Derived.Test.YtjaeglllijafkaaDoorCartLeaf
namespace Go.Proofs.YtjaeglllijafkaaDoor
open Go.RowKit
set_option linter.unusedVariables false
set_option linter.unusedSimpArgs false

theorem layouts_walk (w : World) :
    Calls Tryd.prog 33 #[] w fun e w' => e = .returned (.agg #[.int .i64 0, .int .u8 0, .int .u8 0, .int .i64 32704, .int .u8 32, .int .u8 35, .int .i64 65472, .int .u8 33, .int .u8 33, .int .i64 4259776, .int .u8 37, .int .u8 37]) ∧ Below w.heap.size w w' := by
  go_enter Tryd.func33, Tryd.ntmps33
  go_wp2
  go_returns
  exact ⟨rfl, (Below.refl _ w).alloc (Nat.le_refl _) _⟩

def m0N (l : Int) : Int := if l = 1 then 32 else if l = 2 then 33 else if l = 3 then 37 else 0
def m1N (l : Int) : Int := if l = 1 then 35 else if l = 2 then 33 else if l = 3 then 37 else 0
def placeN (l : Int) : Int := if 1 ≤ l ∧ l ≤ 3 then atN l else 0

def isL (l : Int) : Bool := decide (1 ≤ l ∧ l ≤ 3)
theorem lay_index1 (W : World) : (Instr.index 68 (.agg #[.int .i64 0, .int .u8 0, .int .u8 0, .int .i64 32704, .int .u8 32, .int .u8 35, .int .i64 65472, .int .u8 33, .int .u8 33, .int .i64 4259776, .int .u8 37, .int .u8 37]) (.int .u8 1)).run Tryd.prog W = .ok (.agg #[.int .i64 32704, .int .u8 32, .int .u8 35]) W := by kernel_rfl
theorem lay_index2 (W : World) : (Instr.index 68 (.agg #[.int .i64 0, .int .u8 0, .int .u8 0, .int .i64 32704, .int .u8 32, .int .u8 35, .int .i64 65472, .int .u8 33, .int .u8 33, .int .i64 4259776, .int .u8 37, .int .u8 37]) (.int .u8 2)).run Tryd.prog W = .ok (.agg #[.int .i64 65472, .int .u8 33, .int .u8 33]) W := by kernel_rfl
theorem lay_index3 (W : World) : (Instr.index 68 (.agg #[.int .i64 0, .int .u8 0, .int .u8 0, .int .i64 32704, .int .u8 32, .int .u8 35, .int .i64 65472, .int .u8 33, .int .u8 33, .int .i64 4259776, .int .u8 37, .int .u8 37]) (.int .u8 3)).run Tryd.prog W = .ok (.agg #[.int .i64 4259776, .int .u8 37, .int .u8 37]) W := by kernel_rfl
theorem of_walk (l : Int) (w : World) (l0 : 0 ≤ l) (l1 : l ≤ 255) :
    Calls Tryd.prog 23 #[.int .u8 l] w fun e w' => e = .returned (.tuple #[.agg #[.int .i64 (placeN l), .int .u8 (m0N l), .int .u8 (m1N l)], .bool (isL l)]) ∧ Below w.heap.size w w' := by
  by_cases h1 : l = 1
  · subst h1
    have ix := lay_index1
    go_enter Tryd.func23, Tryd.ntmps23
    go_wp2_with (go_at_call 33; refine (layouts_walk _).mono ?_; rintro e w1 ⟨rfl, hb⟩; have c0 : w1.cell? ⟨w.heap.size, 0, none⟩ = some (.int .i64 0) := (hb.cell (p := ⟨w.heap.size, 0, none⟩) (by simp)).trans (by simp [go_sem]); have c1 : w1.cell? ⟨w.heap.size, 1, none⟩ = some (.int .u8 0) := (hb.cell (p := ⟨w.heap.size, 1, none⟩) (by simp)).trans (by simp [go_sem]); have c2 : w1.cell? ⟨w.heap.size, 2, none⟩ = some (.int .u8 0) := (hb.cell (p := ⟨w.heap.size, 2, none⟩) (by simp)).trans (by simp [go_sem]); have f0 : w1.frozen? ⟨w.heap.size, 0, none⟩ = false := (hb.frozen (p := ⟨w.heap.size, 0, none⟩) (by simp)).trans (by simp [go_sem]); have f1 : w1.frozen? ⟨w.heap.size, 1, none⟩ = false := (hb.frozen (p := ⟨w.heap.size, 1, none⟩) (by simp)).trans (by simp [go_sem]); have f2 : w1.frozen? ⟨w.heap.size, 2, none⟩ = false := (hb.frozen (p := ⟨w.heap.size, 2, none⟩) (by simp)).trans (by simp [go_sem]); have HB := Lib.hid (below_step ((Below.refl _ w).alloc (Nat.le_refl _) _) (by simp) hb); clear hb)
    refine bodyPost_ret (by simp [results, Tryd.results23, go_sem, c0, c1, c2]; try rfl) rfl ?_
    exact ⟨rfl, by repeat (first | exact HB.out | refine Below.setCell ?_ (by simp) _)⟩
  by_cases h2 : l = 2
  · subst h2
    have ix := lay_index2
    go_enter Tryd.func23, Tryd.ntmps23
    go_wp2_with (go_at_call 33; refine (layouts_walk _).mono ?_; rintro e w1 ⟨rfl, hb⟩; have c0 : w1.cell? ⟨w.heap.size, 0, none⟩ = some (.int .i64 0) := (hb.cell (p := ⟨w.heap.size, 0, none⟩) (by simp)).trans (by simp [go_sem]); have c1 : w1.cell? ⟨w.heap.size, 1, none⟩ = some (.int .u8 0) := (hb.cell (p := ⟨w.heap.size, 1, none⟩) (by simp)).trans (by simp [go_sem]); have c2 : w1.cell? ⟨w.heap.size, 2, none⟩ = some (.int .u8 0) := (hb.cell (p := ⟨w.heap.size, 2, none⟩) (by simp)).trans (by simp [go_sem]); have f0 : w1.frozen? ⟨w.heap.size, 0, none⟩ = false := (hb.frozen (p := ⟨w.heap.size, 0, none⟩) (by simp)).trans (by simp [go_sem]); have f1 : w1.frozen? ⟨w.heap.size, 1, none⟩ = false := (hb.frozen (p := ⟨w.heap.size, 1, none⟩) (by simp)).trans (by simp [go_sem]); have f2 : w1.frozen? ⟨w.heap.size, 2, none⟩ = false := (hb.frozen (p := ⟨w.heap.size, 2, none⟩) (by simp)).trans (by simp [go_sem]); have HB := Lib.hid (below_step ((Below.refl _ w).alloc (Nat.le_refl _) _) (by simp) hb); clear hb)
    refine bodyPost_ret (by simp [results, Tryd.results23, go_sem, c0, c1, c2]; try rfl) rfl ?_
    exact ⟨rfl, by repeat (first | exact HB.out | refine Below.setCell ?_ (by simp) _)⟩
  by_cases h3 : l = 3
  · subst h3
    have ix := lay_index3
    go_enter Tryd.func23, Tryd.ntmps23
    go_wp2_with (go_at_call 33; refine (layouts_walk _).mono ?_; rintro e w1 ⟨rfl, hb⟩; have c0 : w1.cell? ⟨w.heap.size, 0, none⟩ = some (.int .i64 0) := (hb.cell (p := ⟨w.heap.size, 0, none⟩) (by simp)).trans (by simp [go_sem]); have c1 : w1.cell? ⟨w.heap.size, 1, none⟩ = some (.int .u8 0) := (hb.cell (p := ⟨w.heap.size, 1, none⟩) (by simp)).trans (by simp [go_sem]); have c2 : w1.cell? ⟨w.heap.size, 2, none⟩ = some (.int .u8 0) := (hb.cell (p := ⟨w.heap.size, 2, none⟩) (by simp)).trans (by simp [go_sem]); have f0 : w1.frozen? ⟨w.heap.size, 0, none⟩ = false := (hb.frozen (p := ⟨w.heap.size, 0, none⟩) (by simp)).trans (by simp [go_sem]); have f1 : w1.frozen? ⟨w.heap.size, 1, none⟩ = false := (hb.frozen (p := ⟨w.heap.size, 1, none⟩) (by simp)).trans (by simp [go_sem]); have f2 : w1.frozen? ⟨w.heap.size, 2, none⟩ = false := (hb.frozen (p := ⟨w.heap.size, 2, none⟩) (by simp)).trans (by simp [go_sem]); have HB := Lib.hid (below_step ((Below.refl _ w).alloc (Nat.le_refl _) _) (by simp) hb); clear hb)
    refine bodyPost_ret (by simp [results, Tryd.results23, go_sem, c0, c1, c2]; try rfl) rfl ?_
    exact ⟨rfl, by repeat (first | exact HB.out | refine Below.setCell ?_ (by simp) _)⟩
  have e : (if l = 0 then 0 else l) = l := by split <;> omega
  have e1 : placeN l = 0 := by unfold placeN; rw [if_neg (by omega)]
  have e2 : m0N l = 0 := by unfold m0N; rw [if_neg h1, if_neg h2, if_neg h3]
  have e3 : m1N l = 0 := by unfold m1N; rw [if_neg h1, if_neg h2, if_neg h3]
  have e4 : isL l = false := decide_eq_false (by omega)
  rw [e1, e2, e3, e4]
  clear e e1 e2 e3 e4
  by_cases hl : l < 1
  · go_enter Tryd.func23, Tryd.ntmps23
    go_wp2_with fail
    refine bodyPost_ret (by simp [results, Tryd.results23, go_sem]; try rfl) rfl ?_
    exact ⟨rfl, by repeat (first | exact (Below.refl _ w).alloc (Nat.le_refl _) _ | refine Below.setCell ?_ (by simp) _)⟩
  · have hg : 3 < l := by omega
    go_enter Tryd.func23, Tryd.ntmps23
    go_wp2_with fail
    refine bodyPost_ret (by simp [results, Tryd.results23, go_sem]; try rfl) rfl ?_
    exact ⟨rfl, by repeat (first | exact (Below.refl _ w).alloc (Nat.le_refl _) _ | refine Below.setCell ?_ (by simp) _)⟩

theorem put_walk (G o len cap : Nat) (at_ : Nat) (x : Int) (u v : Value) (w : World) (x0 : 0 ≤ x) (x1 : x ≤ 65535) (hl : at_ + 1 < len) (hm : len ≤ 281474976710656)
    (c0 : w.cell? ⟨G, o + at_, none⟩ = some u) (c1 : w.cell? ⟨G, o + (at_ + 1), none⟩ = some v)
    (f0 : w.frozen? ⟨G, o + at_, none⟩ = false) (f1 : w.frozen? ⟨G, o + (at_ + 1), none⟩ = false) :
    Calls Tryd.prog 36 #[.slice (some ⟨G, o, none⟩) len cap, .int .i64 at_, .int .u16 x] w fun e w' => e = .returned (.tuple #[]) ∧ w' = (w.setCell ⟨G, o + at_, none⟩ (.int .u8 (x % 256))).setCell ⟨G, o + (at_ + 1), none⟩ (.int .u8 (x / 256)) := by
  have i0 : (at_ : Int) < (len : Int) := by omega
  have i1 : (at_ : Int) + 1 < (len : Int) := by omega
  have i2 : 0 ≤ (at_ : Int) := by omega
  go_enter Tryd.func36, Tryd.ntmps36
  go_wp2
  go_returns
  exact ⟨rfl, rfl⟩
end Go.Proofs.YtjaeglllijafkaaDoor
