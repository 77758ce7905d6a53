/- Boxes of a few cells; the walks of On and Off. -/
import Derived.Test.YtecmebimgmmbaaaStepC
namespace Go.Proofs.Ytecmebimgmmbaaa
open Go.RowKit
set_option linter.unusedVariables false

/-- A box of two cells. -/
structure S2 (W : World) (b : Nat) (u v : Value) : Prop where
  c0 : W.cell? ⟨b, 0, none⟩ = some u
  c1 : W.cell? ⟨b, 1, none⟩ = some v
  f0 : W.frozen? ⟨b, 0, none⟩ = false
  f1 : W.frozen? ⟨b, 1, none⟩ = false
/-- A box of three cells. -/
structure S3 (W : World) (b : Nat) (u v x : Value) : Prop where
  c0 : W.cell? ⟨b, 0, none⟩ = some u
  c1 : W.cell? ⟨b, 1, none⟩ = some v
  c2 : W.cell? ⟨b, 2, none⟩ = some x
  f0 : W.frozen? ⟨b, 0, none⟩ = false
theorem S2.lt {W : World} {b : Nat} {u v : Value} (h : S2 W b u v) : b < W.heap.size := World.block_lt_of_cell? W _ h.c0
theorem S3.lt {W : World} {b : Nat} {u v x : Value} (h : S3 W b u v x) : b < W.heap.size := World.block_lt_of_cell? W _ h.c0
theorem S2.below {W W' : World} {b n : Nat} {u v : Value} (h : S2 W b u v) (hb : Below n W W') (hn : b < n) : S2 W' b u v :=
  ⟨(hb.cell (p := ⟨b, 0, none⟩) hn).trans h.c0, (hb.cell (p := ⟨b, 1, none⟩) hn).trans h.c1, (hb.frozen (p := ⟨b, 0, none⟩) hn).trans h.f0, (hb.frozen (p := ⟨b, 1, none⟩) hn).trans h.f1⟩
theorem S3.below {W W' : World} {b n : Nat} {u v x : Value} (h : S3 W b u v x) (hb : Below n W W') (hn : b < n) : S3 W' b u v x :=
  ⟨(hb.cell (p := ⟨b, 0, none⟩) hn).trans h.c0, (hb.cell (p := ⟨b, 1, none⟩) hn).trans h.c1, (hb.cell (p := ⟨b, 2, none⟩) hn).trans h.c2, (hb.frozen (p := ⟨b, 0, none⟩) hn).trans h.f0⟩
theorem S2.set {W : World} {b : Nat} {u v : Value} (h : S2 W b u v) (x y : Value) : S2 ((W.setCell ⟨b, 0, none⟩ x).setCell ⟨b, 1, none⟩ y) b x y := by
  have h0 := h.c0
  have h1 := h.c1
  refine ⟨by simp [go_sem, h0], by simp [go_sem, h1], ?_, ?_⟩
  · rw [World.frozen?_setCell, World.frozen?_setCell]; exact h.f0
  · rw [World.frozen?_setCell, World.frozen?_setCell]; exact h.f1
theorem S2.other {W : World} {b : Nat} {u v : Value} (h : S2 W b u v) (a : Addr) (hne : b ≠ a.block) (x : Value) : S2 (W.setCell a x) b u v := by
  refine ⟨?_, ?_, by rw [World.frozen?_setCell]; exact h.f0, by rw [World.frozen?_setCell]; exact h.f1⟩
  · rw [World.cell?_setCell_other _ _ _ _ (fun e => hne (by rw [e]))]; exact h.c0
  · rw [World.cell?_setCell_other _ _ _ _ (fun e => hne (by rw [e]))]; exact h.c1
theorem S3.other {W : World} {b : Nat} {u v z : Value} (h : S3 W b u v z) (a : Addr) (hne : b ≠ a.block) (x : Value) : S3 (W.setCell a x) b u v z := by
  refine ⟨?_, ?_, ?_, by rw [World.frozen?_setCell]; exact h.f0⟩
  · rw [World.cell?_setCell_other _ _ _ _ (fun e => hne (by rw [e]))]; exact h.c0
  · rw [World.cell?_setCell_other _ _ _ _ (fun e => hne (by rw [e]))]; exact h.c1
  · rw [World.cell?_setCell_other _ _ _ _ (fun e => hne (by rw [e]))]; exact h.c2

theorem lt_alloc {b : Nat} {W : World} {o : Obj} (h : b < W.heap.size) : b < (W.alloc o).heap.size := by simp; omega
theorem cell_alloc {W : World} {o : Obj} {a : Addr} {v : Value} (h : W.cell? a = some v) : (W.alloc o).cell? a = some v :=
  (((Below.refl W.heap.size W).alloc (Nat.le_refl _) o).cell (World.block_lt_of_cell? W _ h)).trans h
theorem alloc_kept {W1 W2 : World} {x y : Value} {T : TypeId} (hb : Below (W1.alloc (.cells #[x, y] T)).heap.size (W1.alloc (.cells #[x, y] T)) W2) : S2 W2 W1.heap.size x y :=
  S2.below (W := W1.alloc (.cells #[x, y] T)) ⟨by simp [go_sem], by simp [go_sem], by simp [go_sem], by simp [go_sem]⟩ hb (by simp)
theorem on_any (w : World) : Calls Try.prog 10 #[] w fun e w' => e = .returned (.agg #[.int .u8 1, .int .i64 0]) ∧ Below w.heap.size w w' := by
  go_enter Try.func10, Try.ntmps10
  go_wp2
  go_returns
  exact ⟨rfl, (Below.refl _ _).alloc (Nat.le_refl _) _⟩
theorem off_any (ph lv : Int) (w : World) : Calls Try.prog 11 #[.agg #[.int .u8 ph, .int .i64 lv]] w fun e w' => e = .returned (.agg #[.int .u8 0, .int .i64 (clampL lv)]) ∧ Below w.heap.size w w' := by
  go_enter Try.func11, Try.ntmps11
  go_wp2_with (go_at_call 13; refine (clamp_any _ _).mono ?_; rintro e w3 ⟨rfl, rfl⟩)
  go_returns
  exact ⟨rfl, ((Below.refl _ _).alloc (Nat.le_refl _) _).alloc (by simp) _⟩

theorem cell_set2 {W : World} {b : Nat} {x y v : Value} {p : Addr} (h : W.cell? p = some v) (hne : p.block ≠ b) : ((W.setCell ⟨b, 0, none⟩ x).setCell ⟨b, 1, none⟩ y).cell? p = some v := by
  rw [World.cell?_setCell_other _ _ _ _ (fun e => hne (by rw [← e])), World.cell?_setCell_other _ _ _ _ (fun e => hne (by rw [← e]))]
  exact h
end Go.Proofs.Ytecmebimgmmbaaa
