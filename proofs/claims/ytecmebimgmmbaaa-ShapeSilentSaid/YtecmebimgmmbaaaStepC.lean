/- The walk of a step. -/
import Derived.Test.YtecmebimgmmbaaaStepB
namespace Go.Proofs.Ytecmebimgmmbaaa
open Go.RowKit
set_option linter.unusedVariables false

/-- What a step may come to. -/
def StepR (ph lv at_ ph' lv' : Int) : Prop :=
  0 ≤ lv' ∧ lv' ≤ 2047 ∧ (ph' = ph ∨ ph' = 2 ∨ ph' = 3) ∧ (ph = 0 → ph' = 0 ∧ lv' = clampL (clampL lv - 8)) ∧ (128 ≤ at_ → ph = 1 → clampL lv ≤ lv' ∧ (at_ % 16 = 15 → lv' = clampL (clampL lv + 1024) ∧ ph' = if 2047 ≤ clampL lv + 1024 then 2 else 1)) ∧
    (128 ≤ at_ → ph ≠ 1 → lv' ≤ clampL lv)

set_option maxHeartbeats 2000000 in
theorem step_any (ph lv at_ su ga n : Int) (p0 : 0 ≤ ph) (p1 : ph ≤ 255) (l0 : -9223372036854775808 ≤ lv) (l1 : lv ≤ 9223372036854775807) (a0 : 0 ≤ at_) (a1 : at_ ≤ 255) (s0 : 0 ≤ su) (s1 : su ≤ 255) (g0 : 0 ≤ ga) (g1 : ga ≤ 255) (w : World) :
    Calls Try.prog 12 #[.agg #[.int .u8 ph, .int .i64 lv], .agg #[.int .u8 at_, .int .u8 su, .int .u8 ga], .int .i64 n] w fun e w' =>
      (∃ ph' lv', e = .returned (.agg #[.int .u8 ph', .int .i64 lv']) ∧ StepR ph lv at_ ph' lv') ∧ Below w.heap.size w w' := by
  have hc := clampL_bounds lv
  have h128 := and128 at_ a0 a1
  have HC := Lib.hid (fun x W => clamp_any x W)
  by_cases hp : ph = 0
  · subst hp
    go_enter Try.func12, Try.ntmps12
    go_wp2_with (go_at_call 13; refine (HC.out _ _).mono ?_; rintro e w3 ⟨rfl, rfl⟩)
    go_returns
    refine ⟨⟨_, _, rfl, ?_⟩, below3 _ _ _ _⟩
    have hb2 := clampL_bounds (clampL lv - 8)
    exact ⟨hb2.1, hb2.2, .inl rfl, fun _ => ⟨rfl, rfl⟩, fun _ h => absurd h (by decide), fun _ _ => by
      have h := clampL_mono (x := clampL lv - 8) (y := clampL lv) (by omega)
      rwa [clampL_id hc.1 hc.2] at h⟩
  · have np : (ph == 0) = false := by rw [beq_eq_false_iff_ne]; exact hp
    by_cases ha : at_ < 128
    · rw [decide_eq_true ha] at h128
      have HG := Lib.hid (fun W => gained_any (clampL lv) ga n hc.1 hc.2 g0 g1 W)
      go_enter Try.func12, Try.ntmps12
      go_wp2_with (go_at_call 13; refine (HC.out _ _).mono ?_; rintro e w3 ⟨rfl, rfl⟩)
      go_at_call 15
      refine (HG.out _).mono ?_
      rintro e w1 ⟨⟨r, rfl, ra, rb⟩, hb⟩
      have c0 : w1.cell? ⟨w.heap.size, 0, none⟩ = some (.int .u8 ph) := (hb.cell (p := ⟨w.heap.size, 0, none⟩) (by simp; omega)).trans (by simp [go_sem])
      have f0 : w1.frozen? ⟨w.heap.size, 0, none⟩ = false := (hb.frozen (p := ⟨w.heap.size, 0, none⟩) (by simp; omega)).trans (by simp [go_sem])
      have c1 : w1.cell? ⟨w.heap.size, 1, none⟩ = some (.int .i64 (clampL lv)) := (hb.cell (p := ⟨w.heap.size, 1, none⟩) (by simp; omega)).trans (by simp [go_sem])
      have f1 : w1.frozen? ⟨w.heap.size, 1, none⟩ = false := (hb.frozen (p := ⟨w.heap.size, 1, none⟩) (by simp; omega)).trans (by simp [go_sem])
      have r0 : w1.cell? ⟨w.heap.size + 1 + 1, 0, none⟩ = some (.int .u8 0) := (hb.cell (p := ⟨w.heap.size + 1 + 1, 0, none⟩) (by simp)).trans (by simp [go_sem])
      have g0 : w1.frozen? ⟨w.heap.size + 1 + 1, 0, none⟩ = false := (hb.frozen (p := ⟨w.heap.size + 1 + 1, 0, none⟩) (by simp)).trans (by simp [go_sem])
      have r1 : w1.cell? ⟨w.heap.size + 1 + 1, 1, none⟩ = some (.int .i64 0) := (hb.cell (p := ⟨w.heap.size + 1 + 1, 1, none⟩) (by simp)).trans (by simp [go_sem])
      have g1 : w1.frozen? ⟨w.heap.size + 1 + 1, 1, none⟩ = false := (hb.frozen (p := ⟨w.heap.size + 1 + 1, 1, none⟩) (by simp)).trans (by simp [go_sem])
      have HBW := Lib.hid (below_step (below3 _ _ _ _) (by simp; omega) hb)
      clear hb
      go_wp2_with (go_at_call 13; refine (HC.out _ _).mono ?_; rintro e w3 ⟨rfl, rfl⟩)
      refine bodyPost_ret (by simp [results, Try.results12, go_sem, r0, r1]; try rfl) rfl ?_
      refine ⟨⟨_, _, rfl, ?_⟩, ?_⟩
      · have hb2 := clampL_bounds r
        exact ⟨hb2.1, hb2.2, .inl rfl, fun h => absurd h hp, fun h => absurd h (by omega), fun h => absurd h (by omega)⟩
      · repeat (first | exact HBW.out | refine Below.setCell ?_ (by simp <;> omega) _)
    · rw [decide_eq_false ha] at h128
      have HP := Lib.hid (fun W => passed_any ph (clampL lv) at_ su ga n p0 p1 hc.1 hc.2 a0 a1 s0 s1 W)
      go_enter Try.func12, Try.ntmps12
      go_wp2_with (go_at_call 13; refine (HC.out _ _).mono ?_; rintro e w3 ⟨rfl, rfl⟩)
      go_at_call 14
      refine (HP.out _).mono ?_
      rintro e w1 ⟨⟨ph', lv', rfl, hR⟩, hb⟩
      have c0 : w1.cell? ⟨w.heap.size, 0, none⟩ = some (.int .u8 ph) := (hb.cell (p := ⟨w.heap.size, 0, none⟩) (by simp; omega)).trans (by simp [go_sem])
      have f0 : w1.frozen? ⟨w.heap.size, 0, none⟩ = false := (hb.frozen (p := ⟨w.heap.size, 0, none⟩) (by simp; omega)).trans (by simp [go_sem])
      have c1 : w1.cell? ⟨w.heap.size, 1, none⟩ = some (.int .i64 (clampL lv)) := (hb.cell (p := ⟨w.heap.size, 1, none⟩) (by simp; omega)).trans (by simp [go_sem])
      have f1 : w1.frozen? ⟨w.heap.size, 1, none⟩ = false := (hb.frozen (p := ⟨w.heap.size, 1, none⟩) (by simp; omega)).trans (by simp [go_sem])
      have r0 : w1.cell? ⟨w.heap.size + 1 + 1, 0, none⟩ = some (.int .u8 0) := (hb.cell (p := ⟨w.heap.size + 1 + 1, 0, none⟩) (by simp)).trans (by simp [go_sem])
      have g0 : w1.frozen? ⟨w.heap.size + 1 + 1, 0, none⟩ = false := (hb.frozen (p := ⟨w.heap.size + 1 + 1, 0, none⟩) (by simp)).trans (by simp [go_sem])
      have r1 : w1.cell? ⟨w.heap.size + 1 + 1, 1, none⟩ = some (.int .i64 0) := (hb.cell (p := ⟨w.heap.size + 1 + 1, 1, none⟩) (by simp)).trans (by simp [go_sem])
      have g1 : w1.frozen? ⟨w.heap.size + 1 + 1, 1, none⟩ = false := (hb.frozen (p := ⟨w.heap.size + 1 + 1, 1, none⟩) (by simp)).trans (by simp [go_sem])
      have HBW := Lib.hid (below_step (below3 _ _ _ _) (by simp; omega) hb)
      have HR := Lib.hid hR
      clear hb hR
      go_upto_region 7 with fail
      have C0 : ((w1.setCell ⟨w.heap.size, 0, none⟩ (.int .u8 ph')).setCell ⟨w.heap.size, 1, none⟩ (.int .i64 lv')).cell? ⟨w.heap.size, 0, none⟩ = some (.int .u8 ph') := by simp [go_sem, c0]
      have C1 : ((w1.setCell ⟨w.heap.size, 0, none⟩ (.int .u8 ph')).setCell ⟨w.heap.size, 1, none⟩ (.int .i64 lv')).cell? ⟨w.heap.size, 1, none⟩ = some (.int .i64 lv') := by simp [go_sem, c1]
      have xf0 : ((w1.setCell ⟨w.heap.size, 0, none⟩ (.int .u8 ph')).setCell ⟨w.heap.size, 1, none⟩ (.int .i64 lv')).frozen? ⟨w.heap.size, 0, none⟩ = false := by rw [World.frozen?_setCell, World.frozen?_setCell]; exact f0
      have xf1 : ((w1.setCell ⟨w.heap.size, 0, none⟩ (.int .u8 ph')).setCell ⟨w.heap.size, 1, none⟩ (.int .i64 lv')).frozen? ⟨w.heap.size, 1, none⟩ = false := by rw [World.frozen?_setCell, World.frozen?_setCell]; exact f1
      have R0 : ((w1.setCell ⟨w.heap.size, 0, none⟩ (.int .u8 ph')).setCell ⟨w.heap.size, 1, none⟩ (.int .i64 lv')).cell? ⟨w.heap.size + 1 + 1, 0, none⟩ = some (.int .u8 0) := by simp [go_sem, r0]
      have R1 : ((w1.setCell ⟨w.heap.size, 0, none⟩ (.int .u8 ph')).setCell ⟨w.heap.size, 1, none⟩ (.int .i64 lv')).cell? ⟨w.heap.size + 1 + 1, 1, none⟩ = some (.int .i64 0) := by simp [go_sem, r1]
      have xg0 : ((w1.setCell ⟨w.heap.size, 0, none⟩ (.int .u8 ph')).setCell ⟨w.heap.size, 1, none⟩ (.int .i64 lv')).frozen? ⟨w.heap.size + 1 + 1, 0, none⟩ = false := by rw [World.frozen?_setCell, World.frozen?_setCell]; exact g0
      have xg1 : ((w1.setCell ⟨w.heap.size, 0, none⟩ (.int .u8 ph')).setCell ⟨w.heap.size, 1, none⟩ (.int .i64 lv')).frozen? ⟨w.heap.size + 1 + 1, 1, none⟩ = false := by rw [World.frozen?_setCell, World.frozen?_setCell]; exact g1
      have HBX : Hid (Below w.heap.size w ((w1.setCell ⟨w.heap.size, 0, none⟩ (.int .u8 ph')).setCell ⟨w.heap.size, 1, none⟩ (.int .i64 lv'))) := (HBW.out.setCell (p := ⟨w.heap.size, 0, none⟩) (Nat.le_refl _) _).setCell (p := ⟨w.heap.size, 1, none⟩) (Nat.le_refl _) _
      generalize ((w1.setCell ⟨w.heap.size, 0, none⟩ (.int .u8 ph')).setCell ⟨w.heap.size, 1, none⟩ (.int .i64 lv')) = w7 at C0 C1 xf0 xf1 R0 R1 xg0 xg1 HBX ⊢
      clear c0 c1 f0 f1 r0 r1 g0 g1 HBW
      go_wp2_with (go_at_call 13; refine (HC.out _ _).mono ?_; rintro e w3 ⟨rfl, rfl⟩)
      refine bodyPost_ret (by simp [results, Try.results12, go_sem, R0, R1]; try rfl) rfl ?_
      refine ⟨⟨_, _, rfl, ?_⟩, ?_⟩
      · obtain ⟨q0, q1, q2, q3, q4⟩ := HR.out
        have hb2 := clampL_bounds lv'
        refine ⟨hb2.1, hb2.2, q2, fun h => absurd h hp, fun _ h1 => ⟨?_, fun h15 => ?_⟩, fun _ h1 => ?_⟩
        · have h := clampL_mono (q3 h1).1
          rwa [clampL_id hc.1 hc.2] at h
        · obtain ⟨e1, e2⟩ := (q3 h1).2 h15
          exact ⟨by rw [e1], e2⟩
        · have h := clampL_mono (q4 h1)
          rwa [clampL_id hc.1 hc.2] at h
      · repeat (first | exact HBX.out | refine Below.setCell ?_ (by simp <;> omega) _)
end Go.Proofs.Ytecmebimgmmbaaa
