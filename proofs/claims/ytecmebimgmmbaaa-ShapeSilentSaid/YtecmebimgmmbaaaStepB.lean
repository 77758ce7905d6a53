/- The walks of gains and phases. -/
import Derived.Test.YtecmebimgmmbaaaStepA
namespace Go.Proofs.Ytecmebimgmmbaaa
open Go.RowKit
set_option linter.unusedVariables false

set_option maxHeartbeats 1000000 in
theorem gained_any (lv ga n : Int) (l0 : 0 ≤ lv) (l1 : lv ≤ 2047) (g0 : 0 ≤ ga) (g1 : ga ≤ 255) (w : World) :
    Calls Try.prog 15 #[.int .i64 lv, .int .u8 ga, .int .i64 n] w fun e w' => (∃ r, e = .returned (.int .i64 r) ∧ -4096 ≤ r ∧ r ≤ 4096) ∧ Below w.heap.size w w' := by
  have h1 := and128 ga g0 g1
  have hm := andMask ga g0 g1
  obtain ⟨h31, -, -, h3⟩ := hm
  by_cases hs : ga < 128
  · rw [decide_eq_true hs] at h1
    clear h31 h3
    go_enter Try.func15, Try.ntmps15
    go_wp2_with fail
    go_ret
    exact ⟨⟨_, rfl, by omega, by omega⟩, Below.refl _ _⟩
  · rw [decide_eq_false hs] at h1
    have HB := Lib.hid (fun W => beats_free (ga % 32) n (by omega) (by omega) W)
    obtain ⟨B, hB⟩ : ∃ B, beatsN (ga % 32) n = B := ⟨_, rfl⟩
    rw [hB] at HB
    clear hB
    cases B
    · clear h3
      go_enter Try.func15, Try.ntmps15
      go_wp2_with fail
      go_at_call 9
      refine (HB.out _).mono ?_
      rintro e w1 ⟨rfl, hb⟩
      go_wp2_with fail
      go_ret
      exact ⟨⟨_, rfl, by omega, by omega⟩, hb⟩
    · have hj : ga / 32 % 4 = 0 ∨ ga / 32 % 4 = 1 ∨ ga / 32 % 4 = 2 ∨ ga / 32 % 4 = 3 := by omega
      rcases hj with hj | hj | hj | hj <;> rw [hj] at h3 <;> clear hj
      all_goals
        go_enter Try.func15, Try.ntmps15
        go_wp2_with fail
        go_at_call 9
        refine (HB.out _).mono ?_
        rintro e w1 ⟨rfl, hb⟩
        have HB1 := Lib.hid hb
        clear hb
        go_wp2_with fail
        go_at_call 18
        refine (changes_any _).mono ?_
        rintro e w2 ⟨rfl, hb2⟩
        have HB2 := Lib.hid (below_step HB1.out HB1.out.size hb2)
        clear hb2
        have ix0 : ∀ W : World, (Instr.index 45 (.agg #[.func (.func 19) #[] #[], .func (.func 17) #[] #[], .func (.func 20) #[] #[], .func (.func 21) #[] #[]]) (.int .u8 0)).run Try.prog W = .ok (.func (.func 19) #[] #[]) W := fun _ => by kernel_rfl
        have ix1 : ∀ W : World, (Instr.index 45 (.agg #[.func (.func 19) #[] #[], .func (.func 17) #[] #[], .func (.func 20) #[] #[], .func (.func 21) #[] #[]]) (.int .u8 1)).run Try.prog W = .ok (.func (.func 17) #[] #[]) W := fun _ => by kernel_rfl
        have ix2 : ∀ W : World, (Instr.index 45 (.agg #[.func (.func 19) #[] #[], .func (.func 17) #[] #[], .func (.func 20) #[] #[], .func (.func 21) #[] #[]]) (.int .u8 2)).run Try.prog W = .ok (.func (.func 20) #[] #[]) W := fun _ => by kernel_rfl
        have ix3 : ∀ W : World, (Instr.index 45 (.agg #[.func (.func 19) #[] #[], .func (.func 17) #[] #[], .func (.func 20) #[] #[], .func (.func 21) #[] #[]]) (.int .u8 3)).run Try.prog W = .ok (.func (.func 21) #[] #[]) W := fun _ => by kernel_rfl
        go_wp2_with fail
      · go_at_call 19
        refine (less_any lv l0 l1 _).mono ?_
        rintro e w3 ⟨⟨r, rfl, r0, r1⟩, rfl⟩
        go_wp2_with fail
        go_ret
        exact ⟨⟨_, rfl, by omega, by omega⟩, HB2.out⟩
      · go_at_call 17
        refine (down_any lv l0 (by omega) _).mono ?_
        rintro e w3 ⟨rfl, rfl⟩
        have hd := downL_bounds lv l0
        go_wp2_with fail
        go_ret
        exact ⟨⟨_, rfl, by omega, by omega⟩, HB2.out⟩
      · go_at_call 20
        refine (more_any lv l0 l1 _).mono ?_
        rintro e w3 ⟨⟨r, rfl, r0, r1⟩, rfl⟩
        go_wp2_with fail
        go_ret
        exact ⟨⟨_, rfl, by omega, by omega⟩, HB2.out⟩
      · go_at_call 21
        refine (bent_any lv l0 l1 _).mono ?_
        rintro e w3 ⟨⟨r, rfl, r0, r1⟩, rfl⟩
        go_wp2_with fail
        go_ret
        exact ⟨⟨_, rfl, by omega, by omega⟩, HB2.out⟩

/-- What a shape that goes by its phase may come to. -/
def PassedR (ph lv at_ ph' lv' : Int) : Prop :=
  0 ≤ lv' ∧ lv' ≤ 4096 ∧ (ph' = ph ∨ ph' = 2 ∨ ph' = 3) ∧ (ph = 1 → lv ≤ lv' ∧ (at_ % 16 = 15 → lv' = lv + 1024 ∧ ph' = if 2047 ≤ lv + 1024 then 2 else 1)) ∧ (ph ≠ 1 → lv' ≤ lv)

set_option maxHeartbeats 2000000 in
theorem passed_any (ph lv at_ su ga n : Int) (p0 : 0 ≤ ph) (p1 : ph ≤ 255) (l0 : 0 ≤ lv) (l1 : lv ≤ 2047) (a0 : 0 ≤ at_) (a1 : at_ ≤ 255) (s0 : 0 ≤ su) (s1 : su ≤ 255) (w : World) :
    Calls Try.prog 14 #[.agg #[.int .u8 ph, .int .i64 lv], .agg #[.int .u8 at_, .int .u8 su, .int .u8 ga], .int .i64 n] w fun e w' =>
      (∃ ph' lv', e = .returned (.agg #[.int .u8 ph', .int .i64 lv']) ∧ PassedR ph lv at_ ph' lv') ∧ Below w.heap.size w w' := by
  by_cases h1 : ph = 1
  · subst h1
    have HA := Lib.hid (fun W => attacked_any 1 lv at_ su ga n l0 l1 a0 a1 W)
    go_enter Try.func14, Try.ntmps14
    go_wp2_with fail
    go_at_call 16
    refine (HA.out _).mono ?_
    rintro e w1 ⟨⟨ph', lv', rfl, q1, q2, q3, q4⟩, hb⟩
    have r0 : w1.cell? ⟨w.heap.size + 1 + 1, 0, none⟩ = some (.int .u8 0) := (hb.cell (p := ⟨w.heap.size + 1 + 1, 0, none⟩) (by simp)).trans (by simp [go_sem])
    have g0 : w1.frozen? ⟨w.heap.size + 1 + 1, 0, none⟩ = false := (hb.frozen (p := ⟨w.heap.size + 1 + 1, 0, none⟩) (by simp)).trans (by simp [go_sem])
    have r1 : w1.cell? ⟨w.heap.size + 1 + 1, 1, none⟩ = some (.int .i64 0) := (hb.cell (p := ⟨w.heap.size + 1 + 1, 1, none⟩) (by simp)).trans (by simp [go_sem])
    have g1 : w1.frozen? ⟨w.heap.size + 1 + 1, 1, none⟩ = false := (hb.frozen (p := ⟨w.heap.size + 1 + 1, 1, none⟩) (by simp)).trans (by simp [go_sem])
    have HBW := Lib.hid (below_step (below3 _ _ _ _) (by simp; omega) hb)
    have hq : ph' = 1 ∨ ph' = 2 ∨ ph' = 3 := by omega
    have Q4 := Lib.hid q4
    clear hb q4
    go_wp2_with fail
    refine bodyPost_ret (by simp [results, Try.results14, go_sem, r0, r1]; try rfl) rfl ?_
    refine ⟨⟨ph', lv', rfl, ⟨by omega, by omega, hq, fun _ => ⟨q2, Q4.out⟩, fun h => absurd rfl h⟩⟩, ?_⟩
    repeat (first | exact HBW.out | refine Below.setCell ?_ (by simp <;> omega) _)
  · have HB : Hid (∀ r, 0 ≤ r → r ≤ 31 → ∀ W, Calls Try.prog 9 #[.int .u8 r, .int .i64 n] W fun e w' => ∃ B : Bool, e = .returned (.bool B) ∧ Below W.heap.size W w') := fun r h0 h1 W => (beats_free r n h0 h1 W).mono fun e w' ⟨he, hb⟩ => ⟨_, he, hb⟩
    have hd := downL_bounds lv l0
    have hm := (andMask at_ a0 a1).2.2.1
    have HD := Lib.hid (fun W => down_any lv l0 (by omega) W)
    obtain ⟨dl, hdl⟩ : ∃ dl, downL lv = dl := ⟨_, rfl⟩
    rw [hdl] at hd HD
    clear hdl
    by_cases h2 : ph = 2
    · subst h2
      have e1 : (at_ / 16 % 8 * 2) % 256 = at_ / 16 % 8 * 2 := by omega
      have e2 : (16 + at_ / 16 % 8 * 2) % 256 = 16 + at_ / 16 % 8 * 2 := by omega
      go_enter Try.func14, Try.ntmps14
      go_wp2_with fail
      go_at_call 9
      refine (HB.out _ (by omega) (by omega) _).mono ?_
      rintro e w1 ⟨B, rfl, hb⟩
      have c0 : w1.cell? ⟨w.heap.size, 0, none⟩ = some (.int .u8 2) := (hb.cell (p := ⟨w.heap.size, 0, none⟩) (by simp; omega)).trans (by simp [go_sem])
      have f0 : w1.frozen? ⟨w.heap.size, 0, none⟩ = false := (hb.frozen (p := ⟨w.heap.size, 0, none⟩) (by simp; omega)).trans (by simp [go_sem])
      have c1 : w1.cell? ⟨w.heap.size, 1, none⟩ = some (.int .i64 lv) := (hb.cell (p := ⟨w.heap.size, 1, none⟩) (by simp; omega)).trans (by simp [go_sem])
      have f1 : w1.frozen? ⟨w.heap.size, 1, none⟩ = false := (hb.frozen (p := ⟨w.heap.size, 1, none⟩) (by simp; omega)).trans (by simp [go_sem])
      have k0 : w1.cell? ⟨w.heap.size + 1, 0, none⟩ = some (.int .u8 at_) := (hb.cell (p := ⟨w.heap.size + 1, 0, none⟩) (by simp)).trans (by simp [go_sem])
      have k1 : w1.cell? ⟨w.heap.size + 1, 1, none⟩ = some (.int .u8 su) := (hb.cell (p := ⟨w.heap.size + 1, 1, none⟩) (by simp)).trans (by simp [go_sem])
      have k2 : w1.cell? ⟨w.heap.size + 1, 2, none⟩ = some (.int .u8 ga) := (hb.cell (p := ⟨w.heap.size + 1, 2, none⟩) (by simp)).trans (by simp [go_sem])
      have r0 : w1.cell? ⟨w.heap.size + 1 + 1, 0, none⟩ = some (.int .u8 0) := (hb.cell (p := ⟨w.heap.size + 1 + 1, 0, none⟩) (by simp)).trans (by simp [go_sem])
      have g0 : w1.frozen? ⟨w.heap.size + 1 + 1, 0, none⟩ = false := (hb.frozen (p := ⟨w.heap.size + 1 + 1, 0, none⟩) (by simp)).trans (by simp [go_sem])
      have r1 : w1.cell? ⟨w.heap.size + 1 + 1, 1, none⟩ = some (.int .i64 0) := (hb.cell (p := ⟨w.heap.size + 1 + 1, 1, none⟩) (by simp)).trans (by simp [go_sem])
      have g1 : w1.frozen? ⟨w.heap.size + 1 + 1, 1, none⟩ = false := (hb.frozen (p := ⟨w.heap.size + 1 + 1, 1, none⟩) (by simp)).trans (by simp [go_sem])
      have HBW := Lib.hid (below_step (below3 _ _ _ _) (by simp; omega) hb)
      clear hb
      cases B
      all_goals
        go_wp2_with (go_at_call 17; refine (HD.out _).mono ?_; rintro e w3 ⟨rfl, rfl⟩)
        all_goals
          refine bodyPost_ret (by simp [results, Try.results14, go_sem, r0, r1]; try rfl) rfl ?_
          refine ⟨⟨_, _, rfl, ⟨by omega, by omega, by simp, fun h => absurd h (by omega), fun _ => by omega⟩⟩, ?_⟩
          repeat (first | exact HBW.out | refine Below.setCell ?_ (by simp <;> omega) _)
    · have hm2 := (andMask su s0 s1).1
      go_enter Try.func14, Try.ntmps14
      go_wp2_with fail
      go_at_call 9
      refine (HB.out _ (by omega) (by omega) _).mono ?_
      rintro e w1 ⟨B, rfl, hb⟩
      have c0 : w1.cell? ⟨w.heap.size, 0, none⟩ = some (.int .u8 ph) := (hb.cell (p := ⟨w.heap.size, 0, none⟩) (by simp; omega)).trans (by simp [go_sem])
      have f0 : w1.frozen? ⟨w.heap.size, 0, none⟩ = false := (hb.frozen (p := ⟨w.heap.size, 0, none⟩) (by simp; omega)).trans (by simp [go_sem])
      have c1 : w1.cell? ⟨w.heap.size, 1, none⟩ = some (.int .i64 lv) := (hb.cell (p := ⟨w.heap.size, 1, none⟩) (by simp; omega)).trans (by simp [go_sem])
      have f1 : w1.frozen? ⟨w.heap.size, 1, none⟩ = false := (hb.frozen (p := ⟨w.heap.size, 1, none⟩) (by simp; omega)).trans (by simp [go_sem])
      have k0 : w1.cell? ⟨w.heap.size + 1, 0, none⟩ = some (.int .u8 at_) := (hb.cell (p := ⟨w.heap.size + 1, 0, none⟩) (by simp)).trans (by simp [go_sem])
      have k1 : w1.cell? ⟨w.heap.size + 1, 1, none⟩ = some (.int .u8 su) := (hb.cell (p := ⟨w.heap.size + 1, 1, none⟩) (by simp)).trans (by simp [go_sem])
      have k2 : w1.cell? ⟨w.heap.size + 1, 2, none⟩ = some (.int .u8 ga) := (hb.cell (p := ⟨w.heap.size + 1, 2, none⟩) (by simp)).trans (by simp [go_sem])
      have r0 : w1.cell? ⟨w.heap.size + 1 + 1, 0, none⟩ = some (.int .u8 0) := (hb.cell (p := ⟨w.heap.size + 1 + 1, 0, none⟩) (by simp)).trans (by simp [go_sem])
      have g0 : w1.frozen? ⟨w.heap.size + 1 + 1, 0, none⟩ = false := (hb.frozen (p := ⟨w.heap.size + 1 + 1, 0, none⟩) (by simp)).trans (by simp [go_sem])
      have r1 : w1.cell? ⟨w.heap.size + 1 + 1, 1, none⟩ = some (.int .i64 0) := (hb.cell (p := ⟨w.heap.size + 1 + 1, 1, none⟩) (by simp)).trans (by simp [go_sem])
      have g1 : w1.frozen? ⟨w.heap.size + 1 + 1, 1, none⟩ = false := (hb.frozen (p := ⟨w.heap.size + 1 + 1, 1, none⟩) (by simp)).trans (by simp [go_sem])
      have HBW := Lib.hid (below_step (below3 _ _ _ _) (by simp; omega) hb)
      clear hb
      cases B
      all_goals
        go_wp2_with (go_at_call 17; refine (HD.out _).mono ?_; rintro e w3 ⟨rfl, rfl⟩)
        all_goals
          refine bodyPost_ret (by simp [results, Try.results14, go_sem, r0, r1]; try rfl) rfl ?_
          refine ⟨⟨_, _, rfl, ⟨by omega, by omega, by simp, fun h => absurd h (by omega), fun _ => by omega⟩⟩, ?_⟩
          repeat (first | exact HBW.out | refine Below.setCell ?_ (by simp <;> omega) _)

end Go.Proofs.Ytecmebimgmmbaaa
