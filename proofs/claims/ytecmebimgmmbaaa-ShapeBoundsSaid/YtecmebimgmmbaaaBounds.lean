/- The walk of the law ShapeBounds. -/
import Derived.Test.YtecmebimgmmbaaaBox
import Derived.Deep.LoopGhost
namespace Go.Proofs.Ytecmebimgmmbaaa
open Go.RowKit
set_option linter.unusedVariables false

/-- A row of turns in memory: four cells each. -/
def Turns (W : World) (v : Value) (m : Nat) : Prop :=
  ∃ a cap, v = .slice a m cap ∧ m ≤ maxLen ∧ (0 < m → ∃ b o, a = some ⟨b, o, none⟩ ∧ ∀ i, i < m → ∃ wh at_ su ga : Int, 0 ≤ at_ ∧ at_ ≤ 255 ∧ 0 ≤ su ∧ su ≤ 255 ∧ 0 ≤ ga ∧ ga ≤ 255 ∧
    W.cell? ⟨b, o + i * 4, none⟩ = some (.int .i64 wh) ∧ W.cell? ⟨b, o + i * 4 + 1, none⟩ = some (.int .u8 at_) ∧ W.cell? ⟨b, o + i * 4 + 2, none⟩ = some (.int .u8 su) ∧ W.cell? ⟨b, o + i * 4 + 3, none⟩ = some (.int .u8 ga))

set_option maxRecDepth 100000 in
set_option maxHeartbeats 4000000 in
theorem law_bounds (v : Value) (m : Nat) (n : Int) (w : World) (hr : Turns w v m) :
    Calls Try.prog 5 #[v, .int .i64 n] w fun e w' => e = .returned (.bool true) ∧ Below w.heap.size w w' := by
  obtain ⟨a, cap, rfl, hm, hx⟩ := hr
  have HX := Lib.hid hx
  unfold maxLen at hm
  clear hx
  go_enter Try.func5, Try.ntmps5
  go_wp2_with fail
  go_at_call 10
  refine (on_any _).mono ?_
  rintro e w1 ⟨rfl, hb⟩
  obtain ⟨X, hX⟩ : ∃ X, w1.heap.size = X := ⟨_, rfl⟩
  have hXw : w.heap.size ≤ X := by have := hb.size; omega
  have HBW : Hid (Below w.heap.size w (w1.alloc (.cells #[.int .u8 1, .int .i64 0] 29))) := hb.alloc hb.size _
  have HS2 : Hid (S2 (w1.alloc (.cells #[.int .u8 1, .int .i64 0] 29)) X (.int .u8 1) (.int .i64 0)) := by
    rw [← hX]
    exact ⟨by simp [go_sem], by simp [go_sem], by simp [go_sem], by simp [go_sem]⟩
  clear hb
  go_wp2_with fail
  generalize (w1.alloc (.cells #[.int .u8 1, .int .i64 0] 29)) = w2 at HBW HS2 ⊢
  clear hX
  go_loopg [1, 6] m (fun gk v1 v6 wr => ∃ (k : Nat) (q ph lv : Int), k + gk = m ∧ v1 = .int .i64 q ∧ v6 = .int .i64 k ∧ Hid (Below w.heap.size w wr) ∧ Hid (S2 wr X (.int .u8 ph) (.int .i64 lv)) ∧ 0 ≤ ph ∧ ph ≤ 3 ∧ 0 ≤ lv ∧ lv ≤ 2047)
  case atStart => exact ⟨0, _, 1, 0, by omega, rfl, rfl, HBW, HS2, by decide, by decide, by decide, by decide⟩
  case round =>
    obtain ⟨k, q, ph, lv, hk, rfl, rfl, HB, H2, p0, p1, l0, l1⟩ := hrel
    have HK := Lib.hid hk
    clear hk
    by_cases hlt : k < m
    · obtain ⟨b, o, rfl, hy⟩ := HX.out (by omega)
      obtain ⟨wh, at_, su, ga, a0, a1, s0, s1, g0, g1, t0, t1, t2, t3⟩ := hy k hlt
      have hbw : b < w.heap.size := World.block_lt_of_cell? w _ t0
      have c0 := (HB.out.cell (p := ⟨b, o + k * 4, none⟩) hbw).trans t0
      have c1 := (HB.out.cell (p := ⟨b, o + k * 4 + 1, none⟩) hbw).trans t1
      have c2 := (HB.out.cell (p := ⟨b, o + k * 4 + 2, none⟩) hbw).trans t2
      have c3 := (HB.out.cell (p := ⟨b, o + k * 4 + 3, none⟩) hbw).trans t3
      have i1 : (k : Int) < (m : Int) := by omega
      have i2 : 0 ≤ (k : Int) := by omega
      have d0 := H2.out.c0
      have d1 := H2.out.c1
      have hX2 := H2.out.lt
      clear hy t0 t1 t2 t3
      obtain ⟨WD, hWD⟩ : ∃ WD, (wr.alloc (.cells #[.int .i64 wh, .int .u8 at_, .int .u8 su, .int .u8 ga] 34)).alloc (.cells #[.int .u8 ph, .int .i64 lv] 29) = WD := ⟨_, rfl⟩
      have hbD : Below wr.heap.size wr WD := by rw [← hWD]; exact ((Below.refl _ wr).alloc (Nat.le_refl _) _).alloc (by simp) _
      have HBD := Lib.hid (below_step HB.out HB.out.size hbD)
      have H2D := Lib.hid (H2.out.below hbD hX2)
      have hX3 := H2D.out.lt
      have hXl : X < wr.heap.size := hX2
      have y0 : WD.cell? ⟨wr.heap.size, 1, none⟩ = some (.int .u8 at_) := by rw [← hWD]; simp [go_sem]
      have z0 : WD.cell? ⟨wr.heap.size + 1, 0, none⟩ = some (.int .u8 ph) := by rw [← hWD]; simp [go_sem]
      have z1 : WD.cell? ⟨wr.heap.size + 1, 1, none⟩ = some (.int .i64 lv) := by rw [← hWD]; simp [go_sem]
      have Y0 := Lib.hid y0
      have Z0 := Lib.hid z0
      have Z1 := Lib.hid z1
      have HWD := Lib.hid hWD
      clear y0 z0 z1 hbD hWD
      by_cases h0 : wh = 0
      · subst h0
        go_wp2_with fail
        go_at_call 10
        rw [HWD.out]
        refine (on_any _).mono ?_
        rintro e w3 ⟨rfl, hb3⟩
        have h2' := H2D.out.below hb3 hX3
        have HB3 := Lib.hid (below_step HBD.out HBD.out.size hb3)
        have e0 := h2'.c0
        have e1 := h2'.c1
        have f0 := h2'.f0
        have f1 := h2'.f1
        have H2' := Lib.hid h2'
        clear h2' hb3 c0 c1 c2 c3 d0 d1 hX2
        go_wp2_with fail
        go_roundg (m - (k + 1))
        case measure => have := HK.out; omega
        case rel => exact ⟨k + 1, q, 1, 0, by have := HK.out; omega, rfl, by go_num, (HB3.out.setCell (p := ⟨X, 0, none⟩) hXw _).setCell (p := ⟨X, 1, none⟩) hXw _, H2'.out.set _ _, by decide, by decide, by decide, by decide⟩
      · by_cases h1 : wh = 1
        · subst h1
          have hcl := clampL_id l0 l1
          have HOF := Lib.hid (fun W => off_any ph lv W)
          rw [hcl] at HOF
          clear hcl
          go_wp2_with fail
          go_at_call 11
          rw [HWD.out]
          refine (HOF.out _).mono ?_
          rintro e w3 ⟨rfl, hb3⟩
          have h2' := H2D.out.below hb3 hX3
          have HB3 := Lib.hid (below_step HBD.out HBD.out.size hb3)
          have e0 := h2'.c0
          have e1 := h2'.c1
          have f0 := h2'.f0
          have f1 := h2'.f1
          have H2' := Lib.hid h2'
          have z1 := (hb3.cell (p := ⟨wr.heap.size + 1, 1, none⟩) (World.block_lt_of_cell? WD _ Z1.out)).trans Z1.out
          clear h2' hb3 c0 c1 c2 c3 d0 d1 hX2
          go_upto_region 13 with fail
          have HS4 : Hid (S2 ((w3.setCell ⟨X, 0, none⟩ (.int .u8 0)).setCell ⟨X, 1, none⟩ (.int .i64 lv)) X (.int .u8 0) (.int .i64 lv)) := H2'.out.set _ _
          have HB4 : Hid (Below w.heap.size w ((w3.setCell ⟨X, 0, none⟩ (.int .u8 0)).setCell ⟨X, 1, none⟩ (.int .i64 lv))) := (HB3.out.setCell (p := ⟨X, 0, none⟩) hXw _).setCell (p := ⟨X, 1, none⟩) hXw _
          have z1 : ((w3.setCell ⟨X, 0, none⟩ (.int .u8 0)).setCell ⟨X, 1, none⟩ (.int .i64 lv)).cell? ⟨wr.heap.size + 1, 1, none⟩ = some (.int .i64 lv) := cell_set2 z1 (by have := hXl; exact (by omega : wr.heap.size + 1 ≠ X))
          generalize ((w3.setCell ⟨X, 0, none⟩ (.int .u8 0)).setCell ⟨X, 1, none⟩ (.int .i64 lv)) = w4 at HS4 HB4 z1 ⊢
          have e0 := HS4.out.c0
          have e1 := HS4.out.c1
          go_wp2_with fail
          go_roundg (m - (k + 1))
          case measure => have := HK.out; omega
          case rel => exact ⟨k + 1, q, 0, lv, by have := HK.out; omega, rfl, by go_num, HB4, HS4, by decide, by decide, l0, l1⟩
        · have HST := Lib.hid (fun W => step_any ph lv at_ su ga q p0 (by omega) (by omega) (by omega) a0 a1 s0 s1 g0 g1 W)
          go_wp2_with fail
          go_at_call 12
          rw [HWD.out]
          refine (HST.out _).mono ?_
          rintro e w3 ⟨⟨ph', lv', rfl, hR⟩, hb3⟩
          obtain ⟨q0, q1, q2, q3, q4, q5⟩ := hR
          rw [clampL_id l0 l1] at q3 q4 q5
          have Q3 := Lib.hid q3
          have Q4 := Lib.hid q4
          have Q5 := Lib.hid q5
          clear q3 q4 q5
          have h2' := H2D.out.below hb3 hX3
          have HB3 := Lib.hid (below_step HBD.out HBD.out.size hb3)
          have e0 := h2'.c0
          have e1 := h2'.c1
          have f0 := h2'.f0
          have f1 := h2'.f1
          have H2' := Lib.hid h2'
          have y0 := (hb3.cell (p := ⟨wr.heap.size, 1, none⟩) (World.block_lt_of_cell? WD _ Y0.out)).trans Y0.out
          have z0 := (hb3.cell (p := ⟨wr.heap.size + 1, 0, none⟩) (World.block_lt_of_cell? WD _ Z0.out)).trans Z0.out
          have z1 := (hb3.cell (p := ⟨wr.heap.size + 1, 1, none⟩) (World.block_lt_of_cell? WD _ Z1.out)).trans Z1.out
          clear h2' hb3 c0 c1 c2 c3 d0 d1 hX2
          go_upto_region 16 with fail
          have HS4 : Hid (S2 ((w3.setCell ⟨X, 0, none⟩ (.int .u8 ph')).setCell ⟨X, 1, none⟩ (.int .i64 lv')) X (.int .u8 ph') (.int .i64 lv')) := H2'.out.set _ _
          have HB4 : Hid (Below w.heap.size w ((w3.setCell ⟨X, 0, none⟩ (.int .u8 ph')).setCell ⟨X, 1, none⟩ (.int .i64 lv'))) := (HB3.out.setCell (p := ⟨X, 0, none⟩) hXw _).setCell (p := ⟨X, 1, none⟩) hXw _
          have y0 : ((w3.setCell ⟨X, 0, none⟩ (.int .u8 ph')).setCell ⟨X, 1, none⟩ (.int .i64 lv')).cell? ⟨wr.heap.size, 1, none⟩ = some (.int .u8 at_) := cell_set2 y0 (by have := hXl; exact (by omega : wr.heap.size ≠ X))
          have z0 : ((w3.setCell ⟨X, 0, none⟩ (.int .u8 ph')).setCell ⟨X, 1, none⟩ (.int .i64 lv')).cell? ⟨wr.heap.size + 1, 0, none⟩ = some (.int .u8 ph) := cell_set2 z0 (by have := hXl; exact (by omega : wr.heap.size + 1 ≠ X))
          have z1 : ((w3.setCell ⟨X, 0, none⟩ (.int .u8 ph')).setCell ⟨X, 1, none⟩ (.int .i64 lv')).cell? ⟨wr.heap.size + 1, 1, none⟩ = some (.int .i64 lv) := cell_set2 z1 (by have := hXl; exact (by omega : wr.heap.size + 1 ≠ X))
          generalize ((w3.setCell ⟨X, 0, none⟩ (.int .u8 ph')).setCell ⟨X, 1, none⟩ (.int .i64 lv')) = w4 at HS4 HB4 y0 z0 z1 ⊢
          have e0 := HS4.out.c0
          have e1 := HS4.out.c1
          have ph3 : 0 ≤ ph' ∧ ph' ≤ 3 := by omega
          have HF : Hid (S2 w4 X (.int .u8 ph') (.int .i64 lv')) := HS4
          by_cases hp0 : ph = 0
          · have hq3 := Q3.out hp0
            have lv8 : lv' ≤ lv := by
              have h := clampL_mono (x := lv - 8) (y := lv) (by omega)
              rw [clampL_id l0 l1] at h
              omega
            subst hp0
            by_cases ha : 128 ≤ at_
            · go_wp2_with fail
              go_roundg (m - (k + 1))
              case measure => have := HK.out; omega
              case rel => exact ⟨k + 1, _, _, _, by have := HK.out; omega, rfl, by go_num, HB4, HF, by omega, by omega, by omega, by omega⟩
            · go_wp2_with fail
              go_roundg (m - (k + 1))
              case measure => have := HK.out; omega
              case rel => exact ⟨k + 1, _, _, _, by have := HK.out; omega, rfl, by go_num, HB4, HF, by omega, by omega, by omega, by omega⟩
          · by_cases hp1 : ph = 1
            · by_cases ha : 128 ≤ at_
              · have h4 := (Q4.out ha hp1).1
                subst hp1
                go_wp2_with fail
                go_roundg (m - (k + 1))
                case measure => have := HK.out; omega
                case rel => exact ⟨k + 1, _, _, _, by have := HK.out; omega, rfl, by go_num, HB4, HF, by omega, by omega, by omega, by omega⟩
              · subst hp1
                go_wp2_with fail
                go_roundg (m - (k + 1))
                case measure => have := HK.out; omega
                case rel => exact ⟨k + 1, _, _, _, by have := HK.out; omega, rfl, by go_num, HB4, HF, by omega, by omega, by omega, by omega⟩
            · by_cases ha : 128 ≤ at_
              · have h5 := Q5.out ha hp1
                go_wp2_with fail
                go_roundg (m - (k + 1))
                case measure => have := HK.out; omega
                case rel => exact ⟨k + 1, _, _, _, by have := HK.out; omega, rfl, by go_num, HB4, HF, by omega, by omega, by omega, by omega⟩
              · go_wp2_with fail
                go_roundg (m - (k + 1))
                case measure => have := HK.out; omega
                case rel => exact ⟨k + 1, _, _, _, by have := HK.out; omega, rfl, by go_num, HB4, HF, by omega, by omega, by omega, by omega⟩
    · obtain rfl : k = m := by have := HK.out; omega
      go_wp2_with fail
      go_ret
      exact ⟨rfl, HB.out⟩
end Go.Proofs.Ytecmebimgmmbaaa
