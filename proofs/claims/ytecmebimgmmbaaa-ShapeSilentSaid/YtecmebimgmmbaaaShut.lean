/- The walk of the law ShapeSilent. -/
import Derived.Test.YtecmebimgmmbaaaBox
import Derived.Deep.RegionWith
import Derived.Deep.RegionHeld3
import Derived.Deep.LoopGhost
namespace Go.Proofs.Ytecmebimgmmbaaa
open Go.RowKit
set_option linter.unusedVariables false

theorem alloc_kept2 {W1 W2 : World} {x y : Value} {T : TypeId} (hb : Below (W1.alloc (.cells #[x, y] T)).drew.heap.size (W1.alloc (.cells #[x, y] T)).drew W2) : S2 W2 W1.heap.size x y :=
  S2.below (W := (W1.alloc (.cells #[x, y] T)).drew) ⟨by simp [go_sem], by simp [go_sem], by simp [go_sem], by simp [go_sem]⟩ hb (by simp)
theorem cell_put {W : World} {b : Nat} {x y v : Value} {p : Addr} (h : W.cell? p = some v) (hne : p.block < b) : ((W.setCell ⟨b, 0, none⟩ x).setCell ⟨b, 1, none⟩ y).cell? p = some v := cell_set2 h (Nat.ne_of_lt hne)
theorem or143 (x : Int) (h0 : 0 ≤ x) (h1 : x ≤ 255) : 128 ≤ bits BinOp.or IntKind.u8 x 143 ∧ bits BinOp.or IntKind.u8 x 143 ≤ 255 ∧ bits BinOp.or IntKind.u8 x 143 % 16 = 15 := by
  have h : ∀ n : Fin 256, 128 ≤ bits BinOp.or IntKind.u8 ((n.1 : Nat) : Int) 143 ∧ bits BinOp.or IntKind.u8 ((n.1 : Nat) : Int) 143 ≤ 255 ∧ bits BinOp.or IntKind.u8 ((n.1 : Nat) : Int) 143 % 16 = 15 := by decide +kernel
  have := h ⟨x.toNat, by omega⟩
  rwa [show (((⟨x.toNat, by omega⟩ : Fin 256).1 : Nat) : Int) = x from by show ((x.toNat : Nat) : Int) = x; omega] at this

/-- The level of a shape that was let go, behind k samples. -/
def fallL (l : Int) (k : Nat) : Int := clampL (l - 8 * (k : Int))
theorem fallL_zero (l : Int) (h0 : 0 ≤ l) (h1 : l ≤ 2047) : fallL l 0 = l := by unfold fallL; rw [show l - 8 * ((0 : Nat) : Int) = l from by omega]; exact clampL_id h0 h1
theorem fallL_succ (l : Int) (k : Nat) (h1 : l ≤ 2047) : clampL (clampL (fallL l k) - 8) = fallL l (k + 1) := by
  have hb := clampL_bounds (l - 8 * (k : Int))
  unfold fallL
  rw [clampL_id hb.1 hb.2]
  unfold clampL
  repeat (split <;> try omega)
theorem fallL_end (l : Int) (k : Nat) (hk : 256 ≤ k) (h1 : l ≤ 2047) : fallL l k = 0 := by unfold fallL clampL; repeat (split <;> try omega)
/-- A step of a shape that was let go. -/
theorem fall_any (l at_ su ga n : Int) (k : Nat) (h1 : l ≤ 2047) (a0 : 0 ≤ at_) (a1 : at_ ≤ 255) (s0 : 0 ≤ su) (s1 : su ≤ 255) (g0 : 0 ≤ ga) (g1 : ga ≤ 255) (w : World) :
    Calls Try.prog 12 #[.agg #[.int .u8 0, .int .i64 (fallL l k)], .agg #[.int .u8 at_, .int .u8 su, .int .u8 ga], .int .i64 n] w fun e w' =>
      e = .returned (.agg #[.int .u8 0, .int .i64 (fallL l (k + 1))]) ∧ Below w.heap.size w w' := by
  have hb := clampL_bounds (l - 8 * (k : Int))
  have hb' : 0 ≤ fallL l k ∧ fallL l k ≤ 2047 := hb
  refine (step_any 0 (fallL l k) at_ su ga n (by decide) (by decide) (by omega) (by omega) a0 a1 s0 s1 g0 g1 w).mono ?_
  rintro e w' ⟨⟨ph', lv', rfl, -, -, -, h, -⟩, hbl⟩
  obtain ⟨rfl, rfl⟩ := h rfl
  rw [fallL_succ l k h1]
  exact ⟨rfl, hbl⟩
theorem rise_one (at_ su ga n : Int) (a0 : 128 ≤ at_) (a1 : at_ ≤ 255) (a2 : at_ % 16 = 15) (s0 : 0 ≤ su) (s1 : su ≤ 255) (g0 : 0 ≤ ga) (g1 : ga ≤ 255) (w : World) :
    Calls Try.prog 12 #[.agg #[.int .u8 1, .int .i64 0], .agg #[.int .u8 at_, .int .u8 su, .int .u8 ga], .int .i64 n] w fun e w' =>
      e = .returned (.agg #[.int .u8 1, .int .i64 1024]) ∧ Below w.heap.size w w' := by
  refine (step_any 1 0 at_ su ga n (by decide) (by decide) (by decide) (by decide) (by omega) a1 s0 s1 g0 g1 w).mono ?_
  rintro e w' ⟨⟨ph', lv', rfl, -, -, -, -, h, -⟩, hbl⟩
  obtain ⟨rfl, rfl⟩ := (h a0 rfl).2 a2
  exact ⟨rfl, hbl⟩
theorem rise_two (at_ su ga n : Int) (a0 : 128 ≤ at_) (a1 : at_ ≤ 255) (a2 : at_ % 16 = 15) (s0 : 0 ≤ su) (s1 : su ≤ 255) (g0 : 0 ≤ ga) (g1 : ga ≤ 255) (w : World) :
    Calls Try.prog 12 #[.agg #[.int .u8 1, .int .i64 1024], .agg #[.int .u8 at_, .int .u8 su, .int .u8 ga], .int .i64 n] w fun e w' =>
      e = .returned (.agg #[.int .u8 2, .int .i64 2047]) ∧ Below w.heap.size w w' := by
  refine (step_any 1 1024 at_ su ga n (by decide) (by decide) (by decide) (by decide) (by omega) a1 s0 s1 g0 g1 w).mono ?_
  rintro e w' ⟨⟨ph', lv', rfl, -, -, -, -, h, -⟩, hbl⟩
  obtain ⟨rfl, rfl⟩ := (h a0 rfl).2 a2
  exact ⟨rfl, hbl⟩

set_option maxHeartbeats 4000000 in
theorem law_silent (ph lv at_ su ga n more : Int) (a0 : 0 ≤ at_) (a1 : at_ ≤ 255) (s0 : 0 ≤ su) (s1 : su ≤ 255) (g0 : 0 ≤ ga) (g1 : ga ≤ 255) (w : World) :
    Calls Try.prog 6 #[.agg #[.int .u8 ph, .int .i64 lv, .int .u8 at_, .int .u8 su, .int .u8 ga, .int .i64 n], .int .i64 more] w fun e w' => e = .returned (.bool true) ∧ Below w.heap.size w w' := by
  have hc := clampL_bounds lv
  have HO := Lib.hid (fun W => off_any ph lv W)
  obtain ⟨l, hl⟩ : ∃ l, clampL lv = l := ⟨_, rfl⟩
  rw [hl] at hc HO
  clear hl
  have HF := Lib.hid (fun n k W => fall_any l at_ su ga n k hc.2 a0 a1 s0 s1 g0 g1 W)
  go_enter Try.func6, Try.ntmps6
  go_wp2_with fail
  go_at_call 11
  refine (HO.out _).mono ?_
  rintro e w1 ⟨rfl, hb⟩
  obtain ⟨X, hX⟩ : ∃ X, w1.heap.size = X := ⟨_, rfl⟩
  have hXw : w.heap.size + 1 + 1 < X := by have := hb.size; simp at this; omega
  have HBW : Hid (Below w.heap.size w (w1.alloc (.cells #[.int .u8 0, .int .i64 l] 29))) := (below_step (below3 _ _ _ _) (by simp; omega) hb).alloc (by have := hb.size; simp at this; omega) _
  have HS3 : Hid (S3 (w1.alloc (.cells #[.int .u8 0, .int .i64 l] 29)) (w.heap.size + 1 + 1) (.int .u8 at_) (.int .u8 su) (.int .u8 ga)) := by
    have h0 : S3 (((w.alloc (.cells #[.int .u8 ph, .int .i64 lv, .int .u8 at_, .int .u8 su, .int .u8 ga, .int .i64 n] 39)).alloc (.cells #[.int .u8 ph, .int .i64 lv] 29)).alloc (.cells #[.int .u8 at_, .int .u8 su, .int .u8 ga] 32)) (w.heap.size + 1 + 1) (.int .u8 at_) (.int .u8 su) (.int .u8 ga) := ⟨by simp [go_sem], by simp [go_sem], by simp [go_sem], by simp [go_sem]⟩
    exact (h0.below hb h0.lt).below ((Below.refl w1.heap.size w1).alloc (Nat.le_refl _) _) (by omega)
  have HS2 : Hid (S2 (w1.alloc (.cells #[.int .u8 0, .int .i64 l] 29)) X (.int .u8 0) (.int .i64 (fallL l 0))) := by
    rw [fallL_zero l hc.1 hc.2, ← hX]
    exact ⟨by simp [go_sem], by simp [go_sem], by simp [go_sem], by simp [go_sem]⟩
  clear hb
  go_wp2_with fail
  generalize (w1.alloc (.cells #[.int .u8 0, .int .i64 l] 29)) = w2 at HBW HS3 HS2 ⊢
  clear hX
  go_loopg [9] 256 (fun gk v9 wr => ∃ k : Nat, k + gk = 256 ∧ v9 = .int .i64 k ∧ Hid (Below w.heap.size w wr) ∧ Hid (S3 wr (w.heap.size + 1 + 1) (.int .u8 at_) (.int .u8 su) (.int .u8 ga)) ∧ Hid (S2 wr X (.int .u8 0) (.int .i64 (fallL l k))))
  case atStart => exact ⟨0, by omega, rfl, HBW, HS3, HS2⟩
  case round =>
    obtain ⟨k, hk, rfl, HB, H3, H2⟩ := hrel
    have HK := Lib.hid hk
    clear hk
    by_cases hlt : k < 256
    · have i1 : (k : Int) < 256 := by omega
      have i2 : 0 ≤ (k : Int) := by omega
      have c0 := H3.out.c0
      have c1 := H3.out.c1
      have c2 := H3.out.c2
      have d0 := H2.out.c0
      have d1 := H2.out.c1
      have hlt3 := H3.out.lt
      have hlt2 := H2.out.lt
      go_wp2_with fail
      go_at_call 12
      refine (HF.out _ k _).mono ?_
      rintro e w3 ⟨rfl, hb3⟩
      have H3' := Lib.hid (H3.out.below hb3 hlt3)
      have h2' := H2.out.below hb3 hlt2
      have HB' := Lib.hid (below_step HB.out HB.out.size hb3)
      have e0 := h2'.c0
      have e1 := h2'.c1
      have f0 := h2'.f0
      have f1 := h2'.f1
      have H2' := Lib.hid h2'
      clear h2' hb3 c0 c1 c2 d0 d1 hlt3 hlt2
      go_wp2_with fail
      go_roundg (255 - k)
      case measure => have := HK.out; omega
      case rel => exact ⟨k + 1, by have := HK.out; omega, by go_num, (HB'.out.setCell (p := ⟨X, 0, none⟩) (by show _ ≤ X; omega) _).setCell (p := ⟨X, 1, none⟩) (by show _ ≤ X; omega) _, (H3'.out.other _ (by show _ ≠ X; omega) _).other _ (by show _ ≠ X; omega) _, H2'.out.set _ _⟩
    · have ek : fallL l k = 0 := fallL_end l k (by omega) hc.2
      have HZ : Hid (∀ j, 256 ≤ j → fallL l j = 0) := fun j hj => fallL_end l j hj hc.2
      have i1 : ¬ (k : Int) < 256 := by omega
      obtain ⟨wa, rfl⟩ : ∃ wa, wa = wr := ⟨_, rfl⟩
      have d0 := H2.out.c0
      have d1 := H2.out.c1
      rw [ek] at d1
      go_wp2_with fail
      have H2' : Hid (S2 wa X (.int .u8 0) (.int .i64 0)) := by have h := H2.out; rw [ek] at h; exact h
      have HF0 : Hid (∀ n W, Calls Try.prog 12 #[.agg #[.int .u8 0, .int .i64 0], .agg #[.int .u8 at_, .int .u8 su, .int .u8 ga], .int .i64 n] W fun e w' => e = .returned (.agg #[.int .u8 0, .int .i64 0]) ∧ Below W.heap.size W w') := fun n W => by
        have h := HF.out n 256 W
        rw [HZ.out 256 (by omega), HZ.out 257 (by omega)] at h
        exact h
      clear H2 d0 d1 ek
      go_loopg [10] 100 (fun gk v10 wr => ∃ j : Nat, j + gk = 100 ∧ v10 = .int .i64 j ∧ Hid (Below w.heap.size w wr) ∧ Hid (S3 wr (w.heap.size + 1 + 1) (.int .u8 at_) (.int .u8 su) (.int .u8 ga)) ∧ Hid (S2 wr X (.int .u8 0) (.int .i64 0)))
      case atStart => exact ⟨0, by omega, rfl, HB, H3, H2'⟩
      case round =>
        obtain ⟨j, hj, rfl, HBj, H3j, H2j⟩ := hrel
        have HJ := Lib.hid hj
        by_cases hlt : (j : Int) < more ∧ (j : Int) < 100
        · obtain ⟨j1, j2⟩ := hlt
          have j3 : 0 ≤ (j : Int) := by omega
          have c0 := H3j.out.c0
          have c1 := H3j.out.c1
          have c2 := H3j.out.c2
          have d0 := H2j.out.c0
          have d1 := H2j.out.c1
          have hlt3 := H3j.out.lt
          have hlt2 := H2j.out.lt
          clear hj
          go_wp2_with fail
          go_at_call 12
          refine (HF0.out _ _).mono ?_
          rintro e w3 ⟨rfl, hb3⟩
          have H3' := Lib.hid (H3j.out.below hb3 hlt3)
          have h2' := H2j.out.below hb3 hlt2
          have HB' := Lib.hid (below_step HBj.out HBj.out.size hb3)
          have e0 := h2'.c0
          have e1 := h2'.c1
          have f0 := h2'.f0
          have f1 := h2'.f1
          have H2' := Lib.hid h2'
          clear h2' hb3 c0 c1 c2 d0 d1 hlt3 hlt2
          go_wp2_with fail
          go_roundg (99 - j)
          case measure => have := HJ.out; omega
          case rel => exact ⟨j + 1, by have := HJ.out; omega, by go_num, (HB'.out.setCell (p := ⟨X, 0, none⟩) (by show _ ≤ X; omega) _).setCell (p := ⟨X, 1, none⟩) (by show _ ≤ X; omega) _, (H3'.out.other _ (by show _ ≠ X; omega) _).other _ (by show _ ≠ X; omega) _, H2'.out.set _ _⟩
        · have hor := or143 at_ a0 a1
          have R1 := Lib.hid (fun n W => rise_one (bits BinOp.or IntKind.u8 at_ 143) su ga n hor.1 hor.2.1 hor.2.2 s0 s1 g0 g1 W)
          have R2 := Lib.hid (fun n W => rise_two (bits BinOp.or IntKind.u8 at_ 143) su ga n hor.1 hor.2.1 hor.2.2 s0 s1 g0 g1 W)
          obtain ⟨A, hA⟩ : ∃ A, bits BinOp.or IntKind.u8 at_ 143 = A := ⟨_, rfl⟩
          rw [hA] at R1 R2
          clear hor
          have c0 := H3j.out.c0
          have c1 := H3j.out.c1
          have c2 := H3j.out.c2
          have f0 := H3j.out.f0
          have hg : ¬ ((j : Int) < more ∧ (j : Int) < 100) := hlt
          clear hj hlt
          obtain ⟨wb, rfl⟩ : ∃ wb, wb = wr := ⟨_, rfl⟩
          have K0 : (wb.setCell ⟨w.heap.size + 1 + 1, 0, none⟩ (.int .u8 A)).cell? ⟨w.heap.size + 1 + 1, 0, none⟩ = some (.int .u8 A) := by simp [go_sem, c0]
          have K1 : (wb.setCell ⟨w.heap.size + 1 + 1, 0, none⟩ (.int .u8 A)).cell? ⟨w.heap.size + 1 + 1, 1, none⟩ = some (.int .u8 su) := by simp [go_sem, c1]
          have K2 : (wb.setCell ⟨w.heap.size + 1 + 1, 0, none⟩ (.int .u8 A)).cell? ⟨w.heap.size + 1 + 1, 2, none⟩ = some (.int .u8 ga) := by simp [go_sem, c2]
          have HBX : Hid (Below w.heap.size w (wb.setCell ⟨w.heap.size + 1 + 1, 0, none⟩ (.int .u8 A))) := HBj.out.setCell (p := ⟨w.heap.size + 1 + 1, 0, none⟩) (by simp; omega) _
          rcases (by omega : ¬ (j : Int) < more ∨ ((j : Int) < more ∧ ¬ (j : Int) < 100)) with hg | ⟨hg2, hg⟩
          · clear HJ
            go_upto_region 18 with fail
            have HA := Lib.hid hA
            clear hA c0 c1 c2 f0
            generalize (wb.setCell ⟨w.heap.size + 1 + 1, 0, none⟩ (.int .u8 A)) = w8 at K0 K1 K2 HBX ⊢
            have hF : w.heap.size + 1 + 1 < w8.heap.size := World.block_lt_of_cell? w8 _ K0
            have k0 : w8.drew.cell? ⟨w.heap.size + 1 + 1, 0, none⟩ = some (.int .u8 A) := K0
            have k1 : w8.drew.cell? ⟨w.heap.size + 1 + 1, 1, none⟩ = some (.int .u8 su) := K1
            have k2 : w8.drew.cell? ⟨w.heap.size + 1 + 1, 2, none⟩ = some (.int .u8 ga) := K2
            have hF2 : w.heap.size + 1 + 1 < w8.drew.heap.size := hF
            have HBD : Below w.heap.size w w8.drew := HBX.out.drew
            have hmx : Try.prog.follows .mixedOrders = true := by kernel_rfl
            clear K0 K1 K2
            go_cut [11] (fun s11 wx => ∃ Y, s11 = .pointer (some ⟨Y, 0, none⟩) ∧ wx.cell? ⟨Y, 0, none⟩ = some (.int .u8 2) ∧ wx.cell? ⟨Y, 1, none⟩ = some (.int .i64 2047) ∧ Hid (Below w.heap.size w wx))
            case first =>
              go_region_held3 (fun w' => w'.cell? ⟨w.heap.size + 1 + 1, 0, none⟩ = some (.int .u8 A) ∧ w'.cell? ⟨w.heap.size + 1 + 1, 1, none⟩ = some (.int .u8 su) ∧ w'.cell? ⟨w.heap.size + 1 + 1, 2, none⟩ = some (.int .u8 ga)) (first | exact ⟨k0, k1, k2⟩ | exact ⟨cell_alloc k0, cell_alloc k1, cell_alloc k2⟩ | exact ⟨cell_put k0 (by show w.heap.size + 1 + 1 < _; omega), cell_put k1 (by show w.heap.size + 1 + 1 < _; omega), cell_put k2 (by show w.heap.size + 1 + 1 < _; omega)⟩ | exact ⟨cell_put (cell_alloc k0) (by show w.heap.size + 1 + 1 < _; omega), cell_put (cell_alloc k1) (by show w.heap.size + 1 + 1 < _; omega), cell_put (cell_alloc k2) (by show w.heap.size + 1 + 1 < _; omega)⟩ | go_keep) (first | (go_at_call 10; refine (on_any _).mono ?_; rintro e w' ⟨rfl, hb⟩; (try (have q := S2.below q hb q.lt)); (try (have q := alloc_kept hb)); (try (have q := alloc_kept2 hb)); have k0 := (hb.cell (p := ⟨w.heap.size + 1 + 1, 0, none⟩) (by first | exact hF2 | exact lt_alloc hF2)).trans (by first | exact k0 | exact cell_alloc k0); have k1 := (hb.cell (p := ⟨w.heap.size + 1 + 1, 1, none⟩) (by first | exact hF2 | exact lt_alloc hF2)).trans (by first | exact k1 | exact cell_alloc k1); have k2 := (hb.cell (p := ⟨w.heap.size + 1 + 1, 2, none⟩) (by first | exact hF2 | exact lt_alloc hF2)).trans (by first | exact k2 | exact cell_alloc k2); have HBD := (by first | exact below_step HBD HBD.size hb | exact below_step (HBD.alloc HBD.size _) (HBD.alloc HBD.size _).size hb : Below w.heap.size w w'); have hF2 : w.heap.size + 1 + 1 < w'.heap.size := Nat.lt_of_lt_of_le (by first | exact hF2 | exact lt_alloc hF2) hb.size; clear hb; (try (have y0 := q.c0; have y1 := q.c1; have z0 := q.f0; have z1 := q.f1; have hYF := q.lt)); (try simp only [World.size_drew] at y0 y1 z0 z1)) | (go_at_call 12; (first | with_reducible refine (R1.out _ _).mono ?_ | with_reducible refine (R2.out _ _).mono ?_); rintro e w' ⟨rfl, hb⟩; (try (have q := S2.below q hb q.lt)); (try (have q := alloc_kept hb)); (try (have q := alloc_kept2 hb)); have k0 := (hb.cell (p := ⟨w.heap.size + 1 + 1, 0, none⟩) (by first | exact hF2 | exact lt_alloc hF2)).trans (by first | exact k0 | exact cell_alloc k0); have k1 := (hb.cell (p := ⟨w.heap.size + 1 + 1, 1, none⟩) (by first | exact hF2 | exact lt_alloc hF2)).trans (by first | exact k1 | exact cell_alloc k1); have k2 := (hb.cell (p := ⟨w.heap.size + 1 + 1, 2, none⟩) (by first | exact hF2 | exact lt_alloc hF2)).trans (by first | exact k2 | exact cell_alloc k2); have HBD := (by first | exact below_step HBD HBD.size hb | exact below_step (HBD.alloc HBD.size _) (HBD.alloc HBD.size _).size hb : Below w.heap.size w w'); have hF2 : w.heap.size + 1 + 1 < w'.heap.size := Nat.lt_of_lt_of_le (by first | exact hF2 | exact lt_alloc hF2) hb.size; clear hb; (try (have y0 := q.c0; have y1 := q.c1; have z0 := q.f0; have z1 := q.f1; have hYF := q.lt)); (try simp only [World.size_drew] at y0 y1 z0 z1)))
              all_goals go_wp2_with fail
              all_goals
                go_meet
                first
                  | exact ⟨_, rfl, by simp [go_sem], by simp [go_sem], HBD.alloc HBD.size _⟩
                  | exact ⟨_, rfl, (q.set _ _).c0, (q.set _ _).c1, by refine Below.setCell (Below.setCell HBD ?_ _) ?_ _ <;> dsimp only <;> omega⟩
            case rest =>
              obtain ⟨Y, rfl, y0, y1, HBY⟩ := hcut
              go_wp2_with fail
              go_ret
              exact ⟨rfl, HBY.out⟩
          · clear HJ
            go_upto_region 18 with fail
            have HA := Lib.hid hA
            clear hA c0 c1 c2 f0
            generalize (wb.setCell ⟨w.heap.size + 1 + 1, 0, none⟩ (.int .u8 A)) = w8 at K0 K1 K2 HBX ⊢
            have hF : w.heap.size + 1 + 1 < w8.heap.size := World.block_lt_of_cell? w8 _ K0
            have k0 : w8.drew.cell? ⟨w.heap.size + 1 + 1, 0, none⟩ = some (.int .u8 A) := K0
            have k1 : w8.drew.cell? ⟨w.heap.size + 1 + 1, 1, none⟩ = some (.int .u8 su) := K1
            have k2 : w8.drew.cell? ⟨w.heap.size + 1 + 1, 2, none⟩ = some (.int .u8 ga) := K2
            have hF2 : w.heap.size + 1 + 1 < w8.drew.heap.size := hF
            have HBD : Below w.heap.size w w8.drew := HBX.out.drew
            have hmx : Try.prog.follows .mixedOrders = true := by kernel_rfl
            clear K0 K1 K2
            go_cut [11] (fun s11 wx => ∃ Y, s11 = .pointer (some ⟨Y, 0, none⟩) ∧ wx.cell? ⟨Y, 0, none⟩ = some (.int .u8 2) ∧ wx.cell? ⟨Y, 1, none⟩ = some (.int .i64 2047) ∧ Hid (Below w.heap.size w wx))
            case first =>
              go_region_held3 (fun w' => w'.cell? ⟨w.heap.size + 1 + 1, 0, none⟩ = some (.int .u8 A) ∧ w'.cell? ⟨w.heap.size + 1 + 1, 1, none⟩ = some (.int .u8 su) ∧ w'.cell? ⟨w.heap.size + 1 + 1, 2, none⟩ = some (.int .u8 ga)) (first | exact ⟨k0, k1, k2⟩ | exact ⟨cell_alloc k0, cell_alloc k1, cell_alloc k2⟩ | exact ⟨cell_put k0 (by show w.heap.size + 1 + 1 < _; omega), cell_put k1 (by show w.heap.size + 1 + 1 < _; omega), cell_put k2 (by show w.heap.size + 1 + 1 < _; omega)⟩ | exact ⟨cell_put (cell_alloc k0) (by show w.heap.size + 1 + 1 < _; omega), cell_put (cell_alloc k1) (by show w.heap.size + 1 + 1 < _; omega), cell_put (cell_alloc k2) (by show w.heap.size + 1 + 1 < _; omega)⟩ | go_keep) (first | (go_at_call 10; refine (on_any _).mono ?_; rintro e w' ⟨rfl, hb⟩; (try (have q := S2.below q hb q.lt)); (try (have q := alloc_kept hb)); (try (have q := alloc_kept2 hb)); have k0 := (hb.cell (p := ⟨w.heap.size + 1 + 1, 0, none⟩) (by first | exact hF2 | exact lt_alloc hF2)).trans (by first | exact k0 | exact cell_alloc k0); have k1 := (hb.cell (p := ⟨w.heap.size + 1 + 1, 1, none⟩) (by first | exact hF2 | exact lt_alloc hF2)).trans (by first | exact k1 | exact cell_alloc k1); have k2 := (hb.cell (p := ⟨w.heap.size + 1 + 1, 2, none⟩) (by first | exact hF2 | exact lt_alloc hF2)).trans (by first | exact k2 | exact cell_alloc k2); have HBD := (by first | exact below_step HBD HBD.size hb | exact below_step (HBD.alloc HBD.size _) (HBD.alloc HBD.size _).size hb : Below w.heap.size w w'); have hF2 : w.heap.size + 1 + 1 < w'.heap.size := Nat.lt_of_lt_of_le (by first | exact hF2 | exact lt_alloc hF2) hb.size; clear hb; (try (have y0 := q.c0; have y1 := q.c1; have z0 := q.f0; have z1 := q.f1; have hYF := q.lt)); (try simp only [World.size_drew] at y0 y1 z0 z1)) | (go_at_call 12; (first | with_reducible refine (R1.out _ _).mono ?_ | with_reducible refine (R2.out _ _).mono ?_); rintro e w' ⟨rfl, hb⟩; (try (have q := S2.below q hb q.lt)); (try (have q := alloc_kept hb)); (try (have q := alloc_kept2 hb)); have k0 := (hb.cell (p := ⟨w.heap.size + 1 + 1, 0, none⟩) (by first | exact hF2 | exact lt_alloc hF2)).trans (by first | exact k0 | exact cell_alloc k0); have k1 := (hb.cell (p := ⟨w.heap.size + 1 + 1, 1, none⟩) (by first | exact hF2 | exact lt_alloc hF2)).trans (by first | exact k1 | exact cell_alloc k1); have k2 := (hb.cell (p := ⟨w.heap.size + 1 + 1, 2, none⟩) (by first | exact hF2 | exact lt_alloc hF2)).trans (by first | exact k2 | exact cell_alloc k2); have HBD := (by first | exact below_step HBD HBD.size hb | exact below_step (HBD.alloc HBD.size _) (HBD.alloc HBD.size _).size hb : Below w.heap.size w w'); have hF2 : w.heap.size + 1 + 1 < w'.heap.size := Nat.lt_of_lt_of_le (by first | exact hF2 | exact lt_alloc hF2) hb.size; clear hb; (try (have y0 := q.c0; have y1 := q.c1; have z0 := q.f0; have z1 := q.f1; have hYF := q.lt)); (try simp only [World.size_drew] at y0 y1 z0 z1)))
              all_goals go_wp2_with fail
              all_goals
                go_meet
                first
                  | exact ⟨_, rfl, by simp [go_sem], by simp [go_sem], HBD.alloc HBD.size _⟩
                  | exact ⟨_, rfl, (q.set _ _).c0, (q.set _ _).c1, by refine Below.setCell (Below.setCell HBD ?_ _) ?_ _ <;> dsimp only <;> omega⟩
            case rest =>
              obtain ⟨Y, rfl, y0, y1, HBY⟩ := hcut
              go_wp2_with fail
              go_ret
              exact ⟨rfl, HBY.out⟩

theorem walk_silent (ph lv at_ su ga n more : Int) (w : World) (wp : (Lit.int .u8 ph).wf = true) (wl : (Lit.int .i64 lv).wf = true) (wa : (Lit.int .u8 at_).wf = true) (ws : (Lit.int .u8 su).wf = true) (wg : (Lit.int .u8 ga).wf = true) (wn : (Lit.int .i64 n).wf = true) (wm : (Lit.int .i64 more).wf = true) :
    Calls Try.prog 6 #[.agg #[.int .u8 ph, .int .i64 lv, .int .u8 at_, .int .u8 su, .int .u8 ga, .int .i64 n], .int .i64 more] w fun e w' => e = .returned (.bool true) ∧ Below w.heap.size w w' := by
  have ba := bounds_u8 wa
  have bs := bounds_u8 ws
  have bg := bounds_u8 wg
  exact law_silent ph lv at_ su ga n more (by omega) (by omega) (by omega) (by omega) (by omega) (by omega) w
end Go.Proofs.Ytecmebimgmmbaaa
