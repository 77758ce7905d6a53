/- The walks of the statements' own helpers on slices: are bytes (samples) the same; a copy of bytes. For every two slices, nil and empty too. -/
import Derived.Test.YtpeieilbjadcfaaGreatDoorProg
import Derived.Test.YtpeieilbjadcfaaGreatDoorKit
namespace Go.Proofs.YtpeieilbjadcfaaGreatDoor
open Go.RowKit

theorem bytes_same (va vb : Value) (xs ys : List Int) (w : World) (ha : Row .u8 w va xs) (hb : Row .u8 w vb ys) (hl : xs.length = ys.length) :
    Calls Tryz.prog 8 #[va, vb] w fun e w' => e = .returned (.bool (eqB xs ys)) ∧ ∃ n, w' = w.drewN n := by
  have hm := ha.len
  unfold maxLen at hm
  rcases ha with ⟨a, cap, rfl, rfl, _⟩ | ⟨b, o, cap, rfl, h0, hc, -, hx⟩
  · obtain rfl : ys = [] := List.eq_nil_of_length_eq_zero hl.symm
    rcases hb with ⟨a2, cap2, rfl, _, _⟩ | ⟨b2, o2, cap2, _, h1, _⟩
    · go_enter Tryz.func8, Tryz.ntmps8
      go_wp2
      refine wp_loop_rounds 1 ?_; rw [rounds_succ]
      go_wp2
      go_ret
      exact ⟨rfl, 0, rfl⟩
    · simp at h1
  · rcases hb with ⟨a2, cap2, rfl, rfl, _⟩ | ⟨b2, o2, cap2, rfl, h1, hc2, -, hy⟩
    · simp at hl; subst hl; simp at h0
    · rw [← hl]
      have HX := Lib.hid hx
      have HY := Lib.hid hy
      have HL := Lib.hid hl
      clear hx hy hl h1 hc2
      go_enter Tryz.func8, Tryz.ntmps8
      go_wp2
      go_loopw [5] (fun i wr => ∃ k : Nat, k ≤ xs.length ∧ i = .int .i64 k ∧ (∃ m, wr = w.drewN m) ∧ Hid (∀ j, j < k → xs[j]?.getD 0 = ys[j]?.getD 0)) (fun i _ => xs.length - (intOf i).toNat)
      case atStart => exact ⟨0, Nat.zero_le _, rfl, ⟨0, rfl⟩, fun j hj => by omega⟩
      case round =>
        obtain ⟨k, hk, rfl, ⟨m, rfl⟩, hall⟩ := hrel
        by_cases hlt : k < xs.length
        · have c1 : w.cell? ⟨b, o + k, none⟩ = some (.int .u8 (xs[k]?.getD 0)) := HX.out k hlt
          have c2 : w.cell? ⟨b2, o2 + k, none⟩ = some (.int .u8 (ys[k]?.getD 0)) := HY.out k (by have := HL.out; omega)
          have i1 : (k : Int) < (xs.length : Int) := by omega
          have i2 : 0 ≤ (k : Int) := by omega
          obtain ⟨x, hx⟩ : ∃ x, xs[k]?.getD 0 = x := ⟨_, rfl⟩
          obtain ⟨y, hy⟩ : ∃ y, ys[k]?.getD 0 = y := ⟨_, rfl⟩
          rw [hx] at c1
          rw [hy] at c2
          have EX := Lib.hid hx
          have EY := Lib.hid hy
          clear hx hy
          by_cases he : x = y
          · have hb : (x != y) = false := by simp [he]
            have HE := Lib.hid he
            clear he
            go_wp2
            go_quiet (fail)
            go_wp2
            go_roundw
            case rel => exact ⟨k + 1, by omega, by go_num, ⟨_, rfl⟩, all_snoc hall (by rw [EX.out, EY.out]; exact HE.out)⟩
            case measure => simp [intOf]; omega
          · have hb : (x != y) = true := by simpa using he
            have HE := Lib.hid he
            clear he
            go_wp2
            go_quiet (fail)
            go_wp2
            go_ret
            exact ⟨ret_bool (eqB_of_one (j := k) (by rw [EX.out, EY.out]; exact HE.out)).symm, _, World.drewN_drewN _ _ _⟩
        · go_wp2
          go_ret
          exact ⟨ret_bool (eqB_of_all HL.out (fun j hj => hall j (by omega))).symm, _, rfl⟩

theorem bytes_any (va vb : Value) (xs ys : List Int) (w : World) (ha : Row .u8 w va xs) (hb : Row .u8 w vb ys) :
    Calls Tryz.prog 8 #[va, vb] w fun e w' => e = .returned (.bool (eqB xs ys)) ∧ ∃ n, w' = w.drewN n := by
  by_cases hl : xs.length = ys.length
  · exact bytes_same va vb xs ys w ha hb hl
  · have he := eqB_of_length hl
    obtain ⟨a, cap, rfl⟩ : ∃ a cap, va = .slice a xs.length cap := by rcases ha with ⟨a, cap, rfl, rfl, _⟩ | ⟨b, o, cap, rfl, _⟩ <;> exact ⟨_, _, rfl⟩
    obtain ⟨a2, cap2, rfl⟩ : ∃ a cap, vb = .slice a ys.length cap := by rcases hb with ⟨a, cap, rfl, rfl, _⟩ | ⟨b, o, cap, rfl, _⟩ <;> exact ⟨_, _, rfl⟩
    have hne : ((xs.length : Int) != (ys.length : Int)) = true := by rw [bne_iff_ne]; omega
    have HE := Lib.hid he
    clear ha hb he
    go_enter Tryz.func8, Tryz.ntmps8
    go_wp2
    go_ret
    exact ⟨ret_bool HE.out.symm, 0, rfl⟩
end Go.Proofs.YtpeieilbjadcfaaGreatDoor
