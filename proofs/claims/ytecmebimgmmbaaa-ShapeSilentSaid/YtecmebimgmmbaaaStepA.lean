/- The walks of the parts of a step: a level's bounds, gains, attacks. -/
import Derived.Test.YtecmebimgmmbaaaBeats
import Derived.Deep.QuietTactic
import Derived.BigQuiet
import Derived.Laws.EntriesVeiled
import Derived.WalkLawsBesides
import Derived.WalkSpells
namespace Go.Proofs.Ytecmebimgmmbaaa
open Go.RowKit
set_option linter.unusedVariables false

theorem beats_free (r n : Int) (h0 : 0 ≤ r) (h1 : r ≤ 31) (w : World) :
    Calls Try.prog 9 #[.int .u8 r, .int .i64 n] w fun e w' => e = .returned (.bool (beatsN r n)) ∧ Below w.heap.size w w' := by
  have hf := period_facts r.toNat (by omega)
  rw [show ((r.toNat : Nat) : Int) = r from by omega] at hf
  obtain ⟨f0, f1, f2, -⟩ := hf
  by_cases hp : 0 < periodN r
  · go_enter Try.func9, Try.ntmps9
    go_wp2_with (go_at_call 8; refine (period_any _ (by omega) (by omega) _).mono ?_; rintro e w' ⟨rfl, hb⟩)
    go_ret
    exact ⟨ret_bool (by simp [beatsN, hp]), hb⟩
  · go_enter Try.func9, Try.ntmps9
    go_wp2_with (go_at_call 8; refine (period_any _ (by omega) (by omega) _).mono ?_; rintro e w' ⟨rfl, hb⟩)
    go_ret
    exact ⟨ret_bool (by simp [beatsN]; omega), hb⟩

/-- A level within its bounds. -/
def clampL (x : Int) : Int := if x < 0 then 0 else if 2047 < x then 2047 else x
theorem clampL_bounds (x : Int) : 0 ≤ clampL x ∧ clampL x ≤ 2047 := by unfold clampL; repeat (split <;> try omega)
theorem clampL_id {x : Int} (h0 : 0 ≤ x) (h1 : x ≤ 2047) : clampL x = x := by unfold clampL; rw [if_neg (by omega), if_neg (by omega)]
theorem clampL_mono {x y : Int} (h : x ≤ y) : clampL x ≤ clampL y := by unfold clampL; repeat (split <;> try omega)
theorem ret_int {k : IntKind} {a b : Int} (h : a = b) : Ending.returned (.int k a) = .returned (.int k b) := by rw [h]

theorem clamp_any (x : Int) (w : World) : Calls Try.prog 13 #[.int .i64 x] w fun e w' => e = .returned (.int .i64 (clampL x)) ∧ w = w' := by
  go_enter Try.func13, Try.ntmps13
  go_wp2
  all_goals
    go_ret
    refine ⟨ret_int ?_, rfl⟩
    unfold clampL
    repeat (split <;> try omega)

/-- A level that sinks by a part of itself. -/
def downL (l : Int) : Int := l - ((l - 1) / 256 + 1)
theorem down_any (l : Int) (h0 : 0 ≤ l) (h1 : l ≤ 4096) (w : World) : Calls Try.prog 17 #[.int .i64 l] w fun e w' => e = .returned (.int .i64 (downL l)) ∧ w = w' := by
  have d0 : -1 ≤ (l - 1) / 256 := by omega
  have d1 : (l - 1) / 256 ≤ 16 := by omega
  go_enter Try.func17, Try.ntmps17
  go_wp2
  go_ret
  exact ⟨rfl, rfl⟩
theorem downL_bounds (l : Int) (h0 : 0 ≤ l) : 0 ≤ downL l ∧ downL l ≤ l := by unfold downL; omega

theorem and128 (x : Int) (h0 : 0 ≤ x) (h1 : x ≤ 255) : (bits BinOp.and IntKind.u8 x 128 == 0) = decide (x < 128) := by
  have h : ∀ n : Fin 256, (bits BinOp.and IntKind.u8 ((n.1 : Nat) : Int) 128 == 0) = decide (((n.1 : Nat) : Int) < 128) := by decide +kernel
  have := h ⟨x.toNat, by omega⟩
  rwa [show (((⟨x.toNat, by omega⟩ : Fin 256).1 : Nat) : Int) = x from by show ((x.toNat : Nat) : Int) = x; omega] at this
theorem andMask (x : Int) (h0 : 0 ≤ x) (h1 : x ≤ 255) : bits BinOp.and IntKind.u8 x 31 = x % 32 ∧ bits BinOp.and IntKind.u8 x 15 = x % 16 ∧ bits BinOp.and IntKind.u8 (x / 16) 7 = x / 16 % 8 ∧ bits BinOp.and IntKind.u8 (x / 32) 3 = x / 32 % 4 := by
  have h : ∀ n : Fin 256, bits BinOp.and IntKind.u8 ((n.1 : Nat) : Int) 31 = ((n.1 : Nat) : Int) % 32 ∧ bits BinOp.and IntKind.u8 ((n.1 : Nat) : Int) 15 = ((n.1 : Nat) : Int) % 16 ∧ bits BinOp.and IntKind.u8 (((n.1 : Nat) : Int) / 16) 7 = ((n.1 : Nat) : Int) / 16 % 8 ∧ bits BinOp.and IntKind.u8 (((n.1 : Nat) : Int) / 32) 3 = ((n.1 : Nat) : Int) / 32 % 4 := by decide +kernel
  have := h ⟨x.toNat, by omega⟩
  rwa [show (((⟨x.toNat, by omega⟩ : Fin 256).1 : Nat) : Int) = x from by show ((x.toNat : Nat) : Int) = x; omega] at this

theorem bent_any (l : Int) (h0 : 0 ≤ l) (h1 : l ≤ 2047) (w : World) : Calls Try.prog 21 #[.int .i64 l] w fun e w' => (∃ r, e = .returned (.int .i64 r) ∧ -4096 ≤ r ∧ r ≤ 4096) ∧ w = w' := by
  go_enter Try.func21, Try.ntmps21
  go_wp2
  all_goals
    go_ret
    exact ⟨⟨_, rfl, by omega, by omega⟩, rfl⟩
theorem less_any (l : Int) (h0 : 0 ≤ l) (h1 : l ≤ 2047) (w : World) : Calls Try.prog 19 #[.int .i64 l] w fun e w' => (∃ r, e = .returned (.int .i64 r) ∧ -4096 ≤ r ∧ r ≤ 4096) ∧ w = w' := by
  go_enter Try.func19, Try.ntmps19
  go_wp2
  all_goals
    go_ret
    exact ⟨⟨_, rfl, by omega, by omega⟩, rfl⟩
theorem more_any (l : Int) (h0 : 0 ≤ l) (h1 : l ≤ 2047) (w : World) : Calls Try.prog 20 #[.int .i64 l] w fun e w' => (∃ r, e = .returned (.int .i64 r) ∧ -4096 ≤ r ∧ r ≤ 4096) ∧ w = w' := by
  go_enter Try.func20, Try.ntmps20
  go_wp2
  all_goals
    go_ret
    exact ⟨⟨_, rfl, by omega, by omega⟩, rfl⟩

theorem changes_any (w : World) : Calls Try.prog 18 #[] w fun e w' => e = .returned (.agg #[.func (.func 19) #[] #[], .func (.func 17) #[] #[], .func (.func 20) #[] #[], .func (.func 21) #[] #[]]) ∧ Below w.heap.size w w' := by
  go_enter Try.func18, Try.ntmps18
  go_wp2
  go_returns
  exact ⟨rfl, (Below.refl _ _).alloc (Nat.le_refl _) _⟩

theorem below_step {B : Nat} {a b c : World} (h : Below B a b) (hB : B ≤ b.heap.size) (k : Below b.heap.size b c) : Below B a c := h.trans (k.mono hB)
theorem below3 (w : World) (a b c : Obj) : Below w.heap.size w (((w.alloc a).alloc b).alloc c) := (((Below.refl _ w).alloc (Nat.le_refl _) a).alloc (by simp) b).alloc (by simp; omega) c
set_option maxHeartbeats 1000000 in
theorem attacked_any (ph lv at_ su ga n : Int) (l0 : 0 ≤ lv) (l1 : lv ≤ 2047) (a0 : 0 ≤ at_) (a1 : at_ ≤ 255) (w : World) :
    Calls Try.prog 16 #[.agg #[.int .u8 ph, .int .i64 lv], .agg #[.int .u8 at_, .int .u8 su, .int .u8 ga], .int .i64 n] w fun e w' =>
      (∃ ph' lv', e = .returned (.agg #[.int .u8 ph', .int .i64 lv']) ∧ (ph' = ph ∨ ph' = 2) ∧ lv ≤ lv' ∧ lv' ≤ lv + 1024 ∧ (at_ % 16 = 15 → lv' = lv + 1024 ∧ ph' = if 2047 ≤ lv + 1024 then 2 else ph)) ∧ Below w.heap.size w w' := by
  have hm := (andMask at_ a0 a1).2.1
  have H := Lib.hid hm
  have HB := Lib.hid (fun r h0 h1 W => beats_free r n h0 h1 W)
  have e1 : (2 * (at_ % 16)) % 256 = 2 * (at_ % 16) := by omega
  have e2 : (2 * (at_ % 16) + 1) % 256 = 2 * (at_ % 16) + 1 := by omega
  by_cases h15 : at_ % 16 = 15
  · go_enter Try.func16, Try.ntmps16
    go_wp2_with fail
    all_goals
      go_returns
      exact ⟨⟨_, _, rfl, by simp, by omega, by omega, rfl, rfl⟩, below3 _ _ _ _⟩
  · go_enter Try.func16, Try.ntmps16
    go_wp2_with fail
    go_at_call 9
    refine (HB.out _ (by omega) (by omega) _).mono ?_
    rintro e w1 ⟨rfl, hb⟩
    have c0 : w1.cell? ⟨w.heap.size, 0, none⟩ = some (.int .u8 ph) := (hb.cell (p := ⟨w.heap.size, 0, none⟩) (by simp; omega)).trans (by simp [go_sem])
    have c1 : w1.cell? ⟨w.heap.size, 1, none⟩ = some (.int .i64 lv) := (hb.cell (p := ⟨w.heap.size, 1, none⟩) (by simp; omega)).trans (by simp [go_sem])
    have f0 : w1.frozen? ⟨w.heap.size, 0, none⟩ = false := (hb.frozen (p := ⟨w.heap.size, 0, none⟩) (by simp; omega)).trans (by simp [go_sem])
    have f1 : w1.frozen? ⟨w.heap.size, 1, none⟩ = false := (hb.frozen (p := ⟨w.heap.size, 1, none⟩) (by simp; omega)).trans (by simp [go_sem])
    have r0 : w1.cell? ⟨w.heap.size + 1 + 1, 0, none⟩ = some (.int .u8 0) := (hb.cell (p := ⟨w.heap.size + 1 + 1, 0, none⟩) (by simp)).trans (by simp [go_sem])
    have r1 : w1.cell? ⟨w.heap.size + 1 + 1, 1, none⟩ = some (.int .i64 0) := (hb.cell (p := ⟨w.heap.size + 1 + 1, 1, none⟩) (by simp)).trans (by simp [go_sem])
    have g0 : w1.frozen? ⟨w.heap.size + 1 + 1, 0, none⟩ = false := (hb.frozen (p := ⟨w.heap.size + 1 + 1, 0, none⟩) (by simp)).trans (by simp [go_sem])
    have g1 : w1.frozen? ⟨w.heap.size + 1 + 1, 1, none⟩ = false := (hb.frozen (p := ⟨w.heap.size + 1 + 1, 1, none⟩) (by simp)).trans (by simp [go_sem])
    have hbW : Below w.heap.size w w1 := below_step (below3 _ _ _ _) (by simp; omega) hb
    have HBW := Lib.hid hbW
    clear hb hbW
    obtain ⟨B, hB⟩ : ∃ B, beatsN (2 * (at_ % 16) + 1) n = B := ⟨_, rfl⟩
    rw [hB]
    clear hB
    cases B
    all_goals
      go_wp2_with fail
      all_goals
        refine bodyPost_ret (by simp [results, Try.results16, go_sem, r0, r1]; try rfl) rfl ?_
        refine ⟨⟨_, _, rfl, by simp, by omega, by omega⟩, ?_⟩
        repeat (first | exact HBW.out | refine Below.setCell ?_ (by simp <;> omega) _)
end Go.Proofs.Ytecmebimgmmbaaa
