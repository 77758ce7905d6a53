/- The walk of the law BrrSilent. -/
import Derived.Test.YtpmmnjmlnjdkjaaBackLaw
namespace Go.Proofs.Ytpmmnjmlnjdkjaa
open Go.RowKit
set_option linter.unusedVariables false

theorem silent_all (m : Nat) : doneN (List.replicate m (0 : Int)) (nBlk m) = List.replicate (16 * nBlk m) 0 := silent_done m (nBlk m) (Nat.le_refl _)
theorem zeros_fits (m : Nat) : Fits .i16 (List.replicate m (0 : Int)) := fun x hx => by rw [(List.mem_replicate.1 hx).2]; decide

set_option maxRecDepth 100000 in
set_option maxHeartbeats 1000000 in
theorem silent_one (m : Nat) (a : Int) (w : World) (hm : m ≤ 400) (h1 : 0 ≤ a ∧ a ≤ 400 → (m : Int) = a) (h2 : ¬ (0 ≤ a ∧ a ≤ 400) → m = 16) :
    Calls Try.prog 10 #[.int .i64 a] w fun e w' => e = .returned (.bool true) ∧ Below w.heap.size w w' := by
  obtain ⟨i0, hi, hz0, hz1, hz2⟩ := info_parts Try.infoI16
  have hi' := Lib.hid hi
  have hz0' := Lib.hid hz0
  have hz1' := Lib.hid hz1
  have hz2' := Lib.hid hz2
  clear hi hz0 hz1 hz2
  have hmk : i0.bytes * m ≤ 281474976710656 := by rw [hz2'.out]; omega
  have HMK := Lib.hid hmk
  have hmade : (madeCells (Value.int .i16 0).cells (m * 1)).toList = (List.replicate m (0 : Int)).map (Value.int .i16) := by
    rw [Nat.mul_one, show (Value.int IntKind.i16 0).cells = #[Value.int .i16 0] from rfl, toList_madeCells_one]; simp
  have HM := Lib.hid hmade
  obtain ⟨n, hn⟩ : ∃ n, nBlk m = n := ⟨_, rfl⟩
  have n1 : 1 ≤ n := by rw [← hn]; exact nBlk_pos m
  have n2 : n ≤ 25 := by rw [← hn]; unfold nBlk; omega
  have n3 : m ≤ 16 * n := by rw [← hn]; exact nBlk_ge m
  have HZ : Hid (doneN (List.replicate m (0 : Int)) n = List.replicate (16 * n) 0) := by rw [← hn]; exact silent_all m
  have HP : Hid (∀ W u, Row .i16 W u (List.replicate m 0) → Calls Try.prog 24 #[u] W fun e w' => ∃ g c, e = .returned (.slice (some ⟨g, 0, none⟩) (9 * n) c) ∧ Row .u8 w' (.slice (some ⟨g, 0, none⟩) (9 * n) c) (packN (List.replicate m 0) n n) ∧ Below W.heap.size W w') := fun W u h => by
    refine (pack_walk _ _ W h (zeros_fits m) (by rw [List.length_replicate]; exact hm)).mono ?_
    rintro e w' ⟨r, rfl, ho, hb⟩
    rw [List.length_replicate, hn] at ho
    obtain ⟨g, c, rfl⟩ := ownsRow_shape ho (by omega)
    exact ⟨g, c, rfl, (Row.owned ho).1, hb⟩
  clear hmk hmade hn
  by_cases hneg : a < 0
  · obtain rfl := h2 (by omega)
    clear h1 h2
    go_enter Try.func10, Try.ntmps10
    go_upto_region 3 with fail
    go_wp2_with (refine wpList_make_full _ rfl _ _ _ rfl w.heap.size 23 i0 (.int .i16 0) 1 Try.underlying27 hi'.out hz0'.out hz1'.out .i64 .i64 _ _ 16 rfl rfl (by omega) (by omega) HMK.out (by unfold maxLen; omega) (Nat.le_refl _) ?_; intro w1 hown hgrow; rw [HM.out] at hown)
    have H0 := Lib.hid (Row.owned hown).1
    have hb1 : Below w.heap.size w w1 := (Below.refl _ _).grown hgrow (Nat.le_refl _) (fun k h => by cases h)
    have HB1 := Lib.hid hb1
    clear hown hgrow hb1
    go_at_call 24
    refine (HP.out w1 _ H0.out).mono ?_
    rintro e w2 ⟨g, c, rfl, h2', hb2⟩
    have H2 := Lib.hid h2'
    have HB2 := Lib.hid (below_step HB1.out HB1.out.size hb2)
    clear h2' hb2
    go_wp2_with fail
    go_at_call 21
    refine (all_packed _ _ n _ H2.out (by omega) (by omega)).mono ?_
    rintro e w3 ⟨a3, c3, rfl, h3, hb3⟩
    rw [HZ.out] at h3
    have HB3 := Lib.hid (below_step HB2.out HB2.out.size hb3)
    obtain ⟨b4, o4, c4, e4, -, -, hcx⟩ := h3.cells (by rw [List.length_replicate]; omega)
    rw [List.length_replicate] at e4 hcx
    simp only [Value.slice.injEq, true_and] at e4
    obtain ⟨rfl, rfl⟩ := e4
    have HC : Hid (∀ k, k < 16 * n → w3.cell? ⟨b4, o4 + k, none⟩ = some (.int .i16 0)) := fun k hk => by
      have h := hcx k hk
      rw [List.getElem?_replicate, if_pos hk] at h
      exact h
    clear h3 hb3 hcx
    go_wp2_with fail
    go_loopg [7] (16 * n) (fun gk v7 wr => ∃ k : Nat, k + gk = 16 * n ∧ v7 = .int .i64 k ∧ w3 = wr)
    case atStart => exact ⟨0, by omega, rfl, rfl⟩
    case round =>
      obtain ⟨k, hk, rfl, rfl⟩ := hrel
      by_cases hlt : k < 16 * n
      · have c0 := HC.out k hlt
        have i1 : (k : Int) < 16 * (n : Int) := by omega
        have i2 : 0 ≤ (k : Int) := by omega
        go_wp2_with fail
        go_roundg (16 * n - (k + 1))
        case measure => omega
        case rel => exact ⟨k + 1, by omega, by go_num, rfl⟩
      · have ek : k = 16 * n := by omega
        have i1 : (k : Int) = 16 * (n : Int) := by omega
        have i3 : (16 : Int) ≤ 16 * (n : Int) := by omega
        go_wp2_with fail
        go_at_call 22
        refine (known_any _).mono ?_
        rintro e w5 ⟨rfl, hb5⟩
        have HB5 := Lib.hid (below_step HB3.out HB3.out.size hb5)
        go_wp2_with fail
        go_ret
        exact ⟨rfl, HB5.out⟩
  by_cases hbig : 400 < a
  · obtain rfl := h2 (by omega)
    clear h1 h2
    have i0' : ¬ a < 0 := hneg
    go_enter Try.func10, Try.ntmps10
    go_upto_region 3 with fail
    go_wp2_with (refine wpList_make_full _ rfl _ _ _ rfl w.heap.size 23 i0 (.int .i16 0) 1 Try.underlying27 hi'.out hz0'.out hz1'.out .i64 .i64 _ _ 16 rfl rfl (by omega) (by omega) HMK.out (by unfold maxLen; omega) (Nat.le_refl _) ?_; intro w1 hown hgrow; rw [HM.out] at hown)
    have H0 := Lib.hid (Row.owned hown).1
    have hb1 : Below w.heap.size w w1 := (Below.refl _ _).grown hgrow (Nat.le_refl _) (fun k h => by cases h)
    have HB1 := Lib.hid hb1
    clear hown hgrow hb1
    go_at_call 24
    refine (HP.out w1 _ H0.out).mono ?_
    rintro e w2 ⟨g, c, rfl, h2', hb2⟩
    have H2 := Lib.hid h2'
    have HB2 := Lib.hid (below_step HB1.out HB1.out.size hb2)
    clear h2' hb2
    go_wp2_with fail
    go_at_call 21
    refine (all_packed _ _ n _ H2.out (by omega) (by omega)).mono ?_
    rintro e w3 ⟨a3, c3, rfl, h3, hb3⟩
    rw [HZ.out] at h3
    have HB3 := Lib.hid (below_step HB2.out HB2.out.size hb3)
    obtain ⟨b4, o4, c4, e4, -, -, hcx⟩ := h3.cells (by rw [List.length_replicate]; omega)
    rw [List.length_replicate] at e4 hcx
    simp only [Value.slice.injEq, true_and] at e4
    obtain ⟨rfl, rfl⟩ := e4
    have HC : Hid (∀ k, k < 16 * n → w3.cell? ⟨b4, o4 + k, none⟩ = some (.int .i16 0)) := fun k hk => by
      have h := hcx k hk
      rw [List.getElem?_replicate, if_pos hk] at h
      exact h
    clear h3 hb3 hcx
    go_wp2_with fail
    go_loopg [7] (16 * n) (fun gk v7 wr => ∃ k : Nat, k + gk = 16 * n ∧ v7 = .int .i64 k ∧ w3 = wr)
    case atStart => exact ⟨0, by omega, rfl, rfl⟩
    case round =>
      obtain ⟨k, hk, rfl, rfl⟩ := hrel
      by_cases hlt : k < 16 * n
      · have c0 := HC.out k hlt
        have i1 : (k : Int) < 16 * (n : Int) := by omega
        have i2 : 0 ≤ (k : Int) := by omega
        go_wp2_with fail
        go_roundg (16 * n - (k + 1))
        case measure => omega
        case rel => exact ⟨k + 1, by omega, by go_num, rfl⟩
      · have ek : k = 16 * n := by omega
        have i1 : (k : Int) = 16 * (n : Int) := by omega
        have i3 : (16 : Int) ≤ 16 * (n : Int) := by omega
        go_wp2_with fail
        go_at_call 22
        refine (known_any _).mono ?_
        rintro e w5 ⟨rfl, hb5⟩
        have HB5 := Lib.hid (below_step HB3.out HB3.out.size hb5)
        go_wp2_with fail
        go_ret
        exact ⟨rfl, HB5.out⟩
  · obtain rfl := h1 (by omega)
    clear h1 h2
    have i0' : ¬ (m : Int) < 0 := hneg
    go_enter Try.func10, Try.ntmps10
    go_upto_region 3 with fail
    go_wp2_with (refine wpList_make_full _ rfl _ _ _ rfl w.heap.size 23 i0 (.int .i16 0) 1 Try.underlying27 hi'.out hz0'.out hz1'.out .i64 .i64 _ _ m rfl rfl (by omega) (by omega) HMK.out (by unfold maxLen; omega) (Nat.le_refl _) ?_; intro w1 hown hgrow; rw [HM.out] at hown)
    have H0 := Lib.hid (Row.owned hown).1
    have hb1 : Below w.heap.size w w1 := (Below.refl _ _).grown hgrow (Nat.le_refl _) (fun k h => by cases h)
    have HB1 := Lib.hid hb1
    clear hown hgrow hb1
    go_at_call 24
    refine (HP.out w1 _ H0.out).mono ?_
    rintro e w2 ⟨g, c, rfl, h2', hb2⟩
    have H2 := Lib.hid h2'
    have HB2 := Lib.hid (below_step HB1.out HB1.out.size hb2)
    clear h2' hb2
    go_wp2_with fail
    go_at_call 21
    refine (all_packed _ _ n _ H2.out (by omega) (by omega)).mono ?_
    rintro e w3 ⟨a3, c3, rfl, h3, hb3⟩
    rw [HZ.out] at h3
    have HB3 := Lib.hid (below_step HB2.out HB2.out.size hb3)
    obtain ⟨b4, o4, c4, e4, -, -, hcx⟩ := h3.cells (by rw [List.length_replicate]; omega)
    rw [List.length_replicate] at e4 hcx
    simp only [Value.slice.injEq, true_and] at e4
    obtain ⟨rfl, rfl⟩ := e4
    have HC : Hid (∀ k, k < 16 * n → w3.cell? ⟨b4, o4 + k, none⟩ = some (.int .i16 0)) := fun k hk => by
      have h := hcx k hk
      rw [List.getElem?_replicate, if_pos hk] at h
      exact h
    clear h3 hb3 hcx
    go_wp2_with fail
    go_loopg [7] (16 * n) (fun gk v7 wr => ∃ k : Nat, k + gk = 16 * n ∧ v7 = .int .i64 k ∧ w3 = wr)
    case atStart => exact ⟨0, by omega, rfl, rfl⟩
    case round =>
      obtain ⟨k, hk, rfl, rfl⟩ := hrel
      by_cases hlt : k < 16 * n
      · have c0 := HC.out k hlt
        have i1 : (k : Int) < 16 * (n : Int) := by omega
        have i2 : 0 ≤ (k : Int) := by omega
        go_wp2_with fail
        go_roundg (16 * n - (k + 1))
        case measure => omega
        case rel => exact ⟨k + 1, by omega, by go_num, rfl⟩
      · have ek : k = 16 * n := by omega
        have i1 : (k : Int) = 16 * (n : Int) := by omega
        have i3 : (m : Int) ≤ 16 * (n : Int) := by omega
        go_wp2_with fail
        go_at_call 22
        refine (known_any _).mono ?_
        rintro e w5 ⟨rfl, hb5⟩
        have HB5 := Lib.hid (below_step HB3.out HB3.out.size hb5)
        go_wp2_with fail
        go_ret
        exact ⟨rfl, HB5.out⟩

theorem walk_silent (a : Int) (w : World) (w0 : (Lit.int .i64 a).wf = true) :
    Calls Try.prog 10 #[.int .i64 a] w fun e w' => e = .returned (.bool true) ∧ Below w.heap.size w w' := by
  by_cases h : 0 ≤ a ∧ a ≤ 400
  · exact silent_one a.toNat a w (by omega) (fun _ => by omega) (fun h2 => absurd h h2)
  · exact silent_one 16 a w (by omega) (fun h2 => absurd h2 h) (fun _ => rfl)
end Go.Proofs.Ytpmmnjmlnjdkjaa
