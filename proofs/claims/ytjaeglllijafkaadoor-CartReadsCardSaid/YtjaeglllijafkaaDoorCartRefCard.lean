/- The document's card. -/
import Derived.Test.YtjaeglllijafkaaDoorProg
import Derived.Test.YtjaeglllijafkaaDoorCartCard
namespace Go.Proofs.YtjaeglllijafkaaDoor
open Go.RowKit
set_option linter.unusedVariables false
set_option linter.unusedSimpArgs false

def trimX (xs : List Int) (A : Nat) : Nat → Nat
  | 0 => 0
  | n + 1 => if xs[A + n]?.getD 0 = 32 then trimX xs A n else n + 1
theorem trimX_le (xs : List Int) (A n : Nat) : trimX xs A n ≤ n := by
  induction n with
  | zero => exact Nat.le_refl _
  | succ n ih => rw [trimX]; split <;> omega
theorem byte_32 {x : Int} (h0 : 0 ≤ x) (h1 : x ≤ 255) : UInt8.ofNat x.toNat = 32 ↔ x = 32 := by
  constructor
  · intro h
    have h2 := congrArg UInt8.toNat h
    rw [UInt8.toNat_ofNat'] at h2
    have h3 : (32 : UInt8).toNat = 32 := rfl
    omega
  · rintro rfl; rfl
theorem winI_data (xs : List Int) (A n j : Nat) (h : j < n) : (strOfNums (winI xs A n)).data.toList[j]?.getD 0 = UInt8.ofNat (xs[A + j]?.getD 0).toNat := by
  rw [strOfNums_data, List.getElem?_map]
  simp [winI, h]
theorem trimL_X (xs : List Int) (A m : Nat) (hf : ∀ j, j < m → 0 ≤ xs[A + j]?.getD 0 ∧ xs[A + j]?.getD 0 ≤ 255) (n : Nat) (h : n ≤ m) : trimL (strOfNums (winI xs A m)).data.toList n = trimX xs A n := by
  induction n with
  | zero => rfl
  | succ n ih =>
    rw [trimL, trimX, winI_data xs A m n (by omega), ih (by omega)]
    have hb := hf n (by omega)
    by_cases he : xs[A + n]?.getD 0 = 32
    · rw [if_pos he, if_pos ((byte_32 hb.1 hb.2).2 he)]
    · rw [if_neg he, if_neg (fun e => he ((byte_32 hb.1 hb.2).1 e))]
theorem winI_take (xs : List Int) (A m n : Nat) (h : n ≤ m) : (winI xs A m).take n = winI xs A n := by
  unfold winI
  rw [← List.map_take, List.take_range, Nat.min_eq_left h]
theorem strOfNums_cut (xs : List Int) (n : Nat) : (strOfNums xs).extract 0 n = strOfNums (xs.take n) := by
  apply ByteArray.ext
  apply Array.toList_inj.1
  rw [Lib.extract_data, strOfNums_data, strOfNums_data, List.map_take]
  simp
theorem titleN_X (xs : List Int) (A : Nat) (hf : ∀ j, j < 21 → 0 ≤ xs[A + j]?.getD 0 ∧ xs[A + j]?.getD 0 ≤ 255) : titleN xs A = strOfNums (winI xs A (trimX xs A 21)) := by
  unfold titleN trimB
  rw [strOfNums_size, winI_length, trimL_X xs A 21 hf 21 (Nat.le_refl _), strOfNums_cut, winI_take _ _ _ _ (trimX_le _ _ _)]
theorem conv_part (W : World) (b o c : Nat) (xs : List Int) (A k : Nat) (hk : k ≤ 21) (h : ∀ j, j < 64 → W.cell? ⟨b, o + A + j, none⟩ = some (.int .u8 (xs[A + j]?.getD 0))) :
    (convert 28 9 (.slice (some ⟨b, o + A, none⟩) k c)).run Tryd.prog W = .ok (.string (strOfNums (winI xs A k))) W :=
  run_convert_bytes_arg W 28 5 Tryd.underlying28 Tryd.underlying5 b (o + A) k c (winI xs A k) (winI_length _ _ _) (fun i hi => by rw [winI_get _ _ _ _ hi]; exact h i (by omega)) 9 Tryd.underlying9
theorem refWord_at (W : World) (b o n c : Nat) (xs : List Int) (A : Nat) (h : ∀ j, j < 64 → W.cell? ⟨b, o + A + j, none⟩ = some (.int .u8 (xs[A + j]?.getD 0))) (hf : ∀ j, j < 64 → 0 ≤ xs[A + j]?.getD 0 ∧ xs[A + j]?.getD 0 ≤ 255) (hm : n ≤ 281474976710656) (hA : A + 64 ≤ n) (k : Nat) (hk : k + 1 < 64) :
    Calls Tryd.prog 22 #[.slice (some ⟨b, o, none⟩) n c, .int .i64 ((A : Int) + (k : Int))] W fun e w' => e = .returned (.int .u16 (wordN xs (A + k))) ∧ ∃ n, w' = W.drewN n := by
  have h2 := refWord_walk b o n c (A + k) _ _ W (by omega) hm (hf k (by omega)).1 (hf k (by omega)).2 (hf (k + 1) hk).1 (hf (k + 1) hk).2 (by rw [← Nat.add_assoc]; exact h k (by omega)) (by rw [show o + (A + k + 1) = o + A + (k + 1) from by omega]; exact h (k + 1) hk)
  rwa [show (((A + k : Nat)) : Int) = (A : Int) + (k : Int) from by omega] at h2

set_option maxRecDepth 100000 in
set_option maxHeartbeats 8000000 in
theorem refLook_yes (a : Option Addr) (n c : Nat) (l : Int) (xs : List Int) (w : World) (hr : Row .u8 w (.slice a n c) xs) (hn : xs.length = n) (hf : Fits .u8 xs) (hm : n ≤ 281474976710656) (hl : ¬ atN l < 0) (hA : atN l + 64 ≤ n) :
    Calls Tryd.prog 8 #[.slice a n c, .int .u8 l] w fun e w' => e = .returned (.tuple #[(cardN xs (atN l).toNat).v, .int .i64 0]) ∧ Below w.heap.size w w' := by
  obtain ⟨A, hA2⟩ : ∃ A : Nat, atN l = A := ⟨(atN l).toNat, by omega⟩
  obtain ⟨b, o, c2, hra, hcc, hcm, hrc⟩ := hr.cells (by omega)
  injection hra with hr1 hr2 hr3
  subst hr1 hr3
  unfold maxLen at hcm
  have HPA := Lib.hid hA2
  have HCB := Lib.hid (show (cardN xs (atN l).toNat).v = (cardN xs A).v by rw [hA2]; rfl)
  have a64 : A + 64 ≤ n := by omega
  have hcc : n ≤ c := by omega
  have HX := Lib.hid (show ∀ j, j < n → w.cell? ⟨b, o + j, none⟩ = some (.int .u8 (xs[j]?.getD 0)) from fun j hj => hrc j (by omega))
  have HF := Lib.hid (show ∀ j, j < n → 0 ≤ xs[j]?.getD 0 ∧ xs[j]?.getD 0 ≤ 255 from fun j hj => hf.u8 (by omega))
  have HTT := Lib.hid (titleN_X xs A (fun j hj => HF.out (A + j) (by omega)))
  clear hr hn hf hl hA hA2 hrc hr2
  go_enter Tryd.func8, Tryd.ntmps8
  go_upto_region 2 with (go_at_call 21; refine (at_walk _ _).mono ?_; rintro e w2 ⟨rfl, rfl⟩; rw [HPA.out])
  obtain ⟨R, hR⟩ : ∃ R, w.heap.size = R := ⟨_, rfl⟩
  have HRR := Lib.hid hR
  obtain ⟨W1, hwB⟩ : ∃ wB, w.alloc (.cells #[.string ⟨#[]⟩, .int .u8 0, .int .u8 0, .int .u8 0, .int .u16 0, .int .u16 0, .int .u16 0] 27) = wB := ⟨_, rfl⟩
  have HB1 := Lib.hid (show Below w.heap.size w W1 by rw [← hwB]; exact (Below.refl _ w).alloc (Nat.le_refl _) _)
  have HQ1 := Lib.hid (show (∃ u0 u1 u2 u3 u4 u5 u6, W1.cell? ⟨R, 0, none⟩ = some u0 ∧ W1.cell? ⟨R, 1, none⟩ = some u1 ∧ W1.cell? ⟨R, 2, none⟩ = some u2 ∧ W1.cell? ⟨R, 3, none⟩ = some u3 ∧ W1.cell? ⟨R, 4, none⟩ = some u4 ∧ W1.cell? ⟨R, 5, none⟩ = some u5 ∧ W1.cell? ⟨R, 6, none⟩ = some u6) ∧ ∀ j, W1.frozen? ⟨R, j, none⟩ = false by
    rw [← hwB, ← hR]; exact ⟨⟨_, _, _, _, _, _, _, by simp [go_sem]; rfl, by simp [go_sem]; rfl, by simp [go_sem]; rfl, by simp [go_sem]; rfl, by simp [go_sem]; rfl, by simp [go_sem]; rfl, by simp [go_sem]; rfl⟩, fun j => by simp [go_sem]⟩)
  have HXb := Lib.hid (HX.out 0 (by omega))
  have HX1 := Lib.hid (show ∀ j, j < 64 → W1.cell? ⟨b, o + A + j, none⟩ = some (.int .u8 (xs[A + j]?.getD 0)) from fun j hj => by
    have h := HX.out (A + j) (by omega)
    rw [Nat.add_assoc]
    exact (HB1.out.cell (World.block_lt_of_cell? w _ h)).trans h)
  rw [hwB, hR]
  clear hwB hR HX
  have i0 : ¬ (A : Int) < 0 := by omega
  have i1 : ¬ (n : Int) - (A : Int) < 64 := by omega
  have i2 : 64 ≤ (n : Int) - (A : Int) := by omega
  have i3 : IntKind.i64.wrap ((n : Int) - (A : Int)) = (n : Int) - (A : Int) := IntWalk.i64_in _ (by omega)
  go_upto_region 7 with fail
  clear i0 i1 i2 i3
  go_loopw [7] (fun s7 wr => ∃ k : Nat, k ≤ 21 ∧ s7 = .int .i64 k ∧ Hid (trimX xs A k = trimX xs A 21) ∧ W1 = wr) (fun s7 _ => (intOf s7).toNat)
  case atStart => exact ⟨21, Nat.le_refl _, rfl, Lib.hid rfl, rfl⟩
  case round =>
    obtain ⟨k, hk, rfl, HT, rfl⟩ := hrel
    have fin : ∀ h : True, k = trimX xs A 21 → Hid (k = trimX xs A 21) := fun _ h => h
    by_cases hgo : 0 < k ∧ xs[A + (k - 1)]?.getD 0 = 32
    · obtain ⟨hk0, h32⟩ := hgo
      have HT2 := Lib.hid (show trimX xs A (k - 1) = trimX xs A 21 by
        rw [← HT.out]
        obtain ⟨m, rfl⟩ : ∃ m, k = m + 1 := ⟨k - 1, by omega⟩
        rw [trimX, Nat.add_sub_cancel] at *
        rw [if_pos h32])
      have hc := HX1.out (k - 1) (by omega)
      rw [h32] at hc
      obtain ⟨q, hq⟩ : ∃ q, A + (k - 1) = q := ⟨_, rfl⟩
      have hc2 : W1.cell? ⟨b, o + q, none⟩ = some (.int .u8 32) := by rw [← hq, ← Nat.add_assoc]; exact hc
      have j1 : 0 < (k : Int) := by omega
      obtain ⟨kk, hkk⟩ : ∃ kk : Int, (k : Int) = kk := ⟨_, rfl⟩
      rw [hkk] at j1 ⊢
      have j2 : (A : Int) + kk - 1 = (q : Int) := by omega
      have j3 : (q : Int) < (n : Int) := by omega
      have j4 : q < n := by omega
      have j5 : kk ≤ 21 := by omega
      have HKK := Lib.hid hkk
      have HK0 := Lib.hid hk0
      clear hq hc h32 hkk hk0 fin
      go_wp2
      go_roundw
      case rel => exact ⟨k - 1, by omega, congrArg (Value.int .i64) (by have := HKK.out; have := HK0.out; omega), HT2, trivial⟩
      case measure => simp [intOf]; omega
    · have HKX := Lib.hid (show k = trimX xs A 21 by
        rw [← HT.out]
        rcases k with _ | m
        · rfl
        · rw [trimX, if_neg (fun e => hgo ⟨by omega, by rw [Nat.add_sub_cancel]; exact e⟩)])
      have fin2 : Hid (titleN xs A = strOfNums (winI xs A k)) := Lib.hid (by rw [HTT.out, ← HKX.out])
      clear fin
      go_upto_region 7 with fail
      go_cut [30] from 19 to 32 (fun s30 wx => s30 = .bool false ∧ W1 = wx)
      case first =>
        by_cases hk0 : 0 < k
        · have hc := HX1.out (k - 1) (by omega)
          have h32 : ¬ xs[A + (k - 1)]?.getD 0 = 32 := fun e => hgo ⟨hk0, e⟩
          obtain ⟨x, hx⟩ : ∃ x, xs[A + (k - 1)]?.getD 0 = x := ⟨_, rfl⟩
          rw [hx] at hc h32
          obtain ⟨q, hq⟩ : ∃ q, A + (k - 1) = q := ⟨_, rfl⟩
          have hc2 : W1.cell? ⟨b, o + q, none⟩ = some (.int .u8 x) := by rw [← hq, ← Nat.add_assoc]; exact hc
          have j1 : 0 < (k : Int) := by omega
          have j6 : (x == 32) = false := by simpa using h32
          obtain ⟨kk, hkk⟩ : ∃ kk : Int, (k : Int) = kk := ⟨_, rfl⟩
          rw [hkk] at j1 ⊢
          have j2 : (A : Int) + kk - 1 = (q : Int) := by omega
          have j3 : (q : Int) < (n : Int) := by omega
          have j4 : q < n := by omega
          have j5 : kk ≤ 21 := by omega
          have HKK := Lib.hid hkk
          clear hq hc h32 hkk hk0 hx hgo
          go_wp2
          rw [← HKK.out]
          go_meet
          exact ⟨rfl, rfl⟩
        · have j1 : ¬ 0 < (k : Int) := by omega
          obtain ⟨kk, hkk⟩ : ∃ kk : Int, (k : Int) = kk := ⟨_, rfl⟩
          rw [hkk] at j1 ⊢
          have HKK := Lib.hid hkk
          clear hgo hk0 hkk
          go_wp2
          rw [← HKK.out]
          go_meet
          exact ⟨rfl, rfl⟩
      case rest =>
        obtain ⟨rfl, rfl⟩ := hcut
        clear hgo
        go_upto_region 9 with fail
        have k21 := HX1.out 21 (by decide)
        have k22 := HX1.out 22 (by decide)
        have k24 := HX1.out 24 (by decide)
        rw [Nat.add_assoc] at k21 k22 k24
        have HCV := Lib.hid (fun W h => conv_part W b o (c - A) xs A k hk h)
        obtain ⟨x21, hx21⟩ : ∃ x, xs[A + 21]?.getD 0 = x := ⟨_, rfl⟩
        obtain ⟨x22, hx22⟩ : ∃ x, xs[A + 22]?.getD 0 = x := ⟨_, rfl⟩
        obtain ⟨x24, hx24⟩ : ∃ x, xs[A + 24]?.getD 0 = x := ⟨_, rfl⟩
        rw [hx21] at k21
        rw [hx22] at k22
        rw [hx24] at k24
        have HV := Lib.hid (show (cardN xs A).v = .agg #[.string (strOfNums (winI xs A k)), .int .u8 x21, .int .u8 x22, .int .u8 x24, .int .u16 (wordN xs (A + 28)), .int .u16 (wordN xs (A + 30)), .int .u16 (wordN xs (A + 60))] from by rw [← fin2.out, ← hx21, ← hx22, ← hx24]; rfl)
        clear hx21 hx22 hx24
        obtain ⟨⟨u0, u1, u2, u3, u4, u5, u6, g0, g1, g2, g3, g4, g5, g6⟩, gf⟩ := HQ1.out
        have f0 := gf 0
        have f1 := gf 1
        have f2 := gf 2
        have f3 := gf 3
        have f4 := gf 4
        have f5 := gf 5
        have f6 := gf 6
        clear gf
        have KS := Lib.hid (fun (W : World) (hW : ∀ i, W.cell? ⟨b, i, none⟩ = W1.cell? ⟨b, i, none⟩) => show ((fun w' => w'.cell? ⟨b, o + (A + 21), none⟩ = some (.int .u8 x21) ∧ w'.cell? ⟨b, o + (A + 22), none⟩ = some (.int .u8 x22) ∧ w'.cell? ⟨b, o + (A + 24), none⟩ = some (.int .u8 x24) ∧ (convert 28 9 (.slice (some ⟨b, o + A, none⟩) k (c - A))).run Tryd.prog w' = .ok (.string (strOfNums (winI xs A k))) w') W) from ⟨(hW _).trans k21, (hW _).trans k22, (hW _).trans k24, HCV.out _ (fun j hj => (hW _).trans (HX1.out j hj))⟩)
        have KD := Lib.hid (KS.out W1.drew (fun p => rfl))
        have KN := Lib.hid (fun m => KS.out (W1.drewN m) (fun p => rfl))
        have HWD := Lib.hid (fun W h k hk => refWord_at W b o n c xs A h (fun j hj => HF.out (A + j) (by omega)) hm a64 k hk)
        have P28 := Lib.hid (show Calls Tryd.prog 22 #[.slice (some ⟨b, o, none⟩) n c, .int .i64 ((A : Int) + 28)] W1.drew (fun e w' => e = .returned (.int .u16 (wordN xs (A + 28))) ∧ ∃ n, w' = W1.drew.drewN n) from HWD.out W1.drew (fun j hj => HX1.out j hj) 28 (by decide))
        have P30 := Lib.hid (show Calls Tryd.prog 22 #[.slice (some ⟨b, o, none⟩) n c, .int .i64 ((A : Int) + 30)] W1.drew (fun e w' => e = .returned (.int .u16 (wordN xs (A + 30))) ∧ ∃ n, w' = W1.drew.drewN n) from HWD.out W1.drew (fun j hj => HX1.out j hj) 30 (by decide))
        have P60 := Lib.hid (show Calls Tryd.prog 22 #[.slice (some ⟨b, o, none⟩) n c, .int .i64 ((A : Int) + 60)] W1.drew (fun e w' => e = .returned (.int .u16 (wordN xs (A + 60))) ∧ ∃ n, w' = W1.drew.drewN n) from HWD.out W1.drew (fun j hj => HX1.out j hj) 60 (by decide))
        have Q28 := Lib.hid (show ∀ m, Calls Tryd.prog 22 #[.slice (some ⟨b, o, none⟩) n c, .int .i64 ((A : Int) + 28)] (W1.drewN m) (fun e w' => e = .returned (.int .u16 (wordN xs (A + 28))) ∧ ∃ n, w' = (W1.drewN m).drewN n) from fun m => HWD.out (W1.drewN m) (fun j hj => HX1.out j hj) 28 (by decide))
        have Q30 := Lib.hid (show ∀ m, Calls Tryd.prog 22 #[.slice (some ⟨b, o, none⟩) n c, .int .i64 ((A : Int) + 30)] (W1.drewN m) (fun e w' => e = .returned (.int .u16 (wordN xs (A + 30))) ∧ ∃ n, w' = (W1.drewN m).drewN n) from fun m => HWD.out (W1.drewN m) (fun j hj => HX1.out j hj) 30 (by decide))
        have Q60 := Lib.hid (show ∀ m, Calls Tryd.prog 22 #[.slice (some ⟨b, o, none⟩) n c, .int .i64 ((A : Int) + 60)] (W1.drewN m) (fun e w' => e = .returned (.int .u16 (wordN xs (A + 60))) ∧ ∃ n, w' = (W1.drewN m).drewN n) from fun m => HWD.out (W1.drewN m) (fun j hj => HX1.out j hj) 60 (by decide))
        have HNE := Lib.hid (show b ≠ R from by have h1 : b < w.heap.size := World.block_lt_of_cell? w _ (HXb.out); have := HRR.out; omega)
        have z0 : ((A : Int)).toNat = A := by omega
        have z1 : ((A : Int) + (k : Int)).toNat = A + k := by omega
        have z2 : ¬ c = A := by omega
        have z3 : (A : Int) + (k : Int) ≤ (c : Int) := by omega
        have z4 : A + k ≤ c := by omega
        have z5 : (A : Int) ≤ (A : Int) + (k : Int) := by omega
        have z6 : A + k - A = k := by omega
        have y1 : ((A : Int) + 21).toNat = A + 21 := by omega
        have y2 : ((A : Int) + 22).toNat = A + 22 := by omega
        have y3 : ((A : Int) + 24).toNat = A + 24 := by omega
        have v1 : (A : Int) + 21 < (n : Int) := by omega
        have v2 : (A : Int) + 22 < (n : Int) := by omega
        have v3 : (A : Int) + 24 < (n : Int) := by omega
        have t0 : IntKind.i64.wrap ((A : Int) + (k : Int)) = (A : Int) + (k : Int) := IntWalk.i64_in _ (by omega)
        have t1 : IntKind.i64.wrap ((A : Int) + 21) = (A : Int) + 21 := IntWalk.i64_in _ (by omega)
        have t2 : IntKind.i64.wrap ((A : Int) + 22) = (A : Int) + 22 := IntWalk.i64_in _ (by omega)
        have t3 : IntKind.i64.wrap ((A : Int) + 24) = (A : Int) + 24 := IntWalk.i64_in _ (by omega)
        have t4 : IntKind.i64.wrap ((A : Int) + 28) = (A : Int) + 28 := IntWalk.i64_in _ (by omega)
        have t5 : IntKind.i64.wrap ((A : Int) + 30) = (A : Int) + 30 := IntWalk.i64_in _ (by omega)
        have t6 : IntKind.i64.wrap ((A : Int) + 60) = (A : Int) + 60 := IntWalk.i64_in _ (by omega)
        have w0 : 0 ≤ (A : Int) + (k : Int) := by omega
        have w1 : 0 ≤ (A : Int) + 21 := by omega
        have w2 : 0 ≤ (A : Int) + 22 := by omega
        have w3 : 0 ≤ (A : Int) + 24 := by omega
        go_region_held3 (fun w' => w'.cell? ⟨b, o + (A + 21), none⟩ = some (.int .u8 x21) ∧ w'.cell? ⟨b, o + (A + 22), none⟩ = some (.int .u8 x22) ∧ w'.cell? ⟨b, o + (A + 24), none⟩ = some (.int .u8 x24) ∧ (convert 28 9 (.slice (some ⟨b, o + A, none⟩) k (c - A))).run Tryd.prog w' = .ok (.string (strOfNums (winI xs A k))) w') (first | (with_reducible exact KD.out) | (with_reducible exact KN.out _) | exact KS.out _ (fun i => put7_other _ _ _ _ _ _ _ _ _ _ _ HNE.out)) (first | (go_at_call 22; first | ((with_reducible refine Calls.mono P28.out ?_); rintro e w' ⟨rfl, q1, rfl⟩) | ((with_reducible refine Calls.mono P30.out ?_); rintro e w' ⟨rfl, q1, rfl⟩) | ((with_reducible refine Calls.mono P60.out ?_); rintro e w' ⟨rfl, q1, rfl⟩) | ((with_reducible refine Calls.mono (Q28.out _) ?_); rintro e w' ⟨rfl, q1, rfl⟩) | ((with_reducible refine Calls.mono (Q30.out _) ?_); rintro e w' ⟨rfl, q1, rfl⟩) | ((with_reducible refine Calls.mono (Q60.out _) ?_); rintro e w' ⟨rfl, q1, rfl⟩)))
        rename_i qa qb K1
        obtain ⟨m, hm2⟩ : ∃ m, 1 + qa + qb + q1 = m := ⟨_, rfl⟩
        rw [hm2]
        have e0 : (W1.drewN m).cell? ⟨R, 0, none⟩ = some u0 := g0
        have e1 : (W1.drewN m).cell? ⟨R, 1, none⟩ = some u1 := g1
        have e2 : (W1.drewN m).cell? ⟨R, 2, none⟩ = some u2 := g2
        have e3 : (W1.drewN m).cell? ⟨R, 3, none⟩ = some u3 := g3
        have e4 : (W1.drewN m).cell? ⟨R, 4, none⟩ = some u4 := g4
        have e5 : (W1.drewN m).cell? ⟨R, 5, none⟩ = some u5 := g5
        have e6 : (W1.drewN m).cell? ⟨R, 6, none⟩ = some u6 := g6
        have HB2 := Lib.hid (below_drewN HB1.out m)
        obtain ⟨X, hX⟩ : ∃ X, W1.drewN m = X := ⟨_, rfl⟩
        rw [hX] at e0 e1 e2 e3 e4 e5 e6 HB2 ⊢
        clear hX hm2 g0 g1 g2 g3 g4 g5 g6 f0 f1 f2 f3 f4 f5 f6 k21 k22 k24 z0 z1 z2 z3 z4 z5 z6 y1 y2 y3 v1 v2 v3 t0 t1 t2 t3 t4 t5 t6 w0 w1 w2 w3
        go_wp2_with fail
        refine bodyPost_ret (v := .tuple #[.agg #[.string (strOfNums (winI xs A k)), .int .u8 x21, .int .u8 x22, .int .u8 x24, .int .u16 (wordN xs (A + 28)), .int .u16 (wordN xs (A + 30)), .int .u16 (wordN xs (A + 60))], .int .i64 0]) (by simp [results, Tryd.results8, go_sem, e0, e1, e2, e3, e4, e5, e6]; try rfl) rfl ?_
        rw [HCB.out, HV.out]
        have hle : w.heap.size ≤ R := by rw [HRR.out]; exact Nat.le_refl _
        exact ⟨rfl, by refine Below.setCell (Below.setCell (Below.setCell (Below.setCell (Below.setCell (Below.setCell (Below.setCell HB2.out ?_ _) ?_ _) ?_ _) ?_ _) ?_ _) ?_ _) ?_ _ <;> exact hle⟩

set_option maxRecDepth 100000 in
set_option maxHeartbeats 4000000 in
theorem refLook_no (a : Option Addr) (n c : Nat) (l : Int) (w : World) (hm : n ≤ 281474976710656) (h : atN l < 0 ∨ (n : Int) < atN l + 64) :
    Calls Tryd.prog 8 #[.slice a n c, .int .u8 l] w fun e w' => e = .returned (.tuple #[noCard.v, .int .i64 (if atN l < 0 then 2 else 5)]) ∧ Below w.heap.size w w' := by
  have ab : -1 ≤ atN l ∧ atN l ≤ 4259776 := by unfold atN; split <;> (try split) <;> (try split) <;> omega
  obtain ⟨p, hp⟩ : ∃ p, atN l = p := ⟨_, rfl⟩
  have HP := Lib.hid hp
  rw [hp] at h ab ⊢
  clear hp
  by_cases h0 : p < 0
  · rw [if_pos h0]
    go_enter Tryd.func8, Tryd.ntmps8
    go_wp2_with (go_at_call 21; refine (at_walk _ _).mono ?_; rintro e w2 ⟨rfl, rfl⟩; rw [HP.out])
    refine bodyPost_ret (v := .tuple #[noCard.v, .int .i64 2]) (by simp [results, Tryd.results8, go_sem]; try rfl) rfl ?_
    exact ⟨rfl, by repeat (first | exact (Below.refl _ w).alloc (Nat.le_refl _) _ | refine Below.setCell ?_ (by simp) _)⟩
  · rw [if_neg h0]
    have h1 : (n : Int) - p < 64 := by omega
    have i3 : IntKind.i64.wrap ((n : Int) - p) = (n : Int) - p := IntWalk.i64_in _ (by omega)
    clear h
    go_enter Tryd.func8, Tryd.ntmps8
    go_wp2_with (go_at_call 21; refine (at_walk _ _).mono ?_; rintro e w2 ⟨rfl, rfl⟩; rw [HP.out])
    refine bodyPost_ret (v := .tuple #[noCard.v, .int .i64 5]) (by simp [results, Tryd.results8, go_sem]; try rfl) rfl ?_
    exact ⟨rfl, by repeat (first | exact (Below.refl _ w).alloc (Nat.le_refl _) _ | refine Below.setCell ?_ (by simp) _)⟩
theorem refLook_any (a : Option Addr) (n c : Nat) (l : Int) (xs : List Int) (w : World) (hr : Row .u8 w (.slice a n c) xs) (hn : xs.length = n) (hf : Fits .u8 xs) (hm : n ≤ 281474976710656) :
    Calls Tryd.prog 8 #[.slice a n c, .int .u8 l] w fun e w' => e = .returned (.tuple #[(lookN xs n l).v, .int .i64 (lookE n l)]) ∧ Below w.heap.size w w' := by
  by_cases h : atN l < 0 ∨ (n : Int) < atN l + 64
  · have e1 : lookN xs n l = noCard := by unfold lookN; rw [if_pos h]
    have e2 : lookE n l = if atN l < 0 then 2 else 5 := by
      unfold lookE
      split
      · rfl
      · rw [if_pos (h.resolve_left (by assumption))]
    rw [e1, e2]
    exact refLook_no a n c l w hm h
  · have e1 : lookN xs n l = cardN xs (atN l).toNat := by unfold lookN; rw [if_neg h]
    have e2 : lookE n l = 0 := by unfold lookE; rw [if_neg (by omega), if_neg (by omega)]
    rw [e1, e2]
    exact refLook_yes a n c l xs w hr hn hf hm (by omega) (by omega)
end Go.Proofs.YtjaeglllijafkaaDoor
