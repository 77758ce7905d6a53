/- The document's bytes of a code such that they might have a text. (Printed by gen_codestry.py.) -/
import Derived.Test.YtpeieilbjadcfaaGreatDoorProg
import Derived.Test.YtpeieilbjadcfaaGreatDoorCodesRefNum
import Derived.Test.YtpeieilbjadcfaaGreatDoorCodesAns
import Derived.Test.YtpeieilbjadcfaaGreatDoorCodesText
import Derived.Test.YtpeieilbjadcfaaGreatDoorCodesCopy
namespace Go.Proofs.YtpeieilbjadcfaaGreatDoor
open Go.RowKit Go.Shelf
set_option linter.unusedVariables false
set_option linter.unusedSimpArgs false

/-- An integer cut by 256 so often. -/
def cutI : Int → Nat → Int
  | x, 0 => x
  | x, n + 1 => cutI (x.tdiv 256) n
theorem cutI_succ (n : Nat) : ∀ x, cutI x (n + 1) = (cutI x n).tdiv 256 := by
  induction n with
  | zero => intro x; rfl
  | succ n ih => intro x; rw [cutI, ih, cutI]
theorem reB_snoc (n : Nat) : ∀ x, reB x (n + 1) = reB x n ++ [IntKind.u8.wrap ((cutI x n).tmod 256)] := by
  induction n with
  | zero => intro x; rfl
  | succ n ih => intro x; rw [reB, ih, reB, cutI, List.cons_append]
/-- The row behind j rounds. -/
def fillB (k Y : Int) (n j : Nat) : List Int := k :: (reB Y j ++ List.replicate (n - j) 0)
theorem fillB_length (k Y : Int) (n j : Nat) (h : j ≤ n) : (fillB k Y n j).length = n + 1 := by
  unfold fillB
  rw [List.length_cons, List.length_append, reB_length, List.length_replicate]; omega
theorem fillB_set (k Y : Int) (n j : Nat) (h : j < n) (b : Int) (hb : IntKind.u8.wrap ((cutI Y j).tmod 256) = b) : (fillB k Y n j).set (j + 1) b = fillB k Y n (j + 1) := by
  unfold fillB
  rw [List.set_cons_succ, reB_snoc, hb]
  congr 1
  rw [List.set_append_right _ _ (by rw [reB_length]; exact Nat.le_refl _), reB_length, Nat.sub_self]
  obtain ⟨q, hq⟩ : ∃ q, n - j = q + 1 := ⟨n - j - 1, by omega⟩
  rw [hq, show n - (j + 1) = q by omega, List.replicate_succ, List.set_cons_zero, List.append_assoc]; rfl
theorem fillB_all (k Y : Int) (n : Nat) : fillB k Y n n = k :: reB Y n := by
  unfold fillB; rw [Nat.sub_self]; simp
theorem tmod_b (z : Int) : -256 < z.tmod 256 ∧ z.tmod 256 < 256 := by
  rcases Int.le_total 0 z with h | h
  · rw [Int.tmod_eq_emod_of_nonneg h]; omega
  · obtain ⟨a, rfl⟩ : ∃ a, z = -a := ⟨-z, by omega⟩
    rw [Int.neg_tmod, Int.tmod_eq_emod_of_nonneg (by omega)]; omega
theorem tdiv_b (z : Int) (h : -9223372036854775808 ≤ z ∧ z ≤ 9223372036854775807) : -9223372036854775808 ≤ z.tdiv 256 ∧ z.tdiv 256 ≤ 9223372036854775807 := by
  rcases Int.le_total 0 z with h | h
  · rw [Int.tdiv_eq_ediv_of_nonneg h]; omega
  · obtain ⟨a, rfl⟩ : ∃ a, z = -a := ⟨-z, by omega⟩
    rw [Int.neg_tdiv, Int.tdiv_eq_ediv_of_nonneg (by omega)]; omega
set_option maxRecDepth 100000 in
set_option maxHeartbeats 4000000 in
theorem try_walk (k p pc : Nat) (hk : k < 256) (hpc : pc < 65536) (s : ByteArray) (hs : s.size ≤ 9223372036854775000) (w : World) :
    Calls Tryz.prog 16 #[codeV k, .string s, .int .i64 pc, .int .i64 (opK k p : Nat)] w fun e w' => ∃ v, e = .returned v ∧ w'.ownsRow w.heap.size 5 1 v (1 + opK k p) (((k : Int) :: refO k s pc p).map (Value.int .u8)) ∧ Below w.heap.size w w' := by
  obtain ⟨i0, hi, hz0, hz1, hz2⟩ := info_parts Tryz.infoU8
  have hi' := Lib.hid hi
  have hz0' := Lib.hid hz0
  have hz1' := Lib.hid hz1
  have hz2' := Lib.hid hz2
  have HV := Lib.hid (show codeV k = .agg #[.int .u8 k, .string (nameB k), .int .u8 (modeN k), .int .u8 (useN k), .int .u8 (widthN k)] from rfl)
  rw [HV.out]
  have HM := Lib.hid (mode_lim k hk)
  have hb := opN_le (modeN k) (widthN k) p
  have HO := Lib.hid (show opN (modeN k) (widthN k) p = opK k p from rfl)
  have HPR := Lib.hid (show refO k s pc p = reB (adjW (modeN k) (opK k p) (IntKind.i64.wrap (numR 0 false (s.data.toList.drop 4) : Nat)) pc) (opK k p) from rfl)
  rw [HPR.out]
  rw [HO.out] at hb
  have hb2 : i0.bytes * (opK k p + 1) ≤ 281474976710656 := by rw [hz2]; omega
  have HB2 := Lib.hid hb2
  clear hi hz0 hz1 hz2 hb2
  obtain ⟨Z, hZ⟩ : ∃ Z, IntKind.i64.wrap (numR 0 false (s.data.toList.drop 4) : Nat) = Z := ⟨_, rfl⟩
  have hZr : -9223372036854775808 ≤ Z ∧ Z ≤ 9223372036854775807 := by rw [← hZ, IntKind.wrap_i64]; omega
  obtain ⟨m, hm⟩ : ∃ m, modeN k = m := ⟨_, rfl⟩
  obtain ⟨u, hu⟩ : ∃ m, useN k = m := ⟨_, rfl⟩
  obtain ⟨wd, hwd⟩ : ∃ m, widthN k = m := ⟨_, rfl⟩
  obtain ⟨nm, hnm⟩ : ∃ m, nameB k = m := ⟨_, rfl⟩
  obtain ⟨n, hn⟩ : ∃ n, opK k p = n := ⟨_, rfl⟩
  rw [hn] at hb HB2
  rw [hZ, hm, hn, hu, hwd, hnm]
  obtain ⟨Y, hY⟩ : ∃ Y, adjW m n Z pc = Y := ⟨_, rfl⟩
  rw [hY]
  unfold adjW at hY
  clear hm hu hwd hnm hn HPR HV HO
  have HF0 := Lib.hid (show (madeCells #[Value.int .u8 0] (n + 1)).toList = (List.replicate (n + 1) (0 : Int)).map (Value.int .u8) by
    rw [toList_madeCells_one]; simp)
  have HF1 := Lib.hid (show (List.replicate (n + 1) (0 : Int)).set 0 (k : Int) = fillB (k : Int) Y n 0 by rw [List.replicate_succ]; rfl)
  have HSET := Lib.hid (fun j h b hb => fillB_set (k : Int) Y n j h b hb)
  have HCUT := Lib.hid (fun j => cutI_succ j Y)
  have HLEN := Lib.hid (fun j h => fillB_length (k : Int) Y n j h)
  have HALL := Lib.hid (fillB_all (k : Int) Y n)
  have hn1 : IntKind.i64.wrap ((n : Int) + 1) = ((n + 1 : Nat) : Int) := by rw [IntWalk.i64_in _ (by omega)]; rfl
  by_cases h4 : 4 < s.size
  · have i4 : (4 : Int) < (s.size : Int) := by omega
    have hx : (s.extract 4 s.size).data.toList = s.data.toList.drop 4 := by
      rw [ByteArray.data_extract, Array.toList_extract, List.extract_eq_take_drop, List.take_of_length_le (by rw [List.length_drop]; simp)]
    have HN := Lib.hid (fun W => number_walk (s.extract 4 s.size) W (by rw [ByteArray.size_extract]; omega))
    rw [hx, hZ] at HN
    have j4 : (4 : Int) ≤ (s.size : Int) := by omega
    clear hZ hx
    by_cases e3 : m = 3
    · subst e3
      rw [if_pos (.inl rfl)] at hY
      obtain ⟨A1, a1⟩ : ∃ A, IntKind.i64.wrap (Z - (pc : Int)) = A := ⟨_, rfl⟩
      obtain ⟨A2, a2⟩ : ∃ A, IntKind.i64.wrap (A1 - 1) = A := ⟨_, rfl⟩
      obtain ⟨A3, a3⟩ : ∃ A, IntKind.i64.wrap (A2 - (n : Int)) = A := ⟨_, rfl⟩
      have a4 : IntKind.i64.wrap (A3 + 131072) = Y := by
        rw [← hY, ← a3, ← a2, ← a1]
        simp only [IntKind.wrap_i64]
        omega
      have HYR := Lib.hid (show -9223372036854775808 ≤ Y ∧ Y ≤ 9223372036854775807 by rw [← a4, IntKind.wrap_i64]; omega)
      clear hY

      go_enter Tryz.func16, Tryz.ntmps16
      go_upto_region 1 with fail
      obtain ⟨X, hX⟩ : ∃ X, w.alloc (.cells #[.int .u8 k, .string nm, .int .u8 3, .int .u8 u, .int .u8 wd] 38) = X := ⟨_, rfl⟩
      have HX := Lib.hid (show TextS w w.heap.size (.int .u8 k) (.string nm) (.int .u8 3) (.int .u8 u) (.int .u8 wd) X from ⟨by rw [← hX]; refine ⟨?_, ?_, ?_, ?_, ?_, fun i => ?_⟩ <;> simp [go_sem], by rw [← hX]; exact (Below.refl _ w).alloc (Nat.le_refl _) _, by rw [← hX]; simp⟩)
      rw [hX]
      clear hX
      obtain ⟨g0, g1, g2, g3, g4, gf⟩ := HX.out.1
      clear gf g1 g3 g4
      go_upto_region 8 with (go_at_call 32; refine (HN.out _).mono ?_; rintro e w1 ⟨rfl, rfl⟩)
      go_wp2_with (refine wpList_make_full _ rfl _ _ _ rfl w.heap.size 5 i0 (.int .u8 0) 1 Tryz.underlying23 hi'.out hz0'.out hz1'.out .i64 .i64 _ _ (n + 1) rfl rfl rfl rfl HB2.out ?cm HX.out.2.1.size ?_)
      case cm => unfold maxLen; omega
      intro W2 hown hgrow
      rw [HF0.out] at hown
      obtain ⟨G, hG⟩ : ∃ G, w1.heap.size = G := ⟨_, rfl⟩
      rw [hG] at hown ⊢
      have HX2 := Lib.hid (show Below w.heap.size w W2 from HX.out.2.1.grown hgrow HX.out.2.1.size (fun k h => by cases h))
      have HGw := Lib.hid (show w.heap.size ≤ G by rw [← hG]; exact HX.out.2.1.size)
      have c0 : W2.cell? ⟨w.heap.size, 0, none⟩ = some (.int .u8 k) := by
        rw [((Below.refl w1.heap.size w1).grown hgrow (Nat.le_refl _) (fun k h => by cases h)).cell (World.block_lt_of_cell? w1 _ g0)]; exact g0
      have HST := Lib.hid (hown.stored 0 (.int .u8 (k : Int)))
      have c1 : ∃ v, W2.cell? ⟨G, 0, none⟩ = some v := by
        have := hown.cellAt 0 (by omega)
        rw [List.getElem?_map, List.getElem?_eq_getElem (by simp)] at this
        exact ⟨_, this⟩
      obtain ⟨v1, c1⟩ := c1
      have c2 : W2.frozen? ⟨G, 0, none⟩ = false := hown.frozenAt 0
      clear hown hgrow g0 g2 hG
      have n0 : (0 : Int) < ((n + 1 : Nat) : Int) := by omega
      go_upto_region 11 with fail
      obtain ⟨W3, hW3⟩ : ∃ W3, W2.setCell ⟨G, 0, none⟩ (.int .u8 (k : Int)) = W3 := ⟨_, rfl⟩
      have HB3 := Lib.hid (show Below w.heap.size w W3 by rw [← hW3]; exact HX2.out.setCell (p := ⟨G, 0, none⟩) HGw.out _)
      have HR3 := Lib.hid (show W3.ownsRow w.heap.size 5 1 (.slice (some ⟨G, 0, none⟩) (n + 1) (n + 1)) (n + 1) ((fillB (k : Int) Y n 0).map (Value.int .u8)) by
        have h := HST.out.1
        rw [← List.map_set, HF1.out, hW3] at h
        exact h)
      rw [hW3]
      clear hW3 HST HX HX2 c0 c1 c2
      go_loopw [9, 11] (fun s9 s11 wr => ∃ (j : Nat) (Q : Int), j ≤ n ∧ s9 = .int .i64 Q ∧ s11 = .int .i64 j ∧ Hid (Q = cutI Y j ∧ -9223372036854775808 ≤ Q ∧ Q ≤ 9223372036854775807) ∧ Hid (wr.ownsRow w.heap.size 5 1 (.slice (some ⟨G, 0, none⟩) (n + 1) (n + 1)) (n + 1) ((fillB (k : Int) Y n j).map (Value.int .u8))) ∧ Hid (Below w.heap.size w wr)) (fun _ s11 _ => n - (intOf s11).toNat)
      case atStart => exact ⟨0, Y, Nat.zero_le _, rfl, rfl, Lib.hid ⟨rfl, HYR.out⟩, HR3, HB3⟩
      case round =>
        obtain ⟨j, Q, hj, rfl, rfl, HQ, HR, HB⟩ := hrel
        clear HR3 HB3
        by_cases hlt : j < n
        · have i1 : (j : Int) < (n : Int) := by omega
          have i2 : ((j + 1 : Nat) : Int) < ((n + 1 : Nat) : Int) := by omega
          have i0' : (0 : Int) ≤ ((j + 1 : Nat) : Int) := by omega
          have i3 : IntKind.i64.wrap ((j : Int) + 1) = ((j + 1 : Nat) : Int) := by rw [IntWalk.i64_in _ (by omega)]; rfl
          obtain ⟨T, hT⟩ : ∃ T, Q.tmod 256 = T := ⟨_, rfl⟩
          obtain ⟨b, hbz⟩ : ∃ b, IntKind.u8.wrap T = b := ⟨_, rfl⟩
          obtain ⟨Q2, hQ2⟩ : ∃ Q2, Q.tdiv 256 = Q2 := ⟨_, rfl⟩
          have HSS := Lib.hid (HSET.out j hlt b (by rw [← HQ.out.1, hT, hbz]))
          have HQN := Lib.hid (show Q2 = cutI Y (j + 1) ∧ -9223372036854775808 ≤ Q2 ∧ Q2 ≤ 9223372036854775807 from ⟨by rw [HCUT.out j, ← HQ.out.1, hQ2], by rw [← hQ2]; exact tdiv_b Q HQ.out.2⟩)
          have hw2 : IntKind.i64.wrap Q2 = Q2 := by rw [IntWalk.i64_in _ HQN.out.2]
          have c2 : ∃ v, wr.cell? ⟨G, j + 1, none⟩ = some v := by
            have := HR.out.cellAt (j + 1) (by omega)
            rw [List.getElem?_map, List.getElem?_eq_getElem (by rw [HLEN.out j hj]; omega)] at this
            exact ⟨_, this⟩
          obtain ⟨v2, c2⟩ := c2
          have c3 : wr.frozen? ⟨G, j + 1, none⟩ = false := HR.out.frozenAt (j + 1)
          have hst := Lib.hid (HR.out.stored (j + 1) (.int .u8 b))
          go_wp2
          go_roundw
          case rel =>
            refine ⟨j + 1, Q2, hlt, rfl, by go_num, HQN, ?_, Lib.hid (HB.out.setCell (p := ⟨G, j + 1, none⟩) HGw.out _)⟩
            have h := hst.out.1
            rw [← List.map_set, HSS.out] at h
            exact Lib.hid h
          case measure => simp [intOf]; omega
        · obtain rfl : j = n := by omega
          have i1 : ¬ (j : Int) < (j : Int) := by omega
          have HFN := Lib.hid (show wr.ownsRow w.heap.size 5 1 (.slice (some ⟨G, 0, none⟩) (j + 1) (j + 1)) (1 + j) (((k : Int) :: reB Y j).map (Value.int .u8)) by
            have h := HR.out
            rw [HALL.out] at h
            rw [Nat.add_comm 1 j]
            exact h)
          go_wp2
          go_ret
          exact ⟨_, rfl, HFN.out, HB.out⟩
    by_cases e4 : m = 4
    · subst e4
      clear e3
      rw [if_pos (.inr rfl)] at hY
      obtain ⟨A1, a1⟩ : ∃ A, IntKind.i64.wrap (Z - (pc : Int)) = A := ⟨_, rfl⟩
      obtain ⟨A2, a2⟩ : ∃ A, IntKind.i64.wrap (A1 - 1) = A := ⟨_, rfl⟩
      obtain ⟨A3, a3⟩ : ∃ A, IntKind.i64.wrap (A2 - (n : Int)) = A := ⟨_, rfl⟩
      have a4 : IntKind.i64.wrap (A3 + 131072) = Y := by
        rw [← hY, ← a3, ← a2, ← a1]
        simp only [IntKind.wrap_i64]
        omega
      have HYR := Lib.hid (show -9223372036854775808 ≤ Y ∧ Y ≤ 9223372036854775807 by rw [← a4, IntKind.wrap_i64]; omega)
      clear hY

      go_enter Tryz.func16, Tryz.ntmps16
      go_upto_region 1 with fail
      obtain ⟨X, hX⟩ : ∃ X, w.alloc (.cells #[.int .u8 k, .string nm, .int .u8 4, .int .u8 u, .int .u8 wd] 38) = X := ⟨_, rfl⟩
      have HX := Lib.hid (show TextS w w.heap.size (.int .u8 k) (.string nm) (.int .u8 4) (.int .u8 u) (.int .u8 wd) X from ⟨by rw [← hX]; refine ⟨?_, ?_, ?_, ?_, ?_, fun i => ?_⟩ <;> simp [go_sem], by rw [← hX]; exact (Below.refl _ w).alloc (Nat.le_refl _) _, by rw [← hX]; simp⟩)
      rw [hX]
      clear hX
      obtain ⟨g0, g1, g2, g3, g4, gf⟩ := HX.out.1
      clear gf g1 g3 g4
      go_upto_region 8 with (go_at_call 32; refine (HN.out _).mono ?_; rintro e w1 ⟨rfl, rfl⟩)
      go_wp2_with (refine wpList_make_full _ rfl _ _ _ rfl w.heap.size 5 i0 (.int .u8 0) 1 Tryz.underlying23 hi'.out hz0'.out hz1'.out .i64 .i64 _ _ (n + 1) rfl rfl rfl rfl HB2.out ?cm HX.out.2.1.size ?_)
      case cm => unfold maxLen; omega
      intro W2 hown hgrow
      rw [HF0.out] at hown
      obtain ⟨G, hG⟩ : ∃ G, w1.heap.size = G := ⟨_, rfl⟩
      rw [hG] at hown ⊢
      have HX2 := Lib.hid (show Below w.heap.size w W2 from HX.out.2.1.grown hgrow HX.out.2.1.size (fun k h => by cases h))
      have HGw := Lib.hid (show w.heap.size ≤ G by rw [← hG]; exact HX.out.2.1.size)
      have c0 : W2.cell? ⟨w.heap.size, 0, none⟩ = some (.int .u8 k) := by
        rw [((Below.refl w1.heap.size w1).grown hgrow (Nat.le_refl _) (fun k h => by cases h)).cell (World.block_lt_of_cell? w1 _ g0)]; exact g0
      have HST := Lib.hid (hown.stored 0 (.int .u8 (k : Int)))
      have c1 : ∃ v, W2.cell? ⟨G, 0, none⟩ = some v := by
        have := hown.cellAt 0 (by omega)
        rw [List.getElem?_map, List.getElem?_eq_getElem (by simp)] at this
        exact ⟨_, this⟩
      obtain ⟨v1, c1⟩ := c1
      have c2 : W2.frozen? ⟨G, 0, none⟩ = false := hown.frozenAt 0
      clear hown hgrow g0 g2 hG
      have n0 : (0 : Int) < ((n + 1 : Nat) : Int) := by omega
      go_upto_region 11 with fail
      obtain ⟨W3, hW3⟩ : ∃ W3, W2.setCell ⟨G, 0, none⟩ (.int .u8 (k : Int)) = W3 := ⟨_, rfl⟩
      have HB3 := Lib.hid (show Below w.heap.size w W3 by rw [← hW3]; exact HX2.out.setCell (p := ⟨G, 0, none⟩) HGw.out _)
      have HR3 := Lib.hid (show W3.ownsRow w.heap.size 5 1 (.slice (some ⟨G, 0, none⟩) (n + 1) (n + 1)) (n + 1) ((fillB (k : Int) Y n 0).map (Value.int .u8)) by
        have h := HST.out.1
        rw [← List.map_set, HF1.out, hW3] at h
        exact h)
      rw [hW3]
      clear hW3 HST HX HX2 c0 c1 c2
      go_loopw [9, 11] (fun s9 s11 wr => ∃ (j : Nat) (Q : Int), j ≤ n ∧ s9 = .int .i64 Q ∧ s11 = .int .i64 j ∧ Hid (Q = cutI Y j ∧ -9223372036854775808 ≤ Q ∧ Q ≤ 9223372036854775807) ∧ Hid (wr.ownsRow w.heap.size 5 1 (.slice (some ⟨G, 0, none⟩) (n + 1) (n + 1)) (n + 1) ((fillB (k : Int) Y n j).map (Value.int .u8))) ∧ Hid (Below w.heap.size w wr)) (fun _ s11 _ => n - (intOf s11).toNat)
      case atStart => exact ⟨0, Y, Nat.zero_le _, rfl, rfl, Lib.hid ⟨rfl, HYR.out⟩, HR3, HB3⟩
      case round =>
        obtain ⟨j, Q, hj, rfl, rfl, HQ, HR, HB⟩ := hrel
        clear HR3 HB3
        by_cases hlt : j < n
        · have i1 : (j : Int) < (n : Int) := by omega
          have i2 : ((j + 1 : Nat) : Int) < ((n + 1 : Nat) : Int) := by omega
          have i0' : (0 : Int) ≤ ((j + 1 : Nat) : Int) := by omega
          have i3 : IntKind.i64.wrap ((j : Int) + 1) = ((j + 1 : Nat) : Int) := by rw [IntWalk.i64_in _ (by omega)]; rfl
          obtain ⟨T, hT⟩ : ∃ T, Q.tmod 256 = T := ⟨_, rfl⟩
          obtain ⟨b, hbz⟩ : ∃ b, IntKind.u8.wrap T = b := ⟨_, rfl⟩
          obtain ⟨Q2, hQ2⟩ : ∃ Q2, Q.tdiv 256 = Q2 := ⟨_, rfl⟩
          have HSS := Lib.hid (HSET.out j hlt b (by rw [← HQ.out.1, hT, hbz]))
          have HQN := Lib.hid (show Q2 = cutI Y (j + 1) ∧ -9223372036854775808 ≤ Q2 ∧ Q2 ≤ 9223372036854775807 from ⟨by rw [HCUT.out j, ← HQ.out.1, hQ2], by rw [← hQ2]; exact tdiv_b Q HQ.out.2⟩)
          have hw2 : IntKind.i64.wrap Q2 = Q2 := by rw [IntWalk.i64_in _ HQN.out.2]
          have c2 : ∃ v, wr.cell? ⟨G, j + 1, none⟩ = some v := by
            have := HR.out.cellAt (j + 1) (by omega)
            rw [List.getElem?_map, List.getElem?_eq_getElem (by rw [HLEN.out j hj]; omega)] at this
            exact ⟨_, this⟩
          obtain ⟨v2, c2⟩ := c2
          have c3 : wr.frozen? ⟨G, j + 1, none⟩ = false := HR.out.frozenAt (j + 1)
          have hst := Lib.hid (HR.out.stored (j + 1) (.int .u8 b))
          go_wp2
          go_roundw
          case rel =>
            refine ⟨j + 1, Q2, hlt, rfl, by go_num, HQN, ?_, Lib.hid (HB.out.setCell (p := ⟨G, j + 1, none⟩) HGw.out _)⟩
            have h := hst.out.1
            rw [← List.map_set, HSS.out] at h
            exact Lib.hid h
          case measure => simp [intOf]; omega
        · obtain rfl : j = n := by omega
          have i1 : ¬ (j : Int) < (j : Int) := by omega
          have HFN := Lib.hid (show wr.ownsRow w.heap.size 5 1 (.slice (some ⟨G, 0, none⟩) (j + 1) (j + 1)) (1 + j) (((k : Int) :: reB Y j).map (Value.int .u8)) by
            have h := HR.out
            rw [HALL.out] at h
            rw [Nat.add_comm 1 j]
            exact h)
          go_wp2
          go_ret
          exact ⟨_, rfl, HFN.out, HB.out⟩
    by_cases e23 : m = 23
    · subst e23
      rw [if_neg (by omega), if_pos rfl] at hY
      clear e3 e4
      obtain ⟨D0, hD0⟩ : ∃ D, Z.tdiv 256 = D := ⟨_, rfl⟩
      have d0 := tdiv_b Z hZr
      rw [hD0] at d0 hY
      have a0 : IntKind.i64.wrap D0 = D0 := by rw [IntWalk.i64_in _ d0]
      obtain ⟨D, hD⟩ : ∃ D, D0.tmod 256 = D := ⟨_, rfl⟩
      obtain ⟨E, hE⟩ : ∃ D, Z.tmod 256 = D := ⟨_, rfl⟩
      have d1 := tmod_b D0
      have d2 := tmod_b Z
      rw [hD] at d1
      rw [hE] at d2
      rw [hD, hE] at hY
      obtain ⟨E2, hE2⟩ : ∃ D, E * 256 = D := ⟨_, rfl⟩
      have a1 : IntKind.i64.wrap E2 = E2 := by rw [IntWalk.i64_in _ (by omega)]
      have a2 : IntKind.i64.wrap (D + E2) = Y := by rw [IntWalk.i64_in _ (by omega)]; omega
      have HYR := Lib.hid (show -9223372036854775808 ≤ Y ∧ Y ≤ 9223372036854775807 by omega)
      clear hY d0 d1 d2

      go_enter Tryz.func16, Tryz.ntmps16
      go_upto_region 1 with fail
      obtain ⟨X, hX⟩ : ∃ X, w.alloc (.cells #[.int .u8 k, .string nm, .int .u8 23, .int .u8 u, .int .u8 wd] 38) = X := ⟨_, rfl⟩
      have HX := Lib.hid (show TextS w w.heap.size (.int .u8 k) (.string nm) (.int .u8 23) (.int .u8 u) (.int .u8 wd) X from ⟨by rw [← hX]; refine ⟨?_, ?_, ?_, ?_, ?_, fun i => ?_⟩ <;> simp [go_sem], by rw [← hX]; exact (Below.refl _ w).alloc (Nat.le_refl _) _, by rw [← hX]; simp⟩)
      rw [hX]
      clear hX
      obtain ⟨g0, g1, g2, g3, g4, gf⟩ := HX.out.1
      clear gf g1 g3 g4
      go_upto_region 8 with (go_at_call 32; refine (HN.out _).mono ?_; rintro e w1 ⟨rfl, rfl⟩)
      go_wp2_with (refine wpList_make_full _ rfl _ _ _ rfl w.heap.size 5 i0 (.int .u8 0) 1 Tryz.underlying23 hi'.out hz0'.out hz1'.out .i64 .i64 _ _ (n + 1) rfl rfl rfl rfl HB2.out ?cm HX.out.2.1.size ?_)
      case cm => unfold maxLen; omega
      intro W2 hown hgrow
      rw [HF0.out] at hown
      obtain ⟨G, hG⟩ : ∃ G, w1.heap.size = G := ⟨_, rfl⟩
      rw [hG] at hown ⊢
      have HX2 := Lib.hid (show Below w.heap.size w W2 from HX.out.2.1.grown hgrow HX.out.2.1.size (fun k h => by cases h))
      have HGw := Lib.hid (show w.heap.size ≤ G by rw [← hG]; exact HX.out.2.1.size)
      have c0 : W2.cell? ⟨w.heap.size, 0, none⟩ = some (.int .u8 k) := by
        rw [((Below.refl w1.heap.size w1).grown hgrow (Nat.le_refl _) (fun k h => by cases h)).cell (World.block_lt_of_cell? w1 _ g0)]; exact g0
      have HST := Lib.hid (hown.stored 0 (.int .u8 (k : Int)))
      have c1 : ∃ v, W2.cell? ⟨G, 0, none⟩ = some v := by
        have := hown.cellAt 0 (by omega)
        rw [List.getElem?_map, List.getElem?_eq_getElem (by simp)] at this
        exact ⟨_, this⟩
      obtain ⟨v1, c1⟩ := c1
      have c2 : W2.frozen? ⟨G, 0, none⟩ = false := hown.frozenAt 0
      clear hown hgrow g0 g2 hG
      have n0 : (0 : Int) < ((n + 1 : Nat) : Int) := by omega
      go_upto_region 11 with fail
      obtain ⟨W3, hW3⟩ : ∃ W3, W2.setCell ⟨G, 0, none⟩ (.int .u8 (k : Int)) = W3 := ⟨_, rfl⟩
      have HB3 := Lib.hid (show Below w.heap.size w W3 by rw [← hW3]; exact HX2.out.setCell (p := ⟨G, 0, none⟩) HGw.out _)
      have HR3 := Lib.hid (show W3.ownsRow w.heap.size 5 1 (.slice (some ⟨G, 0, none⟩) (n + 1) (n + 1)) (n + 1) ((fillB (k : Int) Y n 0).map (Value.int .u8)) by
        have h := HST.out.1
        rw [← List.map_set, HF1.out, hW3] at h
        exact h)
      rw [hW3]
      clear hW3 HST HX HX2 c0 c1 c2
      go_loopw [9, 11] (fun s9 s11 wr => ∃ (j : Nat) (Q : Int), j ≤ n ∧ s9 = .int .i64 Q ∧ s11 = .int .i64 j ∧ Hid (Q = cutI Y j ∧ -9223372036854775808 ≤ Q ∧ Q ≤ 9223372036854775807) ∧ Hid (wr.ownsRow w.heap.size 5 1 (.slice (some ⟨G, 0, none⟩) (n + 1) (n + 1)) (n + 1) ((fillB (k : Int) Y n j).map (Value.int .u8))) ∧ Hid (Below w.heap.size w wr)) (fun _ s11 _ => n - (intOf s11).toNat)
      case atStart => exact ⟨0, Y, Nat.zero_le _, rfl, rfl, Lib.hid ⟨rfl, HYR.out⟩, HR3, HB3⟩
      case round =>
        obtain ⟨j, Q, hj, rfl, rfl, HQ, HR, HB⟩ := hrel
        clear HR3 HB3
        by_cases hlt : j < n
        · have i1 : (j : Int) < (n : Int) := by omega
          have i2 : ((j + 1 : Nat) : Int) < ((n + 1 : Nat) : Int) := by omega
          have i0' : (0 : Int) ≤ ((j + 1 : Nat) : Int) := by omega
          have i3 : IntKind.i64.wrap ((j : Int) + 1) = ((j + 1 : Nat) : Int) := by rw [IntWalk.i64_in _ (by omega)]; rfl
          obtain ⟨T, hT⟩ : ∃ T, Q.tmod 256 = T := ⟨_, rfl⟩
          obtain ⟨b, hbz⟩ : ∃ b, IntKind.u8.wrap T = b := ⟨_, rfl⟩
          obtain ⟨Q2, hQ2⟩ : ∃ Q2, Q.tdiv 256 = Q2 := ⟨_, rfl⟩
          have HSS := Lib.hid (HSET.out j hlt b (by rw [← HQ.out.1, hT, hbz]))
          have HQN := Lib.hid (show Q2 = cutI Y (j + 1) ∧ -9223372036854775808 ≤ Q2 ∧ Q2 ≤ 9223372036854775807 from ⟨by rw [HCUT.out j, ← HQ.out.1, hQ2], by rw [← hQ2]; exact tdiv_b Q HQ.out.2⟩)
          have hw2 : IntKind.i64.wrap Q2 = Q2 := by rw [IntWalk.i64_in _ HQN.out.2]
          have c2 : ∃ v, wr.cell? ⟨G, j + 1, none⟩ = some v := by
            have := HR.out.cellAt (j + 1) (by omega)
            rw [List.getElem?_map, List.getElem?_eq_getElem (by rw [HLEN.out j hj]; omega)] at this
            exact ⟨_, this⟩
          obtain ⟨v2, c2⟩ := c2
          have c3 : wr.frozen? ⟨G, j + 1, none⟩ = false := HR.out.frozenAt (j + 1)
          have hst := Lib.hid (HR.out.stored (j + 1) (.int .u8 b))
          go_wp2
          go_roundw
          case rel =>
            refine ⟨j + 1, Q2, hlt, rfl, by go_num, HQN, ?_, Lib.hid (HB.out.setCell (p := ⟨G, j + 1, none⟩) HGw.out _)⟩
            have h := hst.out.1
            rw [← List.map_set, HSS.out] at h
            exact Lib.hid h
          case measure => simp [intOf]; omega
        · obtain rfl : j = n := by omega
          have i1 : ¬ (j : Int) < (j : Int) := by omega
          have HFN := Lib.hid (show wr.ownsRow w.heap.size 5 1 (.slice (some ⟨G, 0, none⟩) (j + 1) (j + 1)) (1 + j) (((k : Int) :: reB Y j).map (Value.int .u8)) by
            have h := HR.out
            rw [HALL.out] at h
            rw [Nat.add_comm 1 j]
            exact h)
          go_wp2
          go_ret
          exact ⟨_, rfl, HFN.out, HB.out⟩
    · rw [if_neg (by omega), if_neg e23] at hY
      subst hY
      have HYR := Lib.hid hZr
      have b3 : ((m : Int) == 3) = false := by rw [beq_eq_false_iff_ne]; omega
      have b4 : ((m : Int) == 4) = false := by rw [beq_eq_false_iff_ne]; omega
      have b23 : ((m : Int) == 23) = false := by rw [beq_eq_false_iff_ne]; omega
      clear e3 e4 e23

      go_enter Tryz.func16, Tryz.ntmps16
      go_upto_region 1 with fail
      obtain ⟨X, hX⟩ : ∃ X, w.alloc (.cells #[.int .u8 k, .string nm, .int .u8 m, .int .u8 u, .int .u8 wd] 38) = X := ⟨_, rfl⟩
      have HX := Lib.hid (show TextS w w.heap.size (.int .u8 k) (.string nm) (.int .u8 m) (.int .u8 u) (.int .u8 wd) X from ⟨by rw [← hX]; refine ⟨?_, ?_, ?_, ?_, ?_, fun i => ?_⟩ <;> simp [go_sem], by rw [← hX]; exact (Below.refl _ w).alloc (Nat.le_refl _) _, by rw [← hX]; simp⟩)
      rw [hX]
      clear hX
      obtain ⟨g0, g1, g2, g3, g4, gf⟩ := HX.out.1
      clear gf g1 g3 g4
      go_upto_region 8 with (go_at_call 32; refine (HN.out _).mono ?_; rintro e w1 ⟨rfl, rfl⟩)
      go_wp2_with (refine wpList_make_full _ rfl _ _ _ rfl w.heap.size 5 i0 (.int .u8 0) 1 Tryz.underlying23 hi'.out hz0'.out hz1'.out .i64 .i64 _ _ (n + 1) rfl rfl rfl rfl HB2.out ?cm HX.out.2.1.size ?_)
      case cm => unfold maxLen; omega
      intro W2 hown hgrow
      rw [HF0.out] at hown
      obtain ⟨G, hG⟩ : ∃ G, w1.heap.size = G := ⟨_, rfl⟩
      rw [hG] at hown ⊢
      have HX2 := Lib.hid (show Below w.heap.size w W2 from HX.out.2.1.grown hgrow HX.out.2.1.size (fun k h => by cases h))
      have HGw := Lib.hid (show w.heap.size ≤ G by rw [← hG]; exact HX.out.2.1.size)
      have c0 : W2.cell? ⟨w.heap.size, 0, none⟩ = some (.int .u8 k) := by
        rw [((Below.refl w1.heap.size w1).grown hgrow (Nat.le_refl _) (fun k h => by cases h)).cell (World.block_lt_of_cell? w1 _ g0)]; exact g0
      have HST := Lib.hid (hown.stored 0 (.int .u8 (k : Int)))
      have c1 : ∃ v, W2.cell? ⟨G, 0, none⟩ = some v := by
        have := hown.cellAt 0 (by omega)
        rw [List.getElem?_map, List.getElem?_eq_getElem (by simp)] at this
        exact ⟨_, this⟩
      obtain ⟨v1, c1⟩ := c1
      have c2 : W2.frozen? ⟨G, 0, none⟩ = false := hown.frozenAt 0
      clear hown hgrow g0 g2 hG
      have n0 : (0 : Int) < ((n + 1 : Nat) : Int) := by omega
      go_upto_region 11 with fail
      obtain ⟨W3, hW3⟩ : ∃ W3, W2.setCell ⟨G, 0, none⟩ (.int .u8 (k : Int)) = W3 := ⟨_, rfl⟩
      have HB3 := Lib.hid (show Below w.heap.size w W3 by rw [← hW3]; exact HX2.out.setCell (p := ⟨G, 0, none⟩) HGw.out _)
      have HR3 := Lib.hid (show W3.ownsRow w.heap.size 5 1 (.slice (some ⟨G, 0, none⟩) (n + 1) (n + 1)) (n + 1) ((fillB (k : Int) Z n 0).map (Value.int .u8)) by
        have h := HST.out.1
        rw [← List.map_set, HF1.out, hW3] at h
        exact h)
      rw [hW3]
      clear hW3 HST HX HX2 c0 c1 c2
      go_loopw [9, 11] (fun s9 s11 wr => ∃ (j : Nat) (Q : Int), j ≤ n ∧ s9 = .int .i64 Q ∧ s11 = .int .i64 j ∧ Hid (Q = cutI Z j ∧ -9223372036854775808 ≤ Q ∧ Q ≤ 9223372036854775807) ∧ Hid (wr.ownsRow w.heap.size 5 1 (.slice (some ⟨G, 0, none⟩) (n + 1) (n + 1)) (n + 1) ((fillB (k : Int) Z n j).map (Value.int .u8))) ∧ Hid (Below w.heap.size w wr)) (fun _ s11 _ => n - (intOf s11).toNat)
      case atStart => exact ⟨0, Z, Nat.zero_le _, rfl, rfl, Lib.hid ⟨rfl, HYR.out⟩, HR3, HB3⟩
      case round =>
        obtain ⟨j, Q, hj, rfl, rfl, HQ, HR, HB⟩ := hrel
        clear HR3 HB3
        by_cases hlt : j < n
        · have i1 : (j : Int) < (n : Int) := by omega
          have i2 : ((j + 1 : Nat) : Int) < ((n + 1 : Nat) : Int) := by omega
          have i0' : (0 : Int) ≤ ((j + 1 : Nat) : Int) := by omega
          have i3 : IntKind.i64.wrap ((j : Int) + 1) = ((j + 1 : Nat) : Int) := by rw [IntWalk.i64_in _ (by omega)]; rfl
          obtain ⟨T, hT⟩ : ∃ T, Q.tmod 256 = T := ⟨_, rfl⟩
          obtain ⟨b, hbz⟩ : ∃ b, IntKind.u8.wrap T = b := ⟨_, rfl⟩
          obtain ⟨Q2, hQ2⟩ : ∃ Q2, Q.tdiv 256 = Q2 := ⟨_, rfl⟩
          have HSS := Lib.hid (HSET.out j hlt b (by rw [← HQ.out.1, hT, hbz]))
          have HQN := Lib.hid (show Q2 = cutI Z (j + 1) ∧ -9223372036854775808 ≤ Q2 ∧ Q2 ≤ 9223372036854775807 from ⟨by rw [HCUT.out j, ← HQ.out.1, hQ2], by rw [← hQ2]; exact tdiv_b Q HQ.out.2⟩)
          have hw2 : IntKind.i64.wrap Q2 = Q2 := by rw [IntWalk.i64_in _ HQN.out.2]
          have c2 : ∃ v, wr.cell? ⟨G, j + 1, none⟩ = some v := by
            have := HR.out.cellAt (j + 1) (by omega)
            rw [List.getElem?_map, List.getElem?_eq_getElem (by rw [HLEN.out j hj]; omega)] at this
            exact ⟨_, this⟩
          obtain ⟨v2, c2⟩ := c2
          have c3 : wr.frozen? ⟨G, j + 1, none⟩ = false := HR.out.frozenAt (j + 1)
          have hst := Lib.hid (HR.out.stored (j + 1) (.int .u8 b))
          go_wp2
          go_roundw
          case rel =>
            refine ⟨j + 1, Q2, hlt, rfl, by go_num, HQN, ?_, Lib.hid (HB.out.setCell (p := ⟨G, j + 1, none⟩) HGw.out _)⟩
            have h := hst.out.1
            rw [← List.map_set, HSS.out] at h
            exact Lib.hid h
          case measure => simp [intOf]; omega
        · obtain rfl : j = n := by omega
          have i1 : ¬ (j : Int) < (j : Int) := by omega
          have HFN := Lib.hid (show wr.ownsRow w.heap.size 5 1 (.slice (some ⟨G, 0, none⟩) (j + 1) (j + 1)) (1 + j) (((k : Int) :: reB Z j).map (Value.int .u8)) by
            have h := HR.out
            rw [HALL.out] at h
            rw [Nat.add_comm 1 j]
            exact h)
          go_wp2
          go_ret
          exact ⟨_, rfl, HFN.out, HB.out⟩
  · have i4 : ¬ (4 : Int) < (s.size : Int) := by omega
    have hZ0 : Z = 0 := by
      rw [← hZ, List.drop_eq_nil_of_le (by simp; omega)]; rfl
    subst hZ0
    clear hZ
    by_cases e3 : m = 3
    · subst e3
      rw [if_pos (.inl rfl)] at hY
      obtain ⟨Y0, hY0⟩ : ∃ Y0, -(pc : Int) - 1 - (n : Int) + 131072 = Y0 := ⟨_, rfl⟩
      have a4 : Y = Y0 := by
        rw [← hY, ← hY0, IntWalk.i64_in _ (by omega)]; omega
      subst a4
      have HYR := Lib.hid (show -9223372036854775808 ≤ Y ∧ Y ≤ 9223372036854775807 by omega)
      clear hY

      go_enter Tryz.func16, Tryz.ntmps16
      go_upto_region 1 with fail
      obtain ⟨X, hX⟩ : ∃ X, w.alloc (.cells #[.int .u8 k, .string nm, .int .u8 3, .int .u8 u, .int .u8 wd] 38) = X := ⟨_, rfl⟩
      have HX := Lib.hid (show TextS w w.heap.size (.int .u8 k) (.string nm) (.int .u8 3) (.int .u8 u) (.int .u8 wd) X from ⟨by rw [← hX]; refine ⟨?_, ?_, ?_, ?_, ?_, fun i => ?_⟩ <;> simp [go_sem], by rw [← hX]; exact (Below.refl _ w).alloc (Nat.le_refl _) _, by rw [← hX]; simp⟩)
      rw [hX]
      clear hX
      obtain ⟨g0, g1, g2, g3, g4, gf⟩ := HX.out.1
      clear gf g1 g3 g4
      go_upto_region 8 with fail
      go_wp2_with (refine wpList_make_full _ rfl _ _ _ rfl w.heap.size 5 i0 (.int .u8 0) 1 Tryz.underlying23 hi'.out hz0'.out hz1'.out .i64 .i64 _ _ (n + 1) rfl rfl rfl rfl HB2.out ?cm HX.out.2.1.size ?_)
      case cm => unfold maxLen; omega
      intro W2 hown hgrow
      rw [HF0.out] at hown
      obtain ⟨G, hG⟩ : ∃ G, X.heap.size = G := ⟨_, rfl⟩
      rw [hG] at hown ⊢
      have HX2 := Lib.hid (show Below w.heap.size w W2 from HX.out.2.1.grown hgrow HX.out.2.1.size (fun k h => by cases h))
      have HGw := Lib.hid (show w.heap.size ≤ G by rw [← hG]; exact HX.out.2.1.size)
      have c0 : W2.cell? ⟨w.heap.size, 0, none⟩ = some (.int .u8 k) := by
        rw [((Below.refl X.heap.size X).grown hgrow (Nat.le_refl _) (fun k h => by cases h)).cell (World.block_lt_of_cell? X _ g0)]; exact g0
      have HST := Lib.hid (hown.stored 0 (.int .u8 (k : Int)))
      have c1 : ∃ v, W2.cell? ⟨G, 0, none⟩ = some v := by
        have := hown.cellAt 0 (by omega)
        rw [List.getElem?_map, List.getElem?_eq_getElem (by simp)] at this
        exact ⟨_, this⟩
      obtain ⟨v1, c1⟩ := c1
      have c2 : W2.frozen? ⟨G, 0, none⟩ = false := hown.frozenAt 0
      clear hown hgrow g0 g2 hG
      have n0 : (0 : Int) < ((n + 1 : Nat) : Int) := by omega
      go_upto_region 11 with fail
      obtain ⟨W3, hW3⟩ : ∃ W3, W2.setCell ⟨G, 0, none⟩ (.int .u8 (k : Int)) = W3 := ⟨_, rfl⟩
      have HB3 := Lib.hid (show Below w.heap.size w W3 by rw [← hW3]; exact HX2.out.setCell (p := ⟨G, 0, none⟩) HGw.out _)
      have HR3 := Lib.hid (show W3.ownsRow w.heap.size 5 1 (.slice (some ⟨G, 0, none⟩) (n + 1) (n + 1)) (n + 1) ((fillB (k : Int) Y n 0).map (Value.int .u8)) by
        have h := HST.out.1
        rw [← List.map_set, HF1.out, hW3] at h
        exact h)
      rw [hW3]
      clear hW3 HST HX HX2 c0 c1 c2
      go_loopw [9, 11] (fun s9 s11 wr => ∃ (j : Nat) (Q : Int), j ≤ n ∧ s9 = .int .i64 Q ∧ s11 = .int .i64 j ∧ Hid (Q = cutI Y j ∧ -9223372036854775808 ≤ Q ∧ Q ≤ 9223372036854775807) ∧ Hid (wr.ownsRow w.heap.size 5 1 (.slice (some ⟨G, 0, none⟩) (n + 1) (n + 1)) (n + 1) ((fillB (k : Int) Y n j).map (Value.int .u8))) ∧ Hid (Below w.heap.size w wr)) (fun _ s11 _ => n - (intOf s11).toNat)
      case atStart => exact ⟨0, Y, Nat.zero_le _, rfl, rfl, Lib.hid ⟨rfl, HYR.out⟩, HR3, HB3⟩
      case round =>
        obtain ⟨j, Q, hj, rfl, rfl, HQ, HR, HB⟩ := hrel
        clear HR3 HB3
        by_cases hlt : j < n
        · have i1 : (j : Int) < (n : Int) := by omega
          have i2 : ((j + 1 : Nat) : Int) < ((n + 1 : Nat) : Int) := by omega
          have i0' : (0 : Int) ≤ ((j + 1 : Nat) : Int) := by omega
          have i3 : IntKind.i64.wrap ((j : Int) + 1) = ((j + 1 : Nat) : Int) := by rw [IntWalk.i64_in _ (by omega)]; rfl
          obtain ⟨T, hT⟩ : ∃ T, Q.tmod 256 = T := ⟨_, rfl⟩
          obtain ⟨b, hbz⟩ : ∃ b, IntKind.u8.wrap T = b := ⟨_, rfl⟩
          obtain ⟨Q2, hQ2⟩ : ∃ Q2, Q.tdiv 256 = Q2 := ⟨_, rfl⟩
          have HSS := Lib.hid (HSET.out j hlt b (by rw [← HQ.out.1, hT, hbz]))
          have HQN := Lib.hid (show Q2 = cutI Y (j + 1) ∧ -9223372036854775808 ≤ Q2 ∧ Q2 ≤ 9223372036854775807 from ⟨by rw [HCUT.out j, ← HQ.out.1, hQ2], by rw [← hQ2]; exact tdiv_b Q HQ.out.2⟩)
          have hw2 : IntKind.i64.wrap Q2 = Q2 := by rw [IntWalk.i64_in _ HQN.out.2]
          have c2 : ∃ v, wr.cell? ⟨G, j + 1, none⟩ = some v := by
            have := HR.out.cellAt (j + 1) (by omega)
            rw [List.getElem?_map, List.getElem?_eq_getElem (by rw [HLEN.out j hj]; omega)] at this
            exact ⟨_, this⟩
          obtain ⟨v2, c2⟩ := c2
          have c3 : wr.frozen? ⟨G, j + 1, none⟩ = false := HR.out.frozenAt (j + 1)
          have hst := Lib.hid (HR.out.stored (j + 1) (.int .u8 b))
          go_wp2
          go_roundw
          case rel =>
            refine ⟨j + 1, Q2, hlt, rfl, by go_num, HQN, ?_, Lib.hid (HB.out.setCell (p := ⟨G, j + 1, none⟩) HGw.out _)⟩
            have h := hst.out.1
            rw [← List.map_set, HSS.out] at h
            exact Lib.hid h
          case measure => simp [intOf]; omega
        · obtain rfl : j = n := by omega
          have i1 : ¬ (j : Int) < (j : Int) := by omega
          have HFN := Lib.hid (show wr.ownsRow w.heap.size 5 1 (.slice (some ⟨G, 0, none⟩) (j + 1) (j + 1)) (1 + j) (((k : Int) :: reB Y j).map (Value.int .u8)) by
            have h := HR.out
            rw [HALL.out] at h
            rw [Nat.add_comm 1 j]
            exact h)
          go_wp2
          go_ret
          exact ⟨_, rfl, HFN.out, HB.out⟩
    by_cases e4 : m = 4
    · subst e4
      clear e3
      rw [if_pos (.inr rfl)] at hY
      obtain ⟨Y0, hY0⟩ : ∃ Y0, -(pc : Int) - 1 - (n : Int) + 131072 = Y0 := ⟨_, rfl⟩
      have a4 : Y = Y0 := by
        rw [← hY, ← hY0, IntWalk.i64_in _ (by omega)]; omega
      subst a4
      have HYR := Lib.hid (show -9223372036854775808 ≤ Y ∧ Y ≤ 9223372036854775807 by omega)
      clear hY

      go_enter Tryz.func16, Tryz.ntmps16
      go_upto_region 1 with fail
      obtain ⟨X, hX⟩ : ∃ X, w.alloc (.cells #[.int .u8 k, .string nm, .int .u8 4, .int .u8 u, .int .u8 wd] 38) = X := ⟨_, rfl⟩
      have HX := Lib.hid (show TextS w w.heap.size (.int .u8 k) (.string nm) (.int .u8 4) (.int .u8 u) (.int .u8 wd) X from ⟨by rw [← hX]; refine ⟨?_, ?_, ?_, ?_, ?_, fun i => ?_⟩ <;> simp [go_sem], by rw [← hX]; exact (Below.refl _ w).alloc (Nat.le_refl _) _, by rw [← hX]; simp⟩)
      rw [hX]
      clear hX
      obtain ⟨g0, g1, g2, g3, g4, gf⟩ := HX.out.1
      clear gf g1 g3 g4
      go_upto_region 8 with fail
      go_wp2_with (refine wpList_make_full _ rfl _ _ _ rfl w.heap.size 5 i0 (.int .u8 0) 1 Tryz.underlying23 hi'.out hz0'.out hz1'.out .i64 .i64 _ _ (n + 1) rfl rfl rfl rfl HB2.out ?cm HX.out.2.1.size ?_)
      case cm => unfold maxLen; omega
      intro W2 hown hgrow
      rw [HF0.out] at hown
      obtain ⟨G, hG⟩ : ∃ G, X.heap.size = G := ⟨_, rfl⟩
      rw [hG] at hown ⊢
      have HX2 := Lib.hid (show Below w.heap.size w W2 from HX.out.2.1.grown hgrow HX.out.2.1.size (fun k h => by cases h))
      have HGw := Lib.hid (show w.heap.size ≤ G by rw [← hG]; exact HX.out.2.1.size)
      have c0 : W2.cell? ⟨w.heap.size, 0, none⟩ = some (.int .u8 k) := by
        rw [((Below.refl X.heap.size X).grown hgrow (Nat.le_refl _) (fun k h => by cases h)).cell (World.block_lt_of_cell? X _ g0)]; exact g0
      have HST := Lib.hid (hown.stored 0 (.int .u8 (k : Int)))
      have c1 : ∃ v, W2.cell? ⟨G, 0, none⟩ = some v := by
        have := hown.cellAt 0 (by omega)
        rw [List.getElem?_map, List.getElem?_eq_getElem (by simp)] at this
        exact ⟨_, this⟩
      obtain ⟨v1, c1⟩ := c1
      have c2 : W2.frozen? ⟨G, 0, none⟩ = false := hown.frozenAt 0
      clear hown hgrow g0 g2 hG
      have n0 : (0 : Int) < ((n + 1 : Nat) : Int) := by omega
      go_upto_region 11 with fail
      obtain ⟨W3, hW3⟩ : ∃ W3, W2.setCell ⟨G, 0, none⟩ (.int .u8 (k : Int)) = W3 := ⟨_, rfl⟩
      have HB3 := Lib.hid (show Below w.heap.size w W3 by rw [← hW3]; exact HX2.out.setCell (p := ⟨G, 0, none⟩) HGw.out _)
      have HR3 := Lib.hid (show W3.ownsRow w.heap.size 5 1 (.slice (some ⟨G, 0, none⟩) (n + 1) (n + 1)) (n + 1) ((fillB (k : Int) Y n 0).map (Value.int .u8)) by
        have h := HST.out.1
        rw [← List.map_set, HF1.out, hW3] at h
        exact h)
      rw [hW3]
      clear hW3 HST HX HX2 c0 c1 c2
      go_loopw [9, 11] (fun s9 s11 wr => ∃ (j : Nat) (Q : Int), j ≤ n ∧ s9 = .int .i64 Q ∧ s11 = .int .i64 j ∧ Hid (Q = cutI Y j ∧ -9223372036854775808 ≤ Q ∧ Q ≤ 9223372036854775807) ∧ Hid (wr.ownsRow w.heap.size 5 1 (.slice (some ⟨G, 0, none⟩) (n + 1) (n + 1)) (n + 1) ((fillB (k : Int) Y n j).map (Value.int .u8))) ∧ Hid (Below w.heap.size w wr)) (fun _ s11 _ => n - (intOf s11).toNat)
      case atStart => exact ⟨0, Y, Nat.zero_le _, rfl, rfl, Lib.hid ⟨rfl, HYR.out⟩, HR3, HB3⟩
      case round =>
        obtain ⟨j, Q, hj, rfl, rfl, HQ, HR, HB⟩ := hrel
        clear HR3 HB3
        by_cases hlt : j < n
        · have i1 : (j : Int) < (n : Int) := by omega
          have i2 : ((j + 1 : Nat) : Int) < ((n + 1 : Nat) : Int) := by omega
          have i0' : (0 : Int) ≤ ((j + 1 : Nat) : Int) := by omega
          have i3 : IntKind.i64.wrap ((j : Int) + 1) = ((j + 1 : Nat) : Int) := by rw [IntWalk.i64_in _ (by omega)]; rfl
          obtain ⟨T, hT⟩ : ∃ T, Q.tmod 256 = T := ⟨_, rfl⟩
          obtain ⟨b, hbz⟩ : ∃ b, IntKind.u8.wrap T = b := ⟨_, rfl⟩
          obtain ⟨Q2, hQ2⟩ : ∃ Q2, Q.tdiv 256 = Q2 := ⟨_, rfl⟩
          have HSS := Lib.hid (HSET.out j hlt b (by rw [← HQ.out.1, hT, hbz]))
          have HQN := Lib.hid (show Q2 = cutI Y (j + 1) ∧ -9223372036854775808 ≤ Q2 ∧ Q2 ≤ 9223372036854775807 from ⟨by rw [HCUT.out j, ← HQ.out.1, hQ2], by rw [← hQ2]; exact tdiv_b Q HQ.out.2⟩)
          have hw2 : IntKind.i64.wrap Q2 = Q2 := by rw [IntWalk.i64_in _ HQN.out.2]
          have c2 : ∃ v, wr.cell? ⟨G, j + 1, none⟩ = some v := by
            have := HR.out.cellAt (j + 1) (by omega)
            rw [List.getElem?_map, List.getElem?_eq_getElem (by rw [HLEN.out j hj]; omega)] at this
            exact ⟨_, this⟩
          obtain ⟨v2, c2⟩ := c2
          have c3 : wr.frozen? ⟨G, j + 1, none⟩ = false := HR.out.frozenAt (j + 1)
          have hst := Lib.hid (HR.out.stored (j + 1) (.int .u8 b))
          go_wp2
          go_roundw
          case rel =>
            refine ⟨j + 1, Q2, hlt, rfl, by go_num, HQN, ?_, Lib.hid (HB.out.setCell (p := ⟨G, j + 1, none⟩) HGw.out _)⟩
            have h := hst.out.1
            rw [← List.map_set, HSS.out] at h
            exact Lib.hid h
          case measure => simp [intOf]; omega
        · obtain rfl : j = n := by omega
          have i1 : ¬ (j : Int) < (j : Int) := by omega
          have HFN := Lib.hid (show wr.ownsRow w.heap.size 5 1 (.slice (some ⟨G, 0, none⟩) (j + 1) (j + 1)) (1 + j) (((k : Int) :: reB Y j).map (Value.int .u8)) by
            have h := HR.out
            rw [HALL.out] at h
            rw [Nat.add_comm 1 j]
            exact h)
          go_wp2
          go_ret
          exact ⟨_, rfl, HFN.out, HB.out⟩
    by_cases e23 : m = 23
    · subst e23
      rw [if_neg (by omega), if_pos rfl] at hY
      clear e3 e4
      have hY0 : Y = 0 := by rw [← hY]; decide
      subst hY0
      have HYR := Lib.hid (show (-9223372036854775808 : Int) ≤ 0 ∧ (0 : Int) ≤ 9223372036854775807 by omega)
      clear hY

      go_enter Tryz.func16, Tryz.ntmps16
      go_upto_region 1 with fail
      obtain ⟨X, hX⟩ : ∃ X, w.alloc (.cells #[.int .u8 k, .string nm, .int .u8 23, .int .u8 u, .int .u8 wd] 38) = X := ⟨_, rfl⟩
      have HX := Lib.hid (show TextS w w.heap.size (.int .u8 k) (.string nm) (.int .u8 23) (.int .u8 u) (.int .u8 wd) X from ⟨by rw [← hX]; refine ⟨?_, ?_, ?_, ?_, ?_, fun i => ?_⟩ <;> simp [go_sem], by rw [← hX]; exact (Below.refl _ w).alloc (Nat.le_refl _) _, by rw [← hX]; simp⟩)
      rw [hX]
      clear hX
      obtain ⟨g0, g1, g2, g3, g4, gf⟩ := HX.out.1
      clear gf g1 g3 g4
      go_upto_region 8 with fail
      go_wp2_with (refine wpList_make_full _ rfl _ _ _ rfl w.heap.size 5 i0 (.int .u8 0) 1 Tryz.underlying23 hi'.out hz0'.out hz1'.out .i64 .i64 _ _ (n + 1) rfl rfl rfl rfl HB2.out ?cm HX.out.2.1.size ?_)
      case cm => unfold maxLen; omega
      intro W2 hown hgrow
      rw [HF0.out] at hown
      obtain ⟨G, hG⟩ : ∃ G, X.heap.size = G := ⟨_, rfl⟩
      rw [hG] at hown ⊢
      have HX2 := Lib.hid (show Below w.heap.size w W2 from HX.out.2.1.grown hgrow HX.out.2.1.size (fun k h => by cases h))
      have HGw := Lib.hid (show w.heap.size ≤ G by rw [← hG]; exact HX.out.2.1.size)
      have c0 : W2.cell? ⟨w.heap.size, 0, none⟩ = some (.int .u8 k) := by
        rw [((Below.refl X.heap.size X).grown hgrow (Nat.le_refl _) (fun k h => by cases h)).cell (World.block_lt_of_cell? X _ g0)]; exact g0
      have HST := Lib.hid (hown.stored 0 (.int .u8 (k : Int)))
      have c1 : ∃ v, W2.cell? ⟨G, 0, none⟩ = some v := by
        have := hown.cellAt 0 (by omega)
        rw [List.getElem?_map, List.getElem?_eq_getElem (by simp)] at this
        exact ⟨_, this⟩
      obtain ⟨v1, c1⟩ := c1
      have c2 : W2.frozen? ⟨G, 0, none⟩ = false := hown.frozenAt 0
      clear hown hgrow g0 g2 hG
      have n0 : (0 : Int) < ((n + 1 : Nat) : Int) := by omega
      go_upto_region 11 with fail
      obtain ⟨W3, hW3⟩ : ∃ W3, W2.setCell ⟨G, 0, none⟩ (.int .u8 (k : Int)) = W3 := ⟨_, rfl⟩
      have HB3 := Lib.hid (show Below w.heap.size w W3 by rw [← hW3]; exact HX2.out.setCell (p := ⟨G, 0, none⟩) HGw.out _)
      have HR3 := Lib.hid (show W3.ownsRow w.heap.size 5 1 (.slice (some ⟨G, 0, none⟩) (n + 1) (n + 1)) (n + 1) ((fillB (k : Int) 0 n 0).map (Value.int .u8)) by
        have h := HST.out.1
        rw [← List.map_set, HF1.out, hW3] at h
        exact h)
      rw [hW3]
      clear hW3 HST HX HX2 c0 c1 c2
      go_loopw [9, 11] (fun s9 s11 wr => ∃ (j : Nat) (Q : Int), j ≤ n ∧ s9 = .int .i64 Q ∧ s11 = .int .i64 j ∧ Hid (Q = cutI 0 j ∧ -9223372036854775808 ≤ Q ∧ Q ≤ 9223372036854775807) ∧ Hid (wr.ownsRow w.heap.size 5 1 (.slice (some ⟨G, 0, none⟩) (n + 1) (n + 1)) (n + 1) ((fillB (k : Int) 0 n j).map (Value.int .u8))) ∧ Hid (Below w.heap.size w wr)) (fun _ s11 _ => n - (intOf s11).toNat)
      case atStart => exact ⟨0, 0, Nat.zero_le _, rfl, rfl, Lib.hid ⟨rfl, HYR.out⟩, HR3, HB3⟩
      case round =>
        obtain ⟨j, Q, hj, rfl, rfl, HQ, HR, HB⟩ := hrel
        clear HR3 HB3
        by_cases hlt : j < n
        · have i1 : (j : Int) < (n : Int) := by omega
          have i2 : ((j + 1 : Nat) : Int) < ((n + 1 : Nat) : Int) := by omega
          have i0' : (0 : Int) ≤ ((j + 1 : Nat) : Int) := by omega
          have i3 : IntKind.i64.wrap ((j : Int) + 1) = ((j + 1 : Nat) : Int) := by rw [IntWalk.i64_in _ (by omega)]; rfl
          obtain ⟨T, hT⟩ : ∃ T, Q.tmod 256 = T := ⟨_, rfl⟩
          obtain ⟨b, hbz⟩ : ∃ b, IntKind.u8.wrap T = b := ⟨_, rfl⟩
          obtain ⟨Q2, hQ2⟩ : ∃ Q2, Q.tdiv 256 = Q2 := ⟨_, rfl⟩
          have HSS := Lib.hid (HSET.out j hlt b (by rw [← HQ.out.1, hT, hbz]))
          have HQN := Lib.hid (show Q2 = cutI 0 (j + 1) ∧ -9223372036854775808 ≤ Q2 ∧ Q2 ≤ 9223372036854775807 from ⟨by rw [HCUT.out j, ← HQ.out.1, hQ2], by rw [← hQ2]; exact tdiv_b Q HQ.out.2⟩)
          have hw2 : IntKind.i64.wrap Q2 = Q2 := by rw [IntWalk.i64_in _ HQN.out.2]
          have c2 : ∃ v, wr.cell? ⟨G, j + 1, none⟩ = some v := by
            have := HR.out.cellAt (j + 1) (by omega)
            rw [List.getElem?_map, List.getElem?_eq_getElem (by rw [HLEN.out j hj]; omega)] at this
            exact ⟨_, this⟩
          obtain ⟨v2, c2⟩ := c2
          have c3 : wr.frozen? ⟨G, j + 1, none⟩ = false := HR.out.frozenAt (j + 1)
          have hst := Lib.hid (HR.out.stored (j + 1) (.int .u8 b))
          go_wp2
          go_roundw
          case rel =>
            refine ⟨j + 1, Q2, hlt, rfl, by go_num, HQN, ?_, Lib.hid (HB.out.setCell (p := ⟨G, j + 1, none⟩) HGw.out _)⟩
            have h := hst.out.1
            rw [← List.map_set, HSS.out] at h
            exact Lib.hid h
          case measure => simp [intOf]; omega
        · obtain rfl : j = n := by omega
          have i1 : ¬ (j : Int) < (j : Int) := by omega
          have HFN := Lib.hid (show wr.ownsRow w.heap.size 5 1 (.slice (some ⟨G, 0, none⟩) (j + 1) (j + 1)) (1 + j) (((k : Int) :: reB 0 j).map (Value.int .u8)) by
            have h := HR.out
            rw [HALL.out] at h
            rw [Nat.add_comm 1 j]
            exact h)
          go_wp2
          go_ret
          exact ⟨_, rfl, HFN.out, HB.out⟩
    · rw [if_neg (by omega), if_neg e23] at hY
      subst hY
      have HYR := Lib.hid hZr
      have b3 : ((m : Int) == 3) = false := by rw [beq_eq_false_iff_ne]; omega
      have b4 : ((m : Int) == 4) = false := by rw [beq_eq_false_iff_ne]; omega
      have b23 : ((m : Int) == 23) = false := by rw [beq_eq_false_iff_ne]; omega
      clear e3 e4 e23

      go_enter Tryz.func16, Tryz.ntmps16
      go_upto_region 1 with fail
      obtain ⟨X, hX⟩ : ∃ X, w.alloc (.cells #[.int .u8 k, .string nm, .int .u8 m, .int .u8 u, .int .u8 wd] 38) = X := ⟨_, rfl⟩
      have HX := Lib.hid (show TextS w w.heap.size (.int .u8 k) (.string nm) (.int .u8 m) (.int .u8 u) (.int .u8 wd) X from ⟨by rw [← hX]; refine ⟨?_, ?_, ?_, ?_, ?_, fun i => ?_⟩ <;> simp [go_sem], by rw [← hX]; exact (Below.refl _ w).alloc (Nat.le_refl _) _, by rw [← hX]; simp⟩)
      rw [hX]
      clear hX
      obtain ⟨g0, g1, g2, g3, g4, gf⟩ := HX.out.1
      clear gf g1 g3 g4
      go_upto_region 8 with fail
      go_wp2_with (refine wpList_make_full _ rfl _ _ _ rfl w.heap.size 5 i0 (.int .u8 0) 1 Tryz.underlying23 hi'.out hz0'.out hz1'.out .i64 .i64 _ _ (n + 1) rfl rfl rfl rfl HB2.out ?cm HX.out.2.1.size ?_)
      case cm => unfold maxLen; omega
      intro W2 hown hgrow
      rw [HF0.out] at hown
      obtain ⟨G, hG⟩ : ∃ G, X.heap.size = G := ⟨_, rfl⟩
      rw [hG] at hown ⊢
      have HX2 := Lib.hid (show Below w.heap.size w W2 from HX.out.2.1.grown hgrow HX.out.2.1.size (fun k h => by cases h))
      have HGw := Lib.hid (show w.heap.size ≤ G by rw [← hG]; exact HX.out.2.1.size)
      have c0 : W2.cell? ⟨w.heap.size, 0, none⟩ = some (.int .u8 k) := by
        rw [((Below.refl X.heap.size X).grown hgrow (Nat.le_refl _) (fun k h => by cases h)).cell (World.block_lt_of_cell? X _ g0)]; exact g0
      have HST := Lib.hid (hown.stored 0 (.int .u8 (k : Int)))
      have c1 : ∃ v, W2.cell? ⟨G, 0, none⟩ = some v := by
        have := hown.cellAt 0 (by omega)
        rw [List.getElem?_map, List.getElem?_eq_getElem (by simp)] at this
        exact ⟨_, this⟩
      obtain ⟨v1, c1⟩ := c1
      have c2 : W2.frozen? ⟨G, 0, none⟩ = false := hown.frozenAt 0
      clear hown hgrow g0 g2 hG
      have n0 : (0 : Int) < ((n + 1 : Nat) : Int) := by omega
      go_upto_region 11 with fail
      obtain ⟨W3, hW3⟩ : ∃ W3, W2.setCell ⟨G, 0, none⟩ (.int .u8 (k : Int)) = W3 := ⟨_, rfl⟩
      have HB3 := Lib.hid (show Below w.heap.size w W3 by rw [← hW3]; exact HX2.out.setCell (p := ⟨G, 0, none⟩) HGw.out _)
      have HR3 := Lib.hid (show W3.ownsRow w.heap.size 5 1 (.slice (some ⟨G, 0, none⟩) (n + 1) (n + 1)) (n + 1) ((fillB (k : Int) 0 n 0).map (Value.int .u8)) by
        have h := HST.out.1
        rw [← List.map_set, HF1.out, hW3] at h
        exact h)
      rw [hW3]
      clear hW3 HST HX HX2 c0 c1 c2
      go_loopw [9, 11] (fun s9 s11 wr => ∃ (j : Nat) (Q : Int), j ≤ n ∧ s9 = .int .i64 Q ∧ s11 = .int .i64 j ∧ Hid (Q = cutI 0 j ∧ -9223372036854775808 ≤ Q ∧ Q ≤ 9223372036854775807) ∧ Hid (wr.ownsRow w.heap.size 5 1 (.slice (some ⟨G, 0, none⟩) (n + 1) (n + 1)) (n + 1) ((fillB (k : Int) 0 n j).map (Value.int .u8))) ∧ Hid (Below w.heap.size w wr)) (fun _ s11 _ => n - (intOf s11).toNat)
      case atStart => exact ⟨0, 0, Nat.zero_le _, rfl, rfl, Lib.hid ⟨rfl, HYR.out⟩, HR3, HB3⟩
      case round =>
        obtain ⟨j, Q, hj, rfl, rfl, HQ, HR, HB⟩ := hrel
        clear HR3 HB3
        by_cases hlt : j < n
        · have i1 : (j : Int) < (n : Int) := by omega
          have i2 : ((j + 1 : Nat) : Int) < ((n + 1 : Nat) : Int) := by omega
          have i0' : (0 : Int) ≤ ((j + 1 : Nat) : Int) := by omega
          have i3 : IntKind.i64.wrap ((j : Int) + 1) = ((j + 1 : Nat) : Int) := by rw [IntWalk.i64_in _ (by omega)]; rfl
          obtain ⟨T, hT⟩ : ∃ T, Q.tmod 256 = T := ⟨_, rfl⟩
          obtain ⟨b, hbz⟩ : ∃ b, IntKind.u8.wrap T = b := ⟨_, rfl⟩
          obtain ⟨Q2, hQ2⟩ : ∃ Q2, Q.tdiv 256 = Q2 := ⟨_, rfl⟩
          have HSS := Lib.hid (HSET.out j hlt b (by rw [← HQ.out.1, hT, hbz]))
          have HQN := Lib.hid (show Q2 = cutI 0 (j + 1) ∧ -9223372036854775808 ≤ Q2 ∧ Q2 ≤ 9223372036854775807 from ⟨by rw [HCUT.out j, ← HQ.out.1, hQ2], by rw [← hQ2]; exact tdiv_b Q HQ.out.2⟩)
          have hw2 : IntKind.i64.wrap Q2 = Q2 := by rw [IntWalk.i64_in _ HQN.out.2]
          have c2 : ∃ v, wr.cell? ⟨G, j + 1, none⟩ = some v := by
            have := HR.out.cellAt (j + 1) (by omega)
            rw [List.getElem?_map, List.getElem?_eq_getElem (by rw [HLEN.out j hj]; omega)] at this
            exact ⟨_, this⟩
          obtain ⟨v2, c2⟩ := c2
          have c3 : wr.frozen? ⟨G, j + 1, none⟩ = false := HR.out.frozenAt (j + 1)
          have hst := Lib.hid (HR.out.stored (j + 1) (.int .u8 b))
          go_wp2
          go_roundw
          case rel =>
            refine ⟨j + 1, Q2, hlt, rfl, by go_num, HQN, ?_, Lib.hid (HB.out.setCell (p := ⟨G, j + 1, none⟩) HGw.out _)⟩
            have h := hst.out.1
            rw [← List.map_set, HSS.out] at h
            exact Lib.hid h
          case measure => simp [intOf]; omega
        · obtain rfl : j = n := by omega
          have i1 : ¬ (j : Int) < (j : Int) := by omega
          have HFN := Lib.hid (show wr.ownsRow w.heap.size 5 1 (.slice (some ⟨G, 0, none⟩) (j + 1) (j + 1)) (1 + j) (((k : Int) :: reB 0 j).map (Value.int .u8)) by
            have h := HR.out
            rw [HALL.out] at h
            rw [Nat.add_comm 1 j]
            exact h)
          go_wp2
          go_ret
          exact ⟨_, rfl, HFN.out, HB.out⟩
end Go.Proofs.YtpeieilbjadcfaaGreatDoor
