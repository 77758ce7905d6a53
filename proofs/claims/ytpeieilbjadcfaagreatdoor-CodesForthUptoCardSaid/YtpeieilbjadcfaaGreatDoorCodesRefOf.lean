/- A code's data as the document finds it: ref.Of; ref.Size. -/
import Derived.Test.YtpeieilbjadcfaaGreatDoorProg
import Derived.Test.YtpeieilbjadcfaaGreatDoorCodesPart
import Derived.Test.YtpeieilbjadcfaaGreatDoorCodesUse
import Derived.Test.YtpeieilbjadcfaaGreatDoorCodesSize
import Derived.BigQuiet
namespace Go.Proofs.YtpeieilbjadcfaaGreatDoor
open Go.RowKit
set_option linter.unusedVariables false
set_option linter.unusedSimpArgs false

/-- A box of a code's five cells. -/
def Five (w : World) (B : Nat) (v0 v1 v2 v3 v4 : Value) : Prop := w.cell? ⟨B, 0, none⟩ = some v0 ∧ w.cell? ⟨B, 1, none⟩ = some v1 ∧ w.cell? ⟨B, 2, none⟩ = some v2 ∧ w.cell? ⟨B, 3, none⟩ = some v3 ∧ w.cell? ⟨B, 4, none⟩ = some v4 ∧ ∀ i, w.frozen? ⟨B, i, none⟩ = false
theorem Five.below {w w' : World} {B n : Nat} {v0 v1 v2 v3 v4 : Value} (h : Five w B v0 v1 v2 v3 v4) (hb : Below n w w') (hB : B < n) : Five w' B v0 v1 v2 v3 v4 := by
  obtain ⟨h0, h1, h2, h3, h4, h5⟩ := h
  exact ⟨(hb.cell hB).trans h0, (hb.cell hB).trans h1, (hb.cell hB).trans h2, (hb.cell hB).trans h3, (hb.cell hB).trans h4, fun i => (hb.frozen hB).trans (h5 i)⟩
theorem Five.other {w : World} {B B' i : Nat} {v v0 v1 v2 v3 v4 : Value} (h : Five w B v0 v1 v2 v3 v4) (hB : B ≠ B') : Five (w.setCell ⟨B', i, none⟩ v) B v0 v1 v2 v3 v4 := by
  obtain ⟨h0, h1, h2, h3, h4, h5⟩ := h
  have ne : ∀ j, (⟨B', i, none⟩ : Addr) ≠ ⟨B, j, none⟩ := fun j e => hB (by injection e with e; exact e.symm)
  exact ⟨by rw [World.cell?_setCell_other _ _ _ _ (ne _)]; exact h0, by rw [World.cell?_setCell_other _ _ _ _ (ne _)]; exact h1, by rw [World.cell?_setCell_other _ _ _ _ (ne _)]; exact h2, by rw [World.cell?_setCell_other _ _ _ _ (ne _)]; exact h3, by rw [World.cell?_setCell_other _ _ _ _ (ne _)]; exact h4, fun j => by simp [go_sem, h5]⟩
theorem Five.set2 {w : World} {B : Nat} {v v0 v1 v2 v3 v4 : Value} (h : Five w B v0 v1 v2 v3 v4) : Five (w.setCell ⟨B, 2, none⟩ v) B v0 v1 v v3 v4 := by
  obtain ⟨h0, h1, h2, h3, h4, h5⟩ := h
  exact ⟨by simp [go_sem, h0], by simp [go_sem, h1], by simp [go_sem, h2], by simp [go_sem, h3], by simp [go_sem, h4], fun j => by simp [go_sem, h5]⟩
theorem Five.drewN {w : World} {B n : Nat} {v0 v1 v2 v3 v4 : Value} (h : Five w B v0 v1 v2 v3 v4) : Five (w.drewN n) B v0 v1 v2 v3 v4 := h
theorem quiet_same {P : Program} {f : FuncId} {args : Array Value} {w : World} {n : Nat} {v : Value}
    (h : Calls P f args (w.drewN n) fun e w' => e = .returned v ∧ w' = w.drewN n) : Calls P f args (w.drewN n) fun e w'' => e = .returned v ∧ ∃ m, w'' = w.drewN m :=
  h.mono fun _ _ ⟨he, hm⟩ => ⟨he, n, hm⟩
theorem Five.drew {w : World} {B : Nat} {v0 v1 v2 v3 v4 : Value} (h : Five w B v0 v1 v2 v3 v4) : Five w.drew B v0 v1 v2 v3 v4 := h
theorem row_int (r : Int) (h0 : 0 ≤ r) (h1 : r < 16) (w : World) : Calls Tryz.prog 28 #[.int .i64 r] w fun e w' => e = .returned (.string (rowB r.toNat)) ∧ w' = w := by
  have := row_walk r.toNat (by omega) w
  rwa [show ((r.toNat : Nat) : Int) = r from by omega] at this
theorem part_int (s : ByteArray) (n : Int) (c : UInt8) (w : World) (hs : s.size < 9223372036854775806) (hn0 : 0 ≤ n) (hn : n < 9223372036854775807) :
    Calls Tryz.prog 14 #[.string s, .int .i64 n, .int .u8 c.toNat] w fun e w' => e = .returned (.string (partB s n.toNat c)) ∧ w' = w := by
  have := part_walk s n.toNat c w hs (by omega)
  rwa [show ((n.toNat : Nat) : Int) = n from by omega] at this
theorem rowB_size (r : Nat) (h : r < 16) : (rowB r).size < 200 := by
  have h2 : ∀ r : Fin 16, (rowB r).size < 200 := by decide +kernel
  exact h2 ⟨r, h⟩
set_option maxRecDepth 100000 in
set_option maxHeartbeats 4000000 in
theorem refOf_walk (k : Nat) (hk : k < 256) (w : World) :
    Calls Tryz.prog 15 #[.int .u8 k] w fun e w' => e = .returned (codeV k) ∧ Below w.heap.size w w' := by
  have i0 : (k : Int) < 256 := by omega
  have HRW := Lib.hid (fun W => row_int ((k : Int) / 16) (by omega) (by omega) W)
  have HPT := Lib.hid (fun W => part_int (rowB (((k : Int) / 16)).toNat) ((k : Int) % 16) 124 W (by have := rowB_size (((k : Int) / 16)).toNat (by omega); omega) (by omega) (by omega))
  have HTX := Lib.hid (show partB (rowB (((k : Int) / 16)).toNat) (((k : Int) % 16)).toNat 124 = textR k by unfold textR; rw [show (((k : Int) / 16)).toNat = k / 16 by omega, show (((k : Int) % 16)).toNat = k % 16 by omega])
  obtain ⟨t1, t2, t3, t4, t5, t6, t7⟩ := tab_ok k hk
  have HV := Lib.hid (show codeV k = .agg #[.int .u8 k, .string (nameB k), .int .u8 (modeN k), .int .u8 (useN k), .int .u8 (widthN k)] from rfl)
  have hm25 := (tab_lims k hk).2.2.1
  have hw3 := (tab_lims k hk).2.2.2.2.1
  have HNM := Lib.hid t1
  have HMD := Lib.hid t2
  have HWR := Lib.hid t3
  have HUR := Lib.hid t4
  have HSG := Lib.hid (fun m hm W => sign_walk m hm W)
  clear t1 t2 t3 t4 t7
  go_enter Tryz.func15, Tryz.ntmps15
  go_upto_region 1 with fail
  go_upto_region 2 with (first | (go_at_call 28; refine (HRW.out _).mono ?_; rintro e w1 ⟨rfl, rfl⟩) | (go_at_call 14; refine (HPT.out _).mono ?_; rintro e w1 ⟨rfl, rfl⟩; rw [HTX.out]))
  obtain ⟨S, hS⟩ : ∃ S, textR k = S := ⟨_, rfl⟩
  rw [hS] at t5 t6 HNM HMD ⊢
  clear hS
  have s3 : (3 : Int) ≤ (S.size : Int) := by omega
  have s3n : 3 ≤ S.size := t5
  go_upto_region 3 with fail
  rw [HNM.out]
  obtain ⟨N, hN⟩ : ∃ N, nameB k = N := ⟨_, rfl⟩
  rw [hN] at HWR HUR HV ⊢
  clear HNM hN
  obtain ⟨R, hR⟩ : ∃ R, w.heap.size = R := ⟨_, rfl⟩
  rw [hR]
  obtain ⟨X, hX⟩ : ∃ X, (w.alloc (.cells #[.int .u8 0, .string ⟨#[]⟩, .int .u8 0, .int .u8 0, .int .u8 0] 38)).alloc (.cells #[.int .u8 k, .string N, .int .u8 0, .int .u8 0, .int .u8 0] 38) = X := ⟨_, rfl⟩
  have HB := Lib.hid (show Below R w X by rw [← hX, ← hR]; exact ((Below.refl _ w).alloc (Nat.le_refl _) _).alloc (by simp) _)
  have F0 := Lib.hid (show Five X R (.int .u8 0) (.string ⟨#[]⟩) (.int .u8 0) (.int .u8 0) (.int .u8 0) by rw [← hX, ← hR]; refine ⟨?_, ?_, ?_, ?_, ?_, fun i => ?_⟩ <;> simp [go_sem])
  have F1 := Lib.hid (show Five X (R + 1) (.int .u8 k) (.string N) (.int .u8 0) (.int .u8 0) (.int .u8 0) by rw [← hX, ← hR]; refine ⟨?_, ?_, ?_, ?_, ?_, fun i => ?_⟩ <;> simp [go_sem])
  rw [hX]
  clear hX
  have HR0 := Lib.hid hR
  clear hR
  go_upto_region 4 with fail
  go_loopw [5] (fun s5 wr => ∃ j : Nat, 1 ≤ j ∧ j ≤ 26 ∧ s5 = .int .i64 j ∧ Hid (Five wr R (.int .u8 0) (.string ⟨#[]⟩) (.int .u8 0) (.int .u8 0) (.int .u8 0)) ∧ Hid (Five wr (R + 1) (.int .u8 k) (.string N) (.int .u8 ((modeG S (j - 1) : Nat) : Int)) (.int .u8 0) (.int .u8 0)) ∧ Hid (Below R w wr)) (fun s5 _ => 30 - (intOf s5).toNat)
  case atStart => exact ⟨1, by omega, by omega, rfl, F0, F1, HB⟩
  case round =>
    obtain ⟨j, hj1, hj, rfl, H0, H1, HBr⟩ := hrel
    by_cases hlt : j < 26
    · have hm1 : (j : Int) ≤ 25 := by omega
      have i3 : IntKind.i64.wrap ((j : Int) + 1) = ((j + 1 : Nat) : Int) := by rw [IntWalk.i64_in _ (by omega)]; rfl
      have i4 : IntKind.u8.wrap (j : Int) = (j : Int) := wrap8 _ (by omega) (by omega)
      have HSm := Lib.hid (fun W => HSG.out j (by omega) W)
      have HJ := Lib.hid (show j - 1 + 1 = j by omega)
      by_cases hbig : 3 < S.size
      · have b3 : decide ((3 : Int) < (S.size : Int)) = true := decide_eq_true (by omega)
        have b4 : (4 : Int) ≤ (S.size : Int) := by omega
        have b4n : 4 ≤ S.size := by omega
        by_cases he : S.extract 4 S.size = signB j
        · have HE := Lib.hid (show modeG S (j + 1 - 1) = j by rw [show j + 1 - 1 = (j - 1) + 1 by omega, modeG, HJ.out, if_pos ⟨hbig, he⟩])
          have b1 := strEq_true he
          clear he
          have hst2 := Lib.hid (show ∃ v, wr.cell? ⟨R + 1, 2, none⟩ = some v from ⟨_, H1.out.2.2.1⟩)
          go_upto_region 6 with fail
          go_quiet ((go_at_call 29; exact quiet_same (HSm.out _)))
          obtain ⟨g0, g1, g2, g3, g4, gf⟩ := H1.out
          have f2 := gf 2
          clear g0 g1 g3 g4 gf
          go_wp2_with fail
          go_roundw
          case rel => exact ⟨j + 1, by omega, by omega, by go_num, Lib.hid (H0.out.drewN.other (by omega)), by rw [HE.out]; exact Lib.hid H1.out.drewN.set2, Lib.hid ((below_drewN HBr.out _).setCell (by simp) _)⟩
          case measure => simp [intOf]; omega
        · have HE := Lib.hid (show modeG S (j + 1 - 1) = modeG S (j - 1) by rw [show j + 1 - 1 = (j - 1) + 1 by omega, modeG, HJ.out, if_neg (by rintro ⟨_, h⟩; exact he h)])
          have b1 := strEq_false he
          clear he
          go_upto_region 6 with fail
          go_quiet ((go_at_call 29; exact quiet_same (HSm.out _)))
          go_wp2_with fail
          go_roundw
          case rel => exact ⟨j + 1, by omega, by omega, by go_num, Lib.hid H0.out.drewN, by rw [HE.out]; exact Lib.hid H1.out.drewN, Lib.hid (below_drewN HBr.out _)⟩
          case measure => simp [intOf]; omega
      · have b3 : decide ((3 : Int) < (S.size : Int)) = false := decide_eq_false (by omega)
        have HE := Lib.hid (show modeG S (j + 1 - 1) = modeG S (j - 1) by rw [show j + 1 - 1 = (j - 1) + 1 by omega, modeG, HJ.out, if_neg (by rintro ⟨h, _⟩; exact hbig h)])
        go_upto_region 6 with fail
        go_quiet (fail)
        go_wp2_with fail
        go_roundw
        case rel => exact ⟨j + 1, by omega, by omega, by go_num, Lib.hid H0.out.drewN, by rw [HE.out]; exact Lib.hid H1.out.drewN, Lib.hid (below_drewN HBr.out _)⟩
        case measure => simp [intOf]; omega
    · obtain rfl : j = 26 := by omega
      have i1 : ¬ ((26 : Nat) : Int) ≤ 25 := by omega
      have G1 := Lib.hid (show Five wr (R + 1) (.int .u8 k) (.string N) (.int .u8 (modeN k)) (.int .u8 0) (.int .u8 0) by have h := H1.out; rw [show modeG S (26 - 1) = modeN k from HMD.out] at h; exact h)
      have HWD := Lib.hid (fun W => show Calls Tryz.prog 30 #[.string N] W fun e w' => e = .returned (.int .u8 (widthN k)) ∧ w' = W by have := width_walk N W; rwa [HWR.out] at this)
      have HUS := Lib.hid (fun W => show Calls Tryz.prog 31 #[.string N, .int .u8 (modeN k), .int .u8 (widthN k)] W fun e w' => e = .returned (.int .u8 (useN k)) ∧ w' = W by have := use_walk N (modeN k) (widthN k) hm25 hw3 W; rwa [HUR.out] at this)
      clear H1 HSG HWR HUR HMD
      obtain ⟨M, hM⟩ : ∃ M, modeN k = M := ⟨_, rfl⟩
      obtain ⟨Wd, hWd⟩ : ∃ M, widthN k = M := ⟨_, rfl⟩
      obtain ⟨U, hU⟩ : ∃ M, useN k = M := ⟨_, rfl⟩
      rw [hM] at G1 HUS HV
      rw [hWd] at HWD HUS HV
      rw [hU] at HUS HV
      clear hM hWd hU hm25 hw3
      obtain ⟨g0, g1, g2, g3, g4, gf⟩ := G1.out
      obtain ⟨p0, p1, p2, p3, p4, pf⟩ := H0.out
      have f0 := gf 0
      have f1 := gf 1
      have f2 := gf 2
      have f3 := gf 3
      have f4 := gf 4
      have q0 := pf 0
      have q1 := pf 1
      have q2 := pf 2
      have q3 := pf 3
      have q4 := pf 4
      clear gf pf
      go_upto_region 8 with fail
      go_upto_region 10 with (first | (go_at_call 30; refine (HWD.out _).mono ?_; rintro e w1 ⟨rfl, rfl⟩) | (go_at_call 31; refine (HUS.out _).mono ?_; rintro e w1 ⟨rfl, rfl⟩))
      have HB2 := Lib.hid ((HBr.out.setCell (p := ⟨R + 1, 4, none⟩) (by simp) (.int .u8 Wd)).setCell (p := ⟨R + 1, 3, none⟩) (by simp) (.int .u8 U))
      obtain ⟨Y, hY⟩ : ∃ Y, (w1.setCell ⟨R + 1, 4, none⟩ (.int .u8 Wd)).setCell ⟨R + 1, 3, none⟩ (.int .u8 U) = Y := ⟨_, rfl⟩
      have E0 : Y.cell? ⟨R + 1, 0, none⟩ = some (.int .u8 k) := by rw [← hY]; simp [go_sem, g0]
      have E1 : Y.cell? ⟨R + 1, 1, none⟩ = some (.string N) := by rw [← hY]; simp [go_sem, g1]
      have E2 : Y.cell? ⟨R + 1, 2, none⟩ = some (.int .u8 M) := by rw [← hY]; simp [go_sem, g2]
      have E3 : Y.cell? ⟨R + 1, 3, none⟩ = some (.int .u8 U) := by rw [← hY]; simp [go_sem, g3]
      have E4 : Y.cell? ⟨R + 1, 4, none⟩ = some (.int .u8 Wd) := by rw [← hY]; simp [go_sem, g4]
      have D0 : Y.cell? ⟨R, 0, none⟩ = some (.int .u8 0) := by rw [← hY]; simp [go_sem, p0]
      have D1 : Y.cell? ⟨R, 1, none⟩ = some (.string ⟨#[]⟩) := by rw [← hY]; simp [go_sem, p1]
      have D2 : Y.cell? ⟨R, 2, none⟩ = some (.int .u8 0) := by rw [← hY]; simp [go_sem, p2]
      have D3 : Y.cell? ⟨R, 3, none⟩ = some (.int .u8 0) := by rw [← hY]; simp [go_sem, p3]
      have D4 : Y.cell? ⟨R, 4, none⟩ = some (.int .u8 0) := by rw [← hY]; simp [go_sem, p4]
      have L0 : Y.frozen? ⟨R, 0, none⟩ = false := by rw [← hY]; simp [go_sem, q0]
      have L1 : Y.frozen? ⟨R, 1, none⟩ = false := by rw [← hY]; simp [go_sem, q1]
      have L2 : Y.frozen? ⟨R, 2, none⟩ = false := by rw [← hY]; simp [go_sem, q2]
      have L3 : Y.frozen? ⟨R, 3, none⟩ = false := by rw [← hY]; simp [go_sem, q3]
      have L4 : Y.frozen? ⟨R, 4, none⟩ = false := by rw [← hY]; simp [go_sem, q4]
      rw [hY] at HB2 ⊢
      clear hY g0 g1 g2 g3 g4 f0 f1 f2 f3 f4 p0 p1 p2 p3 p4 q0 q1 q2 q3 q4
      have HRR := Lib.hid (Nat.le_refl R)
      go_upto_region 99 with fail
      repeat (first | go_values | go_skip | go_guarded | go_step | go_upon)
      refine bodyPost_ret (v := .agg #[.int .u8 k, .string N, .int .u8 M, .int .u8 U, .int .u8 Wd]) (by simp [results, Tryz.results15, go_sem, D0, D1, D2, D3, D4]; try rfl) rfl ?_
      exact ⟨by rw [HV.out], by rw [HR0.out]; repeat (first | exact HB2.out | refine Below.setCell ?_ HRR.out _)⟩
set_option maxRecDepth 100000 in
set_option maxHeartbeats 4000000 in
theorem refSize_walk (k p : Nat) (hk : k < 256) (hp : p < 256) (w : World) :
    Calls Tryz.prog 34 #[.int .u8 k, .int .u8 p] w fun e w' => e = .returned (.int .i64 (1 + opK k p : Nat)) ∧ Below w.heap.size w w' := by
  have HV := Lib.hid (show codeV k = .agg #[.int .u8 k, .string (nameB k), .int .u8 (modeN k), .int .u8 (useN k), .int .u8 (widthN k)] from rfl)
  have HM := Lib.hid (tab_lims k hk).2.2.1
  have HO := Lib.hid (show opK k p = opN (modeN k) (widthN k) p from rfl)
  have hb := opN_le (modeN k) (widthN k) p
  obtain ⟨cv, hcv⟩ : ∃ cv, codeV k = cv := ⟨_, rfl⟩
  have HC := Lib.hid hcv
  obtain ⟨o, ho⟩ : ∃ o, opN (modeN k) (widthN k) p = o := ⟨_, rfl⟩
  have HO2 := Lib.hid ho
  rw [ho] at hb HO
  rw [HO.out]
  clear hcv ho
  go_enter Tryz.func34, Tryz.ntmps34
  go_wp2_with (first | (go_at_call 15; refine (refOf_walk k hk _).mono ?_; rintro e w1 ⟨rfl, hb1⟩; rw [HC.out]) | (go_at_call 17; rw [← HC.out, HV.out]; refine (refOperand_walk _ _ _ _ _ _ HM.out hp _).mono ?_; rintro e w2 ⟨rfl, hb2⟩; rw [HO2.out]))
  go_ret
  exact ⟨ret_int (by omega), below_step hb1 hb1.size hb2⟩
end Go.Proofs.YtpeieilbjadcfaaGreatDoor
