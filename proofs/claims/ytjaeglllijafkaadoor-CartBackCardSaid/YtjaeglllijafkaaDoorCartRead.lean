/- cart.Read: the cartridge that bytes are, or refused. -/
import Derived.Test.YtjaeglllijafkaaDoorProg
import Derived.Test.YtjaeglllijafkaaDoorCartReadA
namespace Go.Proofs.YtjaeglllijafkaaDoor
open Go.RowKit
set_option linter.unusedVariables false
set_option linter.unusedSimpArgs false

set_option maxRecDepth 100000 in
set_option maxHeartbeats 4000000 in
theorem read_walk (a : Option Addr) (n c : Nat) (sa : Option Addr) (sn sc : Nat) (xs ss : List Int) (w : World) (hr : Row .u8 w (.slice a n c) xs) (hn : xs.length = n) (hf : Fits .u8 xs) (hm : n ≤ 281474976710656) (hrs : Row .u8 w (.slice sa sn sc) ss) (hns : ss.length = sn) (hms : sn ≤ 140737488355328) :
    Calls Tryd.prog 14 #[.slice a n c, .slice sa sn sc] w fun e w' => ∃ rv sv, e = .returned (.tuple #[(readC (tailN xs) ss).v rv sv, .int .i64 (readE (tailN xs) ss.length)]) ∧ w'.ownsRow w.heap.size 5 1 rv (readC (tailN xs) ss).rom.length ((readC (tailN xs) ss).rom.map (Value.int .u8)) ∧ w'.ownsRow w.heap.size 5 1 sv (readC (tailN xs) ss).sig.length ((readC (tailN xs) ss).sig.map (Value.int .u8)) ∧ Below w.heap.size w w' := by
  have HYF := Lib.hid (tailN_fits hf)
  have HYL := Lib.hid (tailN_length xs)
  have HT1 := Lib.hid (show n % 1024 = 512 → tailN xs = xs.drop 512 from fun h => by unfold tailN; rw [hn, if_pos h])
  have HT2 := Lib.hid (show ¬ n % 1024 = 512 → tailN xs = xs from fun h => by unfold tailN; rw [hn, if_neg h])
  obtain ⟨ys, hys⟩ : ∃ ys, tailN xs = ys := ⟨_, rfl⟩
  rw [hys] at HYF HYL HT1 HT2 ⊢
  have HR := Lib.hid hr
  have HN := Lib.hid hn
  have HRS := Lib.hid hrs
  have HNS := Lib.hid hns
  have HF := Lib.hid hf
  obtain ⟨m, hm2⟩ : ∃ m, ys.length = m := ⟨_, rfl⟩
  have HMM := Lib.hid hm2
  have hmn : m ≤ n := by have := HYL.out; omega
  clear hys hr hn hrs hns hf hm2
  go_enter Tryd.func14, Tryd.ntmps14
  go_upto_region 1 with fail
  obtain ⟨wB, hwB⟩ : ∃ wB, w.alloc (.cells #[.int .u8 0, .int .u8 0, .slice none 0 0, .int .i64 0, .string ⟨#[]⟩, .int .u16 0, .bool false, .slice none 0 0] 36) = wB := ⟨_, rfl⟩
  have HTB := Lib.hid (show Box8 wB w.heap.size by
    rw [← hwB]; exact ⟨⟨_, _, _, _, _, _, _, _, by simp [go_sem]; rfl, by simp [go_sem]; rfl, by simp [go_sem]; rfl, by simp [go_sem]; rfl, by simp [go_sem]; rfl, by simp [go_sem]; rfl, by simp [go_sem]; rfl, by simp [go_sem]; rfl⟩, fun j => by simp [go_sem]⟩)
  have HBB := Lib.hid (show Below w.heap.size w wB by rw [← hwB]; exact (Below.refl _ w).alloc (Nat.le_refl _) _)
  have HZB := Lib.hid (show w.heap.size < wB.heap.size by rw [← hwB]; simp)
  rw [hwB]
  clear hwB
  obtain ⟨T, hT⟩ : ∃ T, w.heap.size = T := ⟨_, rfl⟩
  rw [hT] at HTB HBB HZB ⊢
  have HTT := Lib.hid hT
  clear hT
  have HRB := Lib.hid (HR.out.below (show Below w.heap.size w wB by rw [HTT.out]; exact HBB.out))
  go_upto_if 14 with fail
  go_cut [0] (fun s0 wx => ∃ a' c', s0 = .slice a' m c' ∧ Hid (Row .u8 wB (.slice a' m c') ys) ∧ wB = wx)
  case first =>
    by_cases h : n % 1024 = 512
    · obtain ⟨b, o, c2, hra, hcc, hcm, hrc⟩ := HRB.out.cells (by have := HN.out; omega)
      injection hra with hr1 hr2 hr3
      subst hr1 hr3
      have HRC := Lib.hid hrc
      have HNC := Lib.hid (show n ≤ c by have := HN.out; omega)
      have HCM := Lib.hid hcm
      have e1 : ((n : Int) % 1024 == 512) = true := by rw [beq_iff_eq]; omega
      have i1 : (512 : Int) ≤ (n : Int) := by omega
      have i2 : 512 ≤ n := by omega
      have HY := Lib.hid (HT1.out h)
      have HMV := Lib.hid (show m = n - 512 by rw [← HMM.out, HY.out, List.length_drop, HN.out])
      have H := Lib.hid h
      clear hrc hr2 hcc hcm h hmn
      by_cases hc : c = 512
      · subst hc
        have HN5 := Lib.hid (show n = 512 by have := HNC.out; omega)
        have HM0 := Lib.hid (show m = 0 by have := HMV.out; have := HN5.out; omega)
        have HY0 := Lib.hid (show ys = [] from List.eq_nil_of_length_eq_zero (by rw [HMM.out, HM0.out]))
        go_wp2_with fail
        go_meet
        refine ⟨_, _, by rw [HMV.out], ?_, rfl⟩
        rw [HM0.out, HY0.out]
        exact Lib.hid (.inl ⟨_, _, rfl, rfl, by decide⟩)
      · have HN5' := Lib.hid (show 512 ≤ n from i2)
        go_wp2_with fail
        go_meet
        exact ⟨_, _, by rw [HMV.out], by rw [HMV.out, HY.out]; exact Lib.hid (drop_row HRC.out HN.out 512 (by have := HN5'.out; omega) HNC.out HCM.out), rfl⟩
    · have e1 : ((n : Int) % 1024 == 512) = false := by rw [beq_eq_false_iff_ne]; omega
      have HY := Lib.hid (HT2.out h)
      have HMV := Lib.hid (show m = n by rw [← HMM.out, HY.out, HN.out])
      clear h hmn
      go_wp2_with fail
      go_meet
      exact ⟨a, c, by rw [HMV.out], by rw [HMV.out, HY.out]; exact HRB, rfl⟩
  case rest =>
    obtain ⟨a', c', rfl, HRY, rfl⟩ := hcut
    have HRE := Lib.hid (show readE ys ss.length = if m < 32768 then 30 else if 8388608 < m then 31 else if chipE (bestK ys m 3).2.ki = 32 then 32 else if 9 < (bestK ys m 3).2.rz then 33 else if chipK (bestK ys m 3).2.ki = 1 ∧ sn ≠ 8192 then 34 else 0 by rw [← HMM.out, ← HNS.out]; rfl)
    have HRN := Lib.hid (show ¬ readE ys ss.length = 0 → readC ys ss = noCartR from fun h => by unfold readC; rw [if_neg h])
    clear HR HRB HT1 HT2 HF HYL HN hmn hm
    by_cases h30 : m < 32768
    · have HE := Lib.hid (show readE ys ss.length = 30 ∧ readC ys ss = noCartR by
        have h : readE ys ss.length = 30 := by rw [HRE.out, if_pos h30]
        exact ⟨h, HRN.out (by rw [h]; decide)⟩)
      have i30 : (m : Int) < 32768 := by omega
      clear h30
      obtain ⟨⟨u0, u1, u2, u3, u4, u5, u6, u7, g0, g1, g2, g3, g4, g5, g6, g7⟩, gf⟩ := HTB.out
      have f0 := gf 0
      have f1 := gf 1
      have f2 := gf 2
      have f3 := gf 3
      have f4 := gf 4
      have f5 := gf 5
      have f6 := gf 6
      have f7 := gf 7
      clear gf
      go_wp2_with fail
      refine bodyPost_ret (v := .tuple #[noCartR.v (.slice none 0 0) (.slice none 0 0), .int .i64 30]) (by simp [results, Tryd.results14, go_sem, g0, g1, g2, g3, g4, g5, g6, g7]; try rfl) rfl ?_
      rw [HE.out.1, HE.out.2]
      exact ⟨_, _, rfl, ⟨rfl, .inl ⟨rfl, rfl⟩⟩, ⟨rfl, .inl ⟨rfl, rfl⟩⟩, put8_below _ _ _ _ _ _ _ _ (by rw [HTT.out]; exact HBB.out) (by rw [HTT.out]; exact Nat.le_refl _)⟩
    · have H30 := Lib.hid h30
      have i30 : ¬ (m : Int) < 32768 := by omega
      clear h30
      by_cases h31 : 8388608 < m
      · have HE := Lib.hid (show readE ys ss.length = 31 ∧ readC ys ss = noCartR by
          have h : readE ys ss.length = 31 := by rw [HRE.out, if_neg H30.out, if_pos h31]
          exact ⟨h, HRN.out (by rw [h]; decide)⟩)
        have i31 : 8388608 < (m : Int) := by omega
        clear h31
        obtain ⟨⟨u0, u1, u2, u3, u4, u5, u6, u7, g0, g1, g2, g3, g4, g5, g6, g7⟩, gf⟩ := HTB.out
        have f0 := gf 0
        have f1 := gf 1
        have f2 := gf 2
        have f3 := gf 3
        have f4 := gf 4
        have f5 := gf 5
        have f6 := gf 6
        have f7 := gf 7
        clear gf
        go_wp2_with fail
        refine bodyPost_ret (v := .tuple #[noCartR.v (.slice none 0 0) (.slice none 0 0), .int .i64 31]) (by simp [results, Tryd.results14, go_sem, g0, g1, g2, g3, g4, g5, g6, g7]; try rfl) rfl ?_
        rw [HE.out.1, HE.out.2]
        exact ⟨_, _, rfl, ⟨rfl, .inl ⟨rfl, rfl⟩⟩, ⟨rfl, .inl ⟨rfl, rfl⟩⟩, put8_below _ _ _ _ _ _ _ _ (by rw [HTT.out]; exact HBB.out) (by rw [HTT.out]; exact Nat.le_refl _)⟩
      · have H31 := Lib.hid h31
        have i31 : ¬ 8388608 < (m : Int) := by omega
        clear h31
        have hm3 : 32768 ≤ m := by have := H30.out; omega
        have HBK := Lib.hid (bestK_fits HYF.out HMM.out 3)
        have hbb := bestK_bounds ys m 3
        have HCH := Lib.hid (fun W (hr : Row .u8 W (.slice a' m c') ys) => choose_walk a' m c' ys W hr HMM.out HYF.out (by omega))
        have HRC := Lib.hid (show readE ys ss.length = 0 → readC ys ss = ⟨(bestK ys m 3).1, chipK (bestK ys m 3).2.ki, ramN (bestK ys m 3).2.rz, (bestK ys m 3).2.ti, (bestK ys m 3).2.re, fastB (bestK ys m 3).2.mo, ys, if chipK (bestK ys m 3).2.ki = 1 then ss else []⟩ from fun h => by unfold readC; rw [if_pos h, HMM.out])
        have HRE2 := Lib.hid (show readE ys ss.length = if chipE (bestK ys m 3).2.ki = 32 then 32 else if 9 < (bestK ys m 3).2.rz then 33 else if chipK (bestK ys m 3).2.ki = 1 ∧ sn ≠ 8192 then 34 else 0 by rw [HRE.out, if_neg H30.out, if_neg H31.out])
        obtain ⟨bl, hbl⟩ : ∃ bl, (bestK ys m 3).1 = bl := ⟨_, rfl⟩
        obtain ⟨K, hK⟩ : ∃ K, (bestK ys m 3).2 = K := ⟨_, rfl⟩
        rw [hbl] at HCH HRC hbb
        rw [hK] at HCH HRC HRE2 HBK
        clear HRE hbl hK hm3
        obtain ⟨ti, mo, ki, rz, ck, su, re⟩ := K
        unfold Card.v at HCH
        simp only at HCH HRC HRE2
        obtain ⟨⟨mo0, mo1⟩, ⟨ki0, ki1⟩, ⟨rz0, rz1⟩, -, -, ⟨re0, re1⟩, hti⟩ := HBK.out
        simp only at mo0 mo1 ki0 ki1 rz0 rz1 re0 re1 hti
        have HCP := Lib.hid (fun W => chip_walk ki W ki0 ki1)
        have HF16 := Lib.hid (and16 mo mo0 mo1)
        have hcb := chipK_bounds ki
        have HCE := Lib.hid (chipE_cases ki)
        obtain ⟨kk, hkk⟩ : ∃ kk, chipK ki = kk := ⟨_, rfl⟩
        rw [hkk] at HCP HRC HRE2 hcb
        obtain ⟨ke, hke⟩ : ∃ ke, chipE ki = ke := ⟨_, rfl⟩
        rw [hke] at HCP HRE2 HCE
        clear hkk hke HBK
        go_upto_region 8 with (go_at_call 29; refine (HCH.out _ HRY.out).mono ?_; rintro e w1 ⟨rfl, hb⟩)
        have ha := (Below.refl w1.heap.size w1).alloc (Nat.le_refl _) (.cells #[.string ti, .int .u8 mo, .int .u8 ki, .int .u8 rz, .int .u16 ck, .int .u16 su, .int .u16 re] 27)
        have hb2 := hb.trans (ha.mono hb.size)
        have HT1 := Lib.hid (HTB.out.keep hb2 HZB.out)
        have HB1 := Lib.hid (HBB.out.trans (hb2.mono (Nat.le_of_lt HZB.out)))
        have HY1 := Lib.hid (HRY.out.below hb2)
        have HE1 := Lib.hid (card_boxed w1 ⟨ti, mo, ki, rz, ck, su, re⟩)
        have HZ1 := Lib.hid (show T < w1.heap.size ∧ w1.heap.size < (w1.alloc (.cells #[.string ti, .int .u8 mo, .int .u8 ki, .int .u8 rz, .int .u16 ck, .int .u16 su, .int .u16 re] 27)).heap.size from ⟨Nat.lt_of_lt_of_le HZB.out hb.size, by simp⟩)
        simp only at HE1
        obtain ⟨W1, hW1⟩ : ∃ W1, w1.alloc (.cells #[.string ti, .int .u8 mo, .int .u8 ki, .int .u8 rz, .int .u16 ck, .int .u16 su, .int .u16 re] 27) = W1 := ⟨_, rfl⟩
        rw [hW1] at HT1 HB1 HY1 HE1 HZ1 ⊢
        obtain ⟨E, hE⟩ : ∃ E, w1.heap.size = E := ⟨_, rfl⟩
        rw [hE] at HE1 HZ1 ⊢
        clear ha hb hb2 hW1 hE HTB HBB HRY HZB HCH
        have e0 := HE1.out.c0
        have e1 := HE1.out.c1
        have e2 := HE1.out.c2
        have e3 := HE1.out.c3
        have e6 := HE1.out.c6
        simp only at e0 e1 e2 e3 e6
        go_upto_region 9 with (go_at_call 30; refine (HCP.out _).mono ?_; rintro e w2 ⟨rfl, rfl⟩)
        clear HCP
        rcases HCE.out with h | h
        case inr =>
          subst h
          have HE := Lib.hid (show readE ys ss.length = 32 ∧ readC ys ss = noCartR by
            have h : readE ys ss.length = 32 := by rw [HRE2.out, if_pos rfl]
            exact ⟨h, HRN.out (by rw [h]; decide)⟩)
          obtain ⟨⟨u0, u1, u2, u3, u4, u5, u6, u7, g0, g1, g2, g3, g4, g5, g6, g7⟩, gf⟩ := HT1.out
          have f0 := gf 0
          have f1 := gf 1
          have f2 := gf 2
          have f3 := gf 3
          have f4 := gf 4
          have f5 := gf 5
          have f6 := gf 6
          have f7 := gf 7
          clear gf
          go_wp2_with fail
          refine bodyPost_ret (v := .tuple #[noCartR.v (.slice none 0 0) (.slice none 0 0), .int .i64 32]) (by simp [results, Tryd.results14, go_sem, g0, g1, g2, g3, g4, g5, g6, g7]; try rfl) rfl ?_
          rw [HE.out.1, HE.out.2]
          exact ⟨_, _, rfl, ⟨rfl, .inl ⟨rfl, rfl⟩⟩, ⟨rfl, .inl ⟨rfl, rfl⟩⟩, put8_below _ _ _ _ _ _ _ _ (by rw [HTT.out]; exact HB1.out) (by rw [HTT.out]; exact Nat.le_refl _)⟩
        case inl =>
          subst h
          by_cases h33 : 9 < rz
          case pos =>
            have HE := Lib.hid (show readE ys ss.length = 33 ∧ readC ys ss = noCartR by
              have h : readE ys ss.length = 33 := by rw [HRE2.out, if_neg (by decide), if_pos h33]
              exact ⟨h, HRN.out (by rw [h]; decide)⟩)
            obtain ⟨⟨u0, u1, u2, u3, u4, u5, u6, u7, g0, g1, g2, g3, g4, g5, g6, g7⟩, gf⟩ := HT1.out
            have f0 := gf 0
            have f1 := gf 1
            have f2 := gf 2
            have f3 := gf 3
            have f4 := gf 4
            have f5 := gf 5
            have f6 := gf 6
            have f7 := gf 7
            clear gf
            go_wp2_with fail
            refine bodyPost_ret (v := .tuple #[noCartR.v (.slice none 0 0) (.slice none 0 0), .int .i64 33]) (by simp [results, Tryd.results14, go_sem, g0, g1, g2, g3, g4, g5, g6, g7]; try rfl) rfl ?_
            rw [HE.out.1, HE.out.2]
            exact ⟨_, _, rfl, ⟨rfl, .inl ⟨rfl, rfl⟩⟩, ⟨rfl, .inl ⟨rfl, rfl⟩⟩, put8_below _ _ _ _ _ _ _ _ (by rw [HTT.out]; exact HB1.out) (by rw [HTT.out]; exact Nat.le_refl _)⟩
          case neg =>
            have H33 := Lib.hid h33
            by_cases h34 : kk = 1 ∧ sn ≠ 8192
            case pos =>
              have q1 : (kk == 1) = true := by rw [beq_iff_eq]; exact h34.1
              have q2 : ((sn : Int) != 8192) = true := by rw [bne_iff_ne]; have := h34.2; omega
              have HE := Lib.hid (show readE ys ss.length = 34 ∧ readC ys ss = noCartR by
                have h : readE ys ss.length = 34 := by rw [HRE2.out, if_neg (by decide), if_neg H33.out, if_pos h34]
                exact ⟨h, HRN.out (by rw [h]; decide)⟩)
              clear h34
              obtain ⟨⟨u0, u1, u2, u3, u4, u5, u6, u7, g0, g1, g2, g3, g4, g5, g6, g7⟩, gf⟩ := HT1.out
              have f0 := gf 0
              have f1 := gf 1
              have f2 := gf 2
              have f3 := gf 3
              have f4 := gf 4
              have f5 := gf 5
              have f6 := gf 6
              have f7 := gf 7
              clear gf
              go_wp2_with fail
              refine bodyPost_ret (v := .tuple #[noCartR.v (.slice none 0 0) (.slice none 0 0), .int .i64 34]) (by simp [results, Tryd.results14, go_sem, g0, g1, g2, g3, g4, g5, g6, g7]; try rfl) rfl ?_
              rw [HE.out.1, HE.out.2]
              exact ⟨_, _, rfl, ⟨rfl, .inl ⟨rfl, rfl⟩⟩, ⟨rfl, .inl ⟨rfl, rfl⟩⟩, put8_below _ _ _ _ _ _ _ _ (by rw [HTT.out]; exact HB1.out) (by rw [HTT.out]; exact Nat.le_refl _)⟩
            case neg =>
              have HE0 := Lib.hid (show readE ys ss.length = 0 by rw [HRE2.out, if_neg (by decide), if_neg H33.out, if_neg h34])
              have HC0 := Lib.hid (HRC.out HE0.out)
              have HK1 := Lib.hid (show kk = 1 → sn = 8192 from fun h => Classical.byContradiction fun h2 => h34 ⟨h, h2⟩)
              have HDC := Lib.hid h34
              go_upto_region 13 with fail
              go_cut [48] (fun s48 wx => s48 = .bool false ∧ w2 = wx)
              case first =>
                by_cases hk1 : kk = 1
                · have q1 : (kk == 1) = true := by rw [beq_iff_eq]; exact hk1
                  have q2 : ((sn : Int) != 8192) = false := by have := HK1.out hk1; simp [this]
                  clear h34 hk1
                  go_wp2_with fail
                  go_meet
                  exact ⟨rfl, rfl⟩
                · have q1 : (kk == 1) = false := by rw [beq_eq_false_iff_ne]; exact hk1
                  clear h34 hk1
                  go_wp2_with fail
                  go_meet
                  exact ⟨rfl, rfl⟩
              case rest =>
                obtain ⟨rfl, rfl⟩ := hcut
                clear h34 h33
                go_upto_region 15 with fail
                have HCL := Lib.hid (fun W (hr : Row .u8 W (.slice a' m c') ys) => clone_row a' m c' ys W hr HMM.out (by omega) (by omega))
                have HCS := Lib.hid (fun (h0 : 0 < sn) W (hr : Row .u8 W (.slice sa sn sc) ss) => clone_row sa sn sc ss W hr HNS.out h0 (by omega))
                have KS := Lib.hid (fun (W : World) (hW : Below w2.heap.size w2 W) => show (fun w' => w'.cell? ⟨E, 0, none⟩ = some (.string ti) ∧ w'.cell? ⟨E, 1, none⟩ = some (.int .u8 mo) ∧ w'.cell? ⟨E, 6, none⟩ = some (.int .u16 re)) W from ⟨(hW.cell (p := ⟨E, 0, none⟩) HZ1.out.2).trans e0, (hW.cell (p := ⟨E, 1, none⟩) HZ1.out.2).trans e1, (hW.cell (p := ⟨E, 6, none⟩) HZ1.out.2).trans e6⟩)
                have HW := Lib.hid (show Below w2.heap.size w2 w2.drew from (Below.refl _ _).drew)
                have HWA := Lib.hid (show Below w2.heap.size w2 (w2.alloc (.cells #[.int .u8 0, .int .u8 0, .slice none 0 0, .int .i64 0, .string ⟨#[]⟩, .int .u16 0, .bool false, .slice none 0 0] 36)).drew from ((Below.refl _ _).alloc (Nat.le_refl _) _).drew)
                clear e2 e3
                go_cut [10] (fun s10 wx => ∃ Y G cp, s10 = .pointer (some ⟨Y, 0, none⟩) ∧ Hid (CartAt wx Y bl kk (.slice (some ⟨G, 0, none⟩) m cp) 0 ti re (fastB mo) (.slice none 0 0)) ∧ Hid (∀ j, wx.frozen? ⟨Y, j, none⟩ = false) ∧ Hid (wx.ownsRow w2.heap.size 5 1 (.slice (some ⟨G, 0, none⟩) m cp) m (ys.map (Value.int .u8))) ∧ Hid (Below w2.heap.size w2 wx) ∧ Hid (w2.heap.size ≤ Y ∧ Y < wx.heap.size ∧ G ≠ Y))
                case first =>
                  have KD := Lib.hid (KS.out _ HW.out)
                  have KA := Lib.hid (KS.out _ HWA.out)
                  go_region_held3 (fun w' => w'.cell? ⟨E, 0, none⟩ = some (.string ti) ∧ w'.cell? ⟨E, 1, none⟩ = some (.int .u8 mo) ∧ w'.cell? ⟨E, 6, none⟩ = some (.int .u16 re)) (first | (with_reducible exact KD.out) | (with_reducible exact KA.out) | (with_reducible exact KS.out _ HW.out) | (with_reducible exact KS.out _ (HW.out.alloc HW.out.size _)) | (with_reducible exact KS.out _ (put8_below _ _ _ _ _ _ _ _ HW.out (Nat.le_refl _)))) (first | (go_at_call 31; refine Calls.mono (HCL.out _ (by exact HY1.out.below (by first | exact HW.out | exact HWA.out))) ?_; rintro e w' ⟨G, cp, rfl, ho, hb⟩; have HO := Lib.hid ho; have HW := Lib.hid (by first | (with_reducible exact below_step HW.out HW.out.size hb) | (with_reducible exact below_step HWA.out HWA.out.size hb) : Below w2.heap.size w2 w'); (try (have hbx := alloc_kept8 hb; have HBX := Lib.hid hbx; obtain ⟨⟨x0, x1, x2, x3, x4, x5, x6, x7, y0, y1, y2, y3, y4, y5, y6, y7⟩, gf⟩ := hbx; have z0 := gf 0; have z1 := gf 1; have z2 := gf 2; have z3 := gf 3; have z4 := gf 4; have z5 := gf 5; have z6 := gf 6; have z7 := gf 7; clear gf)); clear ho hb))
                  · go_wp2_with fail
                    go_meet
                    rw [HF16.out]
                    have ho := HO.out
                    have hlt := ho.lt G rfl
                    exact ⟨_, G, cp, rfl, Lib.hid (cart_boxed w' bl kk _ 0 ti re (fastB mo) _), Lib.hid (fun j => by simp [go_sem]), Lib.hid (owns_lo (owns_kept ho ((Below.refl _ _).alloc (Nat.le_refl _) _)) (by simp)), Lib.hid (HW.out.alloc HW.out.size _), Lib.hid ⟨HW.out.size, by simp, by omega⟩⟩
                  · go_wp2_with fail
                    go_meet
                    rw [HF16.out]
                    have ho := HO.out
                    have hlt := ho.lt G rfl
                    have hne : w2.heap.size ≠ G := by have := hlt.1; simp at this; omega
                    refine ⟨_, G, cp, rfl, Lib.hid (put8_cart HBX.out bl kk _ 0 ti re (fastB mo) _), Lib.hid (fun j => (put8_froz w' w2.heap.size _ _ _ _ _ _ _ _ _).trans (HBX.out.fr j)), Lib.hid (owns_lo (owns_ne (owns_ne (owns_ne (owns_ne (owns_ne (owns_ne (owns_ne (owns_ne ho hne _) hne _) hne _) hne _) hne _) hne _) hne _) hne _) (by simp)), Lib.hid (put8_below _ _ _ _ _ _ _ _ HW.out (Nat.le_refl _)), Lib.hid ⟨Nat.le_refl _, ?_, fun e => hne e.symm⟩⟩
                    simp only [World.size_setCell]
                    have := HW.out.size
                    have := hlt.2
                    have := hlt.1
                    simp at this
                    omega
                case rest =>
                  obtain ⟨Y, G, cp, rfl, hca, hfr, hown, hbel, hy⟩ := hcut
                  have HTC := Lib.hid (HT1.out.keep hbel.out (Nat.lt_trans HZ1.out.1 HZ1.out.2))
                  have e3 : wc.cell? ⟨E, 3, none⟩ = some (.int .u8 rz) := (hbel.out.cell (p := ⟨E, 3, none⟩) HZ1.out.2).trans HE1.out.c3
                  have HBW := Lib.hid (show Below w.heap.size w w2 by rw [HTT.out]; exact HB1.out)
                  have HRS2 := Lib.hid ((HRS.out.below (show Below w.heap.size w w2 by rw [HTT.out]; exact HB1.out)).below hbel.out)
                  have HRW := Lib.hid (ram_wrap rz rz0 (by have := H33.out; omega))
                  have r9 : rz ≤ 9 := by have := H33.out; omega
                  have HE3 := Lib.hid e3
                  clear e0 e1 e6 KS HW HWA HCL
                  have m3 : wc.cell? ⟨Y, 3, none⟩ = some (.int .i64 0) := hca.out.c3
                  have z3 : wc.frozen? ⟨Y, 3, none⟩ = false := hfr.out 3
                  go_upto_if 72 with fail
                  go_cut [72] (fun s72 wx => Hid (CartAt wx Y bl kk (.slice (some ⟨G, 0, none⟩) m cp) (ramN rz) ti re (fastB mo) (.slice none 0 0)) ∧ Hid (∀ j, wx.frozen? ⟨Y, j, none⟩ = false) ∧ Hid (wx.ownsRow w2.heap.size 5 1 (.slice (some ⟨G, 0, none⟩) m cp) m (ys.map (Value.int .u8))) ∧ Hid (Below w2.heap.size w2 wx) ∧ Hid (Y < wx.heap.size) ∧ Hid (Row .u8 wx (.slice sa sn sc) ss))
                  case first =>
                    by_cases hz : 0 < rz
                    · have HRM := Lib.hid (show ramN rz = 1024 * 2 ^ rz.toNat from if_pos hz)
                      obtain ⟨rm, hrm⟩ : ∃ rm : Int, IntKind.i64.wrap (1024 * 2 ^ rz.toNat) = rm := ⟨_, rfl⟩
                      have HR2 := Lib.hid (show ramN rz = rm by rw [HRM.out, ← HRW.out, hrm])
                      have hz2 : rz > 0 := hz
                      clear HRM HRW
                      go_wp2_with fail
                      go_meet
                      rw [HR2.out]
                      refine ⟨Lib.hid (cart_set3 hca.out rm), Lib.hid (fun j => by simp [go_sem]; exact hfr.out j), Lib.hid (owns_ne hown.out (fun e => hy.out.2.2 e.symm) _), Lib.hid (hbel.out.setCell hy.out.1 _), Lib.hid (by rw [World.size_setCell]; exact hy.out.2.1), ?_⟩
                      exact Lib.hid (HRS.out.below (HBW.out.trans ((hbel.out.setCell hy.out.1 _).mono HBW.out.size)))
                    · have HR2 := Lib.hid (show ramN rz = 0 from if_neg hz)
                      have hz2 : ¬ rz > 0 := hz
                      go_wp2_with fail
                      go_meet
                      rw [HR2.out]
                      exact ⟨hca, hfr, hown, hbel, Lib.hid hy.out.2.1, HRS2⟩
                  case rest =>
                    obtain ⟨hca2, hfr2, hown2, hbel2, hy2, hrs2⟩ := hcut
                    obtain ⟨rv, hrv⟩ : ∃ rv, ramN rz = rv := ⟨_, rfl⟩
                    rw [hrv] at hca2 HC0
                    obtain ⟨fv, hfv⟩ : ∃ fv, fastB mo = fv := ⟨_, rfl⟩
                    rw [hfv] at hca2 HC0
                    clear hrv hfv hca hfr hown HTC HRW HRS2 m3 z3 e3
                    have m7 := hca2.out.c7
                    have z7 := hfr2.out 7
                    go_upto_if 78 with fail
                    go_cut [78] (fun s78 wx => ∃ sv, Hid (CartAt wx Y bl kk (.slice (some ⟨G, 0, none⟩) m cp) rv ti re fv sv) ∧ Hid (wx.ownsRow w2.heap.size 5 1 (.slice (some ⟨G, 0, none⟩) m cp) m (ys.map (Value.int .u8))) ∧ Hid (wx.ownsRow w2.heap.size 5 1 sv (if kk = 1 then ss else []).length ((if kk = 1 then ss else []).map (Value.int .u8))) ∧ Hid (Below w2.heap.size w2 wx) ∧ Hid (Y < wx.heap.size))
                    case first =>
                      by_cases hk1 : kk = 1
                      · have q1 : (kk == 1) = true := by rw [beq_iff_eq]; exact hk1
                        have HK2 := Lib.hid hk1
                        have HSN := Lib.hid (show 0 < sn by have := HK1.out hk1; omega)
                        clear hk1
                        go_wp2_with (go_at_call 31; refine Calls.mono (HCS.out HSN.out _ (by exact hrs2.out)) ?_; rintro e w3 ⟨G3, cp3, rfl, ho, hb⟩; have HO := Lib.hid ho; have m7 := (hb.cell (p := ⟨Y, 7, none⟩) hy2.out).trans m7; have z7 := (hb.frozen (p := ⟨Y, 7, none⟩) hy2.out).trans z7; have HB3 := Lib.hid hb; clear ho hb)
                        go_meet
                        have hlt := HO.out.lt G3 rfl
                        have hne : G3 ≠ Y := by have := hy2.out; omega
                        refine ⟨_, Lib.hid (cart_set7 (hca2.out.keep HB3.out hy2.out) _), Lib.hid (owns_ne (owns_kept hown2.out HB3.out) (fun e => hy.out.2.2 e.symm) _), ?_, Lib.hid ((below_step hbel2.out hbel2.out.size HB3.out).setCell hy.out.1 _), Lib.hid (by rw [World.size_setCell]; exact Nat.lt_of_lt_of_le hy2.out HB3.out.size)⟩
                        rw [if_pos HK2.out, HNS.out]
                        exact Lib.hid (owns_lo (owns_ne HO.out (fun e => hne e.symm) _) hbel2.out.size)
                      · have q1 : (kk == 1) = false := by rw [beq_eq_false_iff_ne]; exact hk1
                        have HK2 := Lib.hid hk1
                        clear hk1
                        go_wp2_with fail
                        go_meet
                        refine ⟨_, hca2, hown2, ?_, hbel2, hy2⟩
                        rw [if_neg HK2.out]
                        exact Lib.hid ⟨rfl, .inl ⟨rfl, rfl⟩⟩
                    case rest =>
                      obtain ⟨sv, hca3, hown3, hsig3, hbel3, hy3⟩ := hcut
                      obtain ⟨sa3, sc3, rfl⟩ := owns_sliced hsig3.out
                      obtain ⟨sl, hsl⟩ : ∃ sl, (if kk = 1 then ss else []) = sl := ⟨_, rfl⟩
                      rw [hsl] at hsig3 HC0 hca3
                      have HSL := Lib.hid hsl
                      clear hsl
                      have c0 := hca3.out.c0
                      have c1 := hca3.out.c1
                      have c2 := hca3.out.c2
                      have c3 := hca3.out.c3
                      have c4 := hca3.out.c4
                      have c5 := hca3.out.c5
                      have c6 := hca3.out.c6
                      have c7 := hca3.out.c7
                      have hne := Lib.hid (show T ≠ Y by have := HZ1.out; have := hy.out.1; omega)
                      obtain ⟨⟨u0, u1, u2, u3, u4, u5, u6, u7, g0, g1, g2, g3, g4, g5, g6, g7⟩, gf⟩ := HT1.out.keep hbel3.out (Nat.lt_trans HZ1.out.1 HZ1.out.2)
                      have f0 := gf 0
                      have f1 := gf 1
                      have f2 := gf 2
                      have f3 := gf 3
                      have f4 := gf 4
                      have f5 := gf 5
                      have f6 := gf 6
                      have f7 := gf 7
                      clear gf m7 z7
                      go_wp2_with fail
                      refine bodyPost_ret (v := .tuple #[.agg #[.int .u8 bl, .int .u8 kk, .slice (some ⟨G, 0, none⟩) m cp, .int .i64 rv, .string ti, .int .u16 re, .bool fv, .slice sa3 sl.length sc3], .int .i64 0]) (by simp [results, Tryd.results14, go_sem, g0, g1, g2, g3, g4, g5, g6, g7]; try rfl) rfl ?_
                      rw [HE0.out, HC0.out]
                      have hTw : w.heap.size ≤ T := by rw [HTT.out]; exact Nat.le_refl _
                      have hT2 : T < w2.heap.size := Nat.lt_trans HZ1.out.1 HZ1.out.2
                      have hBf : Below w.heap.size w wc := HBW.out.trans (hbel3.out.mono HBW.out.size)
                      refine ⟨_, _, rfl, ?_, ?_, put8_below _ _ _ _ _ _ _ _ hBf hTw⟩
                      · show World.ownsRow _ _ _ _ _ ys.length (ys.map (Value.int .u8))
                        rw [HMM.out]
                        exact owns_lo (owns_put8 _ _ _ _ _ _ _ _ hown3.out hT2) HBW.out.size
                      · show World.ownsRow _ _ _ _ _ sl.length (sl.map (Value.int .u8))
                        exact owns_lo (owns_put8 _ _ _ _ _ _ _ _ hsig3.out hT2) HBW.out.size
end Go.Proofs.YtjaeglllijafkaaDoor
