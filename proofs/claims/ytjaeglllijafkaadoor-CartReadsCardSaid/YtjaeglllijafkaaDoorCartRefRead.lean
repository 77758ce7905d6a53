/- The document's Read. -/
import Derived.Test.YtjaeglllijafkaaDoorProg
import Derived.Test.YtjaeglllijafkaaDoorCartReadA
import Derived.Test.YtjaeglllijafkaaDoorCartRefCard
import Derived.Test.YtjaeglllijafkaaDoorCartRefScore
namespace Go.Proofs.YtjaeglllijafkaaDoor
open Go.RowKit
set_option linter.unusedVariables false
set_option linter.unusedSimpArgs false

theorem lookE_one {m : Nat} (h : 32768 ≤ m) : lookE m 1 = 0 := by
  unfold lookE
  rw [show atN 1 = 32704 from rfl, if_neg (by decide), if_neg (by omega)]
theorem bestK_one {ys : List Int} {m : Nat} (h : 32768 ≤ m) : bestK ys m 1 = (1, lookN ys m 1) := by
  rw [bestK_succ, if_pos ⟨lookE_one h, .inl rfl⟩]; rfl
theorem bestK_pos {ys : List Int} {m : Nat} (h : 32768 ≤ m) (k : Nat) : 1 ≤ (bestK ys m (k + 1)).1 := by
  induction k with
  | zero => rw [bestK_one h]; exact Int.le_refl _
  | succ k ih =>
    rw [bestK_succ]
    split
    · show (1 : Int) ≤ ((k + 1 + 1 : Nat) : Int); omega
    · exact ih
theorem Box8.drewN {W : World} {P : Nat} (h : Box8 W P) (n : Nat) : Box8 (W.drewN n) P := ⟨h.ex, h.fr⟩
theorem pow_small (k : Nat) (h : k ≤ 9) : 0 ≤ (1024 * 2 ^ k : Int) ∧ (1024 * 2 ^ k : Int) ≤ 524288 := by
  have h2 : ∀ m : Fin 10, 0 ≤ (1024 * 2 ^ (m : Nat) : Int) ∧ (1024 * 2 ^ (m : Nat) : Int) ≤ 524288 := by decide
  exact h2 ⟨k, by omega⟩
theorem pow_twice (k : Nat) : (2 * (1024 * 2 ^ k) : Int) = 1024 * 2 ^ (k + 1) := by
  rw [Int.pow_succ]; omega
/-- The step, once there is a card. -/
theorem bestK_step {ys : List Int} {m : Nat} (h : 32768 ≤ m) (k : Nat) (hk : 1 ≤ k) (l : Int) (hl : (k : Int) + 1 = l) : bestK ys m (k + 1) = if lookE m l = 0 ∧ scoreN (bestK ys m k).2 (bestK ys m k).1 < scoreN (lookN ys m l) l then (l, lookN ys m l) else bestK ys m k := by
  have hl2 : ((k + 1 : Nat) : Int) = l := by omega
  have hp : 1 ≤ (bestK ys m k).1 := by
    obtain ⟨j, rfl⟩ : ∃ j, k = j + 1 := ⟨k - 1, by omega⟩
    exact bestK_pos h j
  rw [bestK_succ, hl2]
  unfold bestS
  rw [if_neg (show ¬ (bestK ys m k).1 = 0 by omega)]
  have hn : ¬ (bestK ys m k).1 = 0 := by omega
  simp only [hn, false_or]

set_option maxRecDepth 100000 in
set_option maxHeartbeats 4000000 in
theorem refRead_walk (a : Option Addr) (n c : Nat) (sa : Option Addr) (sn sc : Nat) (xs ss : List Int) (w : World) (hr : Row .u8 w (.slice a n c) xs) (hn : xs.length = n) (hf : Fits .u8 xs) (hm : n ≤ 281474976710656) (hrs : Row .u8 w (.slice sa sn sc) ss) (hns : ss.length = sn) (hms : sn ≤ 140737488355328) :
    Calls Tryd.prog 12 #[.slice a n c, .slice sa sn sc] w fun e w' => ∃ rv sv, e = .returned (.tuple #[(readC (tailN xs) ss).v rv sv, .int .i64 (readE (tailN xs) ss.length)]) ∧ Row .u8 w' rv (readC (tailN xs) ss).rom ∧ Row .u8 w' sv (readC (tailN xs) ss).sig ∧ Below w.heap.size w w' := by
  have HYF := Lib.hid (tailN_fits hf)
  have HYL := Lib.hid (tailN_length xs)
  have HT1 := Lib.hid (show n % 1024 = 512 → tailN xs = xs.drop 512 from fun h => by unfold tailN; rw [hn, if_pos h])
  have HT2 := Lib.hid (show ¬ n % 1024 = 512 → tailN xs = xs from fun h => by unfold tailN; rw [hn, if_neg h])
  obtain ⟨ys, hys⟩ : ∃ ys, tailN xs = ys := ⟨_, rfl⟩
  rw [hys] at HYF HYL HT1 HT2 ⊢
  have HR := Lib.hid hr
  have HN := Lib.hid hn
  have HRS := Lib.hid hrs
  have HNS := Lib.hid hns
  have HF := Lib.hid hf
  obtain ⟨m, hm2⟩ : ∃ m, ys.length = m := ⟨_, rfl⟩
  have HMM := Lib.hid hm2
  have hmn : m ≤ n := by have := HYL.out; omega
  clear hys hr hn hrs hns hf hm2
  go_enter Tryd.func12, Tryd.ntmps12
  go_upto_region 2 with fail
  obtain ⟨wB, hwB⟩ : ∃ wB, w.alloc (.cells #[.int .u8 0, .int .u8 0, .slice none 0 0, .int .i64 0, .string ⟨#[]⟩, .int .u16 0, .bool false, .slice none 0 0] 36) = wB := ⟨_, rfl⟩
  have HTB := Lib.hid (show Box8 wB w.heap.size by
    rw [← hwB]; exact box8_of _ _ _ _ _ _ _ _ _ _)
  have HBB := Lib.hid (show Below w.heap.size w wB by rw [← hwB]; exact (Below.refl _ w).alloc (Nat.le_refl _) _)
  have HZB := Lib.hid (show w.heap.size < wB.heap.size by rw [← hwB]; simp)
  rw [hwB]
  clear hwB
  obtain ⟨T, hT⟩ : ∃ T, w.heap.size = T := ⟨_, rfl⟩
  rw [hT] at HTB HBB HZB ⊢
  have HTT := Lib.hid hT
  clear hT
  have HRB := Lib.hid (HR.out.below (show Below w.heap.size w wB by rw [HTT.out]; exact HBB.out))
  go_upto_if 21 with fail
  go_cut [6] (fun s6 wx => ∃ a' c', s6 = .slice a' m c' ∧ Hid (Row .u8 w (.slice a' m c') ys) ∧ wB = wx)
  case first =>
    by_cases h : n % 1024 = 512
    · obtain ⟨b, o, c2, hra, hcc, hcm, hrc⟩ := HR.out.cells (by have := HN.out; omega)
      injection hra with hr1 hr2 hr3
      subst hr1 hr3
      have HRC := Lib.hid hrc
      have HNC := Lib.hid (show n ≤ c by have := HN.out; omega)
      have HCM := Lib.hid hcm
      have e1 : ((n : Int) % 1024 == 512) = true := by rw [beq_iff_eq]; omega
      have i1 : (512 : Int) ≤ (n : Int) := by omega
      have i2 : 512 ≤ n := by omega
      have HY := Lib.hid (HT1.out h)
      have HMV := Lib.hid (show m = n - 512 by rw [← HMM.out, HY.out, List.length_drop, HN.out])
      have H := Lib.hid h
      clear hrc hr2 hcc hcm h hmn
      by_cases hc : c = 512
      · subst hc
        have hn5 : n = 512 := by have := HNC.out; omega
        have HN5 := Lib.hid hn5
        clear hn5
        have HM0 := Lib.hid (show m = 0 by have := HMV.out; have := HN5.out; omega)
        have HY0 := Lib.hid (show ys = [] from List.eq_nil_of_length_eq_zero (by rw [HMM.out, HM0.out]))
        go_wp2_with fail
        go_meet
        refine ⟨_, _, by rw [HMV.out], ?_, rfl⟩
        rw [HM0.out, HY0.out]
        exact Lib.hid (.inl ⟨_, _, rfl, rfl, by decide⟩)
      · have HN5' := Lib.hid (show 512 ≤ n from i2)
        go_wp2_with fail
        go_meet
        exact ⟨_, _, by rw [HMV.out], by rw [HMV.out, HY.out]; exact Lib.hid (drop_row HRC.out HN.out 512 (by have := HN5'.out; omega) HNC.out HCM.out), rfl⟩
    · have e1 : ((n : Int) % 1024 == 512) = false := by rw [beq_eq_false_iff_ne]; omega
      have HY := Lib.hid (HT2.out h)
      have HMV := Lib.hid (show m = n by rw [← HMM.out, HY.out, HN.out])
      clear h hmn
      go_wp2_with fail
      go_meet
      exact ⟨a, c, by rw [HMV.out], by rw [HMV.out, HY.out]; exact HR, rfl⟩
  case rest =>
    obtain ⟨a', c', rfl, HRYw, rfl⟩ := hcut
    have HRY := Lib.hid (HRYw.out.below (show Below w.heap.size w wB by rw [HTT.out]; exact HBB.out))
    have HRE := Lib.hid (show readE ys ss.length = if m < 32768 then 30 else if 8388608 < m then 31 else if chipE (bestK ys m 3).2.ki = 32 then 32 else if 9 < (bestK ys m 3).2.rz then 33 else if chipK (bestK ys m 3).2.ki = 1 ∧ sn ≠ 8192 then 34 else 0 by rw [← HMM.out, ← HNS.out]; rfl)
    have HRN := Lib.hid (show ¬ readE ys ss.length = 0 → readC ys ss = noCartR from fun h => by unfold readC; rw [if_neg h])
    clear HR HRB HT1 HT2 HF HYL HN hmn hm
    by_cases h30 : m < 32768
    case pos =>
      have i30 : (m : Int) < 32768 := by omega
      have HE := Lib.hid (show readE ys ss.length = 30 ∧ readC ys ss = noCartR by
        have h : readE ys ss.length = 30 := by rw [HRE.out, if_pos h30]
        exact ⟨h, HRN.out (by rw [h]; decide)⟩)
      obtain ⟨⟨u0, u1, u2, u3, u4, u5, u6, u7, g0, g1, g2, g3, g4, g5, g6, g7⟩, gf⟩ := HTB.out
      have f0 := gf 0
      have f1 := gf 1
      have f2 := gf 2
      have f3 := gf 3
      have f4 := gf 4
      have f5 := gf 5
      have f6 := gf 6
      have f7 := gf 7
      clear gf
      clear h30
      go_upto_region 5 with fail
      repeat (first | go_values | go_skip | go_guarded | go_step | go_upon)
      refine bodyPost_ret (v := .tuple #[noCartR.v (.slice none 0 0) (.slice none 0 0), .int .i64 30]) (by simp [results, Tryd.results12, go_sem, g0, g1, g2, g3, g4, g5, g6, g7]; try rfl) rfl ?_
      rw [HE.out.1, HE.out.2]
      exact ⟨_, _, rfl, Row.nil _ _, Row.nil _ _, put8_below _ _ _ _ _ _ _ _ (by rw [HTT.out]; exact HBB.out) (by rw [HTT.out]; exact Nat.le_refl _)⟩
    case neg =>
      have H30 := Lib.hid h30
      have i30 : ¬ (m : Int) < 32768 := by omega
      clear h30
      by_cases h31 : 8388608 < m
      case pos =>
        have i31 : 8388608 < (m : Int) := by omega
        have HE := Lib.hid (show readE ys ss.length = 31 ∧ readC ys ss = noCartR by
          have h : readE ys ss.length = 31 := by rw [HRE.out, if_neg H30.out, if_pos h31]
          exact ⟨h, HRN.out (by rw [h]; decide)⟩)
        obtain ⟨⟨u0, u1, u2, u3, u4, u5, u6, u7, g0, g1, g2, g3, g4, g5, g6, g7⟩, gf⟩ := HTB.out
        have f0 := gf 0
        have f1 := gf 1
        have f2 := gf 2
        have f3 := gf 3
        have f4 := gf 4
        have f5 := gf 5
        have f6 := gf 6
        have f7 := gf 7
        clear gf
        clear h31
        go_upto_region 7 with fail
        repeat (first | go_values | go_skip | go_guarded | go_step | go_upon)
        refine bodyPost_ret (v := .tuple #[noCartR.v (.slice none 0 0) (.slice none 0 0), .int .i64 31]) (by simp [results, Tryd.results12, go_sem, g0, g1, g2, g3, g4, g5, g6, g7]; try rfl) rfl ?_
        rw [HE.out.1, HE.out.2]
        exact ⟨_, _, rfl, Row.nil _ _, Row.nil _ _, put8_below _ _ _ _ _ _ _ _ (by rw [HTT.out]; exact HBB.out) (by rw [HTT.out]; exact Nat.le_refl _)⟩
      case neg =>
        have H31 := Lib.hid h31
        have i31 : ¬ 8388608 < (m : Int) := by omega
        clear h31
        have hm3 : 32768 ≤ m := by have := H30.out; omega
        have HM3 := Lib.hid hm3
        have HLK := Lib.hid (fun l W (hr : Row .u8 W (.slice a' m c') ys) => refLook_any a' m c' l ys W hr HMM.out HYF.out (by omega))
        have HSC := Lib.hid (fun (K : Card) (hK : K.Fits) l W => refScore_walk K l W hK)
        have HFK := Lib.hid (fun k => bestK_fits HYF.out HMM.out k)
        have HFL := Lib.hid (fun l => lookN_fits HYF.out HMM.out l)
        have HST := Lib.hid (bestK_step (ys := ys) hm3)
        have HONE := Lib.hid (bestK_one (ys := ys) hm3)
        have hlk1 := HLK.out 1 wB HRY.out
        rw [lookE_one hm3] at hlk1
        have HL1 := Lib.hid hlk1
        clear hlk1 hm3
        obtain ⟨K1, hK1⟩ : ∃ K1, lookN ys m 1 = K1 := ⟨_, rfl⟩
        rw [hK1] at HL1 HONE
        clear hK1
        obtain ⟨ti, mo, ki, rz, ck, su, re⟩ := K1
        unfold Card.v at HL1
        simp only at HL1
        go_upto_region 10 with (go_at_call 8; refine HL1.out.mono ?_; rintro e w1 ⟨rfl, hb⟩)
        have ha := (Below.refl w1.heap.size w1).alloc (Nat.le_refl _) (.cells #[.string ti, .int .u8 mo, .int .u8 ki, .int .u8 rz, .int .u16 ck, .int .u16 su, .int .u16 re] 27)
        have hb2 := hb.trans (ha.mono hb.size)
        have HB1 := Lib.hid hb2
        have HV1 := Lib.hid (card_boxed w1 ⟨ti, mo, ki, rz, ck, su, re⟩)
        have HF1 := Lib.hid (show ∀ j, (w1.alloc (.cells #[.string ti, .int .u8 mo, .int .u8 ki, .int .u8 rz, .int .u16 ck, .int .u16 su, .int .u16 re] 27)).frozen? ⟨w1.heap.size, j, none⟩ = false from fun j => by simp [go_sem])
        have HZ1 := Lib.hid (show T < w1.heap.size ∧ w1.heap.size < (w1.alloc (.cells #[.string ti, .int .u8 mo, .int .u8 ki, .int .u8 rz, .int .u16 ck, .int .u16 su, .int .u16 re] 27)).heap.size from ⟨Nat.lt_of_lt_of_le HZB.out hb.size, by simp⟩)
        have HZV := Lib.hid (show wB.heap.size ≤ w1.heap.size from hb.size)
        have HV1 := Lib.hid (show CardAt (w1.alloc (.cells #[.string ti, .int .u8 mo, .int .u8 ki, .int .u8 rz, .int .u16 ck, .int .u16 su, .int .u16 re] 27)) w1.heap.size (bestK ys m 1).2 by rw [show bestK ys m 1 = (1, ⟨ti, mo, ki, rz, ck, su, re⟩) from HONE.out]; exact HV1.out)
        have HA1 := Lib.hid (show (bestK ys m 1).1 = 1 by rw [show bestK ys m 1 = (1, ⟨ti, mo, ki, rz, ck, su, re⟩) from HONE.out])
        obtain ⟨W1, hW1⟩ : ∃ W1, w1.alloc (.cells #[.string ti, .int .u8 mo, .int .u8 ki, .int .u8 rz, .int .u16 ck, .int .u16 su, .int .u16 re] 27) = W1 := ⟨_, rfl⟩
        rw [hW1] at HB1 HV1 HF1 HZ1 ⊢
        obtain ⟨V, hV⟩ : ∃ V, w1.heap.size = V := ⟨_, rfl⟩
        rw [hV] at HV1 HF1 HZ1 HZV ⊢
        clear ha hb hb2 hW1 hV HL1
        go_upto_region 11 with fail
        go_loopw [7, 10] (fun s7 s10 wr => ∃ k : Nat, 1 ≤ k ∧ k ≤ 3 ∧ s10 = .int .u8 ((k : Int) + 1) ∧ s7 = .int .u8 (bestK ys m k).1 ∧ Hid (CardAt wr V (bestK ys m k).2) ∧ Hid (∀ j, wr.frozen? ⟨V, j, none⟩ = false) ∧ Hid (Below wB.heap.size wB wr) ∧ Hid (V < wr.heap.size)) (fun _ s10 _ => 4 - (intOf s10).toNat)
        case atStart => exact ⟨1, Nat.le_refl _, by omega, rfl, by rw [HA1.out], HV1, HF1, HB1, Lib.hid HZ1.out.2⟩
        case round =>
          obtain ⟨k, hk1, hk3, rfl, rfl, hV, hF, hB, hz⟩ := hrel
          clear HV1 HF1 HB1
          by_cases hk : k < 3
          · have HSU := Lib.hid (HST.out k hk1 ((k : Int) + 1) rfl)
            have hbb := bestK_bounds ys m k
            obtain ⟨l, hl⟩ : ∃ l : Int, (k : Int) + 1 = l := ⟨_, rfl⟩
            have l0 : 2 ≤ l := by omega
            have l1 : l ≤ 3 := by omega
            have l2 : l < 4 := by omega
            have HL := Lib.hid hl
            rw [hl] at HSU ⊢
            have HLC := Lib.hid (show lookE m l = 5 ∨ lookE m l = 0 by
              rcases lookE_cases m l (by omega) (by omega) with ⟨h, -⟩ | ⟨-, h⟩
              · omega
              · exact h)
            have HK := Lib.hid (HLK.out l wr (HRY.out.below hB.out))
            have HS1 := Lib.hid (fun W => HSC.out (lookN ys m l) (HFL.out l) l W)
            have HS2 := Lib.hid (fun W => HSC.out (bestK ys m k).2 (HFK.out k) (bestK ys m k).1 W)
            obtain ⟨er, her⟩ : ∃ er, lookE m l = er := ⟨_, rfl⟩
            rw [her] at HK HSU HLC
            obtain ⟨s1, hs1⟩ : ∃ s1, scoreN (lookN ys m l) l = s1 := ⟨_, rfl⟩
            rw [hs1] at HS1 HSU
            obtain ⟨s2, hs2⟩ : ∃ s2, scoreN (bestK ys m k).2 (bestK ys m k).1 = s2 := ⟨_, rfl⟩
            rw [hs2] at HS2 HSU
            obtain ⟨K, hK⟩ : ∃ K, lookN ys m l = K := ⟨_, rfl⟩
            rw [hK] at HK HS1 HSU
            obtain ⟨cur, hcur⟩ : ∃ cur, bestK ys m k = cur := ⟨_, rfl⟩
            rw [hcur] at hV HS2 HSU hbb ⊢
            clear her hs1 hs2 hK hcur hl hk
            obtain ⟨at_, ⟨ti2, mo2, ki2, rz2, ck2, su2, re2⟩⟩ := cur
            obtain ⟨ti, mo, ki, rz, ck, su, re⟩ := K
            unfold Card.v at HK HS1 HS2
            simp only at HK HS1 HS2 hV hbb ⊢
            go_upto_region 14 with (go_at_call 8; refine HK.out.mono ?_; rintro e w2 ⟨rfl, hb⟩)
            have ha := (Below.refl w2.heap.size w2).alloc (Nat.le_refl _) (.cells #[.string ti, .int .u8 mo, .int .u8 ki, .int .u8 rz, .int .u16 ck, .int .u16 su, .int .u16 re] 27)
            have hb2 := hb.trans (ha.mono hb.size)
            have HV2 := Lib.hid (hV.out.keep hb2 hz.out)
            have HF2 := Lib.hid (show ∀ j, (w2.alloc (.cells #[.string ti, .int .u8 mo, .int .u8 ki, .int .u8 rz, .int .u16 ck, .int .u16 su, .int .u16 re] 27)).frozen? ⟨V, j, none⟩ = false from fun j => (hb2.frozen (p := ⟨V, j, none⟩) hz.out).trans (hF.out j))
            have HB2 := Lib.hid (below_step hB.out hB.out.size hb2)
            have HE2 := Lib.hid (card_boxed w2 ⟨ti, mo, ki, rz, ck, su, re⟩)
            have HZ2 := Lib.hid (show V < w2.heap.size ∧ w2.heap.size < (w2.alloc (.cells #[.string ti, .int .u8 mo, .int .u8 ki, .int .u8 rz, .int .u16 ck, .int .u16 su, .int .u16 re] 27)).heap.size from ⟨Nat.lt_of_lt_of_le hz.out hb.size, by simp⟩)
            obtain ⟨W2, hW2⟩ : ∃ W2, w2.alloc (.cells #[.string ti, .int .u8 mo, .int .u8 ki, .int .u8 rz, .int .u16 ck, .int .u16 su, .int .u16 re] 27) = W2 := ⟨_, rfl⟩
            simp only at HE2
            rw [hW2] at HV2 HF2 HB2 HE2 HZ2 ⊢
            obtain ⟨E, hE⟩ : ∃ E, w2.heap.size = E := ⟨_, rfl⟩
            rw [hE] at HE2 HZ2 ⊢
            clear ha hb hb2 hW2 hE hV hF hB hz HK
            rcases HLC.out with he | he
            · subst he
              have HSU2 := Lib.hid (show bestK ys m (k + 1) = (at_, ⟨ti2, mo2, ki2, rz2, ck2, su2, re2⟩) by rw [HSU.out, if_neg (fun h => by have := h.1; omega)])
              go_quiet (fail)
              go_wp2
              go_roundw
              case rel =>
                refine ⟨k + 1, by omega, by have := HL.out; omega, by have h := HL.out; rw [show (l + 1 : Int) = (((k + 1 : Nat) : Int) + 1) from by omega], ?_, ?_, Lib.hid (fun j => HF2.out j), Lib.hid (below_drewN HB2.out _), Lib.hid (Nat.lt_trans HZ2.out.1 HZ2.out.2)⟩
                · rw [HSU2.out]
                · rw [HSU2.out]; exact Lib.hid (HV2.out.drewN _)
              case measure => simp [intOf]; omega
            · subst he
              have KS := Lib.hid (fun (W : World) (hW : Below W2.heap.size W2 W) => show (fun w' => w'.cell? ⟨E, 0, none⟩ = some (.string ti) ∧ w'.cell? ⟨E, 1, none⟩ = some (.int .u8 mo) ∧ w'.cell? ⟨E, 2, none⟩ = some (.int .u8 ki) ∧ w'.cell? ⟨E, 3, none⟩ = some (.int .u8 rz) ∧ w'.cell? ⟨E, 4, none⟩ = some (.int .u16 ck) ∧ w'.cell? ⟨E, 5, none⟩ = some (.int .u16 su) ∧ w'.cell? ⟨E, 6, none⟩ = some (.int .u16 re) ∧ w'.cell? ⟨V, 0, none⟩ = some (.string ti2) ∧ w'.cell? ⟨V, 1, none⟩ = some (.int .u8 mo2) ∧ w'.cell? ⟨V, 2, none⟩ = some (.int .u8 ki2) ∧ w'.cell? ⟨V, 3, none⟩ = some (.int .u8 rz2) ∧ w'.cell? ⟨V, 4, none⟩ = some (.int .u16 ck2) ∧ w'.cell? ⟨V, 5, none⟩ = some (.int .u16 su2) ∧ w'.cell? ⟨V, 6, none⟩ = some (.int .u16 re2)) W from by
                have x1 := HE2.out.keep hW HZ2.out.2
                have x2 := HV2.out.keep hW (Nat.lt_trans HZ2.out.1 HZ2.out.2)
                exact ⟨x1.c0, x1.c1, x1.c2, x1.c3, x1.c4, x1.c5, x1.c6, x2.c0, x2.c1, x2.c2, x2.c3, x2.c4, x2.c5, x2.c6⟩)
              have HW := Lib.hid (show Below W2.heap.size W2 W2.drew from (Below.refl _ _).drew)
              go_cut [57] (fun s57 wx => s57 = .bool (decide (s2 < s1)) ∧ Hid (Below W2.heap.size W2 wx))
              case first =>
                go_region_held3 (fun w' => w'.cell? ⟨E, 0, none⟩ = some (.string ti) ∧ w'.cell? ⟨E, 1, none⟩ = some (.int .u8 mo) ∧ w'.cell? ⟨E, 2, none⟩ = some (.int .u8 ki) ∧ w'.cell? ⟨E, 3, none⟩ = some (.int .u8 rz) ∧ w'.cell? ⟨E, 4, none⟩ = some (.int .u16 ck) ∧ w'.cell? ⟨E, 5, none⟩ = some (.int .u16 su) ∧ w'.cell? ⟨E, 6, none⟩ = some (.int .u16 re) ∧ w'.cell? ⟨V, 0, none⟩ = some (.string ti2) ∧ w'.cell? ⟨V, 1, none⟩ = some (.int .u8 mo2) ∧ w'.cell? ⟨V, 2, none⟩ = some (.int .u8 ki2) ∧ w'.cell? ⟨V, 3, none⟩ = some (.int .u8 rz2) ∧ w'.cell? ⟨V, 4, none⟩ = some (.int .u16 ck2) ∧ w'.cell? ⟨V, 5, none⟩ = some (.int .u16 su2) ∧ w'.cell? ⟨V, 6, none⟩ = some (.int .u16 re2)) (with_reducible exact KS.out _ HW.out) (first | (go_at_call 11; first | ((with_reducible refine Calls.mono (HS1.out _) ?_); rintro e w' ⟨rfl, hb⟩; have HW := Lib.hid (below_step HW.out HW.out.size hb); clear hb) | ((with_reducible refine Calls.mono (HS2.out _) ?_); rintro e w' ⟨rfl, hb⟩; have HW := Lib.hid (below_step HW.out HW.out.size hb); clear hb)))
                go_wp2_with fail
                go_meet
                exact ⟨rfl, HW⟩
              case rest =>
                obtain ⟨rfl, hw⟩ := hcut
                have HV3 := Lib.hid (HV2.out.keep hw.out (Nat.lt_trans HZ2.out.1 HZ2.out.2))
                have HE3 := Lib.hid (HE2.out.keep hw.out HZ2.out.2)
                have HF3 := Lib.hid (show ∀ j, wc.frozen? ⟨V, j, none⟩ = false from fun j => (hw.out.frozen (p := ⟨V, j, none⟩) (Nat.lt_trans HZ2.out.1 HZ2.out.2)).trans (HF2.out j))
                have HB3 := Lib.hid (below_step HB2.out HB2.out.size hw.out)
                have HZ3 := Lib.hid (show V < wc.heap.size ∧ E ≠ V from by have := hw.out.size; have := HZ2.out; omega)
                clear hw HV2 HE2 HF2 HB2 KS HW
                by_cases hd : s2 < s1
                · rw [decide_eq_true hd]
                  have HSU2 := Lib.hid (show bestK ys m (k + 1) = (l, ⟨ti, mo, ki, rz, ck, su, re⟩) by rw [HSU.out, if_pos ⟨rfl, hd⟩])
                  have e0 := HE3.out.c0
                  have e1 := HE3.out.c1
                  have e2 := HE3.out.c2
                  have e3 := HE3.out.c3
                  have e4 := HE3.out.c4
                  have e5 := HE3.out.c5
                  have e6 := HE3.out.c6
                  simp only at e0 e1 e2 e3 e4 e5 e6
                  have hvb := HV3.out.box HF3.out
                  have HVP := Lib.hid (put7_card ⟨ti, mo, ki, rz, ck, su, re⟩ hvb)
                  have HFP := Lib.hid (show ∀ j, (put7 wc V ⟨ti, mo, ki, rz, ck, su, re⟩).frozen? ⟨V, j, none⟩ = false from fun j => (put7_froz wc V ⟨ti, mo, ki, rz, ck, su, re⟩ ⟨V, j, none⟩).trans (HF3.out j))
                  have HBP := Lib.hid (put7_below ⟨ti, mo, ki, rz, ck, su, re⟩ HB3.out HZV.out)
                  have HSP := Lib.hid (show V < (put7 wc V ⟨ti, mo, ki, rz, ck, su, re⟩).heap.size by rw [put7_size]; exact HZ3.out.1)
                  obtain ⟨⟨u0, u1, u2, u3, u4, u5, u6, g0, g1, g2, g3, g4, g5, g6⟩, gf⟩ := hvb
                  have f0 := gf 0
                  have f1 := gf 1
                  have f2 := gf 2
                  have f3 := gf 3
                  have f4 := gf 4
                  have f5 := gf 5
                  have f6 := gf 6
                  clear gf hd
                  unfold put7 at HVP HFP HBP HSP
                  simp only at HVP HFP HBP HSP
                  go_wp2
                  go_roundw
                  case rel =>
                    refine ⟨k + 1, by omega, by have := HL.out; omega, by have h := HL.out; rw [show (l + 1 : Int) = (((k + 1 : Nat) : Int) + 1) from by omega], ?_, ?_, HFP, HBP, HSP⟩
                    · rw [HSU2.out]
                    · rw [HSU2.out]; exact HVP
                  case measure => simp [intOf]; omega
                · rw [decide_eq_false hd]
                  have HSU2 := Lib.hid (show bestK ys m (k + 1) = (at_, ⟨ti2, mo2, ki2, rz2, ck2, su2, re2⟩) by rw [HSU.out, if_neg (fun h => hd h.2)])
                  clear hd
                  go_wp2
                  go_roundw
                  case rel =>
                    refine ⟨k + 1, by omega, by have := HL.out; omega, by have h := HL.out; rw [show (l + 1 : Int) = (((k + 1 : Nat) : Int) + 1) from by omega], ?_, ?_, HF3, HB3, Lib.hid HZ3.out.1⟩
                    · rw [HSU2.out]
                    · rw [HSU2.out]; exact HV3
                  case measure => simp [intOf]; omega
  
          · have hk33 : k = 3 := by omega
            have HRE2 := Lib.hid (show readE ys ss.length = if chipE (bestK ys m 3).2.ki = 32 then 32 else if 9 < (bestK ys m 3).2.rz then 33 else if chipK (bestK ys m 3).2.ki = 1 ∧ sn ≠ 8192 then 34 else 0 by rw [HRE.out, if_neg H30.out, if_neg H31.out])
            have HRC := Lib.hid (show readE ys ss.length = 0 → readC ys ss = ⟨(bestK ys m 3).1, chipK (bestK ys m 3).2.ki, ramN (bestK ys m 3).2.rz, (bestK ys m 3).2.ti, (bestK ys m 3).2.re, fastB (bestK ys m 3).2.mo, ys, if chipK (bestK ys m 3).2.ki = 1 then ss else []⟩ from fun h => by unfold readC; rw [if_pos h, HMM.out])
            have HBK := Lib.hid (HFK.out 3)
            rw [hk33] at hV ⊢
            obtain ⟨bl, hbl⟩ : ∃ bl, (bestK ys m 3).1 = bl := ⟨_, rfl⟩
            obtain ⟨K, hK⟩ : ∃ K, (bestK ys m 3).2 = K := ⟨_, rfl⟩
            rw [hbl] at HRC ⊢
            rw [hK] at HRC HRE2 HBK hV
            have i4 : ¬ ((3 : Nat) : Int) + 1 < 4 := by decide
            clear HRE hbl hK hk33 HST HONE HLK HSC HFK HFL HA1 hk hk1 hk3
            obtain ⟨ti, mo, ki, rz, ck, su, re⟩ := K
            simp only at HRC HRE2 hV
            obtain ⟨⟨mo0, mo1⟩, ⟨ki0, ki1⟩, ⟨rz0, rz1⟩, -, -, ⟨re0, re1⟩, hti⟩ := HBK.out
            simp only at mo0 mo1 ki0 ki1 rz0 rz1 re0 re1 hti
            have HTr := Lib.hid (HTB.out.keep hB.out HZB.out)
            have HBr := Lib.hid (show Below T w wr from HBB.out.trans (hB.out.mono (Nat.le_of_lt HZB.out)))
            obtain ⟨wa, hwa⟩ : ∃ wa, wa = wr := ⟨_, rfl⟩
            rw [← hwa] at hV hF hB hz HTr HBr ⊢
            clear hwa
            go_upto_region 17 with fail
            clear i4
            have e0 := hV.out.c0
            have e1 := hV.out.c1
            have e2 := hV.out.c2
            have e3 := hV.out.c3
            have e6 := hV.out.c6
            simp only at e0 e1 e2 e3 e6
            by_cases hce : chipE ki = 32
            case pos =>
              have q : ¬ ki % 16 < 3 ∧ ¬ ki / 16 = 0 ∧ ¬ ki / 16 = 3 := by
                unfold chipE at hce
                refine ⟨fun h => ?_, fun h => ?_, fun h => ?_⟩ <;> simp [h] at hce
              have q1 : 3 ≤ ki % 16 := by omega
              have q2 : (ki / 16 == 0) = false := by simpa using q.2.1
              have q3 : (ki / 16 == 3) = false := by simpa using q.2.2
              clear q
              have HE := Lib.hid (show readE ys ss.length = 32 ∧ readC ys ss = noCartR by
                have h : readE ys ss.length = 32 := by rw [HRE2.out, if_pos hce]
                exact ⟨h, HRN.out (by rw [h]; decide)⟩)
              obtain ⟨⟨u0, u1, u2, u3, u4, u5, u6, u7, g0, g1, g2, g3, g4, g5, g6, g7⟩, gf⟩ := HTr.out
              have f0 := gf 0
              have f1 := gf 1
              have f2 := gf 2
              have f3 := gf 3
              have f4 := gf 4
              have f5 := gf 5
              have f6 := gf 6
              have f7 := gf 7
              clear gf
              clear hce
              go_upto_region 20 with fail
              repeat (first | go_values | go_skip | go_guarded | go_step | go_upon)
              refine bodyPost_ret (v := .tuple #[noCartR.v (.slice none 0 0) (.slice none 0 0), .int .i64 32]) (by simp [results, Tryd.results12, go_sem, g0, g1, g2, g3, g4, g5, g6, g7]; try rfl) rfl ?_
              rw [HE.out.1, HE.out.2]
              exact ⟨_, _, rfl, Row.nil _ _, Row.nil _ _, put8_below _ _ _ _ _ _ _ _ (by rw [HTT.out]; exact HBr.out) (by rw [HTT.out]; exact Nat.le_refl _)⟩
            case neg =>
              have HNE := Lib.hid hce
              have HQ := Lib.hid (show (ki % 16 < 3 ∧ chipK ki = 0) ∨ (3 ≤ ki % 16 ∧ ki / 16 = 0 ∧ chipK ki = 1) ∨ (3 ≤ ki % 16 ∧ ki / 16 = 3 ∧ chipK ki = 2) by
                unfold chipE at hce
                unfold chipK
                by_cases q1 : ki % 16 < 3
                · exact .inl ⟨q1, if_pos q1⟩
                · by_cases q2 : ki / 16 = 0
                  · exact .inr (.inl ⟨by omega, q2, by rw [if_neg q1, if_pos q2]⟩)
                  · by_cases q3 : ki / 16 = 3
                    · exact .inr (.inr ⟨by omega, q3, by rw [if_neg q1, if_neg q2, if_pos q3]⟩)
                    · rw [if_neg q1, if_neg q2, if_neg q3] at hce; exact absurd rfl hce)
              have hcb := chipK_bounds ki
              obtain ⟨kk, hkk⟩ : ∃ kk, chipK ki = kk := ⟨_, rfl⟩
              rw [hkk] at HRC HRE2 hcb HQ
              clear hkk hce
              go_upto_if 63 with fail
              go_cut [13] (fun s13 wx => s13 = .int .u8 kk ∧ wa = wx)
              case first =>
                rcases HQ.out with ⟨q1, q2⟩ | ⟨q1, q3, q2⟩ | ⟨q1, q3, q2⟩
                · subst q2
                  go_wp2_with fail
                  go_meet
                  exact ⟨rfl, rfl⟩
                · subst q2
                  have q4 : (ki / 16 == 0) = true := by simpa using q3
                  clear q3
                  go_wp2_with fail
                  go_meet
                  exact ⟨rfl, rfl⟩
                · subst q2
                  have q4 : (ki / 16 == 0) = false := by rw [q3]; rfl
                  have q5 : (ki / 16 == 3) = true := by simpa using q3
                  clear q3
                  go_wp2_with fail
                  go_meet
                  exact ⟨rfl, rfl⟩
              case rest =>
                obtain ⟨rfl, rfl⟩ := hcut
                clear HQ e2
                by_cases h33 : 9 < rz
                case pos =>
                  have HE := Lib.hid (show readE ys ss.length = 33 ∧ readC ys ss = noCartR by
                    have h : readE ys ss.length = 33 := by rw [HRE2.out, if_neg HNE.out, if_pos h33]
                    exact ⟨h, HRN.out (by rw [h]; decide)⟩)
                  obtain ⟨⟨u0, u1, u2, u3, u4, u5, u6, u7, g0, g1, g2, g3, g4, g5, g6, g7⟩, gf⟩ := HTr.out
                  have f0 := gf 0
                  have f1 := gf 1
                  have f2 := gf 2
                  have f3 := gf 3
                  have f4 := gf 4
                  have f5 := gf 5
                  have f6 := gf 6
                  have f7 := gf 7
                  clear gf
                  go_upto_region 29 with fail
                  go_loopw [14, 15] (fun s14 s15 wr2 => ∃ (k : Nat) (r : Int), k ≤ 9 ∧ s15 = .int .i64 k ∧ s14 = .int .i64 r ∧ Hid (r = 1024 * 2 ^ k) ∧ wa = wr2) (fun _ s15 _ => 10 - (intOf s15).toNat)
                  case atStart => exact ⟨0, 1024, by omega, rfl, rfl, Lib.hid rfl, rfl⟩
                  case round =>
                    obtain ⟨k, r, hk, rfl, rfl, hr, rfl⟩ := hrel
                    have hb := pow_small k hk
                    have hp := Lib.hid (pow_twice k)
                    rw [← hr.out] at hb hp
                    have i1 : (k : Int) < rz := by omega
                    by_cases hk9 : 8 < k
                    · have i2 : 8 < (k : Int) := by omega
                      clear hk9
                      go_upto_region 33 with fail
                      repeat (first | go_values | go_skip | go_guarded | go_step | go_upon)
                      refine bodyPost_ret (v := .tuple #[noCartR.v (.slice none 0 0) (.slice none 0 0), .int .i64 33]) (by simp [results, Tryd.results12, go_sem, g0, g1, g2, g3, g4, g5, g6, g7]; try rfl) rfl ?_
                      rw [HE.out.1, HE.out.2]
                      exact ⟨_, _, rfl, Row.nil _ _, Row.nil _ _, put8_below _ _ _ _ _ _ _ _ (by rw [HTT.out]; exact HBr.out) (by rw [HTT.out]; exact Nat.le_refl _)⟩
                    · have i2 : ¬ 8 < (k : Int) := by omega
                      go_wp2
                      go_roundw
                      case rel => exact ⟨k + 1, 2 * r, by omega, by go_num, rfl, Lib.hid hp.out, trivial⟩
                      case measure => simp [intOf]; omega
                case neg =>
                  have H33 := Lib.hid h33
                  go_upto_if 74 with fail
                  go_cut [14] (fun s14 wx => s14 = .int .i64 (ramN rz) ∧ wa = wx)
                  case first =>
                    by_cases hz : 0 < rz
                    · have HRM := Lib.hid (show ramN rz = 1024 * 2 ^ rz.toNat from if_pos hz)
                      have hz2 : rz > 0 := hz
                      go_upto_region 29 with fail
                      go_loopw [14, 15] (fun s14 s15 wr2 => ∃ (k : Nat) (r : Int), (k : Int) ≤ rz ∧ s15 = .int .i64 k ∧ s14 = .int .i64 r ∧ Hid (r = 1024 * 2 ^ k) ∧ wa = wr2) (fun _ s15 _ => 10 - (intOf s15).toNat)
                      case atStart => exact ⟨0, 1024, by omega, rfl, rfl, Lib.hid rfl, rfl⟩
                      case round =>
                        obtain ⟨k, r, hk, rfl, rfl, hr, rfl⟩ := hrel
                        have hb := pow_small k (by omega)
                        have hp := Lib.hid (pow_twice k)
                        rw [← hr.out] at hb hp
                        by_cases hlt : (k : Int) < rz
                        · have i2 : ¬ 8 < (k : Int) := by omega
                          go_wp2
                          go_roundw
                          case rel => exact ⟨k + 1, 2 * r, by omega, by go_num, rfl, Lib.hid hp.out, trivial⟩
                          case measure => simp [intOf]; omega
                        · have HKR := Lib.hid (show ramN rz = r by
                            rw [HRM.out, hr.out, show rz.toNat = k by omega])
                          go_wp2_with fail
                          go_meet
                          exact ⟨by rw [HKR.out], rfl⟩
                    · have HRM := Lib.hid (show ramN rz = 0 from if_neg hz)
                      have hz2 : ¬ rz > 0 := hz
                      go_wp2_with fail
                      go_meet
                      exact ⟨by rw [HRM.out], rfl⟩
                  case rest =>
                    obtain ⟨rfl, rfl⟩ := hcut
                    obtain ⟨rm, hrm⟩ : ∃ rm, ramN rz = rm := ⟨_, rfl⟩
                    rw [hrm] at HRC ⊢
                    clear hrm h33 e3
                    by_cases h34 : kk = 1 ∧ sn ≠ 8192
                    case pos =>
                      have q1 : (kk == 1) = true := by rw [beq_iff_eq]; exact h34.1
                      have q2 : ((sn : Int) != 8192) = true := by rw [bne_iff_ne]; have := h34.2; omega
                      have HE := Lib.hid (show readE ys ss.length = 34 ∧ readC ys ss = noCartR by
                        have h : readE ys ss.length = 34 := by rw [HRE2.out, if_neg HNE.out, if_neg H33.out, if_pos h34]
                        exact ⟨h, HRN.out (by rw [h]; decide)⟩)
                      obtain ⟨⟨u0, u1, u2, u3, u4, u5, u6, u7, g0, g1, g2, g3, g4, g5, g6, g7⟩, gf⟩ := HTr.out
                      have f0 := gf 0
                      have f1 := gf 1
                      have f2 := gf 2
                      have f3 := gf 3
                      have f4 := gf 4
                      have f5 := gf 5
                      have f6 := gf 6
                      have f7 := gf 7
                      clear gf
                      clear h34
                      go_upto_region 35 with fail
                      repeat (first | go_values | go_skip | go_guarded | go_step | go_upon)
                      refine bodyPost_ret (v := .tuple #[noCartR.v (.slice none 0 0) (.slice none 0 0), .int .i64 34]) (by simp [results, Tryd.results12, go_sem, g0, g1, g2, g3, g4, g5, g6, g7]; try rfl) rfl ?_
                      rw [HE.out.1, HE.out.2]
                      exact ⟨_, _, rfl, Row.nil _ _, Row.nil _ _, put8_below _ _ _ _ _ _ _ _ (by rw [HTT.out]; exact HBr.out) (by rw [HTT.out]; exact Nat.le_refl _)⟩
                    case neg =>
                      have HE0 := Lib.hid (show readE ys ss.length = 0 by rw [HRE2.out, if_neg HNE.out, if_neg H33.out, if_neg h34])
                      have HC0 := Lib.hid (HRC.out HE0.out)
                      have HK1 := Lib.hid (show kk = 1 → sn = 8192 from fun h => Classical.byContradiction fun h2 => h34 ⟨h, h2⟩)
                      clear h34
                      go_upto_region 34 with fail
                      go_cut [93] (fun s93 wx => s93 = .bool false ∧ wa = wx)
                      case first =>
                        by_cases hk1 : kk = 1
                        · have q1 : (kk == 1) = true := by rw [beq_iff_eq]; exact hk1
                          have q2 : ((sn : Int) != 8192) = false := by have := HK1.out hk1; simp [this]
                          clear hk1
                          go_wp2_with fail
                          go_meet
                          exact ⟨rfl, rfl⟩
                        · have q1 : (kk == 1) = false := by rw [beq_eq_false_iff_ne]; exact hk1
                          clear hk1
                          go_wp2_with fail
                          go_meet
                          exact ⟨rfl, rfl⟩
                      case rest =>
                        obtain ⟨rfl, rfl⟩ := hcut
                        have d1 : 0 ≤ mo / 16 := by omega
                        obtain ⟨fv, hfv⟩ : ∃ fv, (mo / 16 % 2 == 1) = fv := ⟨_, rfl⟩
                        have HFV := Lib.hid (show fastB mo = fv by rw [← hfv]; rfl)
                        rw [HFV.out] at HC0
                        go_upto_region 37 with fail
                        have hal := (Below.refl wa.heap.size wa).alloc (Nat.le_refl _) (.cells #[.int .u8 bl, .int .u8 kk, .slice a' m c', .int .i64 rm, .string ti, .int .u16 re, .bool fv, .slice none 0 0] 36)
                        have HCA := Lib.hid (cart_boxed wa bl kk (.slice a' m c') rm ti re fv (.slice none 0 0))
                        have HT5 := Lib.hid (HTr.out.keep hal (Nat.lt_trans HZ1.out.1 hz.out))
                        have HB5 := Lib.hid (show Below w.heap.size w (wa.alloc (.cells #[.int .u8 bl, .int .u8 kk, .slice a' m c', .int .i64 rm, .string ti, .int .u16 re, .bool fv, .slice none 0 0] 36)) by rw [HTT.out]; exact HBr.out.trans (hal.mono (Nat.le_of_lt (Nat.lt_trans HZ1.out.1 hz.out))))
                        have HFY := Lib.hid (show (wa.alloc (.cells #[.int .u8 bl, .int .u8 kk, .slice a' m c', .int .i64 rm, .string ti, .int .u16 re, .bool fv, .slice none 0 0] 36)).frozen? ⟨wa.heap.size, 7, none⟩ = false by simp [go_sem])
                        have HTY := Lib.hid (show T < wa.heap.size from Nat.lt_trans HZ1.out.1 hz.out)
                        obtain ⟨W5, hW5⟩ : ∃ W5, wa.alloc (.cells #[.int .u8 bl, .int .u8 kk, .slice a' m c', .int .i64 rm, .string ti, .int .u16 re, .bool fv, .slice none 0 0] 36) = W5 := ⟨_, rfl⟩
                        rw [hW5] at HCA HT5 HB5 HFY ⊢
                        obtain ⟨Y, hY⟩ : ∃ Y, wa.heap.size = Y := ⟨_, rfl⟩
                        rw [hY] at HCA HFY HTY ⊢
                        clear hal hW5 hY e0 e1 e6 d1 hfv HTr HBr hV hF hB hz
                        have m7 := HCA.out.c7
                        have z7 := HFY.out
                        go_upto_if 110 with fail
                        go_cut [110] (fun s110 wx => ∃ sa' sn' sc', Hid (CartAt wx Y bl kk (.slice a' m c') rm ti re fv (.slice sa' sn' sc')) ∧ Hid (Row .u8 w (.slice sa' sn' sc') (if kk = 1 then ss else [])) ∧ Hid (Below w.heap.size w wx) ∧ Hid (Box8 wx T))
                        case first =>
                          by_cases hk1 : kk = 1
                          · have q1 : (kk == 1) = true := by rw [beq_iff_eq]; exact hk1
                            have HK2 := Lib.hid hk1
                            clear hk1
                            go_wp2_with fail
                            go_meet
                            refine ⟨_, _, _, Lib.hid (cart_set7 HCA.out _), ?_, Lib.hid (HB5.out.setCell (show w.heap.size ≤ Y by rw [HTT.out]; exact Nat.le_of_lt HTY.out) _), Lib.hid (HT5.out.keep ((Below.refl Y W5).setCell (Nat.le_refl _) _) HTY.out)⟩
                            rw [if_pos HK2.out]
                            exact HRS
                          · have q1 : (kk == 1) = false := by rw [beq_eq_false_iff_ne]; exact hk1
                            have HK2 := Lib.hid hk1
                            clear hk1
                            go_wp2_with fail
                            go_meet
                            refine ⟨_, _, _, HCA, ?_, HB5, HT5⟩
                            rw [if_neg HK2.out]
                            exact Lib.hid (Row.nil _ _)
                        case rest =>
                          obtain ⟨sa', sn', sc', hca, hrow, hbl, htb⟩ := hcut
                          have c0 := hca.out.c0
                          have c1 := hca.out.c1
                          have c2 := hca.out.c2
                          have c3 := hca.out.c3
                          have c4 := hca.out.c4
                          have c5 := hca.out.c5
                          have c6 := hca.out.c6
                          have c7 := hca.out.c7
                          obtain ⟨⟨u0, u1, u2, u3, u4, u5, u6, u7, g0, g1, g2, g3, g4, g5, g6, g7⟩, gf⟩ := htb.out
                          have f0 := gf 0
                          have f1 := gf 1
                          have f2 := gf 2
                          have f3 := gf 3
                          have f4 := gf 4
                          have f5 := gf 5
                          have f6 := gf 6
                          have f7 := gf 7
                          clear gf m7 z7
                          repeat (first | go_values | go_skip | go_guarded | go_step | go_upon)
                          refine bodyPost_ret (v := .tuple #[.agg #[.int .u8 bl, .int .u8 kk, .slice a' m c', .int .i64 rm, .string ti, .int .u16 re, .bool fv, .slice sa' sn' sc'], .int .i64 0]) (by simp [results, Tryd.results12, go_sem, g0, g1, g2, g3, g4, g5, g6, g7]; try rfl) rfl ?_
                          rw [HE0.out, HC0.out]
                          have hbf := put8_below (R := T) (.int .u8 bl) (.int .u8 kk) (.slice a' m c') (.int .i64 rm) (.string ti) (.int .u16 re) (.bool fv) (.slice sa' sn' sc') hbl.out (show w.heap.size ≤ T by rw [HTT.out]; exact Nat.le_refl _)
                          exact ⟨_, _, rfl, HRYw.out.below hbf, hrow.out.below hbf, hbf⟩
end Go.Proofs.YtjaeglllijafkaaDoor
