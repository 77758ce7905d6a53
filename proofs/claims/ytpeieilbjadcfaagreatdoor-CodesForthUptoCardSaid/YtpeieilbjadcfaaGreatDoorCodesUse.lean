/- The document's helpers on names: width, use. -/
import Derived.Test.YtpeieilbjadcfaaGreatDoorProg
import Derived.Test.YtpeieilbjadcfaaGreatDoorCodesPart
namespace Go.Proofs.YtpeieilbjadcfaaGreatDoor
open Go.RowKit
set_option linter.unusedVariables false
set_option linter.unusedSimpArgs false

set_option maxRecDepth 100000 in
set_option maxHeartbeats 4000000 in
theorem width_walk (name : ByteArray) (w : World) :
    Calls Tryz.prog 30 #[.string name] w fun e w' => e = .returned (.int .u8 (widthR name)) ∧ w' = w := by
  have H0 := Lib.hid (in_walk name inT0 w (by decide))
  have H1 := Lib.hid (in_walk name inT1 w (by decide))
  cases h0 : inB name inT0
  · cases h1 : inB name inT1
    · by_cases h2 : name = ⟨#[82, 69, 80]⟩
      · have HE := Lib.hid (show widthR name = 3 by unfold widthR; rw [h0, h1, if_neg (by decide), if_neg (by decide), if_pos (.inl h2)])
        have b : (name.toList == [82, 69, 80]) = true := strEqL_true h2
        rw [h0] at H0
        rw [h1] at H1
        clear h0 h1 h2
        go_enter Tryz.func30, Tryz.ntmps30
        go_upto_region 3 with (go_at_call 48; refine H0.out.mono ?_; rintro e w1 ⟨rfl, rfl⟩)
        go_upto_region 5 with (go_at_call 48; refine H1.out.mono ?_; rintro e w1 ⟨rfl, rfl⟩)
        go_wp2_with fail
        go_returns
        exact ⟨by rw [HE.out]; rfl, rfl⟩
      · by_cases h3 : name = ⟨#[83, 69, 80]⟩
        · have HE := Lib.hid (show widthR name = 3 by unfold widthR; rw [h0, h1, if_neg (by decide), if_neg (by decide), if_pos (.inr h3)])
          have b : (name.toList == [82, 69, 80]) = false := strEqL_false h2
          have b2 : (name.toList == [83, 69, 80]) = true := strEqL_true h3
          rw [h0] at H0
          rw [h1] at H1
          clear h0 h1 h2 h3
          go_enter Tryz.func30, Tryz.ntmps30
          go_upto_region 3 with (go_at_call 48; refine H0.out.mono ?_; rintro e w1 ⟨rfl, rfl⟩)
          go_upto_region 5 with (go_at_call 48; refine H1.out.mono ?_; rintro e w1 ⟨rfl, rfl⟩)
          go_wp2_with fail
          go_returns
          exact ⟨by rw [HE.out]; rfl, rfl⟩
        · have HE := Lib.hid (show widthR name = 0 by unfold widthR; rw [h0, h1, if_neg (by decide), if_neg (by decide), if_neg (by rintro (h | h); exact h2 h; exact h3 h)])
          have b : (name.toList == [82, 69, 80]) = false := strEqL_false h2
          have b2 : (name.toList == [83, 69, 80]) = false := strEqL_false h3
          rw [h0] at H0
          rw [h1] at H1
          clear h0 h1 h2 h3
          go_enter Tryz.func30, Tryz.ntmps30
          go_upto_region 3 with (go_at_call 48; refine H0.out.mono ?_; rintro e w1 ⟨rfl, rfl⟩)
          go_upto_region 5 with (go_at_call 48; refine H1.out.mono ?_; rintro e w1 ⟨rfl, rfl⟩)
          go_wp2_with fail
          go_returns
          exact ⟨by rw [HE.out]; rfl, rfl⟩
    · have HE := Lib.hid (show widthR name = 2 by unfold widthR; rw [h0, h1, if_neg (by decide), if_pos rfl])
      rw [h0] at H0
      rw [h1] at H1
      clear h0 h1
      go_enter Tryz.func30, Tryz.ntmps30
      go_upto_region 3 with (go_at_call 48; refine H0.out.mono ?_; rintro e w1 ⟨rfl, rfl⟩)
      go_wp2_with (go_at_call 48; refine H1.out.mono ?_; rintro e w1 ⟨rfl, rfl⟩)
      go_returns
      exact ⟨by rw [HE.out]; rfl, rfl⟩
  · have HE := Lib.hid (show widthR name = 1 by unfold widthR; rw [h0, if_pos rfl])
    rw [h0] at H0
    clear h0
    go_enter Tryz.func30, Tryz.ntmps30
    go_wp2_with (go_at_call 48; refine H0.out.mono ?_; rintro e w1 ⟨rfl, rfl⟩)
    go_returns
    exact ⟨by rw [HE.out]; rfl, rfl⟩
set_option maxRecDepth 100000 in
set_option maxHeartbeats 4000000 in
theorem use_walk (name : ByteArray) (m wd : Nat) (hm : m ≤ 25) (hwd : wd ≤ 3) (w : World) :
    Calls Tryz.prog 31 #[.string name, .int .u8 m, .int .u8 wd] w fun e w' => e = .returned (.int .u8 (useR name m wd)) ∧ w' = w := by
  have H2 := Lib.hid (in_walk name inT2 w (by decide))
  have H3 := Lib.hid (in_walk name inT3 w (by decide))
  by_cases h0 : m ≤ 2
  · have HE := Lib.hid (show useR name m wd = 0 by unfold useR; rw [if_pos (.inl h0)])
    have b : (m : Int) ≤ 2 := by omega
    go_enter Tryz.func31, Tryz.ntmps31
    go_wp2_with fail
    go_returns
    exact ⟨by rw [HE.out]; rfl, rfl⟩
  · have b : ¬ (m : Int) ≤ 2 := by omega
    by_cases h1 : wd = 0
    · subst h1
      have HE := Lib.hid (show useR name m 0 = 0 by unfold useR; rw [if_pos (.inr rfl)])
      go_enter Tryz.func31, Tryz.ntmps31
      go_wp2_with fail
      go_returns
      exact ⟨by rw [HE.out]; rfl, rfl⟩
    · have b2 : ((wd : Int) == 0) = false := by rw [beq_eq_false_iff_ne]; omega
      cases h2 : inB name inT2
      · cases h3 : inB name inT3
        · have HE := Lib.hid (show useR name m wd = 1 by unfold useR; rw [if_neg (by omega), h2, h3, if_neg (by decide), if_neg (by decide)])
          rw [h2] at H2
          rw [h3] at H3
          clear h0 h1 h2 h3
          go_enter Tryz.func31, Tryz.ntmps31
          go_upto_region 5 with (go_at_call 48; refine H2.out.mono ?_; rintro e w1 ⟨rfl, rfl⟩)
          go_wp2_with (go_at_call 48; refine H3.out.mono ?_; rintro e w1 ⟨rfl, rfl⟩)
          go_returns
          exact ⟨by rw [HE.out]; rfl, rfl⟩
        · have HE := Lib.hid (show useR name m wd = 3 by unfold useR; rw [if_neg (by omega), h2, h3, if_neg (by decide), if_pos rfl])
          rw [h2] at H2
          rw [h3] at H3
          clear h0 h1 h2 h3
          go_enter Tryz.func31, Tryz.ntmps31
          go_upto_region 5 with (go_at_call 48; refine H2.out.mono ?_; rintro e w1 ⟨rfl, rfl⟩)
          go_wp2_with (go_at_call 48; refine H3.out.mono ?_; rintro e w1 ⟨rfl, rfl⟩)
          go_returns
          exact ⟨by rw [HE.out]; rfl, rfl⟩
      · have HE := Lib.hid (show useR name m wd = 2 by unfold useR; rw [if_neg (by omega), h2, if_pos rfl])
        rw [h2] at H2
        clear h0 h1 h2
        go_enter Tryz.func31, Tryz.ntmps31
        go_wp2_with (go_at_call 48; refine H2.out.mono ?_; rintro e w1 ⟨rfl, rfl⟩)
        go_returns
        exact ⟨by rw [HE.out]; rfl, rfl⟩
end Go.Proofs.YtpeieilbjadcfaaGreatDoor
