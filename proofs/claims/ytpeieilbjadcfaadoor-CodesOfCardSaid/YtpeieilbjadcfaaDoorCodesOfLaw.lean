/- CodesOf, walked at opened values: each code's data are the document's. -/
import Derived.Test.YtpeieilbjadcfaaDoorProg
import Derived.Test.YtpeieilbjadcfaaDoorCodesAwake
import Derived.Test.YtpeieilbjadcfaaDoorCodesRefOf
namespace Go.Proofs.YtpeieilbjadcfaaDoor
open Go.RowKit
set_option linter.unusedVariables false
set_option linter.unusedSimpArgs false

set_option maxRecDepth 100000 in
set_option maxHeartbeats 2000000 in
theorem of_law_nat (k p wd : Nat) (hk : k < 256) (hp : p < 256) (hw : wd < 256) (w : World) (hL : Laid w) :
    Calls Tryd.prog 4 #[.int .u8 k, .int .u8 p, .int .u8 wd] w fun e w' => e = .returned (.bool true) ∧ Below w.heap.size w w' := by
  have HO1 := Lib.hid (fun W => of_walk k hk W)
  have HO2 := Lib.hid (fun W => refOf_walk k hk W)
  have HS1 := Lib.hid (fun W => size_walk k p hk hp W)
  have HS2 := Lib.hid (fun W => refSize_walk k p hk hp W)
  have HW1 := Lib.hid (fun W => wide_walk wd p hp W)
  have HW2 := Lib.hid (fun W => refWide_walk wd p hp W)
  have HL := Lib.hid hL
  have HV := Lib.hid (show codeV k = .agg #[.int .u8 k, .string (nameB k), .int .u8 (modeN k), .int .u8 (useN k), .int .u8 (widthN k)] from rfl)
  rw [HV.out] at HO1 HO2
  obtain ⟨nm, hnm⟩ : ∃ x, nameB k = x := ⟨_, rfl⟩
  obtain ⟨m, hm⟩ : ∃ x, modeN k = x := ⟨_, rfl⟩
  obtain ⟨u, hu⟩ : ∃ x, useN k = x := ⟨_, rfl⟩
  obtain ⟨wk, hwk⟩ : ∃ x, widthN k = x := ⟨_, rfl⟩
  rw [hnm, hm, hu, hwk] at HO1 HO2
  obtain ⟨sz, hsz⟩ : ∃ sz, 1 + opK k p = sz := ⟨_, rfl⟩
  rw [hsz] at HS1 HS2
  obtain ⟨wb, hwb⟩ : ∃ wb, wideB wd p = wb := ⟨_, rfl⟩
  rw [hwb] at HW1 HW2
  clear HV hL hnm hm hu hwk hsz hwb
  go_enter Tryd.func4, Tryd.ntmps4
  go_wp2_with (first | (go_at_call 12; refine (HO1.out _).mono ?_; rintro e w1 ⟨rfl, hb1⟩) | (go_at_call 13; refine (HO2.out _).mono ?_; rintro e w2 ⟨rfl, hb2⟩) | (go_at_call 14; refine (HS1.out _).mono ?_; rintro e w3 ⟨rfl, hb3⟩) | (go_at_call 15; refine (HS2.out _).mono ?_; rintro e w4 ⟨rfl, hb4⟩) | (go_at_call 16; refine (HW1.out _).mono ?_; rintro e w5 ⟨rfl, rfl⟩) | (go_at_call 17; refine (HW2.out _).mono ?_; rintro e w6 ⟨rfl, rfl⟩))
  have HB := Lib.hid (below_step hb1 hb1.size (below_step hb2 hb2.size (below_step hb3 hb3.size hb4)))
  go_at_call 11
  refine (awake_walk _ (HL.out.below HB.out)).mono ?_
  rintro e w7 ⟨rfl, hb7⟩
  go_wp2_with fail
  go_ret
  exact ⟨rfl, HB.out.trans (hb7.mono HB.out.size)⟩
theorem of_law (k p wd : Int) (W : World) (wk : (Lit.int .u8 k).wf = true) (wp : (Lit.int .u8 p).wf = true) (ww : (Lit.int .u8 wd).wf = true) (hL : Laid W) :
    Calls Tryd.prog 4 #[.int .u8 k, .int .u8 p, .int .u8 wd] W fun e w' => e = .returned (.bool true) ∧ Below W.heap.size W w' := by
  have h1 := bounds_u8 wk
  have h2 := bounds_u8 wp
  have h3 := bounds_u8 ww
  obtain ⟨k, rfl⟩ := Int.eq_ofNat_of_zero_le h1.1
  obtain ⟨p, rfl⟩ := Int.eq_ofNat_of_zero_le h2.1
  obtain ⟨wd, rfl⟩ := Int.eq_ofNat_of_zero_le h3.1
  exact of_law_nat k p wd (by omega) (by omega) (by omega) W hL
end Go.Proofs.YtpeieilbjadcfaaDoor
