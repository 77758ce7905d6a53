/- CodesTexts, walked at opened values: each instruction's bytes have the document's text. -/
import Derived.Test.YtpeieilbjadcfaaDoorProg
import Derived.Test.YtpeieilbjadcfaaDoorCodesAwake
import Derived.Test.YtpeieilbjadcfaaDoorCodesRefText
import Derived.Test.YtpeieilbjadcfaaDoorCodesSame
import Derived.Test.YtpeieilbjadcfaaDoorCodesCopy
namespace Go.Proofs.YtpeieilbjadcfaaDoor
open Go.RowKit
set_option linter.unusedVariables false
set_option linter.unusedSimpArgs false

theorem textV_parts (xs : List Int) (pc p : Nat) : ∃ s n b, textV xs pc p = .tuple #[.string s, .int .i64 n, .bool b] := by
  unfold textV
  split
  · exact ⟨_, _, _, rfl⟩
  · exact ⟨_, _, _, rfl⟩
set_option maxRecDepth 100000 in
set_option maxHeartbeats 2000000 in
theorem texts_nat (v : Value) (xs : List Int) (pc p : Nat) (hpc : pc < 65536) (hp : p < 256) (w : World) (hr : Row .u8 w v xs) (hf : Fits .u8 xs) (hn : xs.length ≤ 140737488355328) (hL : Laid w) :
    Calls Tryd.prog 3 #[v, .int .u16 pc, .int .u8 p] w fun e w' => e = .returned (.bool true) ∧ Below w.heap.size w w' := by
  obtain ⟨s, n, is, hv⟩ := textV_parts xs pc p
  have HR := Lib.hid (fun W hr => refText_walk v xs pc p hpc hp W hr hf)
  have HT := Lib.hid (fun W v2 hr hl => text_walk v2 xs pc p hpc hp W hr hf hl)
  rw [hv] at HR HT
  have HC := Lib.hid (fun W hr => copy_any v xs W hr hn)
  have HS := Lib.hid (fun W v2 (h1 : Row .u8 W v2 xs) (h2 : Row .u8 W v xs) => bytes_same v2 v xs xs W h1 h2 rfl)
  rw [eqB_refl] at HS
  have hss := strEq_true (rfl : s = s)
  have HROW := Lib.hid hr
  have HL := Lib.hid hL
  clear hv hr hf hn hL
  go_enter Tryd.func3, Tryd.ntmps3
  go_upto_region 2 with (go_at_call 7; refine (HR.out _ HROW.out).mono ?_; rintro e w1 ⟨rfl, hb1⟩)
  have HB1 := Lib.hid hb1
  clear hb1
  go_upto_region 3 with (go_at_call 8; refine (HC.out _ (HROW.out.below HB1.out)).mono ?_; rintro e w2 ⟨v2, rfl, hown, hb2⟩)
  have HB2 := Lib.hid (HB1.out.trans (hb2.mono HB1.out.size))
  have HR2 := Lib.hid (Row.owned hown).1
  clear hb2 hown
  go_upto_region 4 with (go_at_call 9; refine (HT.out _ _ HR2.out (HL.out.below HB2.out)).mono ?_; rintro e w3 ⟨rfl, hb3⟩)
  have HB3 := Lib.hid (HB2.out.trans (hb3.mono HB2.out.size))
  have HR3 := Lib.hid (HR2.out.below hb3)
  clear hb3
  go_wp2_with (first | (go_at_call 10; refine (HS.out _ _ HR3.out (HROW.out.below HB3.out)).mono ?_; rintro e w4 ⟨rfl, d, rfl⟩) | (go_at_call 11; refine (awake_walk _ (HL.out.below (below_drewN HB3.out _))).mono ?_; rintro e w5 ⟨rfl, hb5⟩))
  go_ret
  exact ⟨rfl, (below_drewN HB3.out _).trans (hb5.mono (below_drewN HB3.out _).size)⟩
theorem texts_walk (a : Option Addr) (len cap : Nat) (z : List Int) (pc p : Int) (W : World) (hr : IsRow .u8 W a len cap z) (hs : cap * 1 ≤ 140737488351232) (w1 : (Lit.int .u16 pc).wf = true) (w2 : (Lit.int .u8 p).wf = true) (hL : Laid W) :
    Calls Tryd.prog 3 #[.slice a len cap, .int .u16 pc, .int .u8 p] W fun e w' => e = .returned (.bool true) ∧ Below W.heap.size W w' := by
  obtain ⟨h1, h2, h3, h4⟩ := Row.came hr
  have hb1 := bounds_u16 w1
  have hb2 := bounds_u8 w2
  obtain ⟨pc, rfl⟩ := Int.eq_ofNat_of_zero_le hb1.1
  obtain ⟨p, rfl⟩ := Int.eq_ofNat_of_zero_le hb2.1
  have hlc : len ≤ cap := by rcases hr with ⟨_, rfl, rfl, _⟩ | ⟨_, _, h, _⟩; exact Nat.le_refl _; exact h
  exact texts_nat _ _ pc p (by omega) (by omega) W h1 h2 (by omega) hL
end Go.Proofs.YtpeieilbjadcfaaDoor
