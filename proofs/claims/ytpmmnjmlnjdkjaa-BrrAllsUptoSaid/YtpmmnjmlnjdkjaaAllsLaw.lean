/- The walk of the law BrrAlls. -/
import Derived.Test.YtpmmnjmlnjdkjaaAll
import Derived.Test.YtpmmnjmlnjdkjaaRefAll
import Derived.Test.YtpmmnjmlnjdkjaaCopy
import Derived.Test.YtpmmnjmlnjdkjaaShorts
namespace Go.Proofs.Ytpmmnjmlnjdkjaa
open Go.RowKit
set_option linter.unusedVariables false

set_option maxHeartbeats 1000000 in
theorem law_alls (v : Value) (b : List Int) (w : World) (hr : Row .u8 w v b) (hf : Fits .u8 b) (hl : b.length ≤ 1048576) :
    Calls Try.prog 5 #[v] w fun e w' => e = .returned (.bool true) ∧ Below w.heap.size w w' := by
  have HR := Lib.hid hr
  have HF := Lib.hid hf
  clear hr hf
  go_enter Try.func5, Try.ntmps5
  go_wp2_with fail
  go_at_call 20
  refine (refAll_walk v b w HR.out HF.out hl).mono ?_
  rintro e w1 (⟨r1, n1, h1, rfl, hr1, hb1⟩ | ⟨hn1, rfl, hb1⟩)
  · have H1 := Lib.hid h1
    have HR1 := Lib.hid hr1
    have HB1 := Lib.hid hb1
    clear h1 hr1 hb1
    go_wp2_with fail
    go_at_call 11
    refine (copy_any v b _ (HR.out.below HB1.out) (by omega)).mono ?_
    rintro e w2 ⟨c, rfl, hc, hb2⟩
    have HC := Lib.hid (Row.owned hc).1
    have HR2 := Lib.hid (HR1.out.below hb2)
    have HB2 := Lib.hid (below_step HB1.out HB1.out.size hb2)
    clear hc hb2
    go_wp2_with fail
    go_at_call 21
    refine (all_walk c b _ HC.out HF.out hl).mono ?_
    rintro e w3 (⟨r3, n3, h3, rfl, hr3, hb3⟩ | ⟨hn3, rfl, hb3⟩)
    · obtain rfl := H1.out.one h3
      have HR3 := Lib.hid hr3
      have HR23 := Lib.hid (HR2.out.below hb3)
      have HB3 := Lib.hid (below_step HB2.out HB2.out.size hb3)
      clear hr3 hb3 h3
      go_wp2_with fail
      go_at_call 14
      refine (shorts_any _ _ _ _ _ HR3.out HR23.out).mono ?_
      rintro e w4 ⟨rfl, n, rfl⟩
      rw [eqB_refl]
      go_wp2_with fail
      go_ret
      exact ⟨rfl, below_drewN HB3.out n⟩
    · exact (H1.out.not hn3).elim
  · have HN1 := Lib.hid hn1
    have HB1 := Lib.hid hb1
    clear hn1 hb1
    go_wp2_with fail
    go_at_call 11
    refine (copy_any v b _ (HR.out.below HB1.out) (by omega)).mono ?_
    rintro e w2 ⟨c, rfl, hc, hb2⟩
    have HC := Lib.hid (Row.owned hc).1
    have HB2 := Lib.hid (below_step HB1.out HB1.out.size hb2)
    clear hc hb2
    go_wp2_with fail
    go_at_call 21
    refine (all_walk c b _ HC.out HF.out hl).mono ?_
    rintro e w3 (⟨r3, n3, h3, rfl, hr3, hb3⟩ | ⟨hn3, rfl, hb3⟩)
    · exact (h3.not HN1.out).elim
    · have HB3 := Lib.hid (below_step HB2.out HB2.out.size hb3)
      clear hn3 hb3
      go_wp2_with fail
      go_at_call 14
      refine (shorts_any _ _ _ _ _ (Row.nil .i16 w3) (Row.nil .i16 w3)).mono ?_
      rintro e w4 ⟨rfl, n, rfl⟩
      rw [eqB_refl]
      go_wp2_with fail
      go_ret
      exact ⟨rfl, below_drewN HB3.out n⟩

theorem walk_alls (a0 : Option Addr) (len0 cap0 : Nat) (z0 : List Int) (w : World) (w0 : IsRow .u8 w a0 len0 cap0 z0) (s0 : cap0 ≤ 1048576) :
    Calls Try.prog 5 #[.slice a0 len0 cap0] w fun e w' => e = .returned (.bool true) ∧ Below w.heap.size w w' := by
  obtain ⟨hr, hf, hl, -⟩ := Row.came w0
  have hc : len0 ≤ cap0 := by rcases w0 with ⟨_, rfl, rfl, _⟩ | ⟨_, _, h, _⟩ <;> omega
  exact law_alls _ _ w hr hf (by omega)
end Go.Proofs.Ytpmmnjmlnjdkjaa
