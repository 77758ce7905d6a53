/- The walk of the law BrrDecodes. -/
import Derived.Test.YtpmmnjmlnjdkjaaDecP
import Derived.Test.YtpmmnjmlnjdkjaaSame
import Derived.Test.YtpmmnjmlnjdkjaaShorts
import Derived.Test.YtpmmnjmlnjdkjaaCopy
namespace Go.Proofs.Ytpmmnjmlnjdkjaa
open Go.RowKit

set_option maxHeartbeats 1000000 in
theorem law_decodes (v : Value) (xs : List Int) (p q h : Int) (w : World) (hr : Row .u8 w v xs) (hf : Fits .u8 xs) (hn : xs.length ≤ 140737488351232)
    (p0 : -32768 ≤ p) (p1 : p ≤ 32767) (q0 : -32768 ≤ q) (q1 : q ≤ 32767) (h0 : 0 ≤ h) (h1 : h ≤ 255) :
    Calls Try.prog 3 #[v, .agg #[.int .i16 p, .int .i16 q], .int .u8 h] w fun e w' => e = .returned (.bool true) ∧ Below w.heap.size w w' := by
  have hE := eqB_refl xs
  have hE2 := eqB_refl (decodedN xs p q)
  have HR := Lib.hid hr
  have HF := Lib.hid hf
  clear hr hf
  go_enter Try.func3, Try.ntmps3
  go_wp2_with fail
  obtain ⟨Wb, hWb⟩ : ∃ Wb, w.alloc (.cells #[.int .i16 p, .int .i16 q] 25) = Wb := ⟨_, rfl⟩
  have hbb : Below w.heap.size w Wb := by rw [← hWb]; exact (Below.refl _ w).alloc (Nat.le_refl _) _
  have hzb : w.heap.size < Wb.heap.size := by rw [← hWb]; simp
  have k0 : Wb.cell? ⟨w.heap.size, 0, none⟩ = some (.int .i16 p) := by rw [← hWb]; simp
  have k1 : Wb.cell? ⟨w.heap.size, 1, none⟩ = some (.int .i16 q) := by rw [← hWb]; simp
  rw [hWb]
  have K0 := Lib.hid k0
  have K1 := Lib.hid k1
  clear hWb k0 k1
  have hr1 : Hid (Row .u8 Wb v xs) := HR.out.below hbb
  refine (copy_any v xs _ hr1.out (by omega)).mono ?_
  rintro e w1 ⟨c, rfl, hc, hb1⟩
  have HC := Lib.hid (Row.owned hc).1
  have hr2 : Hid (Row .u8 w1 v xs) := hr1.out.below hb1
  have k0 := (hb1.cell (p := ⟨w.heap.size, 0, none⟩) hzb).trans K0.out
  have k1 := (hb1.cell (p := ⟨w.heap.size, 1, none⟩) hzb).trans K1.out
  clear hc
  go_wp2_with fail
  refine (refDecode_any v xs p q _ hr2.out HF.out p0 p1 q0 q1).mono ?_
  rintro e w2 ⟨r1, rfl, hd1, hb2⟩
  have hb12 : Below Wb.heap.size Wb w2 := below_step hb1 hb1.size hb2
  have HD1 := Lib.hid (Row.owned hd1).1
  have HC2 := Lib.hid (HC.out.below hb2)
  have k02 := (hb12.cell (p := ⟨w.heap.size, 0, none⟩) hzb).trans K0.out
  have k12 := (hb12.cell (p := ⟨w.heap.size, 1, none⟩) hzb).trans K1.out
  clear hd1 k0 k1
  go_wp2_with fail
  refine (decode_any c xs p q _ HC2.out HF.out p0 p1 q0 q1).mono ?_
  rintro e w3 ⟨r2, rfl, hd2, hb3⟩
  have hb13 : Below Wb.heap.size Wb w3 := below_step hb12 hb12.size hb3
  have HD2 := Lib.hid (Row.owned hd2).1
  have HD12 := Lib.hid (HD1.out.below hb3)
  have HC3 := Lib.hid (HC2.out.below hb3)
  have hr3 : Hid (Row .u8 w3 v xs) := hr1.out.below hb13
  clear hd2 k02 k12
  go_wp2_with fail
  refine (shorts_any _ _ _ _ _ HD2.out HD12.out).mono ?_
  rintro e w4 ⟨rfl, n4, rfl⟩
  rw [hE2]
  have hb14 : Below Wb.heap.size Wb (w3.drewN n4) := below_drewN hb13 n4
  have hr4 : Hid (Row .u8 (w3.drewN n4) v xs) := hr1.out.below hb14
  have HC4 : Hid (Row .u8 (w3.drewN n4) c xs) := HC3.out.below (below_drewN (Below.refl _ _) n4)
  go_wp2_with fail
  refine (bytes_any _ _ _ _ _ HC4.out hr4.out).mono ?_
  rintro e w5 ⟨rfl, n5, rfl⟩
  rw [hE]
  have hb15 : Below Wb.heap.size Wb ((w3.drewN n4).drewN n5) := below_drewN hb14 n5
  generalize (w3.drewN n4).drewN n5 = w5 at hb15 ⊢
  clear hr4 HC4 hb14 HC3 hr3 HD2 HD12 hb13
  go_wp2_with fail
  refine (read_any h h0 h1 _).mono ?_
  rintro e w6 ⟨rfl, hb6⟩
  go_wp2_with fail
  refine (refRead_any h h0 h1 _).mono ?_
  rintro e w7 ⟨rfl, hb7⟩
  go_wp2_with fail
  go_ret
  exact ⟨rfl, below_step hbb hbb.size (below_step hb15 hb15.size (below_step hb6 hb6.size hb7))⟩

theorem walk_decodes (a0 : Option Addr) (len0 cap0 : Nat) (z0 : List Int) (p q h : Int) (w : World) (w0 : IsRow .u8 w a0 len0 cap0 z0) (s0 : cap0 * 1 ≤ 140737488351232)
    (wp : (Lit.int .i16 p).wf = true) (wq : (Lit.int .i16 q).wf = true) (wh : (Lit.int .u8 h).wf = true) :
    Calls Try.prog 3 #[.slice a0 len0 cap0, .agg #[.int .i16 p, .int .i16 q], .int .u8 h] w fun e w' => e = .returned (.bool true) ∧ Below w.heap.size w w' := by
  obtain ⟨hr, hf, hl, -⟩ := Row.came w0
  have bp := bounds_i16 wp
  have bq := bounds_i16 wq
  have bh := bounds_u8 wh
  have hc : len0 ≤ cap0 := by rcases w0 with ⟨_, rfl, rfl, _⟩ | ⟨_, _, h, _⟩ <;> omega
  exact law_decodes _ _ p q h w hr hf (by omega) (by omega) (by omega) (by omega) (by omega) (by omega) (by omega)
end Go.Proofs.Ytpmmnjmlnjdkjaa
