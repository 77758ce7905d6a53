/- The walk of the law BrrParts. -/
import Derived.Test.YtpmmnjmlnjdkjaaAll
import Derived.Test.YtpmmnjmlnjdkjaaPartsPlain
import Derived.Test.YtpmmnjmlnjdkjaaShorts
namespace Go.Proofs.Ytpmmnjmlnjdkjaa
open Go.RowKit
set_option linter.unusedVariables false

set_option maxRecDepth 100000 in
set_option maxHeartbeats 4000000 in
theorem law_parts (v : Value) (b : List Int) (w : World) (hr : Row .u8 w v b) (hf : Fits .u8 b) (hl : b.length ≤ 1048576) :
    Calls Try.prog 6 #[v] w fun e w' => e = .returned (.bool true) ∧ Below w.heap.size w w' := by
  obtain ⟨a, cap, rfl⟩ := hr.shape
  have HR := Lib.hid hr
  have HF := Lib.hid hf
  obtain ⟨L, hL⟩ : ∃ L : Nat, b.length = L := ⟨_, rfl⟩
  have HL := Lib.hid hL
  rw [hL] at hl ⊢
  clear hr hf hL
  go_enter Try.func6, Try.ntmps6
  go_wp2_with fail
  go_at_call 21
  have HR' : Hid (Row .u8 w (.slice a L cap) b) := by have := HR.out; rw [HL.out] at this; exact this
  refine (all_walk _ b w HR'.out HF.out (by rw [HL.out]; exact hl)).mono ?_
  rintro e w1 (⟨r1, n, h1, rfl, hr1, hb1⟩ | ⟨hn1, rfl, hb1⟩)
  · obtain ⟨n1, n9, hE⟩ := h1.facts
    rw [HL.out] at n9
    have HE := Lib.hid hE
    obtain ⟨ra, rc, rfl⟩ := hr1.shape
    rw [doneB_length] at hr1 ⊢
    have HR1 := Lib.hid hr1
    have HB1 := Lib.hid hb1
    clear hE h1 hr1 hb1
    have m1 : (9 * (n : Int)) % 9 = 0 := by omega
    have m2 : (9 * (n : Int)) / 9 = n := by omega
    have m3 : 9 * (n : Int) ≤ (L : Int) := by omega
    have m4 : 0 < 9 * (n : Int) := by omega
    have m5 : (9 * (n : Int) == 0) = false := by rw [beq_eq_false_iff_ne]; omega
    have m6 : decide ((L : Int) < 9 * (n : Int)) = false := decide_eq_false (by omega)
    have m7 : (16 * (n : Int) != (n : Int) * 16) = false := by rw [bne_eq_false_iff_eq]; omega
    go_wp2_with fail
    go_loopg [7, 8, 9] n (fun gk v7 v8 v9 wr => ∃ k : Nat, k + gk = n ∧ v7 = .int .i16 (behindN (doneB b k)).1 ∧ v8 = .int .i16 (behindN (doneB b k)).2 ∧ v9 = .int .i64 (9 * (k : Int)) ∧ Below w.heap.size w wr ∧ Hid (Below w1.heap.size w1 wr))
    case atStart => exact ⟨0, by omega, rfl, rfl, rfl, HB1.out, Below.refl _ _⟩
    case round =>
      obtain ⟨k, hk, rfl, rfl, rfl, hbr, HB1r⟩ := hrel
      have HK := Lib.hid hk
      clear hk
      by_cases hlt : k < n
      · have hRr := HR'.out.below hbr
        obtain ⟨bk, o, cap', e1, hc1, hc2, hcx⟩ := hRr.cells (by rw [HL.out]; omega)
        rw [HL.out] at e1 hc1 hcx
        simp only [Value.slice.injEq, true_and] at e1
        obtain ⟨rfl, rfl⟩ := e1
        have hb9 : Hid (Row .u8 wr (.slice (some ⟨bk, o + 9 * k, none⟩) 9 (cap - 9 * k)) (blkB b k)) :=
          Row.part (by rw [HL.out]; exact hcx) (9 * k) 9 (cap - 9 * k) (by omega) (by omega) (by omega) (by rw [HL.out]; omega)
        have c0 := hcx (9 * k) (by omega)
        rw [show b[9 * k]?.getD 0 = headB b k from rfl] at c0
        have hh := headB_fits b HF.out k (by rw [HL.out]; omega)
        have hE := HE.out k hlt
        obtain ⟨H, hH⟩ : ∃ H, headB b k = H := ⟨_, rfl⟩
        rw [hH] at c0 hh hE
        have HB9 := Lib.hid (blkB_fits b HF.out k)
        have HL9 := Lib.hid (blkB_length b k (by rw [HL.out]; omega))
        have hbh := behind_fits (doneB_fits b k)
        have HPT := Lib.hid (doneB_part b k n hlt)
        have HSU := Lib.hid (behind_append (doneB b k) (samplesN (blkB b k) (behindN (doneB b k)).1 (behindN (doneB b k)).2 16) (samplesN_length _ _ _ _))
        rw [← doneB_succ] at HSU
        obtain ⟨P, hP⟩ : ∃ P, (behindN (doneB b k)).1 = P := ⟨_, rfl⟩
        obtain ⟨Q, hQ⟩ : ∃ Q, (behindN (doneB b k)).2 = Q := ⟨_, rfl⟩
        rw [hP, hQ] at hbh HPT HSU ⊢
        have hL1 := HR1.out.below HB1r.out
        obtain ⟨bl, ol, cl, e2, hd1, hd2, hdx⟩ := hL1.cells (by rw [doneB_length]; omega)
        rw [doneB_length] at e2 hd1
        simp only [Value.slice.injEq, true_and] at e2
        obtain ⟨rfl, rfl⟩ := e2
        have hpl : Hid (Row .i16 wr (.slice (some ⟨bl, ol + 16 * k, none⟩) 16 (rc - 16 * k)) (samplesN (blkB b k) P Q 16)) := by
          have h := Row.part hdx (16 * k) 16 (rc - 16 * k) (by omega) (by omega) (by omega) (by rw [doneB_length]; omega)
          rw [HPT.out] at h
          exact h
        have HWR := Lib.hid hbr
        have hend : (H % 2 = 1) ↔ 9 * (k : Int) + 9 = 9 * (n : Int) := by rw [hE]; omega
        have hxor : (!(decide (H % 2 = 1) == (9 * (k : Int) + 9 == 9 * (n : Int)))) = false := by
          by_cases h : H % 2 = 1
          · rw [decide_eq_true h, show (9 * (k : Int) + 9 == 9 * (n : Int)) = true from by rw [beq_iff_eq]; exact hend.1 h]; rfl
          · rw [decide_eq_false h, show (9 * (k : Int) + 9 == 9 * (n : Int)) = false from by rw [beq_eq_false_iff_ne]; exact fun e => h (hend.2 e)]; rfl
        clear hRr hcx hH hP hQ hL1 hdx hE hend hbr
        have i1 : 9 * (k : Int) < 9 * (n : Int) := by omega
        have i2 : 0 ≤ 9 * (k : Int) := by omega
        have i5 : 9 * (k : Int) < (L : Int) := by omega
        have j1 : (9 * (k : Int)).toNat = 9 * k := by omega
        have j2 : (9 * (k : Int) + 9).toNat = 9 * k + 9 := by omega
        have j3 : ¬ cap = 9 * k := by omega
        have j4 : IntKind.i64.wrap (9 * (k : Int) + 9) = 9 * (k : Int) + 9 := IntWalk.i64_in _ (by omega)
        have j5 : 9 * (k : Int) + 9 ≤ (cap : Int) := by omega
        have q1 : (9 * (k : Int)) / 9 = (k : Int) := by omega
        have q2 : ((k : Int) * 16).toNat = 16 * k := by omega
        have q3 : ((k : Int) * 16 + 16).toNat = 16 * k + 16 := by omega
        have q4 : ¬ rc = 16 * k := by omega
        have q5 : (k : Int) * 16 + 16 ≤ (rc : Int) := by omega
        have q6 : IntKind.i64.wrap ((k : Int) * 16) = (k : Int) * 16 := IntWalk.i64_in _ (by omega)
        have q7 : IntKind.i64.wrap ((k : Int) * 16 + 16) = (k : Int) * 16 + 16 := IntWalk.i64_in _ (by omega)
        go_wp2_with fail
        go_at_call 13
        refine (decode9 _ (blkB b k) P Q _ hb9.out HB9.out HL9.out (by omega) (by omega) (by omega) (by omega)).mono ?_
        rintro e w3 ⟨a3, c3, rfl, h3, hb3⟩
        have H3 := Lib.hid h3
        obtain ⟨b4, o4, c4, e4, -, -, h4x⟩ := h3.cells (by rw [samplesN_length]; omega)
        rw [samplesN_length] at e4 h4x
        simp only [Value.slice.injEq, true_and] at e4
        obtain ⟨rfl, rfl⟩ := e4
        have x15 := h4x 15 (by omega)
        have x14 := h4x 14 (by omega)
        have hpl3 : Hid (Row .i16 w3 (.slice (some ⟨bl, ol + 16 * k, none⟩) 16 (rc - 16 * k)) (samplesN (blkB b k) P Q 16)) := hpl.out.below hb3
        have d0 : w3.cell? ⟨bk, o + 9 * k, none⟩ = some (.int .u8 H) := cell_stays c0 hb3
        have HB3 := Lib.hid (below_step HWR.out HWR.out.size hb3)
        have HB13 := Lib.hid (below_step HB1r.out HB1r.out.size hb3)
        obtain ⟨S15, h15⟩ : ∃ x, (samplesN (blkB b k) P Q 16)[15]?.getD 0 = x := ⟨_, rfl⟩
        obtain ⟨S14, h14⟩ : ∃ x, (samplesN (blkB b k) P Q 16)[14]?.getD 0 = x := ⟨_, rfl⟩
        rw [h15] at x15
        rw [h14] at x14
        rw [h15, h14] at HSU
        have X15 := Lib.hid x15
        have X14 := Lib.hid x14
        clear h3 h4x hb3 h15 h14 x15 x14 c0
        go_wp2_with fail
        go_at_call 14
        refine (shorts_any _ _ _ _ _ (H3.out) hpl3.out).mono ?_
        rintro e w4 ⟨rfl, n4, rfl⟩
        rw [eqB_refl]
        have d4 : (w3.drewN n4).cell? ⟨bk, o + 9 * k, none⟩ = some (.int .u8 H) := d0
        have HB4 := Lib.hid (below_drewN HB3.out n4)
        have HB14 := Lib.hid (below_drewN HB13.out n4)
        have X154 : Hid ((w3.drewN n4).cell? ⟨b4, o4 + 15, none⟩ = some (.int .i16 S15)) := X15.out
        have X144 : Hid ((w3.drewN n4).cell? ⟨b4, o4 + 14, none⟩ = some (.int .i16 S14)) := X14.out
        generalize w3.drewN n4 = w4 at d4 HB4 HB14 X154 X144 ⊢
        clear d0 HB3 HB13 X15 X14 H3 hpl3
        go_wp2_with fail
        go_at_call 16
        refine (read_any H (by omega) (by omega) _).mono ?_
        rintro e w5 ⟨rfl, hb5⟩
        have x15 := cell_stays X154.out hb5
        have x14 := cell_stays X144.out hb5
        have HB5 := Lib.hid (below_step HB4.out HB4.out.size hb5)
        have HB15 := Lib.hid (below_step HB14.out HB14.out.size hb5)
        clear hb5 d4
        have hfd : ∀ W : World, (Instr.field 34 (.agg #[.int .u8 (H / 16), .int .u8 (H / 4 % 4), .bool (decide (H / 2 % 2 = 1)), .bool (decide (H % 2 = 1))]) 3).run Try.prog W = .ok (.bool (decide (H % 2 = 1))) W := fun _ => by kernel_rfl
        go_wp2_with fail
        go_roundg (n - (k + 1))
        case measure => have := HK.out; omega
        case rel => exact ⟨k + 1, by have := HK.out; omega, by rw [HSU.out], by rw [HSU.out], by go_num, HB5.out, HB15⟩
      · obtain rfl : k = n := by have := HK.out; omega
        go_wp2_with fail
        go_ret
        exact ⟨rfl, hbr⟩
  · have HB1 := Lib.hid hb1
    clear hb1
    go_wp2_with fail
    go_at_call 22
    refine (known_any _).mono ?_
    rintro e w2 ⟨rfl, hb2⟩
    have HB2 := Lib.hid (below_step HB1.out HB1.out.size hb2)
    go_wp2_with fail
    go_ret
    exact ⟨rfl, HB2.out⟩

theorem walk_parts (a0 : Option Addr) (len0 cap0 : Nat) (z0 : List Int) (w : World) (w0 : IsRow .u8 w a0 len0 cap0 z0) (s0 : cap0 ≤ 1048576) :
    Calls Try.prog 6 #[.slice a0 len0 cap0] w fun e w' => e = .returned (.bool true) ∧ Below w.heap.size w w' := by
  obtain ⟨hr, hf, hl, -⟩ := Row.came w0
  have hc : len0 ≤ cap0 := by rcases w0 with ⟨_, rfl, rfl, _⟩ | ⟨_, _, h, _⟩ <;> omega
  exact law_parts _ _ w hr hf (by omega)
end Go.Proofs.Ytpmmnjmlnjdkjaa
