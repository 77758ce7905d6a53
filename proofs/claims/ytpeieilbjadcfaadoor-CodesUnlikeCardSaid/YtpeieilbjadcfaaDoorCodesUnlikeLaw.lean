/- CodesUnlike, walked at opened values: two codes of one name have unlike modes; sizes hang on M and X alone. -/
import Derived.Test.YtpeieilbjadcfaaDoorProg
import Derived.Test.YtpeieilbjadcfaaDoorCodesAwake
import Derived.Test.YtpeieilbjadcfaaDoorCodesKey
namespace Go.Proofs.YtpeieilbjadcfaaDoor
open Go.RowKit
set_option linter.unusedVariables false
set_option linter.unusedSimpArgs false

/-- What stands while two codes are looked at. -/
def TwoS (w0 : World) (K J : Nat) (v0 v1 v2 v3 v4 u0 u1 u2 u3 u4 : Value) (W : World) : Prop := Five W K v0 v1 v2 v3 v4 ∧ Five W J u0 u1 u2 u3 u4 ∧ Below w0.heap.size w0 W ∧ K < W.heap.size ∧ J < W.heap.size
theorem TwoS.below {w0 W W' : World} {K J : Nat} {v0 v1 v2 v3 v4 u0 u1 u2 u3 u4 : Value} (h : TwoS w0 K J v0 v1 v2 v3 v4 u0 u1 u2 u3 u4 W) (hb : Below W.heap.size W W') : TwoS w0 K J v0 v1 v2 v3 v4 u0 u1 u2 u3 u4 W' :=
  ⟨h.1.below hb h.2.2.2.1, h.2.1.below hb h.2.2.2.2, h.2.2.1.trans (hb.mono h.2.2.1.size), Nat.lt_of_lt_of_le h.2.2.2.1 hb.size, Nat.lt_of_lt_of_le h.2.2.2.2 hb.size⟩
theorem five_new (w : World) (v0 v1 v2 v3 v4 : Value) (t : TypeId) : Five (w.alloc (.cells #[v0, v1, v2, v3, v4] t)) w.heap.size v0 v1 v2 v3 v4 := by
  refine ⟨?_, ?_, ?_, ?_, ?_, fun i => ?_⟩ <;> simp [go_sem]
theorem size_at (k p : Nat) (f : Int) (hf : f = (p : Int)) (hk : k < 256) (hp : p < 256) (w : World) :
    Calls Tryd.prog 14 #[.int .u8 k, .int .u8 f] w fun e w' => e = .returned (.int .i64 (1 + opK k p : Nat)) ∧ Below w.heap.size w w' := by
  subst hf; exact size_walk k p hk hp w
set_option maxRecDepth 100000 in
set_option maxHeartbeats 2000000 in
theorem unlike_nat (a b p q : Nat) (ha : a < 256) (hb : b < 256) (hp : p < 256) (hq : q < 256) (w : World) (hL : Laid w) :
    Calls Tryd.prog 5 #[.int .u8 a, .int .u8 b, .int .u8 p, .int .u8 q] w fun e w' => e = .returned (.bool true) ∧ Below w.heap.size w w' := by
  have HVa := Lib.hid (show codeV a = .agg #[.int .u8 a, .string (nameB a), .int .u8 (modeN a), .int .u8 (useN a), .int .u8 (widthN a)] from rfl)
  have HVb := Lib.hid (show codeV b = .agg #[.int .u8 b, .string (nameB b), .int .u8 (modeN b), .int .u8 (useN b), .int .u8 (widthN b)] from rfl)
  have HU := Lib.hid (codes_unlike a b ha hb)
  have z3 := (tab_lims a ha).1
  have hfl := flagsN_eq p q hp hq
  unfold flagsN at hfl
  obtain ⟨f, hf⟩ : ∃ f, 16 * (p / 16 % 4) + (q % 16 + 64 * (q / 64)) = f := ⟨_, rfl⟩
  have hf256 : f < 256 := by omega
  have HFP := Lib.hid (show opK a f = opK a p by rw [← hf]; exact opK_flagsN a p q hp hq)
  rw [hf] at hfl
  clear hf
  obtain ⟨y1, hy1⟩ : ∃ y, bits .and .u8 (p : Int) 48 = y := ⟨_, rfl⟩
  obtain ⟨y2, hy2⟩ : ∃ y, bits .andNot .u8 (q : Int) 48 = y := ⟨_, rfl⟩
  rw [hy1, hy2] at hfl
  have hble := opN_le (modeN a) (widthN a) p
  rw [show opN (modeN a) (widthN a) p = opK a p from rfl] at hble
  have HS1 := Lib.hid (fun W => size_walk a p ha hp W)
  have HS2 := Lib.hid (fun W => size_walk a f ha hf256 W)
  rw [HFP.out] at HS2
  have HO1 := Lib.hid (fun W => of_walk a ha W)
  have HO2 := Lib.hid (fun W => of_walk b hb W)
  have HL := Lib.hid hL
  obtain ⟨sz, hsz⟩ : ∃ sz, 1 + opK a p = sz := ⟨_, rfl⟩
  rw [hsz] at HS1 HS2
  have l1 : (1 : Int) ≤ (sz : Int) := by omega
  have l2 : (sz : Int) ≤ 4 := by omega
  clear hsz hble HFP hL
  rw [HVa.out] at HO1
  rw [HVb.out] at HO2
  clear HVa HVb
  obtain ⟨na, hna⟩ : ∃ x, nameB a = x := ⟨_, rfl⟩
  obtain ⟨nb, hnb⟩ : ∃ x, nameB b = x := ⟨_, rfl⟩
  obtain ⟨ma, hma⟩ : ∃ x, modeN a = x := ⟨_, rfl⟩
  obtain ⟨mb, hmb⟩ : ∃ x, modeN b = x := ⟨_, rfl⟩
  rw [hna, hma] at HO1
  rw [hnb, hmb] at HO2
  rw [hna, hma, hnb, hmb] at HU
  rw [hna] at z3
  clear hna hnb hma hmb
  go_enter Tryd.func5, Tryd.ntmps5
  go_upto_region 2 with (go_at_call 12; refine (HO1.out _).mono ?_; rintro e w1 ⟨rfl, hb1⟩)
  obtain ⟨X, hX⟩ : ∃ X, w1.alloc (.cells #[.int .u8 a, .string na, .int .u8 ma, .int .u8 (useN a), .int .u8 (widthN a)] 31) = X := ⟨_, rfl⟩
  obtain ⟨K, hK⟩ : ∃ K, w1.heap.size = K := ⟨_, rfl⟩
  have HX := Lib.hid (show Five X K (.int .u8 a) (.string na) (.int .u8 ma) (.int .u8 (useN a)) (.int .u8 (widthN a)) ∧ Below w.heap.size w X ∧ K < X.heap.size by rw [← hX, ← hK]; exact ⟨five_new _ _ _ _ _ _ _, hb1.alloc hb1.size _, by simp⟩)
  rw [hX, hK]
  clear hX hK hb1
  go_upto_region 3 with (go_at_call 12; refine (HO2.out _).mono ?_; rintro e w2 ⟨rfl, hb2⟩)
  obtain ⟨Y, hY⟩ : ∃ Y, w2.alloc (.cells #[.int .u8 b, .string nb, .int .u8 mb, .int .u8 (useN b), .int .u8 (widthN b)] 31) = Y := ⟨_, rfl⟩
  obtain ⟨J, hJ⟩ : ∃ J, w2.heap.size = J := ⟨_, rfl⟩
  have HY := Lib.hid (show TwoS w K J (.int .u8 a) (.string na) (.int .u8 ma) (.int .u8 (useN a)) (.int .u8 (widthN a)) (.int .u8 b) (.string nb) (.int .u8 mb) (.int .u8 (useN b)) (.int .u8 (widthN b)) Y by
    have h1 : Below X.heap.size X Y := by rw [← hY]; exact hb2.alloc hb2.size _
    refine ⟨HX.out.1.below h1 HX.out.2.2, by rw [← hY, ← hJ]; exact five_new _ _ _ _ _ _ _, HX.out.2.1.trans (h1.mono HX.out.2.1.size), Nat.lt_of_lt_of_le HX.out.2.2 h1.size, by rw [← hY, ← hJ]; simp⟩)
  rw [hY, hJ]
  clear hY hJ hb2 HX HO1 HO2
  obtain ⟨g0, g1, g2, g3, g4, gf⟩ := HY.out.1
  obtain ⟨k0, k1, k2, k3, k4, kf⟩ := HY.out.2.1
  clear gf kf g3 g4 k0 k3 k4
  go_cut [33] (fun s33 wx => s33 = .bool false ∧ wx = Y)
  case first =>
    by_cases hab : a = b
    · have e1 : ((a : Int) != (b : Int)) = false := by rw [hab]; simp
      clear hab
      go_wp2_with fail
      go_meet
      exact ⟨rfl, rfl⟩
    · have e1 : ((a : Int) != (b : Int)) = true := by simp; omega
      by_cases hn : na = nb
      · have e2 := strEq_true hn
        have e3 : ((ma : Int) == (mb : Int)) = false := by rw [beq_eq_false_iff_ne]; intro h; exact hab (HU.out hn (by omega))
        clear hn hab
        go_wp2_with fail
        go_meet
        exact ⟨rfl, rfl⟩
      · have e2 := strEq_false hn
        clear hn hab
        go_wp2_with fail
        go_meet
        exact ⟨rfl, rfl⟩
  case rest =>
    obtain ⟨rfl, rfl⟩ := hcut
    clear HU g1 g2 k1 k2
    go_upto_region 6 with (go_at_call 14; refine (HS1.out _).mono ?_; rintro e w3 ⟨rfl, hb3⟩)
    have HZ := Lib.hid (HY.out.below hb3)
    clear HS1 hb3 g0
    go_upto_region 7 with (go_at_call 14; refine (HS2.out _).mono ?_; rintro e w4 ⟨rfl, hb4⟩)
    have HW := Lib.hid (HZ.out.below hb4)
    clear hb4 HZ
    have d0 := HW.out.1.1
    have d1 := HW.out.1.2.1
    have HAW := Lib.hid (awake_walk w4 (HL.out.below HW.out.2.2.1))
    go_wp2_with (go_at_call 11; refine HAW.out.mono ?_; rintro e w5 ⟨rfl, hb5⟩)
    go_ret
    exact ⟨rfl, HW.out.2.2.1.trans (hb5.mono HW.out.2.2.1.size)⟩
theorem unlike_walk (a b p q : Int) (W : World) (wa : (Lit.int .u8 a).wf = true) (wb : (Lit.int .u8 b).wf = true) (wp : (Lit.int .u8 p).wf = true) (wq : (Lit.int .u8 q).wf = true) (hL : Laid W) :
    Calls Tryd.prog 5 #[.int .u8 a, .int .u8 b, .int .u8 p, .int .u8 q] W fun e w' => e = .returned (.bool true) ∧ Below W.heap.size W w' := by
  have h1 := bounds_u8 wa
  have h2 := bounds_u8 wb
  have h3 := bounds_u8 wp
  have h4 := bounds_u8 wq
  obtain ⟨a, rfl⟩ := Int.eq_ofNat_of_zero_le h1.1
  obtain ⟨b, rfl⟩ := Int.eq_ofNat_of_zero_le h2.1
  obtain ⟨p, rfl⟩ := Int.eq_ofNat_of_zero_le h3.1
  obtain ⟨q, rfl⟩ := Int.eq_ofNat_of_zero_le h4.1
  exact unlike_nat a b p q (by omega) (by omega) (by omega) (by omega) W hL
end Go.Proofs.YtpeieilbjadcfaaDoor
