/- CartMakes: what is made is the document's, byte by byte, or refused: the law, walked. -/
import Derived.Test.YtjaeglllijafkaaProg
import Derived.Test.YtjaeglllijafkaaCartMakeB
import Derived.Test.YtjaeglllijafkaaCartRefMake
import Derived.Test.YtjaeglllijafkaaSame
namespace Go.Proofs.Ytjaeglllijafkaa
open Go.RowKit
set_option linter.unusedVariables false
set_option linter.unusedSimpArgs false

theorem isL_at {l : Int} : isL l = !(decide (atN l < 0)) := by
  rw [Bool.eq_iff_iff]
  unfold isL atN
  by_cases h1 : l = 1
  · subst h1; decide
  · by_cases h2 : l = 2
    · subst h2; decide
    · by_cases h3 : l = 3
      · subst h3; decide
      · rw [if_neg h1, if_neg h2, if_neg h3]; simp; omega
theorem suffix_snoc (p : List UInt8) (x : UInt8) : Lib.hasSuffix (p ++ [x]) [32] = decide ((x.toNat : Int) = 32) := by
  unfold Lib.hasSuffix
  rw [Bool.eq_iff_iff, List.isSuffixOf_iff_suffix, decide_eq_true_iff]
  constructor
  · rintro ⟨q, hq⟩
    have h2 := (List.append_inj' hq rfl).2
    injection h2 with h3
    rw [← h3]; rfl
  · intro hx
    have h3 : x = 32 := UInt8.toNat_inj.1 (by have h4 : (x.toNat : Int) = ((32 : Nat) : Int) := hx
                                              exact Int.ofNat.inj h4)
    rw [h3]
    exact ⟨p, rfl⟩
theorem suffix_last {t : ByteArray} (h : ¬ t.size = 0) : Lib.hasSuffix t.data.toList [32] = decide (lastB t = 32) := by
  have hz : t.data.toList.length = t.size := by simp
  obtain ⟨l, hl⟩ : ∃ l, t.data.toList = l := ⟨_, rfl⟩
  unfold lastB
  rw [hl] at hz ⊢
  rcases List.eq_nil_or_concat l with rfl | ⟨p, x, rfl⟩
  · exact absurd hz.symm h
  · rw [List.concat_eq_append] at hz ⊢
    rw [suffix_snoc, List.getElem?_append_right (by simp at hz; omega)]
    simp at hz
    rw [show t.size - 1 - p.length = 0 from by omega]; rfl
theorem mayC_name (t : ByteArray) : badName t = !(mayC t) := by
  unfold badName mayC
  by_cases h0 : t.size = 0
  · have h1 : t.data.toList = [] := List.eq_nil_of_length_eq_zero (by simpa using h0)
    have h2 : Lib.hasSuffix t.data.toList [32] = false := by rw [h1]; rfl
    rw [h2, decide_eq_true h0, decide_eq_false (by omega), decide_eq_true (show t.size ≤ 21 by omega)]
    simp
  · rw [suffix_last h0, decide_eq_false h0]
    by_cases h1 : t.size ≤ 21
    · rw [decide_eq_true h1, decide_eq_false (show ¬ 21 < t.size by omega)]
      by_cases h2 : lastB t = 32 <;> simp [h2]
    · rw [decide_eq_false h1, decide_eq_true (show 21 < t.size by omega)]; simp
theorem may_bad (l ch : Int) (n : Nat) (ram : Int) (ti : ByteArray) (rs : Int) : (!(mayA l ch ram rs) && (!(mayB l n) && mayC ti)) = !(badN l ch n ram ti rs) := by
  unfold badN
  rw [mayC_name ti, isL_at]
  by_cases h0 : atN l < 0
  · have : mayA l ch ram rs = true := decide_eq_true (.inl h0)
    rw [this, decide_eq_true h0]; simp
  · have hp : placeN l = atN l := by
      have := @isL_at l
      rw [decide_eq_false h0] at this
      unfold placeN; rw [if_pos (of_decide_eq_true this)]
    rw [hp]
    unfold mayA mayB badLen
    rw [Bool.eq_iff_iff]
    simp only [Bool.and_eq_true, Bool.not_eq_true', decide_eq_false_iff_not, Bool.or_eq_false_iff, Bool.not_not, Bool.not_eq_false', decide_eq_true_eq]
    constructor
    · rintro ⟨h1, h2, h3⟩
      refine ⟨h0, by omega, by omega, by omega, by omega, h3, by omega⟩
    · rintro ⟨h1, h2, h3, h4, h5, h6, h7⟩
      exact ⟨by omega, by omega, h6⟩

/-- What is made, and the code. -/
def outN (l ch : Int) (n : Nat) (ram : Int) (ti : ByteArray) (rs : Int) (fa : Bool) (xs : List Int) : List Int := if badN l ch n ram ti rs then [] else madeN xs (placeN l).toNat ti l fa ch ram rs
def codeN (l ch : Int) (n : Nat) (ram : Int) (ti : ByteArray) (rs : Int) : Int := if badN l ch n ram ti rs then 2 else 0
theorem owns_nil (w : World) (lo : Nat) : w.ownsRow lo 5 1 (.slice none 0 0) 0 (([] : List Int).map (Value.int .u8)) := ⟨rfl, .inl ⟨rfl, rfl⟩⟩

theorem make_any (l ch : Int) (ra : Option Addr) (n rc : Nat) (ram : Int) (ti : ByteArray) (rs : Int) (fa : Bool) (sa : Option Addr) (sn sc : Nat) (w : World) (l0 : 0 ≤ l) (l1 : l ≤ 255) (hs : ti.size ≤ 9223372036854775807) (rs0 : 0 ≤ rs) (rs1 : rs ≤ 65535) (xs : List Int) (hr : Row .u8 w (.slice ra n rc) xs) (hn : xs.length = n) :
    Calls Try.prog 9 #[.agg #[.int .u8 l, .int .u8 ch, .slice ra n rc, .int .i64 ram, .string ti, .int .u16 rs, .bool fa, .slice sa sn sc]] w fun e w' => ∃ r, e = .returned (.tuple #[r, .int .i64 (codeN l ch n ram ti rs)]) ∧ w'.ownsRow w.heap.size 5 1 r (outN l ch n ram ti rs fa xs).length ((outN l ch n ram ti rs fa xs).map (Value.int .u8)) ∧ Below w.heap.size w w' := by
  have no : badN l ch n ram ti rs = true → ∀ (e : Ending) (w' : World), (e = .returned (.tuple #[.slice none 0 0, .int .i64 2]) ∧ Below w.heap.size w w') → ∃ r, e = .returned (.tuple #[r, .int .i64 (codeN l ch n ram ti rs)]) ∧ w'.ownsRow w.heap.size 5 1 r (outN l ch n ram ti rs fa xs).length ((outN l ch n ram ti rs fa xs).map (Value.int .u8)) ∧ Below w.heap.size w w' := by
    rintro hb e w' ⟨rfl, hbl⟩
    unfold codeN outN
    rw [hb]
    exact ⟨_, rfl, owns_nil _ _, hbl⟩
  cases e0 : !(isL l)
  case true => exact (make_no0 l ch ra n rc ram ti rs fa sa sn sc w l0 l1 hs e0).mono (no (by unfold badN; rw [e0]; rfl))
  case false =>
  cases e1 : decide (2 < ch)
  case true => exact (make_no1 l ch ra n rc ram ti rs fa sa sn sc w l0 l1 hs e0 e1).mono (no (by unfold badN; rw [e0, e1]; rfl))
  case false =>
  cases e2 : decide (sizeR ram = 255)
  case true => exact (make_no2 l ch ra n rc ram ti rs fa sa sn sc w l0 l1 hs e0 e1 e2).mono (no (by unfold badN; rw [e0, e1, e2]; rfl))
  case false =>
  cases e3 : badLen n
  case true => exact (make_no3 l ch ra n rc ram ti rs fa sa sn sc w l0 l1 hs e0 e1 e2 e3).mono (no (by unfold badN; rw [e0, e1, e2, e3]; rfl))
  case false =>
  cases e4 : decide ((n : Int) < placeN l + 64)
  case true => exact (make_no4 l ch ra n rc ram ti rs fa sa sn sc w l0 l1 hs e0 e1 e2 e3 e4).mono (no (by unfold badN; rw [e0, e1, e2, e3, e4]; rfl))
  case false =>
  cases e5 : badName ti
  case true => exact (make_no5 l ch ra n rc ram ti rs fa sa sn sc w l0 l1 hs e0 e1 e2 e3 e4 e5).mono (no (by unfold badN; rw [e0, e1, e2, e3, e4, e5]; rfl))
  case false =>
  cases e6 : decide (rs < 32768)
  case true => exact (make_no6 l ch ra n rc ram ti rs fa sa sn sc w l0 l1 hs e0 e1 e2 e3 e4 e5 e6).mono (no (by unfold badN; rw [e0, e1, e2, e3, e4, e5, e6]; rfl))
  case false =>
  have hb : badN l ch n ram ti rs = false := by unfold badN; rw [e0, e1, e2, e3, e4, e5, e6]; rfl
  refine (make_yes l ch ra n rc ram ti rs fa sa sn sc w l0 l1 hs e0 e1 e2 e3 e4 e5 e6 rs0 rs1 xs hr hn).mono ?_
  rintro e w' ⟨r, rfl, ho, hbl⟩
  unfold codeN outN
  rw [hb]
  refine ⟨r, rfl, ?_, hbl⟩
  show w'.ownsRow w.heap.size 5 1 r (madeN xs (placeN l).toNat ti l fa ch ram rs).length _
  rw [madeN_length, hn]
  exact ho

set_option maxRecDepth 100000 in
theorem refMake_no (l ch : Int) (ra : Option Addr) (n rc : Nat) (ram : Int) (ti : ByteArray) (rs : Int) (fa : Bool) (sg : Value) (w : World) (hs : ti.size ≤ 9223372036854775807) (hn : n ≤ 9223372036854775807) (hm : (!(mayA l ch ram rs) && (!(mayB l n) && mayC ti)) = false) :
    Calls Try.prog 7 #[.agg #[.int .u8 l, .int .u8 ch, .slice ra n rc, .int .i64 ram, .string ti, .int .u16 rs, .bool fa, sg]] w fun e w' => e = .returned (.tuple #[.slice none 0 0, .int .i64 2]) ∧ Below w.heap.size w w' := by
  have HM := Lib.hid hm
  clear hm
  go_enter Try.func7, Try.ntmps7
  go_upto_region 1 with fail
  obtain ⟨wB, hwB⟩ : ∃ wB, w.alloc (.cells #[.int .u8 l, .int .u8 ch, .slice ra n rc, .int .i64 ram, .string ti, .int .u16 rs, .bool fa, sg] 30) = wB := ⟨_, rfl⟩
  have hC : CartAt wB w.heap.size l ch (.slice ra n rc) ram ti rs fa sg := by
    rw [← hwB]
    exact ⟨by simp [go_sem], by simp [go_sem], by simp [go_sem], by simp [go_sem], by simp [go_sem], by simp [go_sem], by simp [go_sem], by simp [go_sem]⟩
  have HB0 := Lib.hid (show Below w.heap.size w wB by rw [← hwB]; exact (Below.refl _ w).alloc (Nat.le_refl _) _)
  have HZ := Lib.hid (show w.heap.size < wB.heap.size by rw [← hwB]; simp)
  have c0 := hC.c0
  have c1 := hC.c1
  have c2 := hC.c2
  have c3 := hC.c3
  have c4 := hC.c4
  have c5 := hC.c5
  have c6 := hC.c6
  have c7 := hC.c7
  rw [hwB]
  clear hwB hC
  go_wp2_with (go_at_call 13; refine (refMay_walk l ch ra n rc ram ti rs fa sg wB hs hn).mono ?_; rintro e w2 ⟨rfl, hb⟩; rw [HM.out]; have HB := Lib.hid (HB0.out.trans (hb.mono (Nat.le_of_lt HZ.out))); clear hb)
  go_returns
  exact ⟨rfl, HB.out⟩

theorem refMake_any (l ch : Int) (ra : Option Addr) (n rc : Nat) (ram : Int) (ti : ByteArray) (rs : Int) (fa : Bool) (sg : Value) (w : World) (l0 : 0 ≤ l) (hs : ti.size ≤ 9223372036854775807) (hn1 : n ≤ 9223372036854775807) (rs0 : 0 ≤ rs) (rs1 : rs ≤ 65535) (xs : List Int) (hr : Row .u8 w (.slice ra n rc) xs) (hn : xs.length = n) (hfx : Fits .u8 xs) :
    Calls Try.prog 7 #[.agg #[.int .u8 l, .int .u8 ch, .slice ra n rc, .int .i64 ram, .string ti, .int .u16 rs, .bool fa, sg]] w fun e w' => ∃ r, e = .returned (.tuple #[r, .int .i64 (codeN l ch n ram ti rs)]) ∧ w'.ownsRow w.heap.size 5 1 r (outN l ch n ram ti rs fa xs).length ((outN l ch n ram ti rs fa xs).map (Value.int .u8)) ∧ Below w.heap.size w w' := by
  have hm := may_bad l ch n ram ti rs
  cases hb : badN l ch n ram ti rs
  · rw [hb] at hm
    have e0 : mayA l ch ram rs = false := by cases h : mayA l ch ram rs <;> simp_all
    have e1 : mayB l n = false := by cases h : mayB l n <;> simp_all
    have e2 : mayC ti = true := by cases h : mayC ti <;> simp_all
    refine (refMake_yes l ch ra n rc ram ti rs fa sg w hs e0 e1 e2 l0 rs0 rs1 xs hr hn hfx).mono ?_
    rintro e w' ⟨r, rfl, ho, hbl⟩
    unfold codeN outN
    rw [hb]
    refine ⟨r, rfl, ?_, hbl⟩
    show w'.ownsRow w.heap.size 5 1 r (madeN xs (placeN l).toNat ti l fa ch ram rs).length _
    rw [madeN_length, hn]
    exact ho
  · rw [hb] at hm
    refine (refMake_no l ch ra n rc ram ti rs fa sg w hs hn1 hm).mono ?_
    rintro e w' ⟨rfl, hbl⟩
    unfold codeN outN
    rw [hb]
    exact ⟨_, rfl, owns_nil _ _, hbl⟩
end Go.Proofs.Ytjaeglllijafkaa
