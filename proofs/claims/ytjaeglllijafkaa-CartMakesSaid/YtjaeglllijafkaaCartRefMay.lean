/- The document's answer: may a cartridge be made? -/
import Derived.Test.YtjaeglllijafkaaProg
import Derived.Test.YtjaeglllijafkaaCartNot
import Derived.Test.YtjaeglllijafkaaCartMakeA
import Derived.Deep.CutBlock
namespace Go.Proofs.Ytjaeglllijafkaa
open Go.RowKit
set_option linter.unusedVariables false
set_option linter.unusedSimpArgs false

def mayA (l ch ram rs : Int) : Bool := decide (atN l < 0 ∨ 2 < ch ∨ sizeR ram = 255 ∨ rs < 32768)
def mayB (l : Int) (n : Nat) : Bool := decide ((n : Int) < 32768 ∨ 8388608 < (n : Int) ∨ (n : Int) % 1024 ≠ 0 ∨ (n : Int) - atN l < 64)
def lastB (t : ByteArray) : Int := (t.data.toList[t.size - 1]?.getD 0).toNat
def mayC (t : ByteArray) : Bool := decide (t.size ≤ 21) && (plainB t && (decide (t.size = 0) || decide (lastB t ≠ 32)))

theorem toList_none {t : ByteArray} (h : t.size = 0) : t.toList.isEmpty = true := by
  rw [Lib.toList_data, List.isEmpty_iff]; exact List.eq_nil_of_length_eq_zero (by simpa using h)
theorem toList_some {t : ByteArray} (h : ¬ t.size = 0) : t.toList.isEmpty = false := by
  rw [Lib.toList_data]
  cases hl : t.data.toList with
  | nil => exact absurd (by have h2 : t.data.toList.length = t.size := by simp
                            rw [hl] at h2; exact h2.symm) h
  | cons a l => rfl
theorem mayC_last {t : ByteArray} {m : Nat} (h1 : t.size ≤ 21) (h2 : plainB t = true) (h3 : t.size = m + 1) (hm : m < t.size) : mayC t = ((t[m].toNat : Int) != 32) := by
  have e : lastB t = (t[m].toNat : Int) := by
    unfold lastB
    rw [h3, Nat.add_sub_cancel, List.getElem?_eq_getElem (by simpa using hm)]
    rfl
  unfold mayC
  rw [decide_eq_true h1, h2, decide_eq_false (by omega), e]
  simp only [Bool.true_and, Bool.false_or]
  by_cases h : (t[m].toNat : Int) = 32 <;> simp [h]

set_option maxRecDepth 100000 in
set_option maxHeartbeats 8000000 in
theorem refMay_walk (l ch : Int) (ra : Option Addr) (n rc : Nat) (ram : Int) (ti : ByteArray) (rs : Int) (fa : Bool) (sg : Value) (w : World) (hs : ti.size ≤ 9223372036854775807) (hn : n ≤ 9223372036854775807) :
    Calls Try.prog 13 #[.agg #[.int .u8 l, .int .u8 ch, .slice ra n rc, .int .i64 ram, .string ti, .int .u16 rs, .bool fa, sg]] w fun e w' => e = .returned (.bool (!(mayA l ch ram rs) && (!(mayB l n) && mayC ti))) ∧ Below w.heap.size w w' := by
  have ab : -1 ≤ atN l ∧ atN l ≤ 4259776 := by unfold atN; split <;> (try split) <;> (try split) <;> omega
  go_enter Try.func13, Try.ntmps13
  go_upto_region 1 with fail
  obtain ⟨wB, hwB⟩ : ∃ wB, w.alloc (.cells #[.int .u8 l, .int .u8 ch, .slice ra n rc, .int .i64 ram, .string ti, .int .u16 rs, .bool fa, sg] 30) = wB := ⟨_, rfl⟩
  have hC : CartAt wB w.heap.size l ch (.slice ra n rc) ram ti rs fa sg := by
    rw [← hwB]
    exact ⟨by simp [go_sem], by simp [go_sem], by simp [go_sem], by simp [go_sem], by simp [go_sem], by simp [go_sem], by simp [go_sem], by simp [go_sem]⟩
  have HB0 := Lib.hid (show Below w.heap.size w wB by rw [← hwB]; exact (Below.refl _ w).alloc (Nat.le_refl _) _)
  have c0 := hC.c0
  have c1 := hC.c1
  have c3 := hC.c3
  have c5 := hC.c5
  have C2 := Lib.hid hC.c2
  have C4 := Lib.hid hC.c4
  rw [hwB]
  clear hwB hC
  obtain ⟨p, hp⟩ : ∃ p, atN l = p := ⟨_, rfl⟩
  have HP := Lib.hid hp
  rw [hp] at ab
  have HMA := Lib.hid (show mayA l ch ram rs = decide (p < 0 ∨ 2 < ch ∨ sizeR ram = 255 ∨ rs < 32768) from by unfold mayA; rw [hp])
  have HMB := Lib.hid (show mayB l n = decide ((n : Int) < 32768 ∨ 8388608 < (n : Int) ∨ (n : Int) % 1024 ≠ 0 ∨ (n : Int) - p < 64) from by unfold mayB; rw [hp])
  clear hp
  go_upto_region 2 with (go_at_call 14; refine (at_walk _ _).mono ?_; rintro e w2 ⟨rfl, rfl⟩; rw [HP.out])
  go_cut [25] (fun s25 wx => s25 = .bool (mayA l ch ram rs) ∧ w2 = wx)
  case first =>
    by_cases h1 : p < 0
    · have E := Lib.hid (show mayA l ch ram rs = true by rw [HMA.out]; exact decide_eq_true (.inl h1))
      go_wp2_with fail
      go_meet
      exact ⟨by rw [E.out], rfl⟩
    · by_cases h2 : 2 < ch
      · have E := Lib.hid (show mayA l ch ram rs = true by rw [HMA.out]; exact decide_eq_true (.inr (.inl h2)))
        go_wp2_with fail
        go_meet
        exact ⟨by rw [E.out], rfl⟩
      · by_cases h3 : sizeR ram = 255
        · have E := Lib.hid (show mayA l ch ram rs = true by rw [HMA.out]; exact decide_eq_true (.inr (.inr (.inl h3))))
          have H3 := Lib.hid h3
          clear h3
          go_wp2_with (go_at_call 15; refine (size_walk _ _).mono ?_; rintro e w3 ⟨rfl, rfl⟩; rw [H3.out])
          go_meet
          exact ⟨by rw [E.out], rfl⟩
        · have E := Lib.hid (show mayA l ch ram rs = decide (rs < 32768) by rw [HMA.out, decide_eq_decide]; simp [h1, h2, h3])
          obtain ⟨z, hz⟩ : ∃ z, sizeR ram = z := ⟨_, rfl⟩
          rw [hz] at h3
          have HZ := Lib.hid hz
          have h4 : (z == 255) = false := by simpa using h3
          clear hz h3
          go_wp2_with (go_at_call 15; refine (size_walk _ _).mono ?_; rintro e w3 ⟨rfl, rfl⟩; rw [HZ.out])
          all_goals
            go_meet
            exact ⟨by rw [E.out], rfl⟩
  case rest =>
    obtain ⟨rfl, rfl⟩ := hcut
    clear c0 c1 c3 c5
    by_cases hA : mayA l ch ram rs = true
    · have HAt := Lib.hid hA
      rw [hA]
      clear hA
      go_wp2_with fail
      go_returns
      exact ⟨by rw [HAt.out]; rfl, HB0.out⟩
    · have hA' : mayA l ch ram rs = false := by simpa using hA
      have HA := Lib.hid hA'
      have p0 : 0 ≤ p := by
        rw [HMA.out] at hA'
        have := of_decide_eq_false hA'
        omega
      rw [hA']
      clear hA hA'
      have c2 := C2.out
      go_upto_region 5 with fail
      have w1 : IntKind.i64.wrap ((n : Int) - p) = (n : Int) - p := IntWalk.i64_in _ (by omega)
      go_cut [45] (fun s45 wx => s45 = .bool (mayB l n) ∧ w2 = wx)
      case first =>
        by_cases h1 : (n : Int) < 32768
        · have E := Lib.hid (show mayB l n = true by rw [HMB.out]; exact decide_eq_true (.inl h1))
          go_wp2_with fail
          go_meet
          exact ⟨by rw [E.out], rfl⟩
        · by_cases h2 : 8388608 < (n : Int)
          · have E := Lib.hid (show mayB l n = true by rw [HMB.out]; exact decide_eq_true (.inr (.inl h2)))
            go_wp2_with fail
            go_meet
            exact ⟨by rw [E.out], rfl⟩
          · by_cases h3 : (n : Int) % 1024 = 0
            · have E := Lib.hid (show mayB l n = decide ((n : Int) - p < 64) by rw [HMB.out, decide_eq_decide]; simp [h1, h2, h3])
              have h4 : ((n : Int) % 1024 == 0) = true := by simpa using h3
              have h5 : ((n : Int) % 1024 != 0) = false := by simp [h3]
              clear h3
              go_wp2_with fail
              all_goals
                go_meet
                exact ⟨by rw [E.out], rfl⟩
            · have E := Lib.hid (show mayB l n = true by rw [HMB.out]; exact decide_eq_true (.inr (.inr (.inl h3))))
              have h4 : ((n : Int) % 1024 == 0) = false := by simpa using h3
              have h5 : ((n : Int) % 1024 != 0) = true := by simpa using h3
              clear h3
              go_wp2_with fail
              go_meet
              exact ⟨by rw [E.out], rfl⟩
      case rest =>
        obtain ⟨rfl, rfl⟩ := hcut
        clear w1 c2
        by_cases hB : mayB l n = true
        · have HBt := Lib.hid hB
          rw [hB]
          clear hB
          go_wp2_with fail
          go_returns
          exact ⟨by rw [HA.out, HBt.out]; rfl, HB0.out⟩
        · have hB' : mayB l n = false := by simpa using hB
          have HB := Lib.hid hB'
          rw [hB']
          clear hB hB'
          have c4 := C4.out
          go_upto_region 7 with fail
          by_cases h1 : ti.size ≤ 21
          · have i1 : (ti.size : Int) ≤ 21 := by omega
            have H1 := Lib.hid h1
            clear h1
            cases h2 : plainB ti
            · have E := Lib.hid (show mayC ti = false by unfold mayC; rw [h2, decide_eq_true H1.out]; rfl)
              have H2 := Lib.hid h2
              clear h2
              go_wp2_with (go_at_call 24; refine (seen_walk _ _ hs).mono ?_; rintro e w3 ⟨rfl, rfl⟩; rw [H2.out])
              go_returns
              exact ⟨by rw [HA.out, HB.out, E.out]; rfl, HB0.out⟩
            · have H2 := Lib.hid h2
              by_cases h3 : ti.size = 0
              · have E := Lib.hid (show mayC ti = true by unfold mayC; rw [h2, decide_eq_true H1.out, decide_eq_true h3]; rfl)
                have s1 : ti.toList.isEmpty = true := toList_none h3
                clear h2 h3
                go_wp2_with (go_at_call 24; refine (seen_walk _ _ hs).mono ?_; rintro e w3 ⟨rfl, rfl⟩; rw [H2.out])
                go_returns
                exact ⟨by rw [HA.out, HB.out, E.out]; rfl, HB0.out⟩
              · have s1 : ti.toList.isEmpty = false := toList_some h3
                obtain ⟨m, hm⟩ : ∃ m, ti.size = m + 1 := ⟨ti.size - 1, by omega⟩
                have s2 : (ti.size : Int) - 1 = (m : Int) := by omega
                have s3 : m < ti.size := by omega
                have HMM := Lib.hid hm
                clear hm
                clear h2 h3
                go_wp2_with (go_at_call 24; refine (seen_walk _ _ hs).mono ?_; rintro e w3 ⟨rfl, rfl⟩; rw [H2.out])
                go_returns
                refine ⟨?_, HB0.out⟩
                rw [HA.out, HB.out, mayC_last H1.out H2.out HMM.out s3]
                rfl
          · have i1 : ¬ (ti.size : Int) ≤ 21 := by omega
            have E := Lib.hid (show mayC ti = false by unfold mayC; rw [decide_eq_false h1]; rfl)
            clear h1
            go_wp2_with fail
            go_returns
            exact ⟨by rw [HA.out, HB.out, E.out]; rfl, HB0.out⟩
end Go.Proofs.Ytjaeglllijafkaa
