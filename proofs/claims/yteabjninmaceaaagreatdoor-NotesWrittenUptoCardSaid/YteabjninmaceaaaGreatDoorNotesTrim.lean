/- Blanks at the end are cut off: strings.TrimRight at a blank. -/
import Derived.Test.YteabjninmaceaaaGreatDoorProg
import Derived.Test.YteabjninmaceaaaGreatDoorKit
import Derived.Laws.BitsAllLaws
import Derived.Laws.BytesArg
import Derived.Lib.Bytes
import Derived.Deep.QuietTactic
import Derived.BigQuiet
namespace Go.Proofs.YteabjninmaceaaaGreatDoor
open Go.RowKit
set_option linter.unusedVariables false
set_option linter.unusedSimpArgs false

/-- How much is left of the first n bytes without the blanks at their end. -/
def trimL (t : List UInt8) : Nat → Nat
  | 0 => 0
  | n + 1 => if t[n]?.getD 0 = 32 then trimL t n else n + 1
theorem trimL_le (t : List UInt8) (n : Nat) : trimL t n ≤ n := by
  induction n with
  | zero => exact Nat.le_refl _
  | succ n ih => rw [trimL]; split <;> omega
def trimB (t : ByteArray) : ByteArray := t.extract 0 (trimL t.data.toList t.size)
theorem extract_size (t : ByteArray) (k : Nat) (h : k ≤ t.size) : (t.extract 0 k).size = k := by rw [ByteArray.size_extract]; omega
theorem extract_two (t : ByteArray) (m k : Nat) (h : m ≤ k) : (t.extract 0 k).extract 0 m = t.extract 0 m := by
  rw [ByteArray.extract_extract]; congr 1; omega
theorem extract_get (t : ByteArray) (k m : Nat) (hk : k ≤ t.size) (h : m < (t.extract 0 k).size) : (t.extract 0 k)[m] = t.data.toList[m]?.getD 0 := by
  have h2 : m < k := by rw [extract_size t k hk] at h; exact h
  rw [ByteArray.getElem_extract]
  rw [List.getElem?_eq_getElem (by simp; omega)]
  simp
  rfl
def strLen (v : Value) : Nat := match v with | .string b => b.size | _ => 0

set_option maxRecDepth 100000 in
set_option maxHeartbeats 4000000 in
theorem trimRightByte_walk (t : ByteArray) (w : World) (ht : t.size ≤ 9223372036854775807) :
    Calls Tryz.prog 64 #[.string t, .int .u8 32] w fun e w' => e = .returned (.string (trimB t)) ∧ w' = w := by
  go_enter Tryz.func64, Tryz.ntmps64
  go_upto_region 1 with fail
  go_loopw [0] (fun s0 wr => ∃ k : Nat, k ≤ t.size ∧ s0 = .string (t.extract 0 k) ∧ wr = w ∧ Hid (trimL t.data.toList k = trimL t.data.toList t.size)) (fun s0 _ => strLen s0)
  case atStart => exact ⟨t.size, Nat.le_refl _, by rw [ByteArray.extract_zero_size], rfl, Lib.hid rfl⟩
  case round =>
    obtain ⟨k, hk, rfl, rfl, HL⟩ := hrel
    have hz := extract_size t k hk
    rcases k with _ | m
    · have i1 : ¬ (0 : Int) < ((t.extract 0 0).size : Int) := by omega
      have HE := Lib.hid (show trimB t = t.extract 0 0 by unfold trimB; rw [← HL.out]; rfl)
      obtain ⟨u, hu⟩ : ∃ u, t.extract 0 0 = u := ⟨_, rfl⟩
      rw [hu] at i1 HE ⊢
      clear hz hu
      go_wp2
      go_returns
      exact ⟨by rw [HE.out]; rfl, rfl⟩
    · have HX := Lib.hid (extract_two t m (m + 1) (by omega))
      have HG := Lib.hid (extract_get t (m + 1) m hk)
      have HT := Lib.hid (show trimL t.data.toList (m + 1) = if t.data.toList[m]?.getD 0 = 32 then trimL t.data.toList m else m + 1 from rfl)
      obtain ⟨u, hu⟩ : ∃ u, t.extract 0 (m + 1) = u := ⟨_, rfl⟩
      have HU := Lib.hid hu
      rw [hu] at hz HX HG ⊢
      have s2 : (u.size : Int) - 1 = (m : Int) := by omega
      have s3 : m < u.size := by omega
      have i1 : (0 : Int) < (u.size : Int) := by omega
      have s4 : u.size ≤ 9223372036854775807 := by omega
      have hg := HG.out s3
      have HZ := Lib.hid hz
      clear hz hu
      by_cases hb : t.data.toList[m]?.getD 0 = 32
      · have hv : u[m] = 32 := by rw [hg, hb]
        have b1 : ((u[m].toNat : Int) == 32) = true := by rw [hv]; rfl
        have HT2 := Lib.hid (show trimL t.data.toList m = trimL t.data.toList t.size by rw [← HL.out, HT.out, if_pos hb])
        clear hb hv hg
        go_wp2
        go_roundw
        case rel => exact ⟨m, by omega, by rw [← HX.out], trivial, HT2⟩
        case measure => simp [strLen]; omega
      · have b1 : ((u[m].toNat : Int) == 32) = false := by
          rw [beq_eq_false_iff_ne, hg]
          intro e
          exact hb (UInt8.toNat_inj.1 (by have h4 : ((t.data.toList[m]?.getD 0).toNat : Int) = ((32 : Nat) : Int) := e
                                          exact Int.ofNat.inj h4))
        have HE := Lib.hid (show trimB t = u by unfold trimB; rw [← HL.out, HT.out, if_neg hb]; exact HU.out)
        clear hb hg
        go_wp2
        go_returns
        exact ⟨by rw [HE.out]; rfl, rfl⟩

set_option maxRecDepth 100000 in
set_option maxHeartbeats 4000000 in
theorem trimRight_walk (t : ByteArray) (w : World) (h0 : ¬ t.size = 0) (ht : t.size ≤ 9223372036854775807) :
    Calls Tryz.prog 48 #[.string t, .string ⟨#[32]⟩] w fun e w' => e = .returned (.string (trimB t)) ∧ w' = w := by
  have s1 : t.toList.isEmpty = false := by
    rw [Lib.toList_data]
    cases hl : t.data.toList with
    | nil => exact absurd (by have h2 : t.data.toList.length = t.size := by simp
                              rw [hl] at h2; exact h2.symm) h0
    | cons a l => rfl
  clear h0
  go_enter Tryz.func48, Tryz.ntmps48
  go_wp2_with (go_at_call 64; refine (trimRightByte_walk _ _ ht).mono ?_; rintro e w' ⟨rfl, rfl⟩)
  go_returns
  exact ⟨rfl, rfl⟩

end Go.Proofs.YteabjninmaceaaaGreatDoor
