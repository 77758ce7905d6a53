/- The walks of the program's nearest nibble and of its block. -/
import Derived.Test.YtpmmnjmlnjdkjaaDecP
namespace Go.Proofs.Ytpmmnjmlnjdkjaa
open Go.RowKit

theorem nibK_one (sh f p q want : Int) : nibK sh f p q want 1 = -8 ∧ farK sh f p q want 1 = farN sh f p q want (-8) := ⟨rfl, rfl⟩
theorem nibK_less (sh f p q want c : Int) (k : Nat) (hk : 1 ≤ k) (hc : c = -8 + k) (h : farN sh f p q want c < farK sh f p q want k) :
    nibK sh f p q want (k + 1) = c ∧ farK sh f p q want (k + 1) = farN sh f p q want c := by
  obtain ⟨j, rfl⟩ : ∃ j, k = j + 1 := ⟨k - 1, by omega⟩
  subst hc
  have h' : farN sh f p q want (-8 + (j + 1 : Nat)) < farN sh f p q want (bestN sh f p q want j) := h
  have e : bestN sh f p q want (j + 1) = -8 + (j + 1 : Nat) := by show (if _ then _ else _) = _; rw [if_pos h']
  exact ⟨e, by show farN sh f p q want (bestN sh f p q want (j + 1)) = _; rw [e]⟩
theorem nibK_more (sh f p q want c : Int) (k : Nat) (hk : 1 ≤ k) (hc : c = -8 + k) (h : farK sh f p q want k ≤ farN sh f p q want c) :
    nibK sh f p q want (k + 1) = nibK sh f p q want k ∧ farK sh f p q want (k + 1) = farK sh f p q want k := by
  obtain ⟨j, rfl⟩ : ∃ j, k = j + 1 := ⟨k - 1, by omega⟩
  subst hc
  have h' : ¬ farN sh f p q want (-8 + (j + 1 : Nat)) < farN sh f p q want (bestN sh f p q want j) := by
    have : farN sh f p q want (bestN sh f p q want j) ≤ _ := h
    omega
  have e : bestN sh f p q want (j + 1) = bestN sh f p q want j := by show (if _ then _ else _) = _; rw [if_neg h']
  exact ⟨e, by show farN sh f p q want (bestN sh f p q want (j + 1)) = _; rw [e]; rfl⟩

set_option maxHeartbeats 1000000 in
theorem nearest_any (b : Nat) (sh f p q want : Int) (w : World) (hr : RowAt w b sh f p q) (s0 : 0 ≤ sh) (s1 : sh ≤ 15)
    (p0 : -32768 ≤ p) (p1 : p ≤ 32767) (q0 : -32768 ≤ q) (q1 : q ≤ 32767) (w0 : -32768 ≤ want) (w1 : want ≤ 32767) :
    Calls Try.prog 44 #[.pointer (some ⟨b, 0, none⟩), .int .i64 want] w fun e w' => e = .returned (.tuple #[.int .i64 (nearN sh f p q want), .int .i64 (farN sh f p q want (nearN sh f p q want))]) ∧ ∃ n, w' = w.drewN n := by
  have HR := Lib.hid hr
  clear hr
  go_enter Try.func44, Try.ntmps44
  go_wp2_with fail
  go_loopw [4, 5, 6] (fun v4 v5 v6 wr => ∃ (k : Nat) (c : Int), k ≤ 16 ∧ Hid (c = -8 + k) ∧ -8 ≤ c ∧ c ≤ 8 ∧ v6 = .int .i64 c ∧ v4 = .int .i64 (nibK sh f p q want k) ∧ v5 = .int .i64 (farK sh f p q want k) ∧ ∃ m, wr = w.drewN m) (fun _ _ v6 _ => (8 - intOf v6).toNat)
  case atStart => exact ⟨0, -8, by omega, (by show _ = _; omega), by omega, by omega, rfl, rfl, rfl, 0, rfl⟩
  case round =>
    obtain ⟨k, c, hk, hc, c0, c8, rfl, rfl, rfl, m, rfl⟩ := hrel
    by_cases hlt : c < 8
    · have hsb := sampleN_bounds sh f c p q
      have hfb := farN_bounds sh f p q want c w0 w1
      have hff : farN sh f p q want c = (sampleN sh f c p q - want) * (sampleN sh f c p q - want) := rfl
      obtain ⟨S, hS⟩ : ∃ S, sampleN sh f c p q = S := ⟨_, rfl⟩
      rw [hff, hS] at hfb
      rw [hS] at hsb
      have HS := Lib.hid hS
      clear hff hS
      by_cases h8 : c = -8
      · subst h8
        have hk0 : k = 0 := by have := hc.out; omega
        subst hk0
        go_wp2_with (go_at_call 30; refine (sample_any b sh f _ p q _ (HR.out.drewN m) (by omega) (by omega) (by omega) (by omega) (by omega) (by omega) (by omega) (by omega)).mono ?_; rintro e w2 ⟨rfl, n2, rfl⟩; rw [HS.out])
        go_roundw
        case rel => exact ⟨1, -7, by omega, (by show _ = _; omega), by omega, by omega, rfl, rfl, by rw [(nibK_one sh f p q want).2]; unfold farN; rw [HS.out], _, rfl⟩
        case measure => simp [intOf]
      · have hk1 : 1 ≤ k := by have := hc.out; omega
        obtain ⟨V4, hV4⟩ : ∃ V, nibK sh f p q want k = V := ⟨_, rfl⟩
        obtain ⟨V5, hV5⟩ : ∃ V, farK sh f p q want k = V := ⟨_, rfl⟩
        have hL := Lib.hid (nibK_less sh f p q want c k hk1 hc.out)
        have hM := Lib.hid (nibK_more sh f p q want c k hk1 hc.out)
        have hF : farN sh f p q want c = (S - want) * (S - want) := by unfold farN; rw [HS.out]
        have HF := Lib.hid hF
        have H4 := Lib.hid hV4
        have H5 := Lib.hid hV5
        rw [hV4, hV5]
        have hne : (c == -8) = false := by simpa using h8
        clear hV4 hV5 hF
        go_wp2_with (go_at_call 30; refine (sample_any b sh f _ p q _ (HR.out.drewN m) (by omega) (by omega) (by omega) (by omega) (by omega) (by omega) (by omega) (by omega)).mono ?_; rintro e w2 ⟨rfl, n2, rfl⟩; rw [HS.out])
        · have ht : (S - want) * (S - want) < V5 := by assumption
          have hn := Lib.hid (hL.out (by rw [HF.out, H5.out]; exact ht))
          go_roundw
          case rel => exact ⟨k + 1, c + 1, by (have := hc.out; omega), (by show _ = _; have := hc.out; omega), by omega, by omega, rfl, by rw [hn.out.1], by rw [hn.out.2, HF.out], _, rfl⟩
          case measure => show (8 - (c + 1)).toNat < (8 - c).toNat; omega
        · have ht : V5 ≤ (S - want) * (S - want) := by assumption
          have hn := Lib.hid (hM.out (by rw [HF.out, H5.out]; exact ht))
          go_roundw
          case rel => exact ⟨k + 1, c + 1, by (have := hc.out; omega), (by show _ = _; have := hc.out; omega), by omega, by omega, rfl, by rw [hn.out.1, H4.out], by rw [hn.out.2, H5.out], _, rfl⟩
          case measure => show (8 - (c + 1)).toNat < (8 - c).toNat; omega
    · obtain rfl : k = 16 := by have := hc.out; omega
      go_wp2
      go_ret2
      exact ⟨rfl, _, rfl⟩
end Go.Proofs.Ytpmmnjmlnjdkjaa
