/- The walk of the document's Encode. -/
import Derived.Test.YtpmmnjmlnjdkjaaRefBlk
import Derived.Test.YtpmmnjmlnjdkjaaDecP
namespace Go.Proofs.Ytpmmnjmlnjdkjaa
open Go.RowKit

/-- How far the best one is, as the document holds it: 0 at first. -/
def farC (s : List Int) (p q : Int) (c : Nat) : Int := if c = 0 then 0 else aC s p q c

set_option maxHeartbeats 4000000 in
theorem refEncode_walk (v : Value) (s : List Int) (p q : Int) (w : World) (hr : Row .i16 w v s) (hf : Fits .i16 s) (hl : s.length = 16)
    (p0 : -32768 ≤ p) (p1 : p ≤ 32767) (q0 : -32768 ≤ q) (q1 : q ≤ 32767) :
    Calls Try.prog 18 #[v, .int .i16 p, .int .i16 q] w fun e w' => ∃ r, e = .returned (.tuple #[r, .int .i64 0]) ∧ w'.ownsRow w.heap.size 5 1 r 9 ((encodeN s p q).map (Value.int .u8)) ∧ Below w.heap.size w w' := by
  obtain ⟨a0, cap, rfl⟩ : ∃ a cap, v = .slice a 16 cap := by
    rcases hr with ⟨_, _, _, rfl, _⟩ | ⟨b, o, cap, rfl, _⟩
    · simp at hl
    · exact ⟨_, cap, by rw [hl]⟩
  have HR := Lib.hid hr
  have HF := Lib.hid hf
  have HL := Lib.hid hl
  clear hr hf hl
  go_enter Try.func18, Try.ntmps18
  go_wp2_with fail
  go_loopg [8, 9, 10] 4 (fun gk v8 v9 v10 wr => ∃ (k : Nat) (V : Value), k + gk = 4 ∧ v10 = .int .u8 k ∧ V = v8 ∧ v9 = .int .i64 (farC s p q (13 * k)) ∧
    Hid ((13 * k = 0 ∧ V = .slice none 0 0) ∨ (1 ≤ 13 * k ∧ V ≠ .slice none 0 0 ∧ wr.ownsRow w.heap.size 5 1 V 9 ((bsC s p q (13 * k)).map (Value.int .u8)))) ∧ Below w.heap.size w wr)
  case atStart => exact ⟨0, _, rfl, rfl, rfl, rfl, .inl ⟨rfl, rfl⟩, Below.refl _ _⟩
  case round =>
    obtain ⟨k, V0, hk, rfl, rfl, rfl, hV0, hb0⟩ := hrel
    have HK := Lib.hid hk
    clear hk
    by_cases hlt : k < 4
    · have i1 : (k : Int) < 4 := by omega
      have i2 : 0 ≤ (k : Int) := by omega
      go_wp2_with fail
      go_loopg [8, 9, 11] 13 (fun g2 v8 v9 v11 wx => ∃ (j : Nat) (V : Value), j + g2 = 13 ∧ v11 = .int .u8 j ∧ V = v8 ∧ v9 = .int .i64 (farC s p q (13 * k + j)) ∧
        Hid ((13 * k + j = 0 ∧ V = .slice none 0 0) ∨ (1 ≤ 13 * k + j ∧ V ≠ .slice none 0 0 ∧ wx.ownsRow w.heap.size 5 1 V 9 ((bsC s p q (13 * k + j)).map (Value.int .u8)))) ∧ Below w.heap.size w wx)
      case atStart => exact ⟨0, _, rfl, rfl, rfl, rfl, hV0, hb0⟩
      case round =>
        obtain ⟨j, V, hj, rfl, rfl, rfl, hV, hb⟩ := hrel
        have HJ := Lib.hid hj
        clear hj
        by_cases hlj : j < 13
        · have j1 : (j : Int) < 13 := by omega
          have j2 : 0 ≤ (j : Int) := by omega
          obtain ⟨A, hA⟩ : ∃ A, candA s p q (13 * k + j) = A := ⟨_, rfl⟩
          obtain ⟨F, hF⟩ : ∃ F, farC s p q (13 * k + j) = F := ⟨_, rfl⟩
          rw [hF]
          have HA := Lib.hid hA
          have HFF := Lib.hid hF
          clear hA hF
          have hrow : Hid (Row .i16 wr (.slice a0 16 cap) s) := HR.out.below hb
          go_wp2_with fail
          go_at_call 31
          refine (refBlock_walk _ s j k p q _ hrow.out HF.out HL.out (by omega) (by omega) (by omega) (by omega) p0 p1 q0 q1).mono ?_
          rintro e w2 ⟨r1, rfl, hO1, hn1, hb2⟩
          rw [← candB_at _ _ _ _ _ hlj] at hO1
          have hr1 : Hid (Row .u8 w2 r1 (candB s p q (13 * k + j))) := (Row.owned hO1).1
          have hO1' := Lib.hid (ownsRow_base hO1 hb.size)
          have hf1 : Hid (Fits .u8 (candB s p q (13 * k + j))) := fun x hx => by
            have h := candB_mem s p q (13 * k + j) (by omega) x hx
            exact WalkArith.wf_u8 h
          have HN1 := Lib.hid hn1
          clear hO1 hn1
          go_wp2_with fail
          go_at_call 12
          refine (refDecode_nine _ _ p q _ hr1.out hf1.out (candB_length _ _ _ _) p0 p1 q0 q1).mono ?_
          rintro e w3 ⟨r2, rfl, hO2, hb3⟩
          rw [candT_samples _ _ _ _ (by omega)] at hO2
          have hr2 : Hid (Row .i16 w3 r2 (candT s p q (13 * k + j))) := (Row.owned hO2).1
          have hf2 : Hid (Fits .i16 (candT s p q (13 * k + j))) := fun x hx => by
            have h := candT_mem s p q (13 * k + j) x hx
            exact WalkArith.wf_i16 h
          have hb23 : Below wr.heap.size wr w3 := below_step hb2 hb2.size hb3
          have hrow3 : Hid (Row .i16 w3 (.slice a0 16 cap) s) := hrow.out.below hb23
          clear hO2
          go_wp2_with fail
          go_at_call 32
          refine (apart_any _ _ _ _ _ hr2.out hrow3.out hf2.out HF.out (candT_length _ _ _ _) HL.out).mono ?_
          rintro e w4 ⟨rfl, n4, rfl⟩
          rw [candT_far, HA.out]
          have hb4 : Below w.heap.size w (w3.drewN n4) := below_drewN (below_step hb hb.size hb23) n4
          have hO4 : Hid ((w3.drewN n4).ownsRow w.heap.size 5 1 r1 9 ((candB s p q (13 * k + j)).map (Value.int .u8))) :=
            ownsRow_drewN (hO1'.out.kept (row := none) ⟨hb3.os, hb3.tape, hb3.output, hb3.size, fun i hi _ => hb3.block i hi⟩ (by cases r1.ownBlock <;> simp)) n4
          have hV4 : Hid ((13 * k + j = 0 ∧ V = .slice none 0 0) ∨ (1 ≤ 13 * k + j ∧ V ≠ .slice none 0 0 ∧ (w3.drewN n4).ownsRow w.heap.size 5 1 V 9 ((bsC s p q (13 * k + j)).map (Value.int .u8)))) := by
            rcases hV.out with h | ⟨h1, h2, h3⟩
            · exact .inl h
            · exact .inr ⟨h1, h2, ownsRow_drewN (h3.kept (row := none) ⟨hb23.os, hb23.tape, hb23.output, hb23.size, fun i hi _ => hb23.block i hi⟩ (by cases V.ownBlock <;> simp)) n4⟩
          have hVV : Hid ((13 * k + j = 0 ∧ V = .slice none 0 0) ∨ (1 ≤ 13 * k + j ∧ ∃ g c, V = .slice (some ⟨g, 0, none⟩) 9 c)) := by
            rcases hV.out with h1 | ⟨h1, h2, h3⟩
            · exact .inl h1
            · rcases h3.2 with ⟨h4, _⟩ | ⟨g, c, cur, h4, _⟩
              · exact absurd h4 h2
              · exact .inr ⟨h1, g, c, h4⟩
          generalize w3.drewN n4 = w5 at hb4 hO4 hV4 ⊢
          clear hb2 hr1 hf1 hr2 hf2 hb23 hrow3 hrow hO1' hV hb hb3
          go_upto_region 14 with fail
          go_cut [49] (fun s49 wx => ∃ u : Bool, s49 = .bool u ∧ Hid ((u = true ∧ bsC s p q (13 * k + j + 1) = candB s p q (13 * k + j) ∧ aC s p q (13 * k + j + 1) = A) ∨ (u = false ∧ 1 ≤ 13 * k + j ∧ bsC s p q (13 * k + j + 1) = bsC s p q (13 * k + j) ∧ aC s p q (13 * k + j + 1) = F)) ∧ w5 = wx)
          case first =>
            rcases hVV.out with ⟨hc0, rfl⟩ | ⟨hc1, g, c, rfl⟩
            · have h1 := Lib.hid (aC_one s p q)
              have hc0' := Lib.hid hc0
              have hqe := fun w => Lib.run_eql_slice_nil (P := Try.prog) w 22 5 none 0 0 0 0 Try.underlying22
              clear hc0
              go_wp2
              go_meet
              refine ⟨true, by simp, .inl ⟨rfl, ?_, ?_⟩, rfl⟩
              · rw [hc0'.out]; exact h1.out.1
              · have := HA.out; rw [hc0'.out] at this ⊢; rw [← this]; exact h1.out.2
            · have hls := Lib.hid (aC_less s p q (13 * k + j) hc1)
              have hms := Lib.hid (aC_more s p q (13 * k + j) hc1)
              have haf : aC s p q (13 * k + j) = F := by have := HFF.out; unfold farC at this; rwa [if_neg (by omega)] at this
              have HAF := Lib.hid haf
              have hqe := fun w => Lib.run_eql_slice_nil (P := Try.prog) w 22 5 (some ⟨g, 0, none⟩) 9 c 0 0 Try.underlying22
              clear haf
              by_cases hlt2 : A < F
              · go_wp2
                go_meet
                have h := hls.out (by rw [HA.out, HAF.out]; exact hlt2)
                exact ⟨true, by simp, .inl ⟨rfl, h.1, by rw [h.2, HA.out]⟩, rfl⟩
              · go_wp2
                go_meet
                have h := hms.out (by rw [HA.out, HAF.out]; omega)
                exact ⟨false, by simp, .inr ⟨rfl, hc1, h.1, by rw [h.2, HAF.out]⟩, rfl⟩
          case rest =>
            obtain ⟨u, rfl, hu, rfl⟩ := hcut
            cases u
            · have hc1 : 1 ≤ 13 * k + j := by have := hu.out; simp at this; omega
              have hs1 : bsC s p q (13 * k + j + 1) = bsC s p q (13 * k + j) := by have := hu.out; simp at this; exact this.2.1
              have hs2 : farC s p q (13 * k + j + 1) = F := by
                have h : aC s p q (13 * k + j + 1) = F := by have := hu.out; simp at this; exact this.2.2
                unfold farC; rw [if_neg (by omega)]; exact h
              have hV5 : Hid ((13 * k + (j + 1) = 0 ∧ V = .slice none 0 0) ∨ (1 ≤ 13 * k + (j + 1) ∧ V ≠ .slice none 0 0 ∧ w5.ownsRow w.heap.size 5 1 V 9 ((bsC s p q (13 * k + (j + 1))).map (Value.int .u8)))) := by
                rcases hV4.out with h | ⟨h1, h2, h3⟩
                · omega
                · exact .inr ⟨by omega, h2, by rw [show 13 * k + (j + 1) = 13 * k + j + 1 from by omega, hs1]; exact h3⟩
              have HS2 := Lib.hid hs2
              clear hs1 hs2 hc1
              go_wp2
              go_roundg (12 - j)
              case measure => have := HJ.out; omega
              case rel => exact ⟨j + 1, V, by omega, by go_num, rfl, by rw [show 13 * k + (j + 1) = 13 * k + j + 1 from by omega, HS2.out], hV5, hb4⟩
            · have hs1 : bsC s p q (13 * k + j + 1) = candB s p q (13 * k + j) := by have := hu.out; simp at this; exact this.1
              have hs2 : farC s p q (13 * k + j + 1) = A := by
                have h : aC s p q (13 * k + j + 1) = A := by have := hu.out; simp at this; exact this.2
                unfold farC; rw [if_neg (by omega)]; exact h
              have hV5 : Hid ((13 * k + (j + 1) = 0 ∧ r1 = .slice none 0 0) ∨ (1 ≤ 13 * k + (j + 1) ∧ r1 ≠ .slice none 0 0 ∧ w5.ownsRow w.heap.size 5 1 r1 9 ((bsC s p q (13 * k + (j + 1))).map (Value.int .u8)))) :=
                .inr ⟨by omega, HN1.out, by rw [show 13 * k + (j + 1) = 13 * k + j + 1 from by omega, hs1]; exact hO4.out⟩
              have HS2 := Lib.hid hs2
              clear hs1 hs2
              go_wp2
              go_roundg (12 - j)
              case measure => have := HJ.out; omega
              case rel => exact ⟨j + 1, r1, by omega, by go_num, rfl, by rw [show 13 * k + (j + 1) = 13 * k + j + 1 from by omega, HS2.out], hV5, hb4⟩
        · obtain rfl : j = 13 := by have := HJ.out; omega
          clear HJ
          go_wp2
          go_roundg (3 - k)
          case measure => have := HK.out; omega
          case rel => exact ⟨k + 1, V, by omega, by go_num, rfl, rfl, hV, hb⟩
    · obtain rfl : k = 4 := by have := HK.out; omega
      go_wp2
      go_ret2
      refine ⟨_, rfl, ?_, hb0⟩
      rcases hV0.out with h | ⟨_, _, h⟩
      · omega
      · exact h
end Go.Proofs.Ytpmmnjmlnjdkjaa
