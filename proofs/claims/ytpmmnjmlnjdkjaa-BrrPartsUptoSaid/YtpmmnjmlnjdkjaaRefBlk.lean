/- The walks of the document's Apart and Block. -/
import Derived.Test.YtpmmnjmlnjdkjaaDec
import Derived.Test.YtpmmnjmlnjdkjaaCand2
import Derived.Deep.LoopGhost
namespace Go.Proofs.Ytpmmnjmlnjdkjaa
open Go.RowKit

set_option maxHeartbeats 1000000 in
theorem apart_any (va vb : Value) (xs ys : List Int) (w : World) (ha : Row .i16 w va xs) (hb : Row .i16 w vb ys) (fa : Fits .i16 xs) (fb : Fits .i16 ys) (la : xs.length = 16) (lb : ys.length = 16) :
    Calls Try.prog 32 #[va, vb] w fun e w' => e = .returned (.int .i64 (sumD xs ys 16)) ∧ ∃ n, w' = w.drewN n := by
  rcases ha with ⟨_, _, _, rfl, _⟩ | ⟨b, o, cap, rfl, _, hc, hm, hx⟩
  · simp at la
  rcases hb with ⟨_, _, _, rfl, _⟩ | ⟨b2, o2, cap2, rfl, _, hc2, hm2, hy⟩
  · simp at lb
  rw [la] at hc hx ⊢
  rw [lb] at hc2 hy ⊢
  have HX := Lib.hid hx
  have HY := Lib.hid hy
  have FA := Lib.hid fa
  have FB := Lib.hid fb
  have LA := Lib.hid la
  have LB := Lib.hid lb
  clear hx hy fa fb la lb
  go_enter Try.func32, Try.ntmps32
  go_wp2
  go_loopg [5, 6] 16 (fun gk v5 v6 wr => ∃ (k : Nat) (m : Nat), k + gk = 16 ∧ v6 = .int .i64 k ∧ v5 = .int .i64 (sumD xs ys k) ∧ Hid (0 ≤ sumD xs ys k ∧ sumD xs ys k ≤ 4294967296 * k) ∧ wr = w.drewN m)
  case atStart => exact ⟨0, 0, rfl, rfl, rfl, (by show _ ∧ _; simp [sumD]), rfl⟩
  case round =>
    obtain ⟨k, m, hk, rfl, rfl, hbd, rfl⟩ := hrel
    have HK := Lib.hid hk
    clear hk
    by_cases hlt : k < 16
    · have c1 := HX.out k (by omega)
      have c2 := HY.out k (by omega)
      have b1 := FA.out.i16 (i := k) (by have := LA.out; omega)
      have b2 := FB.out.i16 (i := k) (by have := LB.out; omega)
      have hs : sumD xs ys (k + 1) = sumD xs ys k + (xs[k]?.getD 0 - ys[k]?.getD 0) * (xs[k]?.getD 0 - ys[k]?.getD 0) := rfl
      obtain ⟨X, hX⟩ : ∃ X, xs[k]?.getD 0 = X := ⟨_, rfl⟩
      obtain ⟨Y, hY⟩ : ∃ Y, ys[k]?.getD 0 = Y := ⟨_, rfl⟩
      obtain ⟨S, hS⟩ : ∃ S, sumD xs ys k = S := ⟨_, rfl⟩
      have hbd' := hbd.out
      rw [hX] at c1 b1 hs
      rw [hY] at c2 b2 hs
      rw [hS] at hs hbd' ⊢
      have hq : 0 ≤ (X - Y) * (X - Y) ∧ (X - Y) * (X - Y) ≤ 4294967296 := ⟨sq_nonneg _, sq_le _ 65536 (by omega) (by omega)⟩
      have hS2 : 0 ≤ S ∧ S ≤ 68719476736 := by omega
      have HS := Lib.hid hs
      have w1 : IntKind.i64.wrap X = X := IntWalk.i64_in _ (by omega)
      have w2 : IntKind.i64.wrap Y = Y := IntWalk.i64_in _ (by omega)
      have w3 : IntKind.i64.wrap (X - Y) = X - Y := IntWalk.i64_in _ (by omega)
      have HB : Hid (0 ≤ S + (X - Y) * (X - Y) ∧ S + (X - Y) * (X - Y) ≤ 4294967296 * (k + 1 : Nat)) := by show _ ∧ _; omega
      clear hX hY hS hs hbd hbd'
      have i1 : (k : Int) < 16 := by omega
      have i2 : 0 ≤ (k : Int) := by omega
      go_wp2
      go_quiet (fail)
      clear w1 w2 w3
      go_wp2
      go_roundg (15 - k)
      case measure => have := HK.out; omega
      case rel => exact ⟨k + 1, _, by omega, by go_num, by rw [HS.out], by rw [HS.out]; exact HB, rfl⟩
    · obtain rfl : k = 16 := by have := HK.out; omega
      go_wp2
      go_ret
      exact ⟨rfl, _, rfl⟩

theorem ownsRow_drewN {w : World} {B : Nat} {e : TypeId} {size : Nat} {v : Value} {n : Nat} {xs : List Value} (h : w.ownsRow B e size v n xs) (k : Nat) : (w.drewN k).ownsRow B e size v n xs := h

set_option maxRecDepth 100000 in
set_option maxHeartbeats 4000000 in
theorem refBlock_walk (v : Value) (s : List Int) (sh f p q : Int) (w : World) (hr : Row .i16 w v s) (hf : Fits .i16 s) (hl : s.length = 16) (s0 : 0 ≤ sh) (s1 : sh ≤ 12) (f0 : 0 ≤ f) (f3 : f ≤ 3)
    (p0 : -32768 ≤ p) (p1 : p ≤ 32767) (q0 : -32768 ≤ q) (q1 : q ≤ 32767) :
    Calls Try.prog 31 #[v, .int .u8 sh, .int .u8 f, .int .i16 p, .int .i16 q] w fun e w' => ∃ r, e = .returned r ∧ w'.ownsRow w.heap.size 5 1 r 9 ((blockE (sh * 16 + f * 4) (nibE sh f s p q) 16).map (Value.int .u8)) ∧ r ≠ .slice none 0 0 ∧ Below w.heap.size w w' := by
  rcases hr with ⟨_, _, _, rfl, _⟩ | ⟨b, o, cap, rfl, _, hc, hm, hx⟩
  · simp at hl
  · rw [hl] at hc hx ⊢
    have HX := Lib.hid hx
    have HP := Lib.hid (fun k => eP_bounds sh f s p q p0 p1 q0 q1 k)
    have HFit := Lib.hid hf
    have HL := Lib.hid hl
    clear hx hf hl
    have hmk : ∀ w, (Instr.makeSlice 22 (.int .i64 9) (.int .i64 9)).run Try.prog w = .ok (.slice (some ⟨w.heap.size, 0, none⟩) 9 9) (w.alloc (.cells #[.int .u8 0, .int .u8 0, .int .u8 0, .int .u8 0, .int .u8 0, .int .u8 0, .int .u8 0, .int .u8 0, .int .u8 0] 5)) := fun _ => by kernel_rfl
    go_enter Try.func31, Try.ntmps31
    go_wp2
    obtain ⟨G, hG⟩ : ∃ G, w.heap.size = G := ⟨_, rfl⟩
    have gO : (w.alloc (.cells #[.int .u8 (sh * 16 + f * 4), .int .u8 0, .int .u8 0, .int .u8 0, .int .u8 0, .int .u8 0, .int .u8 0, .int .u8 0, .int .u8 0] 5)).ownsRow w.heap.size 5 1 (.slice (some ⟨w.heap.size, 0, none⟩) 9 9) 9 ((blockE (sh * 16 + f * 4) (nibE sh f s p q) 0).map (Value.int .u8)) :=
      World.ownsRow_lit w _ 9 (Nat.le_refl _) (by decide) (by simp)
    have gB : Below w.heap.size w (w.alloc (.cells #[.int .u8 (sh * 16 + f * 4), .int .u8 0, .int .u8 0, .int .u8 0, .int .u8 0, .int .u8 0, .int .u8 0, .int .u8 0, .int .u8 0] 5)) := (Below.refl _ w).alloc (Nat.le_refl _) _
    generalize w.alloc (.cells #[.int .u8 (sh * 16 + f * 4), .int .u8 0, .int .u8 0, .int .u8 0, .int .u8 0, .int .u8 0, .int .u8 0, .int .u8 0, .int .u8 0] 5) = W1 at gO gB ⊢
    rw [hG] at gO gB
    rw [hG]
    have HG := Lib.hid hG
    have GO := Lib.hid gO
    clear hG gO hmk
    go_loopg [12, 13, 14] 16 (fun gk v12 v13 v14 wr => ∃ k : Nat, k + gk = 16 ∧ v14 = .int .i64 k ∧ v12 = .int .i64 (eP sh f s p q k).1 ∧ v13 = .int .i64 (eP sh f s p q k).2 ∧
      Hid (wr.ownsRow G 5 1 (.slice (some ⟨G, 0, none⟩) 9 9) 9 ((blockE (sh * 16 + f * 4) (nibE sh f s p q) k).map (Value.int .u8))) ∧ Below G w wr)
    case atStart => exact ⟨0, rfl, rfl, rfl, rfl, GO, gB⟩
    case round =>
      obtain ⟨k, hk, rfl, rfl, rfl, hO, hbr⟩ := hrel
      have HK := Lib.hid hk
      clear hk
      by_cases hlt : k < 16
      · have hcw := HX.out k (by omega)
        have hcs : ∀ wx, Below G w wx → wx.cell? ⟨b, o + k, none⟩ = some (.int .i16 (s[k]?.getD 0)) := fun wx hbx => by rw [hbx.cell (by have := World.block_lt_of_cell? w _ hcw; have := HG.out; omega)]; exact hcw
        have hwb := HFit.out.i16 (i := k) (by have := HL.out; omega)
        have hd := HP.out k
        have hd2 := HP.out (k + 1)
        have hnb := nibE_bounds sh f s p q k
        have hob := byteE_bounds (nibE sh f s p q) k (k / 2)
        obtain ⟨P1, hP1⟩ : ∃ P1, (eP sh f s p q k).1 = P1 := ⟨_, rfl⟩
        obtain ⟨Q1, hQ1⟩ : ∃ Q1, (eP sh f s p q k).2 = Q1 := ⟨_, rfl⟩
        obtain ⟨S1, hS1⟩ : ∃ S1, (eP sh f s p q (k + 1)).1 = S1 := ⟨_, rfl⟩
        obtain ⟨X, hX⟩ : ∃ X, s[k]?.getD 0 = X := ⟨_, rfl⟩
        obtain ⟨NB, hNB⟩ : ∃ NB, nibE sh f s p q k = NB := ⟨_, rfl⟩
        obtain ⟨OB, hOB⟩ : ∃ OB, byteE (nibE sh f s p q) k (k / 2) = OB := ⟨_, rfl⟩
        have hn1 : bestN sh f P1 Q1 X 15 = NB := by rw [← hNB, ← hP1, ← hQ1, ← hX]; rfl
        have hs1 : sampleN sh f NB P1 Q1 = S1 := by rw [← hS1, ← hNB, ← hP1, ← hQ1]; rfl
        have hq1 : (eP sh f s p q (k + 1)).2 = P1 := by rw [← hP1]; rfl
        rw [hP1, hQ1] at hd
        rw [hS1] at hd2
        rw [hX] at hcs hwb
        rw [hNB] at hnb
        rw [hOB] at hob
        rw [hP1, hQ1]
        have HCS := Lib.hid hcs
        have HN1 := Lib.hid hn1
        have HS1 := Lib.hid hs1
        have HQ2 := Lib.hid hq1
        have HS2 := Lib.hid hS1
        have HNB := Lib.hid hNB
        have HOB := Lib.hid hOB
        have hob2 : OB ≤ 255 := hob.2
        clear hP1 hQ1 hS1 hX hNB hOB hn1 hs1 hq1 hcw hcs
        have i1 : (k : Int) < 16 := by omega
        have i2 : 0 ≤ (k : Int) := by omega
        go_wp2_with fail
        go_loopg [15, 16] 15 (fun g2 v15 v16 wx => ∃ (j : Nat) (c : Int), j + g2 = 15 ∧ Hid (c = -7 + j) ∧ -7 ≤ c ∧ c ≤ 8 ∧ v16 = .int .i64 c ∧ v15 = .int .i64 (bestN sh f P1 Q1 X j) ∧
          Hid (wx.ownsRow G 5 1 (.slice (some ⟨G, 0, none⟩) 9 9) 9 ((blockE (sh * 16 + f * 4) (nibE sh f s p q) k).map (Value.int .u8))) ∧ Below G w wx)
        case atStart => exact ⟨0, -7, rfl, (by show _ = _; omega), by omega, by omega, rfl, rfl, hO, hbr⟩
        case round =>
          obtain ⟨j, c, hj, hc, c0, c8, rfl, rfl, hO2, hb2⟩ := hrel
          have HJ := Lib.hid hj
          clear hj
          by_cases hlj : c < 8
          · have hbb := bestN_bounds sh f P1 Q1 X j
            have hjb : (j : Int) ≤ 14 := by have := hc.out; omega
            have hsb := sampleN_bounds sh f c P1 Q1
            have hst : bestN sh f P1 Q1 X (j + 1) = if farN sh f P1 Q1 X ((-8 : Int) + ((j + 1 : Nat) : Int)) < farN sh f P1 Q1 X (bestN sh f P1 Q1 X j) then (-8 : Int) + ((j + 1 : Nat) : Int) else bestN sh f P1 Q1 X j := rfl
            rw [show (-8 : Int) + ((j + 1 : Nat) : Int) = c from by have := hc.out; omega] at hst
            obtain ⟨BB, hBB⟩ : ∃ BB, bestN sh f P1 Q1 X j = BB := ⟨_, rfl⟩
            rw [hBB] at hbb hst ⊢
            have hsb2 := sampleN_bounds sh f BB P1 Q1
            unfold farN at hst
            obtain ⟨SA, hSA⟩ : ∃ SA, sampleN sh f c P1 Q1 = SA := ⟨_, rfl⟩
            obtain ⟨SB, hSB⟩ : ∃ SB, sampleN sh f BB P1 Q1 = SB := ⟨_, rfl⟩
            rw [hSA] at hst hsb
            rw [hSB] at hst hsb2
            have HSA := Lib.hid hSA
            have HSB := Lib.hid hSB
            have HST := Lib.hid hst
            have hqa : 0 ≤ (SA - X) * (SA - X) ∧ (SA - X) * (SA - X) ≤ 4294967296 := ⟨sq_nonneg _, sq_le _ 65536 (by omega) (by omega)⟩
            have hqb : 0 ≤ (SB - X) * (SB - X) ∧ (SB - X) * (SB - X) ≤ 4294967296 := ⟨sq_nonneg _, sq_le _ 65536 (by omega) (by omega)⟩
            have e1 : IntKind.i64.wrap X = X := IntWalk.i64_in _ (by omega)
            have e2 : IntKind.i64.wrap (SA - X) = SA - X := IntWalk.i64_in _ (by omega)
            have e3 : IntKind.i64.wrap (SB - X) = SB - X := IntWalk.i64_in _ (by omega)
            have hcell := HCS.out _ hb2
            have hca : ∀ W : World, Calls Try.prog 26 #[.int .i64 c, .int .u8 sh, .int .u8 f, .int .i64 P1, .int .i64 Q1] W fun e w' => e = .returned (.int .i64 SA) ∧ W = w' := by
              intro W; rw [← HSA.out]
              exact refSample_any c sh f P1 Q1 W (by omega) (by omega) (by omega) (by omega) (by omega) (by omega) (by omega) (by omega) (by omega) (by omega)
            have hcb : ∀ W : World, Calls Try.prog 26 #[.int .i64 BB, .int .u8 sh, .int .u8 f, .int .i64 P1, .int .i64 Q1] W fun e w' => e = .returned (.int .i64 SB) ∧ W = w' := by
              intro W; rw [← HSB.out]
              exact refSample_any BB sh f P1 Q1 W (by omega) (by omega) (by omega) (by omega) (by omega) (by omega) (by omega) (by omega) (by omega) (by omega)
            have HCSA := Lib.hid hca
            have HCSB := Lib.hid hcb
            clear hBB hSA hSB hst hca hcb
            go_wp2
            go_quiet ((go_at_call 26; exact quiet_left (HCSA.out _)))
            have hO3 : Hid ((wr.drewN nq).ownsRow G 5 1 (.slice (some ⟨G, 0, none⟩) 9 9) 9 ((blockE (sh * 16 + f * 4) (nibE sh f s p q) k).map (Value.int .u8))) := hO2.out
            have hb3 : Below G w (wr.drewN nq) := below_drewN hb2 nq
            have hcell3 := HCS.out _ hb3
            generalize wr.drewN nq = w3 at hO3 hb3 hcell3 ⊢
            clear hO2 hb2 hcell
            go_wp2
            go_quiet ((go_at_call 26; exact quiet_left (HCSB.out _)))
            have hO4 : Hid ((w3.drewN nq).ownsRow G 5 1 (.slice (some ⟨G, 0, none⟩) 9 9) 9 ((blockE (sh * 16 + f * 4) (nibE sh f s p q) k).map (Value.int .u8))) := hO3.out
            have hb4 : Below G w (w3.drewN nq) := below_drewN hb3 nq
            generalize w3.drewN nq = w4 at hO4 hb4 ⊢
            clear hO3 hb3 hcell3 e1 e2 e3
            go_wp2
            · have ht : (SA - X) * (SA - X) < (SB - X) * (SB - X) := by assumption
              have hz := HST.out
              rw [if_pos ht] at hz
              go_roundg (14 - j)
              case measure => have := HJ.out; omega
              case rel => exact ⟨j + 1, c + 1, by omega, (by show _ = _; have := hc.out; omega), by omega, by omega, rfl, by rw [hz], hO4, hb4⟩
            · have ht : ¬ (SA - X) * (SA - X) < (SB - X) * (SB - X) := by omega
              have hz := HST.out
              rw [if_neg ht] at hz
              go_roundg (14 - j)
              case measure => have := HJ.out; omega
              case rel => exact ⟨j + 1, c + 1, by omega, (by show _ = _; have := hc.out; omega), by omega, by omega, rfl, by rw [hz], hO4, hb4⟩
          · obtain rfl : j = 15 := by have := hc.out; omega
            rw [HN1.out]
            have HK2' : (k : Int) % 2 = 0 ∨ (k : Int) % 2 = 1 := by omega
            have c5 : wr.cell? ⟨G, 1 + k / 2, none⟩ = some (.int .u8 OB) := by
              rw [hO2.out.cellAt (1 + k / 2) (by omega), List.getElem?_map, List.getElem?_eq_getElem (by rw [blockE_length]; omega)]
              have h := blockE_at (sh * 16 + f * 4) (nibE sh f s p q) k (k / 2) (by omega)
              rw [List.getElem?_eq_getElem (by rw [blockE_length]; omega), HOB.out] at h
              simp only [Option.getD_some] at h
              simp only [Option.map_some, h]
            have HC5 := Lib.hid c5
            have hO5 := hO2
            have hb5 := hb2
            have ho1 : OB + NB % 16 * 16 ≤ 255 ∨ (k : Int) % 2 = 1 := by
              rcases HK2' with h | h
              · left
                have hev := (byteE_even (nibE sh f s p q) k (by omega)).1
                rw [HOB.out] at hev; omega
              · exact .inr h
            have ho2 : (k : Int) % 2 = 1 → OB % 16 = 0 := fun h => by
              have hev := (byteE_odd (nibE sh f s p q) k (by omega)).1
              rw [HOB.out] at hev; exact hev
            clear c5 hO2 hb2
            rcases HK2' with hk2 | hk2
            · have ho3 : OB + NB % 16 * 16 ≤ 255 := by omega
              have HK2 := Lib.hid hk2
              clear ho1 ho2
              have hV : OB + NB % 16 * 16 = byteE (nibE sh f s p q) (k + 1) (k / 2) := by
                have hev := byteE_even (nibE sh f s p q) k (by have := HK2.out; omega)
                rw [HOB.out, HNB.out] at hev
                rw [hev.2, hev.1]; omega
              have hst := (hO5.out.stored (1 + k / 2) (.int .u8 (OB + NB % 16 * 16))).1
              rw [← List.map_set, hV, blockE_set _ _ _ hlt] at hst
              have HST := Lib.hid hst
              have HV := Lib.hid hV
              have c5 := HC5.out
              have f5 := hO5.out.frozenAt (1 + k / 2)
              clear hV hst
              go_wp2_with (go_at_call 26; refine (refSample_any NB sh f P1 Q1 _ (by omega) (by omega) (by omega) (by omega) (by omega) (by omega) (by omega) (by omega) (by omega) (by omega)).mono ?_; rintro e w6 ⟨rfl, rfl⟩; rw [HS1.out])
              go_roundg (15 - k)
              case measure => have := HK.out; omega
              case rel => exact ⟨k + 1, by omega, by go_num, by rw [HS2.out], by rw [HQ2.out], (by have h := HST.out; rw [← HV.out] at h; exact h), hb5.setCell (by simp) _⟩
            · have ho3 : OB + NB % 16 ≤ 255 := by have := ho2 hk2; omega
              have HK2 := Lib.hid hk2
              clear ho1 ho2
              have hV : OB + NB % 16 = byteE (nibE sh f s p q) (k + 1) (k / 2) := by
                have hev := byteE_odd (nibE sh f s p q) k (by have := HK2.out; omega)
                rw [HOB.out, HNB.out] at hev
                exact hev.2.symm
              have hst := (hO5.out.stored (1 + k / 2) (.int .u8 (OB + NB % 16))).1
              rw [← List.map_set, hV, blockE_set _ _ _ hlt] at hst
              have HST := Lib.hid hst
              have HV := Lib.hid hV
              have c5 := HC5.out
              have f5 := hO5.out.frozenAt (1 + k / 2)
              clear hV hst
              go_wp2_with (go_at_call 26; refine (refSample_any NB sh f P1 Q1 _ (by omega) (by omega) (by omega) (by omega) (by omega) (by omega) (by omega) (by omega) (by omega) (by omega)).mono ?_; rintro e w6 ⟨rfl, rfl⟩; rw [HS1.out])
              go_roundg (15 - k)
              case measure => have := HK.out; omega
              case rel => exact ⟨k + 1, by omega, by go_num, by rw [HS2.out], by rw [HQ2.out], (by have h := HST.out; rw [← HV.out] at h; exact h), hb5.setCell (by simp) _⟩
      · obtain rfl : k = 16 := by have := HK.out; omega
        go_wp2
        go_ret
        exact ⟨_, rfl, by have h := HG.out; subst h; exact hO.out, by simp, by have h := HG.out; subst h; exact hbr⟩
end Go.Proofs.Ytpmmnjmlnjdkjaa
