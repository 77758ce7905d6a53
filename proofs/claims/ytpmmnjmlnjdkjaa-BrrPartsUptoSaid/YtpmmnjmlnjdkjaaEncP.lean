/- The walk of the program's Encode. -/
import Derived.Test.YtpmmnjmlnjdkjaaBlk
import Derived.Test.YtpmmnjmlnjdkjaaCand
import Derived.ChangeKeysEq
import Derived.Deep.LoopGhost
namespace Go.Proofs.Ytpmmnjmlnjdkjaa
open Go.RowKit

theorem eql_bytes (b0 b1 b2 b3 b4 b5 b6 b7 b8 : Int) (w : World) :
    ∃ r : Bool, (Op.equalIn 9999 66 (.agg #[.int .u8 b0, .int .u8 b1, .int .u8 b2, .int .u8 b3, .int .u8 b4, .int .u8 b5, .int .u8 b6, .int .u8 b7, .int .u8 b8]) (.agg #[.int .u8 0, .int .u8 0, .int .u8 0, .int .u8 0, .int .u8 0, .int .u8 0, .int .u8 0, .int .u8 0, .int .u8 0])).run Try.prog w = .ok r w := by
  obtain ⟨i0, hi, -⟩ := info_parts Try.infoU8
  rw [run_equalIn_array w 9998 _ _ Try.underlying66 hi]
  rw [show Try.prog.cellsOf 5 = 1 from by kernel_rfl, show List.range 9 = [0, 1, 2, 3, 4, 5, 6, 7, 8] from rfl]
  simp [Op.eqItems, go_sem]
  by_cases hall : b0 = 0 ∧ b1 = 0 ∧ b2 = 0 ∧ b3 = 0 ∧ b4 = 0 ∧ b5 = 0 ∧ b6 = 0 ∧ b7 = 0 ∧ b8 = 0
  · obtain ⟨rfl, rfl, rfl, rfl, rfl, rfl, rfl, rfl, rfl⟩ := hall
    exact .inr (by simp)
  · exact .inl fun h0 h1 h2 h3 h4 h5 h6 h7 h8 => hall ⟨h0, h1, h2, h3, h4, h5, h6, h7, h8⟩
theorem eql_pack (b0 b1 b2 b3 b4 b5 b6 b7 b8 a : Int) (h : (a == -1) = false) (w : World) :
    (binOp .eql 68 (.agg #[.int .u8 b0, .int .u8 b1, .int .u8 b2, .int .u8 b3, .int .u8 b4, .int .u8 b5, .int .u8 b6, .int .u8 b7, .int .u8 b8, .int .i64 a]) (.agg #[.int .u8 0, .int .u8 0, .int .u8 0, .int .u8 0, .int .u8 0, .int .u8 0, .int .u8 0, .int .u8 0, .int .u8 0, .int .i64 (-1)])).run Try.prog w = .ok (.bool false) w := by
  obtain ⟨r, hr⟩ := eql_bytes b0 b1 b2 b3 b4 b5 b6 b7 b8 w
  have h' : ¬ a = -1 := by simpa using h
  simp [go_sem, hr, h']
theorem eql_start (w : World) :
    (binOp .eql 68 (.agg #[.int .u8 0, .int .u8 0, .int .u8 0, .int .u8 0, .int .u8 0, .int .u8 0, .int .u8 0, .int .u8 0, .int .u8 0, .int .i64 (-1)]) (.agg #[.int .u8 0, .int .u8 0, .int .u8 0, .int .u8 0, .int .u8 0, .int .u8 0, .int .u8 0, .int .u8 0, .int .u8 0, .int .i64 (-1)])).run Try.prog w = .ok (.bool true) w := by kernel_rfl

/-- The block's contract, its bytes by names. -/
theorem block_any (v : Value) (s : List Int) (sh f p q head : Int) (g : Nat) (w : World) (hr : Row .i16 w v s) (hf : Fits .i16 s) (hl : s.length = 16) (s0 : 0 ≤ sh) (s1 : sh ≤ 15)
    (p0 : -32768 ≤ p) (p1 : p ≤ 32767) (q0 : -32768 ≤ q) (q1 : q ≤ 32767) (hg : fnOf f = .func (.func g) #[] #[]) (A : Int) (hA : apartE sh f s p q 16 = A) :
    Calls Try.prog 33 #[v, .agg #[.int .u8 sh, .func (.func g) #[] #[], .int .i64 p, .int .i64 q], .int .u8 head] w fun e w' => ∃ B : Nat → Int, e = .returned (.agg #[.int .u8 (B 0), .int .u8 (B 1), .int .u8 (B 2), .int .u8 (B 3), .int .u8 (B 4), .int .u8 (B 5), .int .u8 (B 6), .int .u8 (B 7), .int .u8 (B 8), .int .i64 A]) ∧
      (∀ i, (blockE head (nibE sh f s p q) 16)[i]?.getD 0 = B i) ∧ Below w.heap.size w w' := by
  rw [← hg]
  refine (block_walk v s sh f p q head w hr hf hl s0 s1 p0 p1 q0 q1).mono ?_
  rintro e w' ⟨rfl, hb⟩
  exact ⟨fun i => (blockE head (nibE sh f s p q) 16)[i]?.getD 0, by unfold packV; rw [hA], fun _ => rfl, hb⟩

theorem row_belowG {k : IntKind} {w w' : World} {G : Nat} {v : Value} {xs : List Int} (h : Row k w v xs) (hb : Below G w w') (hG : w.heap.size = G) : Row k w' v xs := h.below (by rw [hG]; exact hb)

set_option maxHeartbeats 4000000 in
theorem encode_walk (v : Value) (s : List Int) (p q : Int) (w : World) (hr : Row .i16 w v s) (hf : Fits .i16 s) (hl : s.length = 16)
    (p0 : -32768 ≤ p) (p1 : p ≤ 32767) (q0 : -32768 ≤ q) (q1 : q ≤ 32767) :
    Calls Try.prog 19 #[v, .int .i16 p, .int .i16 q] w fun e w' => ∃ g, e = .returned (.tuple #[.slice (some ⟨g, 0, none⟩) 9 9, .int .i64 0]) ∧ w.heap.size ≤ g ∧ (∃ a, PackAt w' g (encodeN s p q) a) ∧ Below w.heap.size w w' := by
  obtain ⟨a0, cap, rfl⟩ : ∃ a cap, v = .slice a 16 cap := by
    rcases hr with ⟨_, _, _, rfl, _⟩ | ⟨b, o, cap, rfl, _⟩
    · simp at hl
    · exact ⟨_, cap, by rw [hl]⟩
  have HR := Lib.hid hr
  have HF := Lib.hid hf
  have HL := Lib.hid hl
  clear hr hf hl
  go_enter Try.func19, Try.ntmps19
  go_wp2
  go_step3
  go_wp2_with fail
  go_step3
  go_wp2_with (go_at_call 28; refine (filters_any _).mono ?_; rintro e w' ⟨rfl, hcf, hsz, hb⟩)
  obtain ⟨G, hG⟩ : ∃ G, w.heap.size = G := ⟨_, rfl⟩
  have gP := (PackAt.new w 0 0 0 0 0 0 0 0 0 (-1) 68).below hb (by simp)
  have gB : Below w.heap.size w w' := ((Below.refl _ w).alloc (Nat.le_refl _) _).trans (hb.mono (by simp))
  simp only [World.size_alloc] at hcf
  rw [hG] at gP gB hcf
  rw [hG]
  have hGz : G + 1 < w'.heap.size := by simp at hsz; omega
  have HGw := Lib.hid hG
  have GP : Hid (PackAt w' G (bsC s p q 0) (aC s p q 0)) := gP
  have GF : Hid (∀ f : Int, 0 ≤ f → f ≤ 3 → w'.cell? ⟨G + 1, f.toNat, none⟩ = some (fnOf f)) := hcf
  clear gP hcf hsz hb hG
  go_loopg [19] 4 (fun gk v19 wr => ∃ k : Nat, k + gk = 4 ∧ v19 = .int .i64 k ∧ Hid (PackAt wr G (bsC s p q (13 * k)) (aC s p q (13 * k))) ∧ Hid (∀ f : Int, 0 ≤ f → f ≤ 3 → wr.cell? ⟨G + 1, f.toNat, none⟩ = some (fnOf f)) ∧ Below G w wr ∧ G + 1 < wr.heap.size)
  case atStart => exact ⟨0, rfl, rfl, GP, GF, gB, hGz⟩
  case round =>
    obtain ⟨k, hk, rfl, hp1, hf1, hb1, hz1⟩ := hrel
    by_cases hlt : k < 4
    · obtain ⟨gF, hgF⟩ : ∃ gF : Nat, fnOf (k : Int) = .func (.func gF) #[] #[] := ⟨_, rfl⟩
      have cf : wr.cell? ⟨G + 1, k, none⟩ = some (.func (.func gF) #[] #[]) := by
        have := hf1.out k (by omega) (by omega)
        rw [hgF, Int.toNat_natCast] at this; exact this
      have HgF := Lib.hid hgF
      have HK := Lib.hid hk
      clear hgF hk
      have i1 : (k : Int) < 4 := by omega
      have i2 : 0 ≤ (k : Int) := by omega
      go_wp2_with fail
      clear cf
      go_loopg [24] 13 (fun g2 v24 wx => ∃ j : Nat, j + g2 = 13 ∧ v24 = .int .u8 j ∧ Hid (PackAt wx G (bsC s p q (13 * k + j)) (aC s p q (13 * k + j))) ∧ Hid (∀ f : Int, 0 ≤ f → f ≤ 3 → wx.cell? ⟨G + 1, f.toNat, none⟩ = some (fnOf f)) ∧ Below G w wx ∧ G + 1 < wx.heap.size)
      case atStart => exact ⟨0, rfl, rfl, hp1, hf1, hb1, hz1⟩
      case round =>
        obtain ⟨j, hj, rfl, hp2, hf2, hb2, hz2⟩ := hrel
        have HJ := Lib.hid hj
        clear hj
        by_cases hlj : j < 13
        · have hh : bits BinOp.or IntKind.u8 ((j : Int) * 16) ((k : Int) * 4) = (j : Int) * 16 + (k : Int) * 4 := by
            rw [u8_or _ _ (by omega) (by omega) (by omega) (by omega), nat_join 4 _ _ (by omega) (by omega)]; omega
          have j1 : (j : Int) < 13 := by omega
          have j2 : 0 ≤ (j : Int) := by omega
          obtain ⟨A, hA⟩ : ∃ A, candA s p q (13 * k + j) = A := ⟨_, rfl⟩
          have hA2 : apartE (j : Int) (k : Int) s p q 16 = A := by rw [← hA, candA_at _ _ _ _ _ hlj]
          obtain ⟨AO, hAO⟩ : ∃ AO, aC s p q (13 * k + j) = AO := ⟨_, rfl⟩
          have HA := Lib.hid hA
          have HA2 := Lib.hid hA2
          have HAO := Lib.hid hAO
          clear hA hA2 hAO
          go_wp2_with fail
          go_at_call 33
          refine (block_any _ s j k p q _ gF _ (row_belowG HR.out hb2 HGw.out) HF.out HL.out (by omega) (by omega) p0 p1 q0 q1 HgF.out A HA2.out).mono ?_
          rintro e w2 ⟨B, rfl, hB, hbk⟩
          have HB := Lib.hid hB
          clear hB hh
          go_upto_region 11 with fail
          have hnp0 := PackAt.new w2 (B 0) (B 1) (B 2) (B 3) (B 4) (B 5) (B 6) (B 7) (B 8) A 68
          have hpo0 := (hp2.out.below hbk (by omega)).below ((Below.refl w2.heap.size w2).alloc (Nat.le_refl _) (.cells #[.int .u8 (B 0), .int .u8 (B 1), .int .u8 (B 2), .int .u8 (B 3), .int .u8 (B 4), .int .u8 (B 5), .int .u8 (B 6), .int .u8 (B 7), .int .u8 (B 8), .int .i64 A] 68)) (by have := hbk.size; omega)
          have hbk3 : Below wr.heap.size wr (w2.alloc (.cells #[.int .u8 (B 0), .int .u8 (B 1), .int .u8 (B 2), .int .u8 (B 3), .int .u8 (B 4), .int .u8 (B 5), .int .u8 (B 6), .int .u8 (B 7), .int .u8 (B 8), .int .i64 A] 68)) := hbk.alloc hbk.size _
          have hN : G + 1 < w2.heap.size := by have := hbk.size; omega
          generalize w2.alloc (.cells #[.int .u8 (B 0), .int .u8 (B 1), .int .u8 (B 2), .int .u8 (B 3), .int .u8 (B 4), .int .u8 (B 5), .int .u8 (B 6), .int .u8 (B 7), .int .u8 (B 8), .int .i64 A] 68) = w3 at hnp0 hpo0 hbk3 ⊢
          obtain ⟨N, hNe⟩ : ∃ N, w2.heap.size = N := ⟨_, rfl⟩
          rw [hNe] at hnp0 hN ⊢
          have hz3 : G + 1 < w3.heap.size := by have := hnp0.lt; omega
          have hb3 : Below G w w3 := hb2.trans (hbk3.mono (by omega))
          have hf3 : Hid (∀ f : Int, 0 ≤ f → f ≤ 3 → w3.cell? ⟨G + 1, f.toNat, none⟩ = some (fnOf f)) := fun f f0 f1 => (hbk3.cell (p := ⟨G + 1, f.toNat, none⟩) (by simp; omega)).trans (hf2.out f f0 f1)
          obtain ⟨Bo, hBo⟩ : ∃ Bo : Nat → Int, ∀ i, (bsC s p q (13 * k + j))[i]?.getD 0 = Bo i := ⟨_, fun _ => rfl⟩
          have hnp : PackAt w3 N (candB s p q (13 * k + j)) A := by
            have e := list9 (bs := candB s p q (13 * k + j)) (candB_length _ _ _ _) B (by rw [candB_at _ _ _ _ _ hlj]; exact HB.out)
            rw [e] at hnp0; exact hnp0
          have hpo3 : PackAt w3 G (bsC s p q (13 * k + j)) AO := by rw [← HAO.out]; exact hpo0
          have hBn : ∀ i, (candB s p q (13 * k + j))[i]?.getD 0 = B i := by rw [candB_at _ _ _ _ _ hlj]; exact HB.out
          have c0 : w3.cell? ⟨G, 0, none⟩ = some (.int .u8 (Bo 0)) := (hpo3.c 0 (by omega)).trans (by rw [hBo])
          have c1 : w3.cell? ⟨G, 1, none⟩ = some (.int .u8 (Bo 1)) := (hpo3.c 1 (by omega)).trans (by rw [hBo])
          have c2 : w3.cell? ⟨G, 2, none⟩ = some (.int .u8 (Bo 2)) := (hpo3.c 2 (by omega)).trans (by rw [hBo])
          have c3 : w3.cell? ⟨G, 3, none⟩ = some (.int .u8 (Bo 3)) := (hpo3.c 3 (by omega)).trans (by rw [hBo])
          have c4 : w3.cell? ⟨G, 4, none⟩ = some (.int .u8 (Bo 4)) := (hpo3.c 4 (by omega)).trans (by rw [hBo])
          have c5 : w3.cell? ⟨G, 5, none⟩ = some (.int .u8 (Bo 5)) := (hpo3.c 5 (by omega)).trans (by rw [hBo])
          have c6 : w3.cell? ⟨G, 6, none⟩ = some (.int .u8 (Bo 6)) := (hpo3.c 6 (by omega)).trans (by rw [hBo])
          have c7 : w3.cell? ⟨G, 7, none⟩ = some (.int .u8 (Bo 7)) := (hpo3.c 7 (by omega)).trans (by rw [hBo])
          have c8 : w3.cell? ⟨G, 8, none⟩ = some (.int .u8 (Bo 8)) := (hpo3.c 8 (by omega)).trans (by rw [hBo])
          have d0 : w3.cell? ⟨N, 0, none⟩ = some (.int .u8 (B 0)) := (hnp.c 0 (by omega)).trans (by rw [hBn])
          have d1 : w3.cell? ⟨N, 1, none⟩ = some (.int .u8 (B 1)) := (hnp.c 1 (by omega)).trans (by rw [hBn])
          have d2 : w3.cell? ⟨N, 2, none⟩ = some (.int .u8 (B 2)) := (hnp.c 2 (by omega)).trans (by rw [hBn])
          have d3 : w3.cell? ⟨N, 3, none⟩ = some (.int .u8 (B 3)) := (hnp.c 3 (by omega)).trans (by rw [hBn])
          have d4 : w3.cell? ⟨N, 4, none⟩ = some (.int .u8 (B 4)) := (hnp.c 4 (by omega)).trans (by rw [hBn])
          have d5 : w3.cell? ⟨N, 5, none⟩ = some (.int .u8 (B 5)) := (hnp.c 5 (by omega)).trans (by rw [hBn])
          have d6 : w3.cell? ⟨N, 6, none⟩ = some (.int .u8 (B 6)) := (hnp.c 6 (by omega)).trans (by rw [hBn])
          have d7 : w3.cell? ⟨N, 7, none⟩ = some (.int .u8 (B 7)) := (hnp.c 7 (by omega)).trans (by rw [hBn])
          have d8 : w3.cell? ⟨N, 8, none⟩ = some (.int .u8 (B 8)) := (hnp.c 8 (by omega)).trans (by rw [hBn])
          have c9 : w3.cell? ⟨G, 9, none⟩ = some (.int .i64 AO) := hpo3.ca
          have d9 : w3.cell? ⟨N, 9, none⟩ = some (.int .i64 A) := hnp.ca
          have HNP := Lib.hid hnp
          have HPO := Lib.hid hpo3
          have HB3 := Lib.hid hb3
          obtain ⟨bq, hbq, hqe⟩ : ∃ bq : Bool, ((13 * k + j = 0 ∧ bq = true) ∨ (1 ≤ 13 * k + j ∧ bq = false)) ∧ ∀ w, (binOp .eql 68 (.agg #[.int .u8 (Bo 0), .int .u8 (Bo 1), .int .u8 (Bo 2), .int .u8 (Bo 3), .int .u8 (Bo 4), .int .u8 (Bo 5), .int .u8 (Bo 6), .int .u8 (Bo 7), .int .u8 (Bo 8), .int .i64 AO]) (.agg #[.int .u8 0, .int .u8 0, .int .u8 0, .int .u8 0, .int .u8 0, .int .u8 0, .int .u8 0, .int .u8 0, .int .u8 0, .int .i64 (-1)])).run Try.prog w = .ok (.bool bq) w := by
            by_cases h0 : 13 * k + j = 0
            · refine ⟨true, .inl ⟨h0, rfl⟩, fun w => ?_⟩
              have ha := HAO.out
              rw [h0] at hBo ha
              rw [← ha, ← hBo 0, ← hBo 1, ← hBo 2, ← hBo 3, ← hBo 4, ← hBo 5, ← hBo 6, ← hBo 7, ← hBo 8]
              exact eql_start w
            · refine ⟨false, .inr ⟨by omega, rfl⟩, fun w => eql_pack _ _ _ _ _ _ _ _ _ _ ?_ w⟩
              have := aC_nonneg s p q (13 * k + j) (by omega)
              rw [HAO.out] at this
              simp; omega
          have HBQ := Lib.hid hbq
          clear hnp0 hpo0 hbk3 hbk hp2 hf2 hb2 hnp hpo3 hb3 hNe hBo hbq
          go_cut [51] (fun s51 wx => ∃ u : Bool, s51 = .bool u ∧ Hid ((u = true ∧ bsC s p q (13 * k + j + 1) = candB s p q (13 * k + j) ∧ aC s p q (13 * k + j + 1) = A) ∨ (u = false ∧ bsC s p q (13 * k + j + 1) = bsC s p q (13 * k + j) ∧ aC s p q (13 * k + j + 1) = AO)) ∧ w3 = wx)
          case first =>
            cases bq
            · have hc1 : 1 ≤ 13 * k + j := by have := HBQ.out; simpa using this
              have hls := Lib.hid (aC_less s p q (13 * k + j) hc1)
              have hms := Lib.hid (aC_more s p q (13 * k + j) hc1)
              by_cases hlt2 : A < AO
              · go_wp2
                go_meet
                have h := hls.out (by rw [HA.out, HAO.out]; exact hlt2)
                exact ⟨true, by simp, .inl ⟨rfl, h.1, by rw [h.2, HA.out]⟩, rfl⟩
              · go_wp2
                go_meet
                have h := hms.out (by rw [HA.out, HAO.out]; omega)
                exact ⟨false, by simp, .inr ⟨rfl, h.1, by rw [h.2, HAO.out]⟩, rfl⟩
            · have hc0 : 13 * k + j = 0 := by have := HBQ.out; simpa using this
              have h1 := Lib.hid (aC_one s p q)
              have hc0' := Lib.hid hc0
              clear hc0
              go_wp2
              go_meet
              refine ⟨true, by simp, .inl ⟨rfl, ?_, ?_⟩, rfl⟩
              · rw [hc0'.out]; exact h1.out.1
              · have := HA.out; rw [hc0'.out] at this ⊢; rw [← this]; exact h1.out.2
          case rest =>
            obtain ⟨u, rfl, hu, rfl⟩ := hcut
            have y0 := HPO.out.fz 0
            have y1 := HPO.out.fz 1
            have y2 := HPO.out.fz 2
            have y3 := HPO.out.fz 3
            have y4 := HPO.out.fz 4
            have y5 := HPO.out.fz 5
            have y6 := HPO.out.fz 6
            have y7 := HPO.out.fz 7
            have y8 := HPO.out.fz 8
            have y9 := HPO.out.fz 9
            cases u
            · have hs1 : bsC s p q (13 * k + j + 1) = bsC s p q (13 * k + j) := by have := hu.out; simp at this; exact this.1
              have hs2 : aC s p q (13 * k + j + 1) = AO := by have := hu.out; simp at this; exact this.2
              have hp4 : Hid (PackAt w3 G (bsC s p q (13 * k + j + 1)) (aC s p q (13 * k + j + 1))) := by rw [hs1, hs2]; exact HPO.out
              have hstop := Lib.hid (fun h => bsC_stop s p q (13 * k + j + 1) (by omega) (by omega) h)
              have HS2 := Lib.hid hs2
              clear hs1 hs2
              by_cases hz : AO = 0
              · have hzz : (AO == 0) = true := by simp [hz]
                have HZ := Lib.hid hz
                clear hz
                go_wp2
                try rw [Exit.noGoto_ret]
                go_ret2
                exact ⟨G, rfl, Nat.le_of_eq HGw.out, ⟨_, by have h := hp4.out; rw [hstop.out (by rw [HS2.out]; exact HZ.out)] at h; exact h⟩, by have h := HGw.out; subst h; exact HB3.out⟩
              · have hzz : (AO == 0) = false := by simpa using hz
                clear hz
                go_wp2
                go_roundg (12 - j)
                case measure => have := HJ.out; omega
                case rel => exact ⟨j + 1, by omega, by go_num, hp4, hf3, HB3.out, hz3⟩
            · have hs1 : bsC s p q (13 * k + j + 1) = candB s p q (13 * k + j) := by have := hu.out; simp at this; exact this.1
              have hs2 : aC s p q (13 * k + j + 1) = A := by have := hu.out; simp at this; exact this.2
              have hf : PackAt ((((((((((w3.setCell ⟨G, 0, none⟩ (.int .u8 (B 0))).setCell ⟨G, 1, none⟩ (.int .u8 (B 1))).setCell ⟨G, 2, none⟩ (.int .u8 (B 2))).setCell ⟨G, 3, none⟩ (.int .u8 (B 3))).setCell ⟨G, 4, none⟩ (.int .u8 (B 4))).setCell ⟨G, 5, none⟩ (.int .u8 (B 5))).setCell ⟨G, 6, none⟩ (.int .u8 (B 6))).setCell ⟨G, 7, none⟩ (.int .u8 (B 7))).setCell ⟨G, 8, none⟩ (.int .u8 (B 8))).setCell ⟨G, 9, none⟩ (.int .i64 A)) G [B 0, B 1, B 2, B 3, B 4, B 5, B 6, B 7, B 8] A := by
                have h9 : (bsC s p q (13 * k + j)).length = 9 := HPO.out.len
                have hx := ((((((((((HPO.out.setByte 0 (by omega) (B 0)).setByte 1 (by omega) (B 1)).setByte 2 (by omega) (B 2)).setByte 3 (by omega) (B 3)).setByte 4 (by omega) (B 4)).setByte 5 (by omega) (B 5)).setByte 6 (by omega) (B 6)).setByte 7 (by omega) (B 7)).setByte 8 (by omega) (B 8)).setApart A)
                match hbs : bsC s p q (13 * k + j), h9, hx with
                | [_, _, _, _, _, _, _, _, _], _, hx => exact hx
              have hbf : Below G w ((((((((((w3.setCell ⟨G, 0, none⟩ (.int .u8 (B 0))).setCell ⟨G, 1, none⟩ (.int .u8 (B 1))).setCell ⟨G, 2, none⟩ (.int .u8 (B 2))).setCell ⟨G, 3, none⟩ (.int .u8 (B 3))).setCell ⟨G, 4, none⟩ (.int .u8 (B 4))).setCell ⟨G, 5, none⟩ (.int .u8 (B 5))).setCell ⟨G, 6, none⟩ (.int .u8 (B 6))).setCell ⟨G, 7, none⟩ (.int .u8 (B 7))).setCell ⟨G, 8, none⟩ (.int .u8 (B 8))).setCell ⟨G, 9, none⟩ (.int .i64 A)) := ((((((((((HB3.out.setCell (p := ⟨G, 0, none⟩) (by simp) (.int .u8 (B 0))).setCell (p := ⟨G, 1, none⟩) (by simp) (.int .u8 (B 1))).setCell (p := ⟨G, 2, none⟩) (by simp) (.int .u8 (B 2))).setCell (p := ⟨G, 3, none⟩) (by simp) (.int .u8 (B 3))).setCell (p := ⟨G, 4, none⟩) (by simp) (.int .u8 (B 4))).setCell (p := ⟨G, 5, none⟩) (by simp) (.int .u8 (B 5))).setCell (p := ⟨G, 6, none⟩) (by simp) (.int .u8 (B 6))).setCell (p := ⟨G, 7, none⟩) (by simp) (.int .u8 (B 7))).setCell (p := ⟨G, 8, none⟩) (by simp) (.int .u8 (B 8))).setCell (p := ⟨G, 9, none⟩) (by simp) (.int .i64 A))
              have hff : ∀ f : Int, 0 ≤ f → f ≤ 3 → World.cell? ((((((((((w3.setCell ⟨G, 0, none⟩ (.int .u8 (B 0))).setCell ⟨G, 1, none⟩ (.int .u8 (B 1))).setCell ⟨G, 2, none⟩ (.int .u8 (B 2))).setCell ⟨G, 3, none⟩ (.int .u8 (B 3))).setCell ⟨G, 4, none⟩ (.int .u8 (B 4))).setCell ⟨G, 5, none⟩ (.int .u8 (B 5))).setCell ⟨G, 6, none⟩ (.int .u8 (B 6))).setCell ⟨G, 7, none⟩ (.int .u8 (B 7))).setCell ⟨G, 8, none⟩ (.int .u8 (B 8))).setCell ⟨G, 9, none⟩ (.int .i64 A)) ⟨G + 1, f.toNat, none⟩ = some (fnOf f) := by
                intro f f0 f1
                rw [World.cell?_setCell_other _ _ _ _ (by simp), World.cell?_setCell_other _ _ _ _ (by simp), World.cell?_setCell_other _ _ _ _ (by simp), World.cell?_setCell_other _ _ _ _ (by simp), World.cell?_setCell_other _ _ _ _ (by simp), World.cell?_setCell_other _ _ _ _ (by simp), World.cell?_setCell_other _ _ _ _ (by simp), World.cell?_setCell_other _ _ _ _ (by simp), World.cell?_setCell_other _ _ _ _ (by simp), World.cell?_setCell_other _ _ _ _ (by simp)]
                exact hf3.out f f0 f1
              have hzf : G + 1 < (((((((((((w3.setCell ⟨G, 0, none⟩ (.int .u8 (B 0))).setCell ⟨G, 1, none⟩ (.int .u8 (B 1))).setCell ⟨G, 2, none⟩ (.int .u8 (B 2))).setCell ⟨G, 3, none⟩ (.int .u8 (B 3))).setCell ⟨G, 4, none⟩ (.int .u8 (B 4))).setCell ⟨G, 5, none⟩ (.int .u8 (B 5))).setCell ⟨G, 6, none⟩ (.int .u8 (B 6))).setCell ⟨G, 7, none⟩ (.int .u8 (B 7))).setCell ⟨G, 8, none⟩ (.int .u8 (B 8))).setCell ⟨G, 9, none⟩ (.int .i64 A))).heap.size := by simp only [World.size_setCell]; exact hz3
              have hp4 : PackAt ((((((((((w3.setCell ⟨G, 0, none⟩ (.int .u8 (B 0))).setCell ⟨G, 1, none⟩ (.int .u8 (B 1))).setCell ⟨G, 2, none⟩ (.int .u8 (B 2))).setCell ⟨G, 3, none⟩ (.int .u8 (B 3))).setCell ⟨G, 4, none⟩ (.int .u8 (B 4))).setCell ⟨G, 5, none⟩ (.int .u8 (B 5))).setCell ⟨G, 6, none⟩ (.int .u8 (B 6))).setCell ⟨G, 7, none⟩ (.int .u8 (B 7))).setCell ⟨G, 8, none⟩ (.int .u8 (B 8))).setCell ⟨G, 9, none⟩ (.int .i64 A)) G (bsC s p q (13 * k + j + 1)) (aC s p q (13 * k + j + 1)) := by
                rw [hs1, hs2]
                have e := list9 (bs := candB s p q (13 * k + j)) (candB_length _ _ _ _) B (by rw [candB_at _ _ _ _ _ hlj]; exact HB.out)
                rw [← e]; exact hf
              have hstop := Lib.hid (fun h => bsC_stop s p q (13 * k + j + 1) (by omega) (by omega) h)
              have HS2 := Lib.hid hs2
              have HFF := Lib.hid hff
              have HPF := Lib.hid hp4
              have HBF := Lib.hid hbf
              have HZF := Lib.hid hzf
              clear hs1 hs2 hf hp4 hbf hff hzf
              go_upto_region 13 with fail
              have hp4 := HPF.out
              have hbf := HBF.out
              have hff := HFF.out
              have hzf := HZF.out
              clear HPF HBF HFF HZF HPO c0 c1 c2 c3 c4 c5 c6 c7 c8 c9 d0 d1 d2 d3 d4 d5 d6 d7 d8 d9 y0 y1 y2 y3 y4 y5 y6 y7 y8 y9 hqe
              generalize ((((((((((w3.setCell ⟨G, 0, none⟩ (.int .u8 (B 0))).setCell ⟨G, 1, none⟩ (.int .u8 (B 1))).setCell ⟨G, 2, none⟩ (.int .u8 (B 2))).setCell ⟨G, 3, none⟩ (.int .u8 (B 3))).setCell ⟨G, 4, none⟩ (.int .u8 (B 4))).setCell ⟨G, 5, none⟩ (.int .u8 (B 5))).setCell ⟨G, 6, none⟩ (.int .u8 (B 6))).setCell ⟨G, 7, none⟩ (.int .u8 (B 7))).setCell ⟨G, 8, none⟩ (.int .u8 (B 8))).setCell ⟨G, 9, none⟩ (.int .i64 A)) = w5 at hp4 hbf hff hzf ⊢
              have c9 : w5.cell? ⟨G, 9, none⟩ = some (.int .i64 A) := by have h := hp4.ca; rw [HS2.out] at h; exact h
              have HP4 := Lib.hid hp4
              have HF4 := Lib.hid hff
              clear hp4 hff
              by_cases hz : A = 0
              · have hzz : (A == 0) = true := by simp [hz]
                have HZ := Lib.hid hz
                clear hz
                go_wp2
                try rw [Exit.noGoto_ret]
                go_ret2
                exact ⟨G, rfl, Nat.le_of_eq HGw.out, ⟨_, by have h := HP4.out; rw [hstop.out (by rw [HS2.out]; exact HZ.out)] at h; exact h⟩, by have h := HGw.out; subst h; exact hbf⟩
              · have hzz : (A == 0) = false := by simpa using hz
                clear hz
                go_wp2
                go_roundg (12 - j)
                case measure => have := HJ.out; omega
                case rel => exact ⟨j + 1, by omega, by go_num, HP4, HF4, hbf, hzf⟩
        · obtain rfl : j = 13 := by have := HJ.out; omega
          clear HJ
          go_wp2
          go_roundg (3 - k)
          case measure => have := HK.out; omega
          case rel => exact ⟨k + 1, by omega, by go_num, hp2, hf2, hb2, hz2⟩
    · obtain rfl : k = 4 := by omega
      go_wp2
      try rw [Exit.noGoto_ret]
      go_ret2
      exact ⟨G, rfl, Nat.le_of_eq HGw.out, ⟨_, by have h := hp1.out; exact h⟩, by have h := HGw.out; subst h; exact hb1⟩
end Go.Proofs.Ytpmmnjmlnjdkjaa
