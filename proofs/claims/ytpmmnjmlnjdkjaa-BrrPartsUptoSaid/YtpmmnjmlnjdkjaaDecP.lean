/- The walk of the program's Decode: for every slice of bytes and every two samples ahead. -/
import Derived.Test.YtpmmnjmlnjdkjaaDec
import Derived.Deep.RegionWith
import Derived.Laws.EntriesVeiled
namespace Go.Proofs.Ytpmmnjmlnjdkjaa
open Go.RowKit

theorem below_of_drew {B : Nat} {a b : World} (h : Below B a.drew b) : Below B a b := ⟨h.os, h.tape, h.output, h.size, h.block⟩

theorem filters_any (w : World) :
    Calls Try.prog 28 #[] w fun e w' => e = .returned (.slice (some ⟨w.heap.size, 0, none⟩) 4 4) ∧ (∀ f : Int, 0 ≤ f → f ≤ 3 → w'.cell? ⟨w.heap.size, f.toNat, none⟩ = some (fnOf f)) ∧ w'.heap.size = w.heap.size + 1 ∧ Below w.heap.size w w' := by
  go_enter Try.func28, Try.ntmps28
  go_wp2
  go_ret
  refine ⟨rfl, fun f h0 h1 => ?_, by simp, (Below.refl _ _).alloc (Nat.le_refl _) _⟩
  have : f = 0 ∨ f = 1 ∨ f = 2 ∨ f = 3 := by omega
  rcases this with rfl | rfl | rfl | rfl <;> simp [fnOf]

theorem wrap_i8 (n : Int) : IntKind.i8.wrap n = (n + 128) % 256 - 128 := by
  simp [IntKind.wrap, IntKind.bits, IntKind.signed]
  omega
theorem high_nibble (x : Int) (h0 : 0 ≤ x) (h1 : x ≤ 255) : IntKind.i8.wrap x / 16 = nibN x 0 := by
  rw [wrap_i8]; unfold nibN; simp only [show (0 : Int) % 2 = 0 from rfl, if_true]; split <;> omega
theorem low_nibble (x : Int) : IntKind.i8.wrap (x * 16 % 256) / 16 = nibN x 1 := by
  rw [wrap_i8]; unfold nibN; simp only [show ¬ (1 : Int) % 2 = 0 from by decide, if_false]; split <;> omega

theorem rowAt_new {w : World} (sh : Int) {f p q : Int} {g b : Nat} (T : TypeId) (hg : fnOf f = .func (.func g) #[] #[]) (hz : w.heap.size = b) :
    RowAt (w.alloc (.cells #[.int .u8 sh, .func (.func g) #[] #[], .int .i64 p, .int .i64 q] T)) b sh f p q := by
  subst hz
  exact ⟨by simp, by rw [hg]; simp, by simp, by simp, by simp, by simp⟩

set_option maxHeartbeats 4000000 in
theorem decode_nine (v : Value) (xs : List Int) (p q : Int) (w : World) (hr : Row .u8 w v xs) (hf : Fits .u8 xs) (hl : xs.length = 9)
    (p0 : -32768 ≤ p) (p1 : p ≤ 32767) (q0 : -32768 ≤ q) (q1 : q ≤ 32767) :
    Calls Try.prog 13 #[v, .int .i16 p, .int .i16 q] w fun e w' => ∃ r, e = .returned (.tuple #[r, .int .i64 0]) ∧ w'.ownsRow w.heap.size 23 1 r 16 ((samplesN xs p q 16).map (Value.int .i16)) ∧ Below w.heap.size w w' := by
  obtain ⟨i0, hi, hz0, hz1, hz2⟩ := info_parts Try.infoI16
  have hi' := Lib.hid hi
  have hz0' := Lib.hid hz0
  have hz1' := Lib.hid hz1
  have hz2' := Lib.hid hz2
  clear hi hz0 hz1 hz2
  rcases hr with ⟨_, _, _, rfl, _⟩ | ⟨b, o, cap, rfl, _, hc, hm, hx⟩
  · simp at hl
  · rw [hl] at hc hx ⊢
    have HX := Lib.hid hx
    have h0 : w.cell? ⟨b, o, none⟩ = some (.int .u8 (xs[0]?.getD 0)) := hx 0 (by omega)
    have hb0 := hf.u8 (i := 0) (by omega)
    have hfit := Lib.hid hf
    have HP := Lib.hid (fun k => dP_bounds xs p q p0 p1 q0 q1 k)
    have HL := Lib.hid hl
    obtain ⟨h, hh⟩ : ∃ h, xs[0]?.getD 0 = h := ⟨_, rfl⟩
    rw [hh] at h0 hb0
    have HH := Lib.hid hh
    clear hx hf hl hh
    have HN : Hid (∀ k : Nat, k < 16 → -8 ≤ nibAt xs k ∧ nibAt xs k ≤ 7) := by
      intro k hk
      have := hfit.out.u8 (i := 1 + k / 2) (by have := HL.out; omega)
      exact nibN_bounds _ _ this.1 this.2
    go_enter Try.func13, Try.ntmps13
    go_upto_region 4 with (go_at_call 16; refine (read_any _ (by omega) (by omega) _).mono ?_; rintro e w1 ⟨rfl, hb1⟩)
    obtain ⟨W2, hW2⟩ : ∃ W2, w1.alloc (.cells #[.int .u8 (h / 16), .int .u8 (h / 4 % 4), .bool (decide (h / 2 % 2 = 1)), .bool (decide (h % 2 = 1))] 34) = W2 := ⟨_, rfl⟩
    have g0 : W2.cell? ⟨w1.heap.size, 0, none⟩ = some (.int .u8 (h / 16)) := by rw [← hW2]; simp
    have g1 : W2.cell? ⟨w1.heap.size, 1, none⟩ = some (.int .u8 (h / 4 % 4)) := by rw [← hW2]; simp
    have gz : w1.heap.size < W2.heap.size := by rw [← hW2]; simp
    have gb : Below w.heap.size w W2 := by rw [← hW2]; exact hb1.alloc hb1.size _
    rw [hW2]
    clear hW2
    go_cut [9] (fun s9 wx => ∃ g, s9 = .pointer (some ⟨g, 0, none⟩) ∧ RowAt wx g (h / 16) (h / 4 % 4) p q ∧ W2.heap.size ≤ g ∧ Below W2.heap.size W2 wx)
    case first =>
      obtain ⟨gF, hgF⟩ : ∃ gF : Nat, fnOf (h / 4 % 4) = .func (.func gF) #[] #[] := ⟨_, rfl⟩
      have HG := Lib.hid hgF
      clear hgF
      have wp : IntKind.i64.wrap p = p := IntWalk.i64_in _ (by omega)
      have wq : IntKind.i64.wrap q = q := IntWalk.i64_in _ (by omega)
      go_region_with (go_at_call 28; refine (filters_any _).mono ?_; rintro e w' ⟨rfl, hcf, hsz, hb⟩; have k0 := (hb.cell (p := ⟨w1.heap.size, 0, none⟩) (by simp; omega)).trans g0; have k1 := (hb.cell (p := ⟨w1.heap.size, 1, none⟩) (by simp; omega)).trans g1; have k2 : w'.cell? ⟨W2.heap.size, (h / 4 % 4).toNat, none⟩ = some (.func (.func gF) #[] #[]) := (hcf (h / 4 % 4) (by omega) (by omega)).trans (congrArg some HG.out); have kz : w'.heap.size = W2.heap.size + 1 := hsz; have kb : Below W2.heap.size W2 w' := below_of_drew hb; clear hcf hsz hb)
      all_goals
        go_wp2_with fail
        go_meet
        exact ⟨_, rfl, rowAt_new _ _ HG.out kz, by omega, kb.alloc (by omega) _⟩
    case rest =>
      obtain ⟨g, rfl, hrow, hg, hbg⟩ := hcut
      go_wp2_with fail
      have hgw : g < wc.heap.size := World.block_lt_of_cell? wc _ hrow.c0
      have HR := Lib.hid hrow
      clear hrow
      go_loopw [10, 38] (fun v10 v38 wr => ∃ (i : Nat) (l : Value), i ≤ 8 ∧ v38 = .int .i64 i ∧ l = v10 ∧
        Hid (wr.ownsRow wc.heap.size 23 1 l (2 * i) ((samplesN xs p q (2 * i)).map (Value.int .i16))) ∧ Hid (RowAt wr g (h / 16) (h / 4 % 4) (dP xs p q (2 * i)).1 (dP xs p q (2 * i)).2) ∧ Below W2.heap.size W2 wr ∧ wc.heap.size ≤ wr.heap.size) (fun _ v38 _ => (8 - intOf v38).toNat)
      case atStart => exact ⟨0, _, by omega, rfl, rfl, World.ownsRow_nil _ _ _ _, HR, hbg, Nat.le_refl _⟩
      case round =>
        obtain ⟨i, l, hi8, rfl, rfl, hO, hR, hbr, hsz⟩ := hrel
        by_cases hlt : i < 8
        · have c2 := HX.out (1 + i) (by omega)
          have hx := hfit.out.u8 (i := 1 + i) (by have := HL.out; omega)
          obtain ⟨x, hxx⟩ : ∃ x, xs[1 + i]?.getD 0 = x := ⟨_, rfl⟩
          rw [hxx] at c2 hx
          have c3 : wr.cell? ⟨b, o + 1 + i, none⟩ = some (.int .u8 x) := by
            rw [show o + 1 + i = o + (1 + i) from by omega, hbr.cell (World.block_lt_of_cell? W2 _ (show W2.cell? ⟨b, o + (1 + i), none⟩ = some (.int .u8 x) from by rw [gb.cell (World.block_lt_of_cell? w _ c2)]; exact c2)), gb.cell (World.block_lt_of_cell? w _ c2)]
            exact c2
          have HXX := Lib.hid hxx
          clear c2 hxx
          have i1 : (i : Int) < 8 := by omega
          have i2 : 0 ≤ (i : Int) := by omega
          obtain ⟨NA, hNA⟩ : ∃ NA, nibN x 0 = NA := ⟨_, rfl⟩
          obtain ⟨NB, hNB⟩ : ∃ NB, nibN x 1 = NB := ⟨_, rfl⟩
          have bA := nibN_bounds x 0 hx.1 hx.2
          have bB := nibN_bounds x 1 hx.1 hx.2
          rw [hNA] at bA
          rw [hNB] at bB
          have eA : IntKind.i8.wrap x / 16 = NA := by rw [← hNA]; exact high_nibble x hx.1 hx.2
          have eB : IntKind.i8.wrap (x * 16 % 256) / 16 = NB := by rw [← hNB]; exact low_nibble x
          have HA : Hid (nibAt xs (2 * i) = NA) := by
            show _ = _
            rw [← hNA]; unfold nibAt; rw [show 1 + 2 * i / 2 = 1 + i from by omega, HXX.out]; unfold nibN; rw [show (((2 * i : Nat) : Int)) % 2 = 0 from by omega]; rfl
          have HB : Hid (nibAt xs (2 * i + 1) = NB) := by
            show _ = _
            rw [← hNB]; unfold nibAt; rw [show 1 + (2 * i + 1) / 2 = 1 + i from by omega, HXX.out]; unfold nibN; rw [show (((2 * i + 1 : Nat) : Int)) % 2 = 1 from by omega]; rfl
          clear hNA hNB
          go_wp2_with fail
          clear eA eB c3
          go_loopw [10, 50] (fun v10 v50 wq => ∃ (j : Int) (m : Nat) (l : Value), 0 ≤ j ∧ j ≤ 2 ∧ v50 = .int .i64 j ∧ Hid ((m : Int) = 2 * i + j) ∧ l = v10 ∧
            Hid (wq.ownsRow wc.heap.size 23 1 l m ((samplesN xs p q m).map (Value.int .i16))) ∧ Hid (RowAt wq g (h / 16) (h / 4 % 4) (dP xs p q m).1 (dP xs p q m).2) ∧ Below W2.heap.size W2 wq ∧ wc.heap.size ≤ wq.heap.size) (fun _ v50 _ => (2 - intOf v50).toNat)
          case atStart => exact ⟨0, 2 * i, _, by omega, by omega, rfl, (by show _ = _; omega), rfl, hO, hR, hbr, hsz⟩
          case round =>
            have ix0 : ∀ w, (Instr.index 61 (.agg #[.int .i8 NA, .int .i8 NB]) (.int .i64 0)).run Try.prog w = .ok (.int .i8 NA) w := fun _ => by kernel_rfl
            have ix1 : ∀ w, (Instr.index 61 (.agg #[.int .i8 NA, .int .i8 NB]) (.int .i64 1)).run Try.prog w = .ok (.int .i8 NB) w := fun _ => by kernel_rfl
            obtain ⟨j, m, l2, j0, j2, rfl, hm, rfl, hO2, hR2, hbq, hsq⟩ := hrel
            have hj : j = 0 ∨ j = 1 ∨ j = 2 := by omega
            have hmv := hm.out
            have HD := HP.out m
            have HD2 := HP.out (m + 1)
            obtain ⟨P1, hP1⟩ : ∃ P1, (dP xs p q m).1 = P1 := ⟨_, rfl⟩
            obtain ⟨Q1, hQ1⟩ : ∃ Q1, (dP xs p q m).2 = Q1 := ⟨_, rfl⟩
            obtain ⟨S1, hS1⟩ : ∃ S1, (dP xs p q (m + 1)).1 = S1 := ⟨_, rfl⟩
            have hq : (dP xs p q (m + 1)).2 = P1 := hP1
            have hR3 := hR2.out
            rw [hP1, hQ1] at HD hR3
            rw [hS1] at HD2
            have HS1 := Lib.hid hS1
            have HQ := Lib.hid hq
            have hs : sampleN (h / 16) (h / 4 % 4) (nibAt xs m) P1 Q1 = S1 := by
              rw [← hS1, ← hP1, ← hQ1, ← HH.out]; rfl
            have HS := Lib.hid hs
            have hRX := Lib.hid hR2.out
            clear hP1 hQ1 hS1 hq hs hR2
            have hRR := Lib.hid hR3
            clear hR3
            rcases hj with rfl | rfl | rfl
            · obtain rfl : m = 2 * i := by omega
              have hss := HS.out
              rw [HA.out] at hss
              have HSS := Lib.hid hss
              clear hss
              go_wp2_with fail
              go_at_call 30
              refine (sample_any g (h / 16) (h / 4 % 4) NA P1 Q1 _ hRR.out (by omega) (by omega) (by omega) (by omega) (by omega) (by omega) (by omega) (by omega)).mono ?_
              rintro e w2 ⟨rfl, n2, rfl⟩
              rw [HSS.out]
              go_wp2_with fail
              go_at_call 29
              refine (take_row g _ _ P1 Q1 S1 _ (hRR.out.drewN n2)).mono ?_
              rintro e w4 ⟨rfl, hrow4, hgr4, hsz4⟩
              have hgq : g < wr.heap.size := hRR.out.lt
              have hgr5 := grownBy_from_drewN hgr4
              have hO4 := Lib.hid (hO2.out.kept hgr5 (by
                cases hv : l2.ownBlock with
                | none => exact .inl rfl
                | some kk => exact .inr (by have := (hO2.out.lt kk hv).1; simp; omega)))
              have hb4 : Below W2.heap.size W2 w4 := hbq.grown hgr5 hbq.size (fun kk e => by cases e; omega)
              have hs4 : w4.heap.size = wr.heap.size := hsz4
              have hs5 : wc.heap.size ≤ w4.heap.size := by omega
              have c2 := hrow4.c2
              have HR4 := Lib.hid hrow4
              clear hrow4 hgr4 hsz4 hgr5 hO2 hs4 hmv
              go_wp2_with (at_builtin; refine wpList_append_own _ rfl _ _ 27 rfl wc.heap.size 23 i0 (.int .i16 0) 1 2 Try.underlying27 hi'.out hz0'.out hz1'.out hz2'.out rfl (by decide) _ _ _ rfl (hO4.out.alloc _) ⟨w4.heap.size, 0, none⟩ 1 1 [.int .i16 S1] rfl rfl ?c1 ?c2 ?c3 ?c4 ?c5 ?_)
              case c1 => exact cell_one_new _ _ _
              case c2 => simp [Value.oneCell']
              case c3 => unfold maxLen; omega
              case c4 => omega
              case c5 => simp; omega
              intro v' w5 hown' hgrow _
              have hlt6 : ∀ j, l2.ownBlock = some j → wc.heap.size ≤ j := fun j e => (hO4.out.lt j e).1
              have hb6 : Below W2.heap.size W2 w5 := (hb4.alloc hb4.size _).grown hgrow (by have := hb4.size; simp; omega) (fun j e => by have := hlt6 j e; have := hbg.size; omega)
              have hs6 : wc.heap.size ≤ w5.heap.size := by have := hgrow.size; simp at this; omega
              have hR6 := Lib.hid ((HR4.out.below ((Below.refl w4.heap.size w4).alloc (Nat.le_refl _) _) HR4.out.lt).grown hgrow (fun e => by have := hlt6 g e.symm; omega))
              have hO6 : Hid (w5.ownsRow wc.heap.size 23 1 v' ((2 * i) + 1) ((samplesN xs p q ((2 * i) + 1)).map (Value.int .i16))) := by
                rw [samplesN_succ, List.map_append, HS1.out]; exact hown'
              have hR7 : Hid (RowAt w5 g (h / 16) (h / 4 % 4) (dP xs p q ((2 * i) + 1)).1 (dP xs p q ((2 * i) + 1)).2) := by rw [HS1.out, HQ.out]; exact hR6
              clear hown' hgrow c2 hR6
              go_wp2
              go_roundw
              case rel => exact ⟨1, (2 * i) + 1, _, by omega, by omega, rfl, (by show _ = _; omega), rfl, hO6, hR7, hb6, hs6⟩
              case measure => simp [intOf]
            · obtain rfl : m = 2 * i + 1 := by omega
              have hss := HS.out
              rw [HB.out] at hss
              have HSS := Lib.hid hss
              clear hss
              go_wp2_with fail
              go_at_call 30
              refine (sample_any g (h / 16) (h / 4 % 4) NB P1 Q1 _ hRR.out (by omega) (by omega) (by omega) (by omega) (by omega) (by omega) (by omega) (by omega)).mono ?_
              rintro e w2 ⟨rfl, n2, rfl⟩
              rw [HSS.out]
              go_wp2_with fail
              go_at_call 29
              refine (take_row g _ _ P1 Q1 S1 _ (hRR.out.drewN n2)).mono ?_
              rintro e w4 ⟨rfl, hrow4, hgr4, hsz4⟩
              have hgq : g < wr.heap.size := hRR.out.lt
              have hgr5 := grownBy_from_drewN hgr4
              have hO4 := Lib.hid (hO2.out.kept hgr5 (by
                cases hv : l2.ownBlock with
                | none => exact .inl rfl
                | some kk => exact .inr (by have := (hO2.out.lt kk hv).1; simp; omega)))
              have hb4 : Below W2.heap.size W2 w4 := hbq.grown hgr5 hbq.size (fun kk e => by cases e; omega)
              have hs4 : w4.heap.size = wr.heap.size := hsz4
              have hs5 : wc.heap.size ≤ w4.heap.size := by omega
              have c2 := hrow4.c2
              have HR4 := Lib.hid hrow4
              clear hrow4 hgr4 hsz4 hgr5 hO2 hs4 hmv
              go_wp2_with (at_builtin; refine wpList_append_own _ rfl _ _ 27 rfl wc.heap.size 23 i0 (.int .i16 0) 1 2 Try.underlying27 hi'.out hz0'.out hz1'.out hz2'.out rfl (by decide) _ _ _ rfl (hO4.out.alloc _) ⟨w4.heap.size, 0, none⟩ 1 1 [.int .i16 S1] rfl rfl ?c1 ?c2 ?c3 ?c4 ?c5 ?_)
              case c1 => exact cell_one_new _ _ _
              case c2 => simp [Value.oneCell']
              case c3 => unfold maxLen; omega
              case c4 => omega
              case c5 => simp; omega
              intro v' w5 hown' hgrow _
              have hlt6 : ∀ j, l2.ownBlock = some j → wc.heap.size ≤ j := fun j e => (hO4.out.lt j e).1
              have hb6 : Below W2.heap.size W2 w5 := (hb4.alloc hb4.size _).grown hgrow (by have := hb4.size; simp; omega) (fun j e => by have := hlt6 j e; have := hbg.size; omega)
              have hs6 : wc.heap.size ≤ w5.heap.size := by have := hgrow.size; simp at this; omega
              have hR6 := Lib.hid ((HR4.out.below ((Below.refl w4.heap.size w4).alloc (Nat.le_refl _) _) HR4.out.lt).grown hgrow (fun e => by have := hlt6 g e.symm; omega))
              have hO6 : Hid (w5.ownsRow wc.heap.size 23 1 v' ((2 * i + 1) + 1) ((samplesN xs p q ((2 * i + 1) + 1)).map (Value.int .i16))) := by
                rw [samplesN_succ, List.map_append, HS1.out]; exact hown'
              have hR7 : Hid (RowAt w5 g (h / 16) (h / 4 % 4) (dP xs p q ((2 * i + 1) + 1)).1 (dP xs p q ((2 * i + 1) + 1)).2) := by rw [HS1.out, HQ.out]; exact hR6
              clear hown' hgrow c2 hR6
              go_wp2
              go_roundw
              case rel => exact ⟨2, (2 * i + 1) + 1, _, by omega, by omega, rfl, (by show _ = _; omega), rfl, hO6, hR7, hb6, hs6⟩
              case measure => simp [intOf]
            · obtain rfl : m = 2 * i + 2 := by omega
              clear hmv
              go_wp2
              go_roundw
              case rel => exact ⟨i + 1, _, by omega, by go_num, rfl, hO2, hRX, hbq, hsq⟩
              case measure => simp [intOf]; omega
        · obtain rfl : i = 8 := by omega
          have hfin := Lib.hid (ownsRow_base hO.out (show w.heap.size ≤ wc.heap.size from Nat.le_trans gb.size hbg.size))
          have hbf : Below w.heap.size w wr := below_step gb gb.size hbr
          clear hO
          go_wp2
          go_ret2
          exact ⟨_, rfl, hfin.out, hbf⟩

theorem decode_none (v : Value) (xs : List Int) (p q : Int) (w : World) (hr : Row .u8 w v xs) (hl : xs.length ≠ 9) :
    Calls Try.prog 13 #[v, .int .i16 p, .int .i16 q] w fun e w' => e = .returned (.tuple #[.slice none 0 0, .int .i64 2]) ∧ Below w.heap.size w w' := by
  obtain ⟨a, cap, rfl⟩ : ∃ a cap, v = .slice a xs.length cap := by rcases hr with ⟨a, cap, rfl, rfl, _⟩ | ⟨b, o, cap, rfl, _⟩ <;> exact ⟨_, _, rfl⟩
  have hne : ((xs.length : Int) != 9) = true := by rw [bne_iff_ne]; omega
  clear hr
  go_enter Try.func13, Try.ntmps13
  go_wp2
  go_ret2
  exact ⟨rfl, Below.refl _ _⟩

/-- What a block stands for: its samples and the error's number. -/
def decodedN (xs : List Int) (p q : Int) : List Int := if xs.length = 9 then samplesN xs p q 16 else []
def errN (xs : List Int) : Int := if xs.length = 9 then 0 else 2
theorem decode_any (v : Value) (xs : List Int) (p q : Int) (w : World) (hr : Row .u8 w v xs) (hf : Fits .u8 xs)
    (p0 : -32768 ≤ p) (p1 : p ≤ 32767) (q0 : -32768 ≤ q) (q1 : q ≤ 32767) :
    Calls Try.prog 13 #[v, .int .i16 p, .int .i16 q] w fun e w' => ∃ r, e = .returned (.tuple #[r, .int .i64 (errN xs)]) ∧ w'.ownsRow w.heap.size 23 1 r (decodedN xs p q).length ((decodedN xs p q).map (Value.int .i16)) ∧ Below w.heap.size w w' := by
  by_cases hl : xs.length = 9
  · have := decode_nine v xs p q w hr hf hl p0 p1 q0 q1
    rwa [show decodedN xs p q = samplesN xs p q 16 from if_pos hl, show errN xs = 0 from if_pos hl, samplesN_length]
  · rw [show decodedN xs p q = [] from if_neg hl, show errN xs = 2 from if_neg hl]
    exact (decode_none v xs p q w hr hl).mono fun e w' ⟨he, hb⟩ => ⟨_, he, World.ownsRow_nil _ _ _ _, hb⟩
theorem refDecode_any (v : Value) (xs : List Int) (p q : Int) (w : World) (hr : Row .u8 w v xs) (hf : Fits .u8 xs)
    (p0 : -32768 ≤ p) (p1 : p ≤ 32767) (q0 : -32768 ≤ q) (q1 : q ≤ 32767) :
    Calls Try.prog 12 #[v, .int .i16 p, .int .i16 q] w fun e w' => ∃ r, e = .returned (.tuple #[r, .int .i64 (errN xs)]) ∧ w'.ownsRow w.heap.size 23 1 r (decodedN xs p q).length ((decodedN xs p q).map (Value.int .i16)) ∧ Below w.heap.size w w' := by
  by_cases hl : xs.length = 9
  · have := refDecode_nine v xs p q w hr hf hl p0 p1 q0 q1
    rwa [show decodedN xs p q = samplesN xs p q 16 from if_pos hl, show errN xs = 0 from if_pos hl, samplesN_length]
  · rw [show decodedN xs p q = [] from if_neg hl, show errN xs = 2 from if_neg hl]
    exact (refDecode_none v xs p q w hr hl).mono fun e w' ⟨he, hb⟩ => ⟨_, he, World.ownsRow_nil _ _ _ _, hb⟩
end Go.Proofs.Ytpmmnjmlnjdkjaa
