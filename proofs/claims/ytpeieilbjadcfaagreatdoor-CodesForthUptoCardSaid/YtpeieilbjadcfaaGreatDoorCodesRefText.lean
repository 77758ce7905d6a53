/- The text of an instruction: the document's Text. -/
import Derived.Test.YtpeieilbjadcfaaGreatDoorProg
import Derived.Test.YtpeieilbjadcfaaGreatDoorCodesRefTold
import Derived.Deep.RegionHeld3
namespace Go.Proofs.YtpeieilbjadcfaaGreatDoor
open Go.RowKit
set_option linter.unusedVariables false
set_option linter.unusedSimpArgs false

/-- The document's operand at a mode. -/
theorem refTold_walk (c : Int) (s : ByteArray) (m u wd pc n x : Nat) (hpc : pc < 65536) (hm : m ≤ 25) (hm0 : m ≠ 0) (hn3 : n ≤ 3) (hx : x < 16777216) (w : World) :
    Calls Tryz.prog 35 #[.agg #[.int .u8 c, .string s, .int .u8 m, .int .u8 u, .int .u8 wd], .int .i64 x, .int .i64 n, .int .i64 pc] w fun e w' => e = .returned (.string (bytesB (toldL m n x pc))) ∧ Below w.heap.size w w' := by
  by_cases h1 : m = 1
  · subst h1; exact refTold_A c s u wd pc n x hpc hn3 hx w
  by_cases h2 : m = 2
  · subst h2; exact refTold_imm c s u wd pc n x hpc hn3 hx w
  by_cases h3 : m = 3
  · subst h3; exact refTold_rel c s u wd pc n x hpc hn3 hx w
  by_cases h4 : m = 4
  · subst h4; exact refTold_long c s u wd pc n x hpc hn3 hx w
  by_cases h23 : m = 23
  · subst h23; exact refTold_move c s u wd pc n x hpc hn3 hx w
  by_cases h24 : m = 24
  · subst h24; exact refTold_sig c s u wd pc n x hpc hn3 hx w
  by_cases h25 : m = 25
  · subst h25; exact refTold_word c s u wd pc n x hpc hn3 hx w
  exact refTold_rest c s m u wd pc n x hpc hn3 hx w (by omega)
theorem leN_small (ys : List Int) (hf : Fits .u8 ys) (h : ys.length ≤ 3) (j : Nat) : 0 ≤ leN (ys.drop j) ∧ leN (ys.drop j) < 16777216 := by
  have h1 := leN_bounds (ys.drop j) (fun b hb => bounds_u8 (hf b (List.mem_of_mem_drop hb)))
  rcases (show (ys.drop j).length = 0 ∨ (ys.drop j).length = 1 ∨ (ys.drop j).length = 2 ∨ (ys.drop j).length = 3 by rw [List.length_drop]; omega) with h | h | h | h
  all_goals
    rw [h] at h1
    omega

set_option maxRecDepth 100000 in
set_option maxHeartbeats 2000000 in
theorem refText_walk (v : Value) (xs : List Int) (pc p : Nat) (hpc : pc < 65536) (hp : p < 256) (w : World) (hr : Row .u8 w v xs) (hf : Fits .u8 xs) :
    Calls Tryz.prog 18 #[v, .int .u16 pc, .int .u8 p] w fun e w' => e = .returned (textV xs pc p) ∧ Below w.heap.size w w' := by
  rcases hr with ⟨a, cap, rfl, rfl, _⟩ | ⟨b, o, cap, rfl, h0, hlc, hcm, hcell⟩
  · have HE := Lib.hid (textV_none [] pc p (.inl rfl))
    clear hf
    go_enter Tryz.func18, Tryz.ntmps18
    go_wp2_with fail
    go_ret3
    exact ⟨by rw [HE.out]; rfl, Below.refl _ _⟩
  · obtain ⟨n, hn⟩ : ∃ n, xs.length = n := ⟨_, rfl⟩
    have hb0 := hf.u8 (i := 0) h0
    have hc0 := hcell 0 h0
    obtain ⟨k, hk⟩ : ∃ k : Nat, xs[0]?.getD 0 = (k : Int) := ⟨(xs[0]?.getD 0).toNat, by omega⟩
    rw [hk] at hb0 hc0
    rw [Nat.add_zero] at hc0
    have hk256 : k < 256 := by omega
    have HN := Lib.hid (textV_none xs pc p)
    have HS := Lib.hid (textV_some xs pc p)
    rw [hk, Int.toNat_natCast, hn] at HN HS
    rw [hn] at h0 hlc hcell ⊢
    have h0i : (0 : Int) < (n : Int) := by omega
    have e0 : ((n : Int) == 0) = false := by rw [beq_eq_false_iff_ne]; omega
    have HV := Lib.hid (show codeV k = .agg #[.int .u8 k, .string (nameB k), .int .u8 (modeN k), .int .u8 (useN k), .int .u8 (widthN k)] from rfl)
    have HM := Lib.hid (tab_lims k hk256).2.2.1
    have HZ := Lib.hid (tab_lims k hk256).1
    have HO := Lib.hid (show opK k p = opN (modeN k) (widthN k) p from rfl)
    have hb := opN_le (modeN k) (widthN k) p
    have HCELL := Lib.hid hcell
    have HF := Lib.hid hf
    have HOF := Lib.hid (fun W => refOf_walk k hk256 W)
    have HSZ := Lib.hid (fun W => refSize_walk k p hk256 hp W)
    clear hcell hf hk
    obtain ⟨m, hm⟩ : ∃ m, modeN k = m := ⟨_, rfl⟩
    obtain ⟨u, hu⟩ : ∃ m, useN k = m := ⟨_, rfl⟩
    obtain ⟨wd, hwd⟩ : ∃ m, widthN k = m := ⟨_, rfl⟩
    obtain ⟨nm, hnm⟩ : ∃ m, nameB k = m := ⟨_, rfl⟩
    obtain ⟨q, hq⟩ : ∃ q, opK k p = q := ⟨_, rfl⟩
    rw [hm, hwd] at HO hb
    rw [hm] at HM
    rw [hnm] at HZ
    rw [hm, hu, hwd, hnm] at HV
    have HQ := Lib.hid (HO.out.symm.trans hq)
    rw [HQ.out] at hb
    rw [hq] at HN HS HSZ
    rw [HV.out] at HOF
    have HNAMES := Lib.hid (And.intro hm (And.intro hnm hq))
    have HOP := Lib.hid (fun W => refOperand_walk (k : Int) nm m u wd p HM.out hp W)
    rw [HQ.out] at HOP
    obtain ⟨n1, hn1⟩ : ∃ n1, 1 + q = n1 := ⟨_, rfl⟩
    have HQ1 := Lib.hid hn1
    rw [hn1] at HN HS HSZ
    clear hm hu hwd hnm hq HO HV hn1
    by_cases hsh : n < n1
    · have b1 : (n : Int) < (n1 : Int) := by omega
      have HE := Lib.hid (HN.out (.inr hsh))
      go_enter Tryz.func18, Tryz.ntmps18
      go_wp2_with (go_at_call 34; refine (HSZ.out _).mono ?_; rintro e w1 ⟨rfl, hb1⟩)
      go_ret3
      exact ⟨by rw [HE.out]; rfl, hb1⟩
    · have b1 : ¬ (n : Int) < (n1 : Int) := by omega
      have HE := Lib.hid (HS.out (by omega))
      clear HN HS
      go_enter Tryz.func18, Tryz.ntmps18
      go_upto_region 3 with (go_at_call 34; refine (HSZ.out _).mono ?_; rintro e w0 ⟨rfl, hb0w⟩)
      have hcw : w0.cell? ⟨b, o, none⟩ = some (.int .u8 k) := (hb0w.cell (World.block_lt_of_cell? w _ hc0)).trans hc0
      go_upto_region 4 with (go_at_call 15; refine (HOF.out _).mono ?_; rintro e w1 ⟨rfl, hb1⟩)
      obtain ⟨X, hX⟩ : ∃ X, w1.alloc (.cells #[.int .u8 k, .string nm, .int .u8 m, .int .u8 u, .int .u8 wd] 38) = X := ⟨_, rfl⟩
      obtain ⟨K, hK⟩ : ∃ K, w1.heap.size = K := ⟨_, rfl⟩
      have HX := Lib.hid (show TextS w K (.int .u8 k) (.string nm) (.int .u8 m) (.int .u8 u) (.int .u8 wd) X from ⟨by rw [← hX, ← hK]; refine ⟨?_, ?_, ?_, ?_, ?_, fun i => ?_⟩ <;> simp [go_sem], by rw [← hX]; exact hb0w.trans ((hb1.mono hb0w.size).alloc (Nat.le_trans hb0w.size hb1.size) _), by rw [← hX]; simp; omega⟩)
      rw [hX, hK]
      clear hX hK hb1 hb0w
      obtain ⟨g0, g1, g2, g3, g4, gf⟩ := HX.out.1
      clear gf
      go_upto_region 5 with (go_at_call 17; refine (HOP.out _).mono ?_; rintro e w2 ⟨rfl, hb2⟩)
      have HY := Lib.hid (HX.out.below hb2)
      clear g0 g1 g2 g3 g4 hb2 HX HOP HOF hcw hc0
      obtain ⟨ys, hys⟩ : ∃ ys, (xs.drop 1).take q = ys := ⟨_, rfl⟩
      rw [hys] at HE
      have hyl : ys.length = q := by have := HQ1.out; rw [← hys, List.length_take, List.length_drop]; omega
      have hyf : Fits .u8 ys := by rw [← hys]; exact fun y hy => HF.out y (List.mem_of_mem_drop (List.mem_of_mem_take hy))
      have HYF := Lib.hid hyf
      have HYC := Lib.hid (show ∀ j, j < q → w2.cell? ⟨b, o + (j + 1), none⟩ = some (.int .u8 (ys[j]?.getD 0)) from fun j hj => by
        have h10 := HQ1.out
        have hc := HCELL.out (j + 1) (by omega)
        rw [HY.out.2.1.cell (World.block_lt_of_cell? w _ hc), hc, ← hys, List.getElem?_take_of_lt hj, List.getElem?_drop, Nat.add_comm 1 j])
      have HLD := Lib.hid (leN_drop ys)
      have HLS := Lib.hid (leN_small ys hyf (by omega))
      rw [hyl] at HLD
      clear hys hyf
      have HQN := HQ1.out
      have HQN2 := Lib.hid HQ1.out
      clear HQN
      go_upto_region 7 with fail
      go_loopw [11, 12] (fun s11 s12 wr => ∃ (j : Nat) (y : Int), j ≤ q ∧ s11 = .int .i64 y ∧ s12 = .int .i64 (j : Int) ∧ wr = w2 ∧ Hid (y = leN (ys.drop j))) (fun _ s12 _ => (intOf s12).toNat)
      case atStart => exact ⟨q, 0, Nat.le_refl _, rfl, rfl, rfl, Lib.hid (by rw [← hyl, List.drop_length]; rfl)⟩
      case round =>
        obtain ⟨j, y, hj, rfl, rfl, rfl, HYY⟩ := hrel
        rcases j with _ | j
        · have b2 : ¬ (0 : Int) < ((0 : Nat) : Int) := by omega
          have hls := HLS.out 0
          have HY0 := Lib.hid (show y = leN ys from HYY.out)
          obtain ⟨y0, hy0⟩ : ∃ y0 : Nat, y = (y0 : Int) := ⟨y.toNat, by rw [HY0.out]; rw [List.drop_zero] at hls; omega⟩
          have hy24 : y0 < 16777216 := by rw [List.drop_zero, ← HY0.out, hy0] at hls; omega
          subst hy0
          rw [← HY0.out, Int.toNat_natCast] at HE
          clear hls
          obtain ⟨g0, g1, g2, g3, g4, gf⟩ := HY.out.1
          clear gf
          by_cases hm0 : m = 0
          · have HE2 := Lib.hid (show textV xs pc p = .tuple #[.string nm, .int .i64 1, .bool true] by
              have hq0 : q = 0 := by have h := HQ.out; rw [hm0] at h; simpa [opN] using h.symm
              rw [HE.out, textB, HNAMES.out.1, if_pos hm0, HNAMES.out.2.1, ← HQN2.out, hq0]; rfl)
            have e1 : ((m : Int) == 0) = true := by rw [hm0]; rfl
            clear hm0
            go_wp2_with fail
            go_ret3
            exact ⟨by rw [HE2.out]; rfl, HY.out.2.1⟩
          · have e1 : ((m : Int) == 0) = false := by rw [beq_eq_false_iff_ne]; omega
            have HTX := Lib.hid (show textV xs pc p = .tuple #[.string (nm ++ ⟨#[32]⟩ ++ bytesB (toldL m q y0 pc)), .int .i64 (n1 : Int), .bool true] by
              rw [HE.out, textB, HNAMES.out.1, if_neg hm0, HNAMES.out.2.1]
              have : bytesB (nm.data.toList ++ 32 :: toldL m q y0 pc) = nm ++ ⟨#[32]⟩ ++ bytesB (toldL m q y0 pc) := by
                rw [show nm ++ (⟨#[32]⟩ : ByteArray) = bytesB (nm.data.toList ++ [32]) by rw [← bytesB_append, bytesB_list]; rfl, bytesB_append, List.append_assoc]; rfl
              rw [this])
            have hTL : (toldL m q y0 pc).length ≤ 100 := toldL_length m q y0 pc HM.out hb
            have HTD := Lib.hid (fun W (hW : TextS w K (.int .u8 k) (.string nm) (.int .u8 m) (.int .u8 u) (.int .u8 wd) W) =>
              show Calls Tryz.prog 35 #[.agg #[.int .u8 k, .string nm, .int .u8 m, .int .u8 u, .int .u8 wd], .int .i64 y0, .int .i64 q, .int .i64 pc] W fun e w' => e = .returned (.string (bytesB (toldL m q y0 pc))) ∧ TextS w K (.int .u8 k) (.string nm) (.int .u8 m) (.int .u8 u) (.int .u8 wd) w' from
              (refTold_walk (k : Int) nm m u wd pc q y0 hpc HM.out hm0 hb hy24 W).mono fun e w' ⟨he, hbb⟩ => ⟨he, hW.below hbb⟩)
            obtain ⟨TB, hTB⟩ : ∃ TB, bytesB (toldL m q y0 pc) = TB := ⟨_, rfl⟩
            have hTBs : TB.size ≤ 100 := by rw [← hTB, bytesB_size]; exact hTL
            rw [hTB] at HTX HTD
            have i9 : IntKind.i64.wrap ((q : Int) + 1) = (n1 : Int) := by have h := HQN2.out; rw [IntWalk.i64_in _ (by omega)]; omega
            have z3 := HZ.out
            have q1 : ¬ 9223372036854775807 < 4 + TB.size := by omega
            have KD := Lib.hid (show TextS w K (.int .u8 k) (.string nm) (.int .u8 m) (.int .u8 u) (.int .u8 wd) wr.drew from HY.out.below (Below.refl _ _).drew)
            have d0 : wr.drew.cell? ⟨K, 0, none⟩ = some (.int .u8 k) := g0
            have d1 : wr.drew.cell? ⟨K, 1, none⟩ = some (.string nm) := g1
            have d2 : wr.drew.cell? ⟨K, 2, none⟩ = some (.int .u8 m) := g2
            have d3 : wr.drew.cell? ⟨K, 3, none⟩ = some (.int .u8 u) := g3
            have d4 : wr.drew.cell? ⟨K, 4, none⟩ = some (.int .u8 wd) := g4
            have i10 : IntKind.i64.wrap (pc : Int) = (pc : Int) := IntWalk.i64_in _ (by omega)
            clear hTB hTL
            go_upto_region 12 with fail
            go_region_held3 (fun w' => w'.cell? ⟨K, 0, none⟩ = some (.int .u8 k) ∧ w'.cell? ⟨K, 1, none⟩ = some (.string nm) ∧ w'.cell? ⟨K, 2, none⟩ = some (.int .u8 m) ∧ w'.cell? ⟨K, 3, none⟩ = some (.int .u8 u) ∧ w'.cell? ⟨K, 4, none⟩ = some (.int .u8 wd)) (first | (with_reducible exact ⟨g0, g1, g2, g3, g4⟩) | (with_reducible exact ⟨d0, d1, d2, d3, d4⟩) | (with_reducible exact ⟨c0, c1, c2, c3, c4⟩) | go_keep) (first | (go_at_call 35; refine Calls.mono (HTD.out _ (by with_reducible exact KD.out)) ?_; rintro e w3 ⟨rfl, Q⟩; have c0 := Q.1.1; have c1 := Q.1.2.1; have c2 := Q.1.2.2.1; have c3 := Q.1.2.2.2.1; have c4 := Q.1.2.2.2.2.1))
            all_goals
              go_wp2_with fail
              go_ret3
              exact ⟨by rw [HTX.out]; rfl, Q.2.1⟩
        · have b2 : (0 : Int) < ((j + 1 : Nat) : Int) := by omega
          have hc := HYC.out j (by omega)
          have hlq := HQN2.out
          have l1 : j + 1 < n := by omega
          have l2 : ((j + 1 : Nat) : Int) < (n : Int) := by omega
          have hls := HLS.out (j + 1)
          have hls0 := HLS.out j
          have hld := HLD.out j (by omega)
          rw [← HYY.out] at hls hld
          obtain ⟨z, hz⟩ : ∃ z, ys[j]?.getD 0 = z := ⟨_, rfl⟩
          rw [hz] at hc hld
          have hzb := (HYF.out).u8 (i := j) (by omega)
          rw [hz] at hzb
          have i7 : IntKind.i64.wrap z = z := IntWalk.i64_in _ (by omega)
          have i8 : IntKind.i64.wrap (256 * y) = 256 * y := IntWalk.i64_in _ (by omega)
          have i9 : IntKind.i64.wrap (256 * y + z) = 256 * y + z := IntWalk.i64_in _ (by omega)
          have HLN := Lib.hid (show 256 * y + z = leN (ys.drop j) by omega)
          clear hlq hls hls0 hld hz
          go_wp2_with fail
          go_roundw
          case rel => exact ⟨j, _, by omega, rfl, by simp, trivial, HLN⟩
          case measure => simp [intOf]
end Go.Proofs.YtpeieilbjadcfaaGreatDoor
