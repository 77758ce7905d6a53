/- CartSound: whatever bytes are, they are refused for one of the reasons that are named, or are a cartridge that may be: the law, walked. -/
import Derived.Test.YtjaeglllijafkaaDoorProg
import Derived.Test.YtjaeglllijafkaaDoorCartBlank
namespace Go.Proofs.YtjaeglllijafkaaDoor
open Go.RowKit
set_option linter.unusedVariables false
set_option linter.unusedSimpArgs false

set_option maxRecDepth 100000 in
set_option maxHeartbeats 4000000 in
theorem walk_sound (hread : ReadSays) (size by_ : Int) (pv : Value) (ps : List (Int × List Int)) (g : Int) (w : World) (hp : Patches w pv ps) (hpf : ∀ p ∈ ps, Fits .u8 p.2) (b0 : 0 ≤ by_) (b1 : by_ ≤ 255) :
    Calls Tryd.prog 6 #[.agg #[.int .i64 size, .int .u8 by_, pv], .int .i64 g] w fun e w' => e = .returned (.bool true) ∧ Below w.heap.size w w' := by
  have HBLK := Lib.hid (fun W => blank_walk hread W)
  have HP := Lib.hid hp
  have HFX := Lib.hid (imageN_fits size by_ hpf)
  have HLX := Lib.hid (imageN_length size by_ ps)
  have hle := sizeN_le size
  obtain ⟨xs, hxs⟩ : ∃ xs, imageN size by_ ps = xs := ⟨_, rfl⟩
  have HXS := Lib.hid hxs
  rw [hxs] at HFX HLX
  obtain ⟨n, hn⟩ : ∃ n, sizeN size = n := ⟨_, rfl⟩
  rw [hn] at hle HLX
  have HN := Lib.hid hn
  obtain ⟨i0, hi, hz0, hz1, hz2⟩ := info_parts Tryd.infoU8c
  have hi' := Lib.hid hi
  have hz0' := Lib.hid hz0
  have hz1' := Lib.hid hz1
  have hsl := sigN_le g
  have HG1 := Lib.hid (show g < 0 ∨ 9000 < g → sigN g = 8192 from fun h => if_pos h)
  have HG2 := Lib.hid (show ¬ (g < 0 ∨ 9000 < g) → (sigN g : Int) = g from fun h => by unfold sigN; rw [if_neg h]; omega)
  obtain ⟨q, hq⟩ : ∃ q, sigN g = q := ⟨_, rfl⟩
  rw [hq] at hsl HG1 HG2
  have HMK := Lib.hid (show i0.bytes * q ≤ 281474976710656 by rw [hz2]; omega)
  obtain ⟨ss, hss⟩ : ∃ ss : List Int, List.replicate q 0 = ss := ⟨_, rfl⟩
  have HMD := Lib.hid (show (madeCells (Value.int .u8 0).cells (q * 1)).toList = ss.map (Value.int .u8) by
    rw [← hss, Nat.mul_one, show (Value.int IntKind.u8 0).cells = #[Value.int .u8 0] from rfl, toList_madeCells_one]; simp)
  have HLS := Lib.hid (show ss.length = q by rw [← hss, List.length_replicate])
  have HYF := Lib.hid (tailN_fits HFX.out)
  have HYT := Lib.hid (tail_length xs)
  rw [HLX.out] at HYT
  have HRD := Lib.hid (fun a k a' k' W (h1 : Row .u8 W (.slice a n k) xs) (h2 : Row .u8 W (.slice a' q k') ss) => hread a n k a' q k' xs ss W h1 HLX.out HFX.out (by omega) h2 HLS.out (by omega))
  obtain ⟨ys, hys⟩ : ∃ ys, tailN xs = ys := ⟨_, rfl⟩
  rw [hys] at HYF HYT HRD
  have HSD := Lib.hid (fun h => @sound_of ys ss ((bestK_fits HYF.out rfl 3).rz.1) h)
  have HBD := Lib.hid (show ¬ readE ys ss.length = 0 → readC ys ss = noCartR ∧ (readE ys ss.length = 30 ∨ readE ys ss.length = 31 ∨ readE ys ss.length = 32 ∨ readE ys ss.length = 33 ∨ (readE ys ss.length = 34 ∧ q ≠ 8192)) from fun h => ⟨by unfold readC; rw [if_neg h], by rw [← HLS.out]; exact read_names ys _ h⟩)
  obtain ⟨er, her⟩ : ∃ er, readE ys ss.length = er := ⟨_, rfl⟩
  obtain ⟨C, hC⟩ : ∃ C, readC ys ss = C := ⟨_, rfl⟩
  simp only [her, hC] at HRD HSD HBD
  clear hp hpf hxs hn hi hz0 hz1 hz2 hq hread hss hys her hC
  go_enter Tryd.func6, Tryd.ntmps6
  go_upto_region 1 with fail
  obtain ⟨wB, hwB⟩ : ∃ wB, w.alloc (.cells #[.int .i64 size, .int .u8 by_, pv] 24) = wB := ⟨_, rfl⟩
  have p0 : wB.cell? ⟨w.heap.size, 0, none⟩ = some (.int .i64 size) := by rw [← hwB]; simp [go_sem]
  have p1 : wB.cell? ⟨w.heap.size, 1, none⟩ = some (.int .u8 by_) := by rw [← hwB]; simp [go_sem]
  have p2 : wB.cell? ⟨w.heap.size, 2, none⟩ = some pv := by rw [← hwB]; simp [go_sem]
  have HBB := Lib.hid (show Below w.heap.size w wB by rw [← hwB]; exact (Below.refl _ w).alloc (Nat.le_refl _) _)
  rw [hwB]
  clear hwB
  go_upto_region 2 with (go_at_call 7; refine (image_any size by_ pv ps wB (HP.out.below HBB.out) b0 b1).mono ?_; rintro e w1 ⟨r1, rfl, ho, hb⟩; rw [HXS.out, HN.out] at ho; obtain ⟨a1, k1, rfl⟩ := owns_sliced ho)
  have HR1 := Lib.hid (Row.owned ho).1
  have HB1 := Lib.hid (HBB.out.trans (hb.mono HBB.out.size))
  clear p0 p1 p2 HBB ho hb
  go_cut [20] (fun s20 wx => s20 = .bool (decide (g < 0 ∨ 9000 < g)) ∧ w1 = wx)
  case first =>
    by_cases hs : g < 0
    · have E := Lib.hid (show decide (g < 0 ∨ 9000 < g) = true from decide_eq_true (.inl hs))
      go_wp2_with fail
      go_meet
      exact ⟨by rw [E.out], rfl⟩
    · have E := Lib.hid (show decide (g < 0 ∨ 9000 < g) = decide (9000 < g) by rw [decide_eq_decide]; omega)
      go_wp2_with fail
      all_goals
        go_meet
        exact ⟨by rw [E.out], rfl⟩
  case rest =>
    obtain ⟨rfl, rfl⟩ := hcut
    go_upto_if 20 with fail
    go_cut [1] (fun s1 wx => s1 = .int .i64 (q : Int) ∧ w1 = wx)
    case first =>
      by_cases hs : g < 0 ∨ 9000 < g
      · have E := Lib.hid (HG1.out hs)
        rw [decide_eq_true hs]
        clear hs
        go_wp2_with fail
        go_meet
        exact ⟨by rw [E.out]; rfl, rfl⟩
      · have E := Lib.hid (HG2.out hs)
        rw [decide_eq_false hs]
        clear hs
        go_wp2_with fail
        go_meet
        exact ⟨by rw [E.out], rfl⟩
    case rest =>
      obtain ⟨rfl, rfl⟩ := hcut
      obtain ⟨l, ch, ram, ti, rs, fa, rom, sg⟩ := C
      unfold CartR.v at HRD
      simp only at HRD
      go_upto_region 5 with (first | (refine wpList_make_full _ rfl _ _ _ rfl w1.heap.size 5 i0 (.int .u8 0) 1 Tryd.underlying28 hi'.out hz0'.out hz1'.out .i64 .i64 _ _ q rfl rfl (by omega) (by omega) HMK.out (by unfold maxLen; omega) (Nat.le_refl _) ?_; intro w2 hown hgrow; rw [HMD.out] at hown; have HO2 := Lib.hid hown; have HB2 := Lib.hid (show Below w1.heap.size w1 w2 from (Below.refl w1.heap.size w1).grown hgrow (Nat.le_refl _) (fun k h => by cases h)); clear hown hgrow) | (go_at_call 14; refine (HRD.out a1 k1 _ _ _ (HR1.out.below HB2.out) (Row.owned HO2.out).1).mono ?_; rintro e w3 ⟨rv, sv, rfl, hr1, hr2, hb⟩; obtain ⟨ag, cg, rfl⟩ := owns_sliced hr1; obtain ⟨ah, chh, rfl⟩ := owns_sliced hr2))
      have ha := (Below.refl w3.heap.size w3).alloc (Nat.le_refl _) (.cells #[.int .u8 l, .int .u8 ch, .slice ag rom.length cg, .int .i64 ram, .string ti, .int .u16 rs, .bool fa, .slice ah sg.length chh] 36)
      have hb2 := hb.trans (ha.mono hb.size)
      have HCW := Lib.hid (cart_boxed w3 l ch (.slice ag rom.length cg) ram ti rs fa (.slice ah sg.length chh))
      have HWR := Lib.hid ((Row.owned hr1).1.below ha)
      have HB12 := Lib.hid (HB1.out.trans (HB2.out.mono HB1.out.size))
      have HB3 := Lib.hid (HB12.out.trans (hb2.mono HB12.out.size))
      have HZ3 := Lib.hid (show w3.heap.size < (w3.alloc (.cells #[.int .u8 l, .int .u8 ch, .slice ag rom.length cg, .int .i64 ram, .string ti, .int .u16 rs, .bool fa, .slice ah sg.length chh] 36)).heap.size by simp)
      obtain ⟨W3, hW3⟩ : ∃ W3, w3.alloc (.cells #[.int .u8 l, .int .u8 ch, .slice ag rom.length cg, .int .i64 ram, .string ti, .int .u16 rs, .bool fa, .slice ah sg.length chh] 36) = W3 := ⟨_, rfl⟩
      rw [hW3] at HCW HWR HB3 HZ3 ⊢
      obtain ⟨Z, hZ⟩ : ∃ Z, w3.heap.size = Z := ⟨_, rfl⟩
      rw [hZ] at HCW HZ3 ⊢
      clear ha hb hb2 hr1 hr2 hW3 hZ HRD HB12 HB2 HO2 HB1 HR1 HP HXS HN HG1 HG2 HMK HMD HFX HLX
      have x0 := HCW.out.c0
      have x1 := HCW.out.c1
      have x2 := HCW.out.c2
      have x3 := HCW.out.c3
      have x4 := HCW.out.c4
      have x5 := HCW.out.c5
      have x7 := HCW.out.c7
      by_cases h0 : er = 0
      case neg =>
        obtain ⟨hno, hwhy⟩ := HBD.out h0
        unfold noCartR at hno
        injection hno with n0 n1 n2 n3 n4 n5 n6 n7
        subst n0 n6
        have HW := Lib.hid hwhy
        have e0 : (er != 0) = true := by rw [bne_iff_ne]; exact h0
        clear hwhy h0 n1 n2 n3 n4 n5 n7 HSD HBD x1 x3 x4 x5 x7
        simp only [List.length_nil] at x2
        go_upto_region 6 with fail
        clear e0
        have HBL := Lib.hid (HBLK.out W3)
        rcases HW.out with rfl | rfl | rfl | rfl | ⟨rfl, hq⟩
        case _ =>
          go_wp2_with (go_at_call 18; refine HBL.out.mono ?_; rintro e w4 ⟨rfl, hb⟩; have x0 := (hb.cell (p := ⟨Z, 0, none⟩) HZ3.out).trans x0; have x2 := (hb.cell (p := ⟨Z, 2, none⟩) HZ3.out).trans x2; have HB4 := Lib.hid (HB3.out.trans (hb.mono HB3.out.size)); clear hb)
          go_ret
          exact ⟨rfl, HB4.out⟩
        case _ =>
          go_wp2_with (go_at_call 18; refine HBL.out.mono ?_; rintro e w4 ⟨rfl, hb⟩; have x0 := (hb.cell (p := ⟨Z, 0, none⟩) HZ3.out).trans x0; have x2 := (hb.cell (p := ⟨Z, 2, none⟩) HZ3.out).trans x2; have HB4 := Lib.hid (HB3.out.trans (hb.mono HB3.out.size)); clear hb)
          go_ret
          exact ⟨rfl, HB4.out⟩
        case _ =>
          go_wp2_with (go_at_call 18; refine HBL.out.mono ?_; rintro e w4 ⟨rfl, hb⟩; have x0 := (hb.cell (p := ⟨Z, 0, none⟩) HZ3.out).trans x0; have x2 := (hb.cell (p := ⟨Z, 2, none⟩) HZ3.out).trans x2; have HB4 := Lib.hid (HB3.out.trans (hb.mono HB3.out.size)); clear hb)
          go_ret
          exact ⟨rfl, HB4.out⟩
        case _ =>
          go_wp2_with (go_at_call 18; refine HBL.out.mono ?_; rintro e w4 ⟨rfl, hb⟩; have x0 := (hb.cell (p := ⟨Z, 0, none⟩) HZ3.out).trans x0; have x2 := (hb.cell (p := ⟨Z, 2, none⟩) HZ3.out).trans x2; have HB4 := Lib.hid (HB3.out.trans (hb.mono HB3.out.size)); clear hb)
          go_ret
          exact ⟨rfl, HB4.out⟩
        case _ =>
          have eq1 : ((q : Int) != 8192) = true := by rw [bne_iff_ne]; omega
          clear hq
          go_wp2_with (go_at_call 18; refine HBL.out.mono ?_; rintro e w4 ⟨rfl, hb⟩; have x0 := (hb.cell (p := ⟨Z, 0, none⟩) HZ3.out).trans x0; have x2 := (hb.cell (p := ⟨Z, 2, none⟩) HZ3.out).trans x2; have HB4 := Lib.hid (HB3.out.trans (hb.mono HB3.out.size)); clear hb)
          go_ret
          exact ⟨rfl, HB4.out⟩
      case pos =>
        subst h0
        have hs := HSD.out rfl
        obtain ⟨l1, l3, c0, c2, m0, m1, hrom, ts, hrz, hlk, hti, hre, htop, hsg⟩ := hs
        simp only at l1 l3 c0 c2 hrom ts hrz hlk hti hre htop hsg
        subst hrom
        obtain ⟨m, hm⟩ : ∃ m, rom.length = m := ⟨_, rfl⟩
        rw [hm] at m0 m1 hlk hti hre htop HWR HCW x2 HYT ⊢
        have HMM := Lib.hid hm
        have HLK := Lib.hid (fun a c l' W (hr : Row .u8 W (.slice a m c) rom) (h0 : 0 ≤ l') (h1 : l' ≤ 255) => look_any a m c l' rom W hr HMM.out HYF.out (by omega) h0 h1)
        have HKF := Lib.hid (fun l' => lookN_fits HYF.out HMM.out l')
        have HLE := Lib.hid hlk
        have HTOP := Lib.hid htop
        have HSG := Lib.hid hsg
        obtain ⟨sl, hsl⟩ : ∃ sl, sg.length = sl := ⟨_, rfl⟩
        rw [hsl] at x7 HSG HCW
        have HKL := HLK.out
        obtain ⟨K, hK⟩ : ∃ K, lookN rom m l = K := ⟨_, rfl⟩
        have HKK := Lib.hid hK
        rw [hK] at hti hre HTOP
        have HSK := Lib.hid (fun W => score_walk K l W (by rw [← HKK.out]; exact HKF.out l) (by omega) (by omega))
        have HSB := Lib.hid (scoreN_bounds K l)
        obtain ⟨s2, hs2⟩ : ∃ s2, scoreN K l = s2 := ⟨_, rfl⟩
        rw [hs2] at HSK HTOP HSB
        have HL0 := Lib.hid (fun a c W hr => HLK.out a c l W hr (by omega) (by omega))
        rw [hlk, hK] at HL0
        obtain ⟨ti2, mo, ki, rz, ck, su, re⟩ := K
        simp only at hti hre
        subst hti hre
        unfold Card.v at HL0 HSK
        simp only at HL0 HSK
        have ez : (sizeR ram == 255) = false := by rw [beq_eq_false_iff_ne]; exact hrz
        have i1 : (m : Int) ≥ 32768 := by omega
        have i2 : (m : Int) ≤ 8388608 := by omega
        have i3 : (ti2.size : Int) ≤ 21 := by omega
        have HM8 := Lib.hid (show (m : Int) ≤ 8388608 by omega)
        clear hm hsl hK hs2 hlk htop hsg hrz HSD HBD HBLK m0 m1 ts HKL
        go_upto_region 7 with fail
        go_upto_region 9 with (go_at_call 20; refine (size_walk _ _).mono ?_; rintro e wz ⟨rfl, hwz⟩; obtain rfl : W3 = wz := hwz.symm)
        clear ez i1 i2 i3
        go_upto_region 10 with (go_at_call 9; refine (HL0.out _ _ _ HWR.out).mono ?_; rintro e w4 ⟨rfl, hb⟩)
        have ha := (Below.refl w4.heap.size w4).alloc (Nat.le_refl _) (.cells #[.string ti2, .int .u8 mo, .int .u8 ki, .int .u8 rz, .int .u16 ck, .int .u16 su, .int .u16 re] 27)
        have hb2 := hb.trans (ha.mono hb.size)
        have HC4 := Lib.hid (HCW.out.keep hb2 HZ3.out)
        have HR4 := Lib.hid (HWR.out.below hb2)
        have HB4 := Lib.hid (HB3.out.trans (hb2.mono HB3.out.size))
        have HE4 := Lib.hid (card_boxed w4 ⟨ti2, mo, ki, rz, ck, su, re⟩)
        have HZ4 := Lib.hid (show Z < w4.heap.size ∧ w4.heap.size < (w4.alloc (.cells #[.string ti2, .int .u8 mo, .int .u8 ki, .int .u8 rz, .int .u16 ck, .int .u16 su, .int .u16 re] 27)).heap.size from ⟨Nat.lt_of_lt_of_le HZ3.out hb.size, by simp⟩)
        obtain ⟨W4, hW4⟩ : ∃ W4, w4.alloc (.cells #[.string ti2, .int .u8 mo, .int .u8 ki, .int .u8 rz, .int .u16 ck, .int .u16 su, .int .u16 re] 27) = W4 := ⟨_, rfl⟩
        simp only at HE4
        rw [hW4] at HC4 HR4 HB4 HE4 HZ4 ⊢
        obtain ⟨P, hP⟩ : ∃ P, w4.heap.size = P := ⟨_, rfl⟩
        rw [hP] at HE4 HZ4 ⊢
        clear ha hb hb2 hW4 hP x0 x1 x2 x3 x4 x5 x7 HCW HWR HB3 HZ3 HL0
        have x4 := HC4.out.c4
        have x5 := HC4.out.c5
        have e0 := HE4.out.c0
        have e6 := HE4.out.c6
        simp only at e0 e6
        go_upto_region 12 with fail
        clear x4 x5 e0 e6
        go_upto_region 13 with fail
        go_loopw [10] (fun s10 wr => ∃ k : Nat, 1 ≤ k ∧ k ≤ 4 ∧ s10 = .int .u8 (k : Int) ∧ Hid (Below W4.heap.size W4 wr)) (fun s10 _ => 4 - (intOf s10).toNat)
        case atStart => exact ⟨1, Nat.le_refl _, by omega, rfl, Lib.hid (Below.refl _ _)⟩
        case round =>
          obtain ⟨k, hk1, hk4, rfl, hB⟩ := hrel
          by_cases hk : k < 4
          · have HLC := Lib.hid (show lookE m k = 5 ∨ lookE m k = 0 by
              rcases lookE_cases m k (by omega) (by omega) with ⟨h, -⟩ | ⟨-, h⟩
              · omega
              · exact h)
            have HTP := Lib.hid (HTOP.out k hk1 (by omega))
            have HK := Lib.hid (HLK.out ag cg k wr (HR4.out.below hB.out) (by omega) (by omega))
            have HS1 := Lib.hid (fun W => score_walk (lookN rom m k) k W (HKF.out k) (by omega) (by omega))
            have HSB1 := scoreN_bounds (lookN rom m k) k
            have hsb := HSB.out
            obtain ⟨er, her⟩ : ∃ er, lookE m k = er := ⟨_, rfl⟩
            rw [her] at HK HTP HLC
            obtain ⟨s1, hs1⟩ : ∃ s1, scoreN (lookN rom m k) k = s1 := ⟨_, rfl⟩
            rw [hs1] at HS1 HTP HSB1
            obtain ⟨K, hK⟩ : ∃ K, lookN rom m k = K := ⟨_, rfl⟩
            rw [hK] at HK HS1
            clear her hs1 hK
            obtain ⟨ti3, mo3, ki3, rz3, ck3, su3, re3⟩ := K
            unfold Card.v at HK HS1
            simp only at HK HS1
            have xc2 := (HC4.out.keep hB.out (Nat.lt_trans HZ4.out.1 HZ4.out.2)).c2
            have i1 : (k : Int) < 4 := by omega
            go_upto_region 16 with (go_at_call 9; refine HK.out.mono ?_; rintro e w5 ⟨rfl, hb⟩)
            have ha := (Below.refl w5.heap.size w5).alloc (Nat.le_refl _) (.cells #[.string ti3, .int .u8 mo3, .int .u8 ki3, .int .u8 rz3, .int .u16 ck3, .int .u16 su3, .int .u16 re3] 27)
            have hb2 := hb.trans (ha.mono hb.size)
            have HB5 := Lib.hid (below_step hB.out hB.out.size hb2)
            have HE5 := Lib.hid (card_boxed w5 ⟨ti3, mo3, ki3, rz3, ck3, su3, re3⟩)
            have HZ5 := Lib.hid (show P < w5.heap.size ∧ w5.heap.size < (w5.alloc (.cells #[.string ti3, .int .u8 mo3, .int .u8 ki3, .int .u8 rz3, .int .u16 ck3, .int .u16 su3, .int .u16 re3] 27)).heap.size from ⟨Nat.lt_of_lt_of_le (Nat.lt_of_lt_of_le HZ4.out.2 hB.out.size) hb.size, by simp⟩)
            obtain ⟨W5, hW5⟩ : ∃ W5, w5.alloc (.cells #[.string ti3, .int .u8 mo3, .int .u8 ki3, .int .u8 rz3, .int .u16 ck3, .int .u16 su3, .int .u16 re3] 27) = W5 := ⟨_, rfl⟩
            simp only at HE5
            rw [hW5] at HB5 HE5 HZ5 ⊢
            obtain ⟨E, hE⟩ : ∃ E, w5.heap.size = E := ⟨_, rfl⟩
            rw [hE] at HE5 HZ5 ⊢
            clear ha hb hb2 hW5 hE hB HK xc2
            rcases HLC.out with he | he
            · subst he
              go_quiet (fail)
              go_wp2
              go_roundw
              case rel => exact ⟨k + 1, by omega, by omega, by go_num, Lib.hid (below_drewN HB5.out _)⟩
              case measure => simp [intOf]; omega
            · subst he
              have hle := HTP.out rfl
              have KS := Lib.hid (fun (W : World) (hW : Below W5.heap.size W5 W) => show (fun w' => w'.cell? ⟨E, 0, none⟩ = some (.string ti3) ∧ w'.cell? ⟨E, 1, none⟩ = some (.int .u8 mo3) ∧ w'.cell? ⟨E, 2, none⟩ = some (.int .u8 ki3) ∧ w'.cell? ⟨E, 3, none⟩ = some (.int .u8 rz3) ∧ w'.cell? ⟨E, 4, none⟩ = some (.int .u16 ck3) ∧ w'.cell? ⟨E, 5, none⟩ = some (.int .u16 su3) ∧ w'.cell? ⟨E, 6, none⟩ = some (.int .u16 re3) ∧ w'.cell? ⟨P, 0, none⟩ = some (.string ti2) ∧ w'.cell? ⟨P, 1, none⟩ = some (.int .u8 mo) ∧ w'.cell? ⟨P, 2, none⟩ = some (.int .u8 ki) ∧ w'.cell? ⟨P, 3, none⟩ = some (.int .u8 rz) ∧ w'.cell? ⟨P, 4, none⟩ = some (.int .u16 ck) ∧ w'.cell? ⟨P, 5, none⟩ = some (.int .u16 su) ∧ w'.cell? ⟨P, 6, none⟩ = some (.int .u16 re) ∧ w'.cell? ⟨Z, 0, none⟩ = some (.int .u8 l)) W from by
                have x1 := HE5.out.keep hW HZ5.out.2
                have x2 := HE4.out.keep (HB5.out.trans (hW.mono HB5.out.size)) HZ4.out.2
                have x3 := HC4.out.keep (HB5.out.trans (hW.mono HB5.out.size)) (Nat.lt_trans HZ4.out.1 HZ4.out.2)
                exact ⟨x1.c0, x1.c1, x1.c2, x1.c3, x1.c4, x1.c5, x1.c6, x2.c0, x2.c1, x2.c2, x2.c3, x2.c4, x2.c5, x2.c6, x3.c0⟩)
              have HW := Lib.hid (show Below W5.heap.size W5 W5.drew from (Below.refl _ _).drew)
              go_cut [149] (fun s149 wx => s149 = .bool (decide (s2 < s1)) ∧ Hid (Below W5.heap.size W5 wx))
              case first =>
                go_region_held3 (fun w' => w'.cell? ⟨E, 0, none⟩ = some (.string ti3) ∧ w'.cell? ⟨E, 1, none⟩ = some (.int .u8 mo3) ∧ w'.cell? ⟨E, 2, none⟩ = some (.int .u8 ki3) ∧ w'.cell? ⟨E, 3, none⟩ = some (.int .u8 rz3) ∧ w'.cell? ⟨E, 4, none⟩ = some (.int .u16 ck3) ∧ w'.cell? ⟨E, 5, none⟩ = some (.int .u16 su3) ∧ w'.cell? ⟨E, 6, none⟩ = some (.int .u16 re3) ∧ w'.cell? ⟨P, 0, none⟩ = some (.string ti2) ∧ w'.cell? ⟨P, 1, none⟩ = some (.int .u8 mo) ∧ w'.cell? ⟨P, 2, none⟩ = some (.int .u8 ki) ∧ w'.cell? ⟨P, 3, none⟩ = some (.int .u8 rz) ∧ w'.cell? ⟨P, 4, none⟩ = some (.int .u16 ck) ∧ w'.cell? ⟨P, 5, none⟩ = some (.int .u16 su) ∧ w'.cell? ⟨P, 6, none⟩ = some (.int .u16 re) ∧ w'.cell? ⟨Z, 0, none⟩ = some (.int .u8 l)) (with_reducible exact KS.out _ HW.out) (first | (go_at_call 10; first | ((with_reducible refine Calls.mono (HS1.out _) ?_); rintro e w' ⟨rfl, hb⟩; have HW := Lib.hid (below_step HW.out HW.out.size hb); clear hb) | ((with_reducible refine Calls.mono (HSK.out _) ?_); rintro e w' ⟨rfl, hb⟩; have HW := Lib.hid (below_step HW.out HW.out.size hb); clear hb)))
                go_wp2_with fail
                go_meet
                exact ⟨rfl, HW⟩
              case rest =>
                obtain ⟨rfl, hw⟩ := hcut
                have HB6 := Lib.hid (below_step HB5.out HB5.out.size hw.out)
                rw [decide_eq_false (show ¬ s2 < s1 by omega)]
                clear hle HSB1 hsb
                go_wp2
                go_roundw
                case rel => exact ⟨k + 1, by omega, by omega, by go_num, HB6⟩
                case measure => simp [intOf]; omega
          · obtain rfl : k = 4 := by omega
            have HC6 := Lib.hid (HC4.out.keep hB.out (Nat.lt_trans HZ4.out.1 HZ4.out.2))
            have HBF := Lib.hid (HB4.out.trans (hB.out.mono HB4.out.size))
            obtain ⟨wa, hwa⟩ : ∃ wa, wa = wr := ⟨_, rfl⟩
            rw [← hwa] at HC6 HBF ⊢
            clear hwa hB hk hk1 hk4
            have x1 := HC6.out.c1
            have x2 := HC6.out.c2
            have x7 := HC6.out.c7
            go_upto_region 18 with fail
            have im := HM8.out
            have HCS := Lib.hid (show ((ch == 1) = true ∧ ((sl : Int) == 8192) = true) ∨ ((ch == 1) = false ∧ ((sl : Int) == 8192) = false) by
              have := HSG.out
              by_cases hc : ch = 1
              · exact .inl ⟨by rw [beq_iff_eq]; exact hc, by rw [beq_iff_eq]; have := this.1 hc; omega⟩
              · refine .inr ⟨by rw [beq_eq_false_iff_ne]; exact hc, ?_⟩
                rw [beq_eq_false_iff_ne]
                intro h
                exact hc (this.2 (by omega)))
            clear HSG
            rcases HYT.out with hy | hy
            · obtain rfl : n = m := hy
              rcases HCS.out with ⟨t1, t2⟩ | ⟨t1, t2⟩
              · go_wp2_with fail
                go_ret
                exact ⟨rfl, HBF.out⟩
              · go_wp2_with fail
                go_ret
                exact ⟨rfl, HBF.out⟩
            · have t3 : ((n : Int) == (m : Int)) = false := by rw [beq_eq_false_iff_ne]; omega
              have t4 : ((n : Int) == (m : Int) + 512) = true := by rw [beq_iff_eq]; omega
              clear hy
              rcases HCS.out with ⟨t1, t2⟩ | ⟨t1, t2⟩
              · go_wp2_with fail
                go_ret
                exact ⟨rfl, HBF.out⟩
              · go_wp2_with fail
                go_ret
                exact ⟨rfl, HBF.out⟩
end Go.Proofs.YtjaeglllijafkaaDoor
