/- The program's bytes: those of a code such that they might have an operand's text. (Printed by gen_codesput.py.) -/
import Derived.Test.YtpeieilbjadcfaaGreatDoorProg
import Derived.Test.YtpeieilbjadcfaaGreatDoorCodesNums
import Derived.Test.YtpeieilbjadcfaaGreatDoorCodesText
import Derived.Test.YtpeieilbjadcfaaGreatDoorCodesCopy
import Derived.Test.YtpeieilbjadcfaaGreatDoorCodesSize
namespace Go.Proofs.YtpeieilbjadcfaaGreatDoor
open Go.RowKit Go.Shelf
set_option linter.unusedVariables false
set_option linter.unusedSimpArgs false

theorem foldJ_lt (ps : List (List UInt8)) : ∀ x, x < 4294967296 → ps.foldl joinN x < 4294967296 := by
  induction ps with
  | nil => intro x h; exact h
  | cons p r ih => intro x h; exact ih _ (join_lt x p)
theorem numsN_lt (l : List UInt8) : numsN l < 4294967296 := foldJ_lt _ 0 (by decide)
theorem leB_snoc (n : Nat) : ∀ x, leB x (n + 1) = leB x n ++ [((x / 256 ^ n % 256 : Nat) : Int)] := by
  induction n with
  | zero => intro x; simp [leB]
  | succ n ih =>
    intro x
    rw [leB, ih, leB, List.cons_append, Nat.div_div_eq_div_mul, show 256 * 256 ^ n = 256 ^ (n + 1) by rw [Nat.pow_succ, Nat.mul_comm]]
theorem and_low (u : Nat) (h : u < 4294967296) : bits .and .u32 (u : Int) 255 = ((u % 256 : Nat) : Int) := by
  have h2 := bits_mask .u32 32 (by decide) (fun n h0 h1 => by rw [IntKind.wrap_u32]; omega) 8 (by decide) (u : Int) (by omega) (by omega)
  have e : ((2 : Int) ^ 8 - 1) = 255 := by decide
  rw [e] at h2
  rw [h2]; rfl
theorem and_high (c : Nat) (h : c < 16777216) : bits .and .u32 ((c * 256 : Nat) : Int) 65280 = ((c % 256 * 256 : Nat) : Int) := by
  have h2 := (bits_nat .u32 32 (by decide) (fun n h0 h1 => by rw [IntKind.wrap_u32]; omega) (c * 256) 65280 (by omega) (by decide)).1
  rw [show ((65280 : Int)) = ((65280 : Nat) : Int) from rfl, h2]
  congr 1
  have e1 : c * 256 = c <<< 8 := by rw [Nat.shiftLeft_eq]
  have e2 : (65280 : Nat) = 255 <<< 8 := rfl
  rw [e1, e2, ← Nat.shiftLeft_and_distrib, show (255 : Nat) = 2 ^ 8 - 1 from rfl, Nat.and_two_pow_sub_one_eq_mod, Nat.shiftLeft_eq]
theorem or_bytes (u v : Nat) (hu : u < 256) (hv : v < 256) : bits .or .u32 (u : Int) ((v * 256 : Nat) : Int) = ((u + v * 256 : Nat) : Int) := by
  have h2 := (bits_nat .u32 32 (by decide) (fun n h0 h1 => by rw [IntKind.wrap_u32]; omega) u (v * 256) (by omega) (by omega)).2
  rw [h2, Nat.or_comm, show v * 256 = 2 ^ 8 * v by omega, ← Nat.two_pow_add_eq_or_of_lt (show u < 2 ^ 8 from hu)]
  congr 1
  omega
set_option maxRecDepth 100000 in
set_option maxHeartbeats 4000000 in
theorem bytes_walk (k p pc : Nat) (hk : k < 256) (hp : p < 256) (hpc : pc < 65536) (s : ByteArray) (hs : s.size ≤ 1048576) (w : World) (hE : LaidE w) :
    Calls Tryz.prog 23 #[codeV k, .string s, .int .u16 pc, .int .u8 p] w fun e w' => ∃ v, e = .returned v ∧ w'.ownsRow w.heap.size 5 1 v (1 + opK k p) (((k : Int) :: progO k s.data.toList pc p).map (Value.int .u8)) ∧ Below w.heap.size w w' := by
  obtain ⟨i0, hi, hz0, hz1, hz2⟩ := info_parts Tryz.infoU8
  have hi' := Lib.hid hi
  have hz0' := Lib.hid hz0
  have hz1' := Lib.hid hz1
  have hz2' := Lib.hid hz2
  clear hi hz0 hz1 hz2
  have HV := Lib.hid (show codeV k = .agg #[.int .u8 k, .string (nameB k), .int .u8 (modeN k), .int .u8 (useN k), .int .u8 (widthN k)] from rfl)
  rw [HV.out]
  have HM := Lib.hid (mode_lim k hk)
  have hop := opN_of (modeN k) (widthN k) p HM.out
  have hb := opN_le (modeN k) (widthN k) p
  have HO := Lib.hid (show opN (modeN k) (widthN k) p = opK k p from rfl)
  have HPR := Lib.hid (show progO k s.data.toList pc p = leB (adjN (modeN k) (opK k p) (numsN s.data.toList) pc) (opK k p) from rfl)
  rw [HPR.out]
  have HNW := Lib.hid (fun W hW => numbers_walk s hs W hW)
  have hx32 := numsN_lt s.data.toList
  obtain ⟨x, hx⟩ : ∃ x, numsN s.data.toList = x := ⟨_, rfl⟩
  obtain ⟨m, hm⟩ : ∃ m, modeN k = m := ⟨_, rfl⟩
  obtain ⟨u, hu⟩ : ∃ m, useN k = m := ⟨_, rfl⟩
  obtain ⟨wd, hwd⟩ : ∃ m, widthN k = m := ⟨_, rfl⟩
  obtain ⟨nm, hnm⟩ : ∃ m, nameB k = m := ⟨_, rfl⟩
  obtain ⟨n, hn⟩ : ∃ n, opK k p = n := ⟨_, rfl⟩
  rw [hm] at HM
  rw [hm, hwd, hn] at HO
  rw [hm, hwd, HO.out] at hop hb
  rw [hx] at HNW hx32 ⊢
  rw [hm, hn, hu, hwd, hnm]
  have HOP := Lib.hid (fun W => operand_walk (k : Int) nm m u wd p HM.out hp W)
  rw [HO.out] at HOP
  have HLE := Lib.hid hE
  obtain ⟨Y, hY⟩ : ∃ Y, adjN m n x pc = Y := ⟨_, rfl⟩
  rw [hY]
  have hYd := hY
  unfold adjN at hYd
  have HSN := Lib.hid (fun j => leB_snoc j Y)
  clear hm hu hwd hnm hn hx hE hY HV HPR
  clear hop
  have hxi : ((x : Nat) : Int) < 4294967296 := by omega
  by_cases e3 : m = 3
  · subst e3
    rw [if_pos (.inl rfl)] at hYd
    have a0 : IntKind.u16.wrap (x : Int) = ((x % 65536 : Nat) : Int) := by rw [IntKind.wrap_u16]; omega
    obtain ⟨A0, hA0⟩ : ∃ A, x % 65536 = A := ⟨_, rfl⟩
    rw [hA0] at a0 hYd
    obtain ⟨A1, hA1⟩ : ∃ A, (A0 + 65536 - pc) % 65536 = A := ⟨_, rfl⟩
    have a1 : IntKind.u16.wrap ((A0 : Int) - (pc : Int)) = (A1 : Int) := by rw [IntKind.wrap_u16]; omega
    have a2 : IntKind.u16.wrap (n : Int) = (n : Int) := by rw [IntKind.wrap_u16]; omega
    obtain ⟨A2, hA2⟩ : ∃ A, (A1 + 65536 - n) % 65536 = A := ⟨_, rfl⟩
    have a3 : IntKind.u16.wrap ((A1 : Int) - (n : Int)) = (A2 : Int) := by rw [IntKind.wrap_u16]; omega
    have a4 : IntKind.u16.wrap ((A2 : Int) - 1) = (Y : Int) := by rw [IntKind.wrap_u16]; omega
    have hYlt : Y < 4294967296 := by omega
    have a5 : IntKind.u32.wrap (Y : Int) = (Y : Int) := by rw [IntKind.wrap_u32]; omega
    clear hA0 hA1 hA2 hYd

    go_enter Tryz.func23, Tryz.ntmps23
    go_upto_region 1 with fail
    obtain ⟨X, hX⟩ : ∃ X, w.alloc (.cells #[.int .u8 k, .string nm, .int .u8 3, .int .u8 u, .int .u8 wd] 38) = X := ⟨_, rfl⟩
    have HX := Lib.hid (show TextS w w.heap.size (.int .u8 k) (.string nm) (.int .u8 3) (.int .u8 u) (.int .u8 wd) X from ⟨by rw [← hX]; refine ⟨?_, ?_, ?_, ?_, ?_, fun i => ?_⟩ <;> simp [go_sem], by rw [← hX]; exact (Below.refl _ w).alloc (Nat.le_refl _) _, by rw [← hX]; simp⟩)
    rw [hX]
    clear hX
    obtain ⟨g0, g1, g2, g3, g4, gf⟩ := HX.out.1
    clear gf
    go_upto_region 2 with (go_at_call 26; refine (HOP.out _).mono ?_; rintro e w1 ⟨rfl, hb1⟩)
    have H1 := Lib.hid (HX.out.below hb1)
    clear g0 g1 g2 g3 g4 HX hb1
    go_upto_region 3 with (go_at_call 39; refine (HNW.out _ (HLE.out.below H1.out.2.1)).mono ?_; rintro e w2 ⟨rfl, hb2⟩)
    have H2 := Lib.hid (H1.out.below hb2)
    clear H1 hb2
    obtain ⟨g0, g1, g2, g3, g4, gf⟩ := H2.out.1
    clear gf g1 g3 g4
    go_upto_region 11 with fail
    obtain ⟨W3, hW3⟩ : ∃ W3, w2.alloc (.cells #[.int .u8 k] 5) = W3 := ⟨_, rfl⟩
    obtain ⟨G, hG⟩ : ∃ G, w2.heap.size = G := ⟨_, rfl⟩
    have HB3 := Lib.hid (show Below w.heap.size w W3 by rw [← hW3]; exact H2.out.2.1.alloc H2.out.2.1.size _)
    have HR3 := Lib.hid (show W3.ownsRow w.heap.size 5 1 (.slice (some ⟨G, 0, none⟩) 1 1) 1 (((k : Int) :: leB Y 0).map (Value.int .u8)) by
      refine ⟨rfl, .inr ⟨G, 1, #[.int .u8 k], rfl, by rw [← hG]; exact H2.out.2.1.size, by rw [← hW3, ← hG]; exact World.alloc_heap_new w2 _, Nat.le_refl _, by decide, rfl, rfl⟩⟩)
    rw [hW3, hG]
    clear hW3 hG H2 g0 g2 HOP HNW
    go_loopw [10, 11, 44] (fun s10 s11 s44 wr => ∃ (j Z : Nat) (la : Option Addr) (lc : Nat), j ≤ n ∧ s10 = .int .u32 (Z : Nat) ∧ s11 = .slice la (j + 1) lc ∧ s44 = .int .i64 j ∧ Z < 4294967296 ∧ Hid (Z = Y / 256 ^ j) ∧ Hid (wr.ownsRow w.heap.size 5 1 (.slice la (j + 1) lc) (j + 1) (((k : Int) :: leB Y j).map (Value.int .u8))) ∧ Hid (Below w.heap.size w wr)) (fun _ _ s44 _ => n - (intOf s44).toNat)
    case atStart => exact ⟨0, Y, _, 1, Nat.zero_le _, rfl, rfl, rfl, hYlt, Lib.hid (by simp), HR3, HB3⟩
    case round =>
      obtain ⟨j, Z, la, lc, hj, rfl, rfl, rfl, hZ, HZ, HR, HB⟩ := hrel
      clear HR3 HB3
      by_cases hlt : j < n
      · have i1 : (j : Int) < (n : Int) := by omega
        have i3 : IntKind.i64.wrap ((j : Int) + 1) = ((j + 1 : Nat) : Int) := by rw [IntWalk.i64_in _ (by omega)]; rfl
        obtain ⟨b, hbz⟩ : ∃ b, Z % 256 = b := ⟨_, rfl⟩
        obtain ⟨Z2, hZ2⟩ : ∃ Z2, Z / 256 = Z2 := ⟨_, rfl⟩
        have t1 : IntKind.u8.wrap (Z : Int) = (b : Int) := by rw [IntKind.wrap_u8]; omega
        have t2 : (Z : Int) / 256 = (Z2 : Int) := by omega
        have t3 : IntKind.u32.wrap (Z2 : Int) = (Z2 : Int) := by rw [IntKind.wrap_u32]; omega
        have HZN := Lib.hid (show Z2 = Y / 256 ^ (j + 1) ∧ Z2 < 4294967296 from ⟨by rw [← hZ2, HZ.out, Nat.div_div_eq_div_mul, Nat.pow_succ], by omega⟩)
        have HLB := Lib.hid (show leB Y (j + 1) = leB Y j ++ [((b : Nat) : Int)] by rw [HSN.out j, ← HZ.out, hbz])
        clear hbz hZ2
        have HRA := Lib.hid (ownsRow_below HR.out ((Below.refl wr.heap.size wr).alloc (Nat.le_refl _) (.cells #[.int .u8 (b : Nat)] 5)))
        go_wp2_with (at_builtin; refine wpList_append_own _ rfl _ _ 23 rfl w.heap.size 5 i0 (.int .u8 0) 1 1 Tryz.underlying23 hi'.out hz0'.out hz1'.out hz2'.out rfl (by decide) _ _ _ rfl HRA.out ⟨wr.heap.size, 0, none⟩ 1 1 [.int .u8 (b : Nat)] rfl rfl ?c1 ?c2 ?c3 ?c4 ?c5 ?_)
        case c1 =>
          intro j u hj
          rcases j with _ | j
          · have : u = .int .u8 (b : Nat) := by simpa using hj.symm
            rw [this]; simp [go_sem]
          · simp at hj
        case c2 => simp [Value.oneCell']
        case c3 => unfold maxLen; omega
        case c4 => omega
        case c5 => have := HB.out.size; simp; omega
        intro v' w3 hown' hgrow _
        obtain ⟨g', cap', rfl⟩ : ∃ g' cap', v' = .slice (some ⟨g', 0, none⟩) (j + 1 + 1) cap' := ownsRow_succ hown'
        have hnr : ∀ i, some i = (Value.slice la (j + 1) lc).ownBlock → w.heap.size ≤ i := fun i e => by
          rcases HRA.out.2 with ⟨e2, _⟩ | ⟨g, c, cur, e2, h1, h2, _⟩
          · rw [e2] at e; simp [Value.ownBlock] at e
          · rw [e2] at e
            obtain rfl : i = g := by simpa [Value.ownBlock] using e
            exact h1
        have HBN := Lib.hid (show Below w.heap.size w w3 from (HB.out.alloc HB.out.size (.cells #[.int .u8 (b : Nat)] 5)).grown hgrow (by have := HB.out.size; simp; omega) (fun i e => hnr i e.symm))
        have HRN := Lib.hid hown'
        clear hown' hgrow hnr
        go_wp2
        go_roundw
        case rel => exact ⟨j + 1, Z2, _, _, hlt, rfl, rfl, by go_num, HZN.out.2, Lib.hid HZN.out.1, Lib.hid (by rw [HLB.out, ← List.cons_append, List.map_append]; exact HRN.out), HBN⟩
        case measure => simp [intOf]; omega
      · obtain rfl : j = n := by omega
        have i1 : ¬ (j : Int) < (j : Int) := by omega
        go_wp2
        go_ret
        refine ⟨_, rfl, ?_, HB.out⟩
        rw [Nat.add_comm 1 j]
        exact HR.out
  by_cases e4 : m = 4
  · subst e4
    rw [if_pos (.inr rfl)] at hYd
    clear e3
    have a0 : IntKind.u16.wrap (x : Int) = ((x % 65536 : Nat) : Int) := by rw [IntKind.wrap_u16]; omega
    obtain ⟨A0, hA0⟩ : ∃ A, x % 65536 = A := ⟨_, rfl⟩
    rw [hA0] at a0 hYd
    obtain ⟨A1, hA1⟩ : ∃ A, (A0 + 65536 - pc) % 65536 = A := ⟨_, rfl⟩
    have a1 : IntKind.u16.wrap ((A0 : Int) - (pc : Int)) = (A1 : Int) := by rw [IntKind.wrap_u16]; omega
    have a2 : IntKind.u16.wrap (n : Int) = (n : Int) := by rw [IntKind.wrap_u16]; omega
    obtain ⟨A2, hA2⟩ : ∃ A, (A1 + 65536 - n) % 65536 = A := ⟨_, rfl⟩
    have a3 : IntKind.u16.wrap ((A1 : Int) - (n : Int)) = (A2 : Int) := by rw [IntKind.wrap_u16]; omega
    have a4 : IntKind.u16.wrap ((A2 : Int) - 1) = (Y : Int) := by rw [IntKind.wrap_u16]; omega
    have hYlt : Y < 4294967296 := by omega
    have a5 : IntKind.u32.wrap (Y : Int) = (Y : Int) := by rw [IntKind.wrap_u32]; omega
    clear hA0 hA1 hA2 hYd

    go_enter Tryz.func23, Tryz.ntmps23
    go_upto_region 1 with fail
    obtain ⟨X, hX⟩ : ∃ X, w.alloc (.cells #[.int .u8 k, .string nm, .int .u8 4, .int .u8 u, .int .u8 wd] 38) = X := ⟨_, rfl⟩
    have HX := Lib.hid (show TextS w w.heap.size (.int .u8 k) (.string nm) (.int .u8 4) (.int .u8 u) (.int .u8 wd) X from ⟨by rw [← hX]; refine ⟨?_, ?_, ?_, ?_, ?_, fun i => ?_⟩ <;> simp [go_sem], by rw [← hX]; exact (Below.refl _ w).alloc (Nat.le_refl _) _, by rw [← hX]; simp⟩)
    rw [hX]
    clear hX
    obtain ⟨g0, g1, g2, g3, g4, gf⟩ := HX.out.1
    clear gf
    go_upto_region 2 with (go_at_call 26; refine (HOP.out _).mono ?_; rintro e w1 ⟨rfl, hb1⟩)
    have H1 := Lib.hid (HX.out.below hb1)
    clear g0 g1 g2 g3 g4 HX hb1
    go_upto_region 3 with (go_at_call 39; refine (HNW.out _ (HLE.out.below H1.out.2.1)).mono ?_; rintro e w2 ⟨rfl, hb2⟩)
    have H2 := Lib.hid (H1.out.below hb2)
    clear H1 hb2
    obtain ⟨g0, g1, g2, g3, g4, gf⟩ := H2.out.1
    clear gf g1 g3 g4
    go_upto_region 11 with fail
    obtain ⟨W3, hW3⟩ : ∃ W3, w2.alloc (.cells #[.int .u8 k] 5) = W3 := ⟨_, rfl⟩
    obtain ⟨G, hG⟩ : ∃ G, w2.heap.size = G := ⟨_, rfl⟩
    have HB3 := Lib.hid (show Below w.heap.size w W3 by rw [← hW3]; exact H2.out.2.1.alloc H2.out.2.1.size _)
    have HR3 := Lib.hid (show W3.ownsRow w.heap.size 5 1 (.slice (some ⟨G, 0, none⟩) 1 1) 1 (((k : Int) :: leB Y 0).map (Value.int .u8)) by
      refine ⟨rfl, .inr ⟨G, 1, #[.int .u8 k], rfl, by rw [← hG]; exact H2.out.2.1.size, by rw [← hW3, ← hG]; exact World.alloc_heap_new w2 _, Nat.le_refl _, by decide, rfl, rfl⟩⟩)
    rw [hW3, hG]
    clear hW3 hG H2 g0 g2 HOP HNW
    go_loopw [10, 11, 44] (fun s10 s11 s44 wr => ∃ (j Z : Nat) (la : Option Addr) (lc : Nat), j ≤ n ∧ s10 = .int .u32 (Z : Nat) ∧ s11 = .slice la (j + 1) lc ∧ s44 = .int .i64 j ∧ Z < 4294967296 ∧ Hid (Z = Y / 256 ^ j) ∧ Hid (wr.ownsRow w.heap.size 5 1 (.slice la (j + 1) lc) (j + 1) (((k : Int) :: leB Y j).map (Value.int .u8))) ∧ Hid (Below w.heap.size w wr)) (fun _ _ s44 _ => n - (intOf s44).toNat)
    case atStart => exact ⟨0, Y, _, 1, Nat.zero_le _, rfl, rfl, rfl, hYlt, Lib.hid (by simp), HR3, HB3⟩
    case round =>
      obtain ⟨j, Z, la, lc, hj, rfl, rfl, rfl, hZ, HZ, HR, HB⟩ := hrel
      clear HR3 HB3
      by_cases hlt : j < n
      · have i1 : (j : Int) < (n : Int) := by omega
        have i3 : IntKind.i64.wrap ((j : Int) + 1) = ((j + 1 : Nat) : Int) := by rw [IntWalk.i64_in _ (by omega)]; rfl
        obtain ⟨b, hbz⟩ : ∃ b, Z % 256 = b := ⟨_, rfl⟩
        obtain ⟨Z2, hZ2⟩ : ∃ Z2, Z / 256 = Z2 := ⟨_, rfl⟩
        have t1 : IntKind.u8.wrap (Z : Int) = (b : Int) := by rw [IntKind.wrap_u8]; omega
        have t2 : (Z : Int) / 256 = (Z2 : Int) := by omega
        have t3 : IntKind.u32.wrap (Z2 : Int) = (Z2 : Int) := by rw [IntKind.wrap_u32]; omega
        have HZN := Lib.hid (show Z2 = Y / 256 ^ (j + 1) ∧ Z2 < 4294967296 from ⟨by rw [← hZ2, HZ.out, Nat.div_div_eq_div_mul, Nat.pow_succ], by omega⟩)
        have HLB := Lib.hid (show leB Y (j + 1) = leB Y j ++ [((b : Nat) : Int)] by rw [HSN.out j, ← HZ.out, hbz])
        clear hbz hZ2
        have HRA := Lib.hid (ownsRow_below HR.out ((Below.refl wr.heap.size wr).alloc (Nat.le_refl _) (.cells #[.int .u8 (b : Nat)] 5)))
        go_wp2_with (at_builtin; refine wpList_append_own _ rfl _ _ 23 rfl w.heap.size 5 i0 (.int .u8 0) 1 1 Tryz.underlying23 hi'.out hz0'.out hz1'.out hz2'.out rfl (by decide) _ _ _ rfl HRA.out ⟨wr.heap.size, 0, none⟩ 1 1 [.int .u8 (b : Nat)] rfl rfl ?c1 ?c2 ?c3 ?c4 ?c5 ?_)
        case c1 =>
          intro j u hj
          rcases j with _ | j
          · have : u = .int .u8 (b : Nat) := by simpa using hj.symm
            rw [this]; simp [go_sem]
          · simp at hj
        case c2 => simp [Value.oneCell']
        case c3 => unfold maxLen; omega
        case c4 => omega
        case c5 => have := HB.out.size; simp; omega
        intro v' w3 hown' hgrow _
        obtain ⟨g', cap', rfl⟩ : ∃ g' cap', v' = .slice (some ⟨g', 0, none⟩) (j + 1 + 1) cap' := ownsRow_succ hown'
        have hnr : ∀ i, some i = (Value.slice la (j + 1) lc).ownBlock → w.heap.size ≤ i := fun i e => by
          rcases HRA.out.2 with ⟨e2, _⟩ | ⟨g, c, cur, e2, h1, h2, _⟩
          · rw [e2] at e; simp [Value.ownBlock] at e
          · rw [e2] at e
            obtain rfl : i = g := by simpa [Value.ownBlock] using e
            exact h1
        have HBN := Lib.hid (show Below w.heap.size w w3 from (HB.out.alloc HB.out.size (.cells #[.int .u8 (b : Nat)] 5)).grown hgrow (by have := HB.out.size; simp; omega) (fun i e => hnr i e.symm))
        have HRN := Lib.hid hown'
        clear hown' hgrow hnr
        go_wp2
        go_roundw
        case rel => exact ⟨j + 1, Z2, _, _, hlt, rfl, rfl, by go_num, HZN.out.2, Lib.hid HZN.out.1, Lib.hid (by rw [HLB.out, ← List.cons_append, List.map_append]; exact HRN.out), HBN⟩
        case measure => simp [intOf]; omega
      · obtain rfl : j = n := by omega
        have i1 : ¬ (j : Int) < (j : Int) := by omega
        go_wp2
        go_ret
        refine ⟨_, rfl, ?_, HB.out⟩
        rw [Nat.add_comm 1 j]
        exact HR.out
  by_cases e23 : m = 23
  · subst e23
    rw [if_neg (by omega), if_pos rfl] at hYd
    obtain ⟨u1, hu1⟩ : ∃ A, x / 256 = A := ⟨_, rfl⟩
    obtain ⟨c1, hc1⟩ : ∃ A, x % 16777216 = A := ⟨_, rfl⟩
    have a0 : (x : Int) / 256 = (u1 : Int) := by omega
    have a01 : IntKind.u32.wrap (u1 : Int) = (u1 : Int) := by rw [IntKind.wrap_u32]; omega
    have a1 := and_low u1 (by omega)
    have a2 : IntKind.u32.wrap ((x : Int) * 256) = ((c1 * 256 : Nat) : Int) := by rw [IntKind.wrap_u32]; omega
    have a3 := and_high c1 (by omega)
    have hcx : c1 % 256 = x % 256 := by omega
    have a4 := or_bytes (u1 % 256) (c1 % 256) (by omega) (by omega)
    obtain ⟨B1, hB1⟩ : ∃ A, u1 % 256 = A := ⟨_, rfl⟩
    obtain ⟨B2, hB2⟩ : ∃ A, c1 % 256 * 256 = A := ⟨_, rfl⟩
    obtain ⟨B3, hB3⟩ : ∃ A, c1 * 256 = A := ⟨_, rfl⟩
    have hYe : u1 % 256 + c1 % 256 * 256 = Y := by rw [← hYd, hu1, hcx]
    rw [hYe, hB1, hB2] at a4
    rw [hB1] at a1
    rw [hB3] at a2
    rw [hB3, hB2] at a3
    have hYlt : Y < 4294967296 := by omega
    clear hu1 hc1 hcx hB1 hB2 hB3 hYe hYd e3 e4

    go_enter Tryz.func23, Tryz.ntmps23
    go_upto_region 1 with fail
    obtain ⟨X, hX⟩ : ∃ X, w.alloc (.cells #[.int .u8 k, .string nm, .int .u8 23, .int .u8 u, .int .u8 wd] 38) = X := ⟨_, rfl⟩
    have HX := Lib.hid (show TextS w w.heap.size (.int .u8 k) (.string nm) (.int .u8 23) (.int .u8 u) (.int .u8 wd) X from ⟨by rw [← hX]; refine ⟨?_, ?_, ?_, ?_, ?_, fun i => ?_⟩ <;> simp [go_sem], by rw [← hX]; exact (Below.refl _ w).alloc (Nat.le_refl _) _, by rw [← hX]; simp⟩)
    rw [hX]
    clear hX
    obtain ⟨g0, g1, g2, g3, g4, gf⟩ := HX.out.1
    clear gf
    go_upto_region 2 with (go_at_call 26; refine (HOP.out _).mono ?_; rintro e w1 ⟨rfl, hb1⟩)
    have H1 := Lib.hid (HX.out.below hb1)
    clear g0 g1 g2 g3 g4 HX hb1
    go_upto_region 3 with (go_at_call 39; refine (HNW.out _ (HLE.out.below H1.out.2.1)).mono ?_; rintro e w2 ⟨rfl, hb2⟩)
    have H2 := Lib.hid (H1.out.below hb2)
    clear H1 hb2
    obtain ⟨g0, g1, g2, g3, g4, gf⟩ := H2.out.1
    clear gf g1 g3 g4
    go_upto_region 11 with fail
    obtain ⟨W3, hW3⟩ : ∃ W3, w2.alloc (.cells #[.int .u8 k] 5) = W3 := ⟨_, rfl⟩
    obtain ⟨G, hG⟩ : ∃ G, w2.heap.size = G := ⟨_, rfl⟩
    have HB3 := Lib.hid (show Below w.heap.size w W3 by rw [← hW3]; exact H2.out.2.1.alloc H2.out.2.1.size _)
    have HR3 := Lib.hid (show W3.ownsRow w.heap.size 5 1 (.slice (some ⟨G, 0, none⟩) 1 1) 1 (((k : Int) :: leB Y 0).map (Value.int .u8)) by
      refine ⟨rfl, .inr ⟨G, 1, #[.int .u8 k], rfl, by rw [← hG]; exact H2.out.2.1.size, by rw [← hW3, ← hG]; exact World.alloc_heap_new w2 _, Nat.le_refl _, by decide, rfl, rfl⟩⟩)
    rw [hW3, hG]
    clear hW3 hG H2 g0 g2 HOP HNW
    go_loopw [10, 11, 44] (fun s10 s11 s44 wr => ∃ (j Z : Nat) (la : Option Addr) (lc : Nat), j ≤ n ∧ s10 = .int .u32 (Z : Nat) ∧ s11 = .slice la (j + 1) lc ∧ s44 = .int .i64 j ∧ Z < 4294967296 ∧ Hid (Z = Y / 256 ^ j) ∧ Hid (wr.ownsRow w.heap.size 5 1 (.slice la (j + 1) lc) (j + 1) (((k : Int) :: leB Y j).map (Value.int .u8))) ∧ Hid (Below w.heap.size w wr)) (fun _ _ s44 _ => n - (intOf s44).toNat)
    case atStart => exact ⟨0, Y, _, 1, Nat.zero_le _, rfl, rfl, rfl, hYlt, Lib.hid (by simp), HR3, HB3⟩
    case round =>
      obtain ⟨j, Z, la, lc, hj, rfl, rfl, rfl, hZ, HZ, HR, HB⟩ := hrel
      clear HR3 HB3
      by_cases hlt : j < n
      · have i1 : (j : Int) < (n : Int) := by omega
        have i3 : IntKind.i64.wrap ((j : Int) + 1) = ((j + 1 : Nat) : Int) := by rw [IntWalk.i64_in _ (by omega)]; rfl
        obtain ⟨b, hbz⟩ : ∃ b, Z % 256 = b := ⟨_, rfl⟩
        obtain ⟨Z2, hZ2⟩ : ∃ Z2, Z / 256 = Z2 := ⟨_, rfl⟩
        have t1 : IntKind.u8.wrap (Z : Int) = (b : Int) := by rw [IntKind.wrap_u8]; omega
        have t2 : (Z : Int) / 256 = (Z2 : Int) := by omega
        have t3 : IntKind.u32.wrap (Z2 : Int) = (Z2 : Int) := by rw [IntKind.wrap_u32]; omega
        have HZN := Lib.hid (show Z2 = Y / 256 ^ (j + 1) ∧ Z2 < 4294967296 from ⟨by rw [← hZ2, HZ.out, Nat.div_div_eq_div_mul, Nat.pow_succ], by omega⟩)
        have HLB := Lib.hid (show leB Y (j + 1) = leB Y j ++ [((b : Nat) : Int)] by rw [HSN.out j, ← HZ.out, hbz])
        clear hbz hZ2
        have HRA := Lib.hid (ownsRow_below HR.out ((Below.refl wr.heap.size wr).alloc (Nat.le_refl _) (.cells #[.int .u8 (b : Nat)] 5)))
        go_wp2_with (at_builtin; refine wpList_append_own _ rfl _ _ 23 rfl w.heap.size 5 i0 (.int .u8 0) 1 1 Tryz.underlying23 hi'.out hz0'.out hz1'.out hz2'.out rfl (by decide) _ _ _ rfl HRA.out ⟨wr.heap.size, 0, none⟩ 1 1 [.int .u8 (b : Nat)] rfl rfl ?c1 ?c2 ?c3 ?c4 ?c5 ?_)
        case c1 =>
          intro j u hj
          rcases j with _ | j
          · have : u = .int .u8 (b : Nat) := by simpa using hj.symm
            rw [this]; simp [go_sem]
          · simp at hj
        case c2 => simp [Value.oneCell']
        case c3 => unfold maxLen; omega
        case c4 => omega
        case c5 => have := HB.out.size; simp; omega
        intro v' w3 hown' hgrow _
        obtain ⟨g', cap', rfl⟩ : ∃ g' cap', v' = .slice (some ⟨g', 0, none⟩) (j + 1 + 1) cap' := ownsRow_succ hown'
        have hnr : ∀ i, some i = (Value.slice la (j + 1) lc).ownBlock → w.heap.size ≤ i := fun i e => by
          rcases HRA.out.2 with ⟨e2, _⟩ | ⟨g, c, cur, e2, h1, h2, _⟩
          · rw [e2] at e; simp [Value.ownBlock] at e
          · rw [e2] at e
            obtain rfl : i = g := by simpa [Value.ownBlock] using e
            exact h1
        have HBN := Lib.hid (show Below w.heap.size w w3 from (HB.out.alloc HB.out.size (.cells #[.int .u8 (b : Nat)] 5)).grown hgrow (by have := HB.out.size; simp; omega) (fun i e => hnr i e.symm))
        have HRN := Lib.hid hown'
        clear hown' hgrow hnr
        go_wp2
        go_roundw
        case rel => exact ⟨j + 1, Z2, _, _, hlt, rfl, rfl, by go_num, HZN.out.2, Lib.hid HZN.out.1, Lib.hid (by rw [HLB.out, ← List.cons_append, List.map_append]; exact HRN.out), HBN⟩
        case measure => simp [intOf]; omega
      · obtain rfl : j = n := by omega
        have i1 : ¬ (j : Int) < (j : Int) := by omega
        go_wp2
        go_ret
        refine ⟨_, rfl, ?_, HB.out⟩
        rw [Nat.add_comm 1 j]
        exact HR.out
  · rw [if_neg (by omega), if_neg e23] at hYd
    subst hYd
    have b3 : ((m : Int) == 3) = false := by rw [beq_eq_false_iff_ne]; omega
    have b4 : ((m : Int) == 4) = false := by rw [beq_eq_false_iff_ne]; omega
    have b23 : ((m : Int) == 23) = false := by rw [beq_eq_false_iff_ne]; omega
    clear e3 e4 e23

    go_enter Tryz.func23, Tryz.ntmps23
    go_upto_region 1 with fail
    obtain ⟨X, hX⟩ : ∃ X, w.alloc (.cells #[.int .u8 k, .string nm, .int .u8 m, .int .u8 u, .int .u8 wd] 38) = X := ⟨_, rfl⟩
    have HX := Lib.hid (show TextS w w.heap.size (.int .u8 k) (.string nm) (.int .u8 m) (.int .u8 u) (.int .u8 wd) X from ⟨by rw [← hX]; refine ⟨?_, ?_, ?_, ?_, ?_, fun i => ?_⟩ <;> simp [go_sem], by rw [← hX]; exact (Below.refl _ w).alloc (Nat.le_refl _) _, by rw [← hX]; simp⟩)
    rw [hX]
    clear hX
    obtain ⟨g0, g1, g2, g3, g4, gf⟩ := HX.out.1
    clear gf
    go_upto_region 2 with (go_at_call 26; refine (HOP.out _).mono ?_; rintro e w1 ⟨rfl, hb1⟩)
    have H1 := Lib.hid (HX.out.below hb1)
    clear g0 g1 g2 g3 g4 HX hb1
    go_upto_region 3 with (go_at_call 39; refine (HNW.out _ (HLE.out.below H1.out.2.1)).mono ?_; rintro e w2 ⟨rfl, hb2⟩)
    have H2 := Lib.hid (H1.out.below hb2)
    clear H1 hb2
    obtain ⟨g0, g1, g2, g3, g4, gf⟩ := H2.out.1
    clear gf g1 g3 g4
    go_upto_region 11 with fail
    obtain ⟨W3, hW3⟩ : ∃ W3, w2.alloc (.cells #[.int .u8 k] 5) = W3 := ⟨_, rfl⟩
    obtain ⟨G, hG⟩ : ∃ G, w2.heap.size = G := ⟨_, rfl⟩
    have HB3 := Lib.hid (show Below w.heap.size w W3 by rw [← hW3]; exact H2.out.2.1.alloc H2.out.2.1.size _)
    have HR3 := Lib.hid (show W3.ownsRow w.heap.size 5 1 (.slice (some ⟨G, 0, none⟩) 1 1) 1 (((k : Int) :: leB x 0).map (Value.int .u8)) by
      refine ⟨rfl, .inr ⟨G, 1, #[.int .u8 k], rfl, by rw [← hG]; exact H2.out.2.1.size, by rw [← hW3, ← hG]; exact World.alloc_heap_new w2 _, Nat.le_refl _, by decide, rfl, rfl⟩⟩)
    rw [hW3, hG]
    clear hW3 hG H2 g0 g2 HOP HNW
    go_loopw [10, 11, 44] (fun s10 s11 s44 wr => ∃ (j Z : Nat) (la : Option Addr) (lc : Nat), j ≤ n ∧ s10 = .int .u32 (Z : Nat) ∧ s11 = .slice la (j + 1) lc ∧ s44 = .int .i64 j ∧ Z < 4294967296 ∧ Hid (Z = x / 256 ^ j) ∧ Hid (wr.ownsRow w.heap.size 5 1 (.slice la (j + 1) lc) (j + 1) (((k : Int) :: leB x j).map (Value.int .u8))) ∧ Hid (Below w.heap.size w wr)) (fun _ _ s44 _ => n - (intOf s44).toNat)
    case atStart => exact ⟨0, x, _, 1, Nat.zero_le _, rfl, rfl, rfl, hx32, Lib.hid (by simp), HR3, HB3⟩
    case round =>
      obtain ⟨j, Z, la, lc, hj, rfl, rfl, rfl, hZ, HZ, HR, HB⟩ := hrel
      clear HR3 HB3
      by_cases hlt : j < n
      · have i1 : (j : Int) < (n : Int) := by omega
        have i3 : IntKind.i64.wrap ((j : Int) + 1) = ((j + 1 : Nat) : Int) := by rw [IntWalk.i64_in _ (by omega)]; rfl
        obtain ⟨b, hbz⟩ : ∃ b, Z % 256 = b := ⟨_, rfl⟩
        obtain ⟨Z2, hZ2⟩ : ∃ Z2, Z / 256 = Z2 := ⟨_, rfl⟩
        have t1 : IntKind.u8.wrap (Z : Int) = (b : Int) := by rw [IntKind.wrap_u8]; omega
        have t2 : (Z : Int) / 256 = (Z2 : Int) := by omega
        have t3 : IntKind.u32.wrap (Z2 : Int) = (Z2 : Int) := by rw [IntKind.wrap_u32]; omega
        have HZN := Lib.hid (show Z2 = x / 256 ^ (j + 1) ∧ Z2 < 4294967296 from ⟨by rw [← hZ2, HZ.out, Nat.div_div_eq_div_mul, Nat.pow_succ], by omega⟩)
        have HLB := Lib.hid (show leB x (j + 1) = leB x j ++ [((b : Nat) : Int)] by rw [HSN.out j, ← HZ.out, hbz])
        clear hbz hZ2
        have HRA := Lib.hid (ownsRow_below HR.out ((Below.refl wr.heap.size wr).alloc (Nat.le_refl _) (.cells #[.int .u8 (b : Nat)] 5)))
        go_wp2_with (at_builtin; refine wpList_append_own _ rfl _ _ 23 rfl w.heap.size 5 i0 (.int .u8 0) 1 1 Tryz.underlying23 hi'.out hz0'.out hz1'.out hz2'.out rfl (by decide) _ _ _ rfl HRA.out ⟨wr.heap.size, 0, none⟩ 1 1 [.int .u8 (b : Nat)] rfl rfl ?c1 ?c2 ?c3 ?c4 ?c5 ?_)
        case c1 =>
          intro j u hj
          rcases j with _ | j
          · have : u = .int .u8 (b : Nat) := by simpa using hj.symm
            rw [this]; simp [go_sem]
          · simp at hj
        case c2 => simp [Value.oneCell']
        case c3 => unfold maxLen; omega
        case c4 => omega
        case c5 => have := HB.out.size; simp; omega
        intro v' w3 hown' hgrow _
        obtain ⟨g', cap', rfl⟩ : ∃ g' cap', v' = .slice (some ⟨g', 0, none⟩) (j + 1 + 1) cap' := ownsRow_succ hown'
        have hnr : ∀ i, some i = (Value.slice la (j + 1) lc).ownBlock → w.heap.size ≤ i := fun i e => by
          rcases HRA.out.2 with ⟨e2, _⟩ | ⟨g, c, cur, e2, h1, h2, _⟩
          · rw [e2] at e; simp [Value.ownBlock] at e
          · rw [e2] at e
            obtain rfl : i = g := by simpa [Value.ownBlock] using e
            exact h1
        have HBN := Lib.hid (show Below w.heap.size w w3 from (HB.out.alloc HB.out.size (.cells #[.int .u8 (b : Nat)] 5)).grown hgrow (by have := HB.out.size; simp; omega) (fun i e => hnr i e.symm))
        have HRN := Lib.hid hown'
        clear hown' hgrow hnr
        go_wp2
        go_roundw
        case rel => exact ⟨j + 1, Z2, _, _, hlt, rfl, rfl, by go_num, HZN.out.2, Lib.hid HZN.out.1, Lib.hid (by rw [HLB.out, ← List.cons_append, List.map_append]; exact HRN.out), HBN⟩
        case measure => simp [intOf]; omega
      · obtain rfl : j = n := by omega
        have i1 : ¬ (j : Int) < (j : Int) := by omega
        go_wp2
        go_ret
        refine ⟨_, rfl, ?_, HB.out⟩
        rw [Nat.add_comm 1 j]
        exact HR.out
end Go.Proofs.YtpeieilbjadcfaaGreatDoor
