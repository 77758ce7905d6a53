/- The text of an instruction: the program's Text. -/
import Derived.Test.YtpeieilbjadcfaaGreatDoorProg
import Derived.Test.YtpeieilbjadcfaaGreatDoorCodesTold
import Derived.Deep.RegionHeld3
namespace Go.Proofs.YtpeieilbjadcfaaGreatDoor
open Go.RowKit
set_option linter.unusedVariables false
set_option linter.unusedSimpArgs false

theorem opN_kinds (m wd p : Nat) (hm : m ≤ 25) (h0 : m ≠ 0) : (m = 1 ∧ opN m wd p = 0) ∨ (m = 3 ∧ opN m wd p = 1) ∨ (m = 4 ∧ opN m wd p = 2) ∨ (m = 23 ∧ opN m wd p = 2) ∨ ((m = 24 ∨ m = 25) ∧ 1 ≤ opN m wd p) ∨ (2 ≤ m ∧ m < 23 ∧ m ≠ 3 ∧ m ≠ 4 ∧ 1 ≤ opN m wd p) := by
  by_cases h1 : m = 1
  · exact .inl ⟨h1, by unfold opN; rw [if_pos (.inr h1)]⟩
  by_cases h3 : m = 3
  · subst h3; exact .inr (.inl ⟨rfl, by simp [opN]⟩)
  by_cases h4 : m = 4
  · subst h4; exact .inr (.inr (.inl ⟨rfl, by simp [opN]⟩))
  by_cases h23 : m = 23
  · subst h23; exact .inr (.inr (.inr (.inl ⟨rfl, by simp [opN]⟩)))
  have hp : 1 ≤ opN m wd p := by
    unfold opN
    rw [if_neg (by omega)]
    split
    · omega
    · split
      · omega
      · split <;> omega
  by_cases h24 : 24 ≤ m
  · exact .inr (.inr (.inr (.inr (.inl ⟨by omega, hp⟩))))
  · exact .inr (.inr (.inr (.inr (.inr ⟨by omega, by omega, h3, h4, hp⟩))))
/-- told at a row. -/
theorem told_walk (c : Int) (s : ByteArray) (m u wd pc p : Nat) (v : Value) (xs : List Int) (hpc : pc < 65536) (hm : m ≤ 25) (hm0 : m ≠ 0) (w : World) (hv : opN m wd p = 0 ∧ (∃ a cap, v = .slice a 0 cap) ∨ Row .u8 w v xs ∧ 1 ≤ opN m wd p) (hn : xs.length = opN m wd p) (hf : Fits .u8 xs) (hL : Laid w) :
    Calls Tryz.prog 27 #[.agg #[.int .u8 c, .string s, .int .u8 m, .int .u8 u, .int .u8 wd], v, .int .u16 pc] w fun e w' => e = .returned (.string (bytesB (toldL m xs.length (leN xs).toNat pc))) ∧ Below w.heap.size w w' := by
  have hle := opN_le m wd p
  have hk := opN_kinds m wd p hm hm0
  rcases hv with ⟨h0, a, cap, rfl⟩ | ⟨h, h1⟩
  · have h1 : m = 1 := by omega
    subst h1
    exact told_A c s u wd pc cap a _ _ w
  · have h2 : m ≠ 1 := by omega
    rcases h with ⟨a, cap, rfl, rfl, _⟩ | ⟨b, o, cap, rfl, hp, hlc, hcm, hcell⟩
    · exfalso; rw [List.length_nil] at hn; omega
    · rcases hk with ⟨rfl, h⟩ | ⟨rfl, h⟩ | ⟨rfl, h⟩ | ⟨rfl, h⟩ | ⟨rfl | rfl, h⟩ | ⟨h, h', h'', h''', _⟩
      · exact absurd rfl h2
      · exact told_rel c s u wd pc b o cap xs hpc w (by omega) hlc hf hcell hL
      · exact told_long c s u wd pc b o cap xs hpc w (by omega) hlc hf hcell hL
      · exact told_move c s u wd pc b o cap xs hpc w (by omega) hlc hf hcell hL
      · exact told_sig c s u wd pc b o cap xs hpc w (by omega) hlc hf hcell hL
      · exact told_word c s u wd pc b o cap xs hpc w (by omega) hlc hf hcell hL
      · exact told_rest c s m u wd pc b o cap xs hpc w (by omega) hlc hf hcell hL ⟨h, h', h'', h'''⟩
theorem textV_none (xs : List Int) (pc p : Nat) (h : xs.length = 0 ∨ xs.length < 1 + opK (xs[0]?.getD 0).toNat p) : textV xs pc p = .tuple #[.string ⟨#[]⟩, .int .i64 0, .bool false] := by
  unfold textV; rw [if_pos h]
theorem textV_some (xs : List Int) (pc p : Nat) (h : ¬ (xs.length = 0 ∨ xs.length < 1 + opK (xs[0]?.getD 0).toNat p)) : textV xs pc p = .tuple #[.string (textB (xs[0]?.getD 0).toNat (leN ((xs.drop 1).take (opK (xs[0]?.getD 0).toNat p))).toNat (opK (xs[0]?.getD 0).toNat p) pc), .int .i64 ((1 + opK (xs[0]?.getD 0).toNat p : Nat) : Int), .bool true] := by
  unfold textV; rw [if_neg h]

/-- What stands while an instruction is told: the code's box, what was there before. -/
def TextS (w0 : World) (K : Nat) (v0 v1 v2 v3 v4 : Value) (W : World) : Prop := Five W K v0 v1 v2 v3 v4 ∧ Below w0.heap.size w0 W ∧ K < W.heap.size
theorem TextS.below {w0 W W' : World} {K : Nat} {v0 v1 v2 v3 v4 : Value} (h : TextS w0 K v0 v1 v2 v3 v4 W) (hb : Below W.heap.size W W') : TextS w0 K v0 v1 v2 v3 v4 W' :=
  ⟨h.1.below hb h.2.2, h.2.1.trans (hb.mono h.2.1.size), Nat.lt_of_lt_of_le h.2.2 hb.size⟩
theorem signG_length (num l : List UInt8) (hn : num.length ≤ 7) : (signG num l).length ≤ 8 * l.length := by
  induction l with
  | nil => simp [signG]
  | cons c r ih =>
    rw [signG, List.length_append, List.length_cons]
    split
    · omega
    · split
      · rw [List.length_cons]; omega
      · rw [List.length_singleton]; omega
theorem toldL_length (m n x pc : Nat) (hm : m ≤ 25) (hn : n ≤ 3) : (toldL m n x pc).length ≤ 100 := by
  have h1 : (numL x n).length ≤ 7 := by unfold numL; rw [List.length_cons, hexL_length]; omega
  have h2 := signG_length (numL x n) (signB m).data.toList h1
  have h3 : (signB m).data.toList.length ≤ 7 := by have := (sign_lim m hm).1; simpa using this
  unfold toldL
  split
  · decide
  · split
    · rw [List.length_cons, hexL_length]; decide
    · split
      · rw [List.length_append, List.length_cons, hexL_length, List.length_cons, List.length_cons, hexL_length]; decide
      · split <;> omega
set_option maxRecDepth 100000 in
set_option maxHeartbeats 2000000 in
theorem text_walk (v : Value) (xs : List Int) (pc p : Nat) (hpc : pc < 65536) (hp : p < 256) (w : World) (hr : Row .u8 w v xs) (hf : Fits .u8 xs) (hL : Laid w) :
    Calls Tryz.prog 10 #[v, .int .u16 pc, .int .u8 p] w fun e w' => e = .returned (textV xs pc p) ∧ Below w.heap.size w w' := by
  rcases hr with ⟨a, cap, rfl, rfl, _⟩ | ⟨b, o, cap, rfl, h0, hlc, hcm, hcell⟩
  · have HE := Lib.hid (textV_none [] pc p (.inl rfl))
    clear hf hL
    go_enter Tryz.func10, Tryz.ntmps10
    go_wp2_with fail
    go_ret3
    exact ⟨by rw [HE.out]; rfl, Below.refl _ _⟩
  · obtain ⟨n, hn⟩ : ∃ n, xs.length = n := ⟨_, rfl⟩
    have hb0 := hf.u8 (i := 0) h0
    have hc0 := hcell 0 h0
    obtain ⟨k, hk⟩ : ∃ k : Nat, xs[0]?.getD 0 = (k : Int) := ⟨(xs[0]?.getD 0).toNat, by omega⟩
    rw [hk] at hb0 hc0
    rw [Nat.add_zero] at hc0
    have hk256 : k < 256 := by omega
    have HN := Lib.hid (textV_none xs pc p)
    have HS := Lib.hid (textV_some xs pc p)
    rw [hk, Int.toNat_natCast, hn] at HN HS
    rw [hn] at h0 hlc hcell ⊢
    have h0i : (0 : Int) < (n : Int) := by omega
    have e0 : ((n : Int) == 0) = false := by rw [beq_eq_false_iff_ne]; omega
    have HV := Lib.hid (show codeV k = .agg #[.int .u8 k, .string (nameB k), .int .u8 (modeN k), .int .u8 (useN k), .int .u8 (widthN k)] from rfl)
    have HM := Lib.hid (tab_lims k hk256).2.2.1
    have HZ := Lib.hid (tab_lims k hk256).1
    have HO := Lib.hid (show opK k p = opN (modeN k) (widthN k) p from rfl)
    have hb := opN_le (modeN k) (widthN k) p
    have HCELL := Lib.hid hcell
    have HF := Lib.hid hf
    have HL := Lib.hid hL
    have HOF := Lib.hid (fun W => of_walk k hk256 W)
    clear hcell hf hL hk
    obtain ⟨m, hm⟩ : ∃ m, modeN k = m := ⟨_, rfl⟩
    obtain ⟨u, hu⟩ : ∃ m, useN k = m := ⟨_, rfl⟩
    obtain ⟨wd, hwd⟩ : ∃ m, widthN k = m := ⟨_, rfl⟩
    obtain ⟨nm, hnm⟩ : ∃ m, nameB k = m := ⟨_, rfl⟩
    obtain ⟨q, hq⟩ : ∃ q, opK k p = q := ⟨_, rfl⟩
    rw [hm, hwd] at HO hb
    rw [hm] at HM
    rw [hnm] at HZ
    rw [hm, hu, hwd, hnm] at HV
    have HQ := Lib.hid (HO.out.symm.trans hq)
    rw [HQ.out] at hb
    rw [hq] at HN HS
    rw [HV.out] at HOF
    have HNAMES := Lib.hid (And.intro hm (And.intro hnm hq))
    have HOP := Lib.hid (fun W => operand_walk (k : Int) nm m u wd p HM.out hp W)
    rw [HQ.out] at HOP
    clear hm hu hwd hnm hq HO HV
    go_enter Tryz.func10, Tryz.ntmps10
    go_upto_region 4 with (go_at_call 22; refine (HOF.out _).mono ?_; rintro e w1 ⟨rfl, hb1⟩)
    obtain ⟨X, hX⟩ : ∃ X, w1.alloc (.cells #[.int .u8 k, .string nm, .int .u8 m, .int .u8 u, .int .u8 wd] 38) = X := ⟨_, rfl⟩
    obtain ⟨K, hK⟩ : ∃ K, w1.heap.size = K := ⟨_, rfl⟩
    have HX := Lib.hid (show TextS w K (.int .u8 k) (.string nm) (.int .u8 m) (.int .u8 u) (.int .u8 wd) X from ⟨by rw [← hX, ← hK]; refine ⟨?_, ?_, ?_, ?_, ?_, fun i => ?_⟩ <;> simp [go_sem], by rw [← hX]; exact hb1.alloc hb1.size _, by rw [← hX]; simp; omega⟩)
    rw [hX, hK]
    clear hX hK hb1
    obtain ⟨g0, g1, g2, g3, g4, gf⟩ := HX.out.1
    clear gf
    obtain ⟨n1, hn1⟩ : ∃ n1, 1 + q = n1 := ⟨_, rfl⟩
    have i1 : IntKind.i64.wrap (1 + (q : Int)) = (n1 : Int) := by rw [IntWalk.i64_in _ (by omega)]; omega
    have HQ1 := Lib.hid hn1
    rw [hn1] at HN HS
    clear hn1
    go_upto_region 5 with (go_at_call 26; refine (HOP.out _).mono ?_; rintro e w2 ⟨rfl, hb2⟩)
    have HY := Lib.hid (HX.out.below hb2)
    clear g0 g1 g2 g3 g4 hb2 HX HOP HOF
    by_cases hsh : n < n1
    · have b1 : (n : Int) < (n1 : Int) := by omega
      have HE := Lib.hid (HN.out (.inr hsh))
      go_wp2_with fail
      go_ret3
      exact ⟨by rw [HE.out]; rfl, HY.out.2.1⟩
    · have b1 : ¬ (n : Int) < (n1 : Int) := by omega
      have HE := Lib.hid (HS.out (by omega))
      clear HN HS
      obtain ⟨g0, g1, g2, g3, g4, gf⟩ := HY.out.1
      clear gf
      by_cases hm0 : m = 0
      · have HE2 := Lib.hid (show textV xs pc p = .tuple #[.string nm, .int .i64 (n1 : Int), .bool true] by
          rw [HE.out, textB, HNAMES.out.1, if_pos hm0, HNAMES.out.2.1])
        have e1 : ((m : Int) == 0) = true := by rw [hm0]; rfl
        clear hm0
        go_wp2_with fail
        go_ret3
        exact ⟨by rw [HE2.out]; rfl, HY.out.2.1⟩
      · have e1 : ((m : Int) == 0) = false := by rw [beq_eq_false_iff_ne]; omega
        obtain ⟨ys, hys⟩ : ∃ ys, (xs.drop 1).take q = ys := ⟨_, rfl⟩
        rw [hys] at HE
        have hyl : ys.length = q := by have := HQ1.out; rw [← hys, List.length_take, List.length_drop]; omega
        have hyf : Fits .u8 ys := by rw [← hys]; exact fun y hy => HF.out y (List.mem_of_mem_drop (List.mem_of_mem_take hy))
        have hyc : ∀ i, i < q → ys[i]?.getD 0 = xs[1 + i]?.getD 0 := fun i hi => by rw [← hys, List.getElem?_take_of_lt hi, List.getElem?_drop]
        have HTX := Lib.hid (show textV xs pc p = .tuple #[.string (nm ++ ⟨#[32]⟩ ++ bytesB (toldL m q (leN ys).toNat pc)), .int .i64 (n1 : Int), .bool true] by
          rw [HE.out, textB, HNAMES.out.1, if_neg hm0, HNAMES.out.2.1]
          have : bytesB (nm.data.toList ++ 32 :: toldL m q (leN ys).toNat pc) = nm ++ ⟨#[32]⟩ ++ bytesB (toldL m q (leN ys).toNat pc) := by
            rw [show nm ++ (⟨#[32]⟩ : ByteArray) = bytesB (nm.data.toList ++ [32]) by rw [← bytesB_append, bytesB_list]; rfl, bytesB_append, List.append_assoc]; rfl
          rw [this])
        have hTL : (toldL m q (leN ys).toNat pc).length ≤ 100 := toldL_length m q _ pc HM.out hb
        obtain ⟨TB, hTB⟩ : ∃ TB, bytesB (toldL m q (leN ys).toNat pc) = TB := ⟨_, rfl⟩
        have hTBs : TB.size ≤ 100 := by rw [← hTB, bytesB_size]; exact hTL
        have HTD := Lib.hid (fun W (hW : TextS w K (.int .u8 k) (.string nm) (.int .u8 m) (.int .u8 u) (.int .u8 wd) W) (v' : Value) (hv : q = 0 ∧ (∃ a cap, v' = .slice a 0 cap) ∨ 1 ≤ q ∧ v' = .slice (some ⟨b, o + 1, none⟩) q (cap - 1)) =>
          show Calls Tryz.prog 27 #[.agg #[.int .u8 k, .string nm, .int .u8 m, .int .u8 u, .int .u8 wd], v', .int .u16 pc] W fun e w' => e = .returned (.string TB) ∧ TextS w K (.int .u8 k) (.string nm) (.int .u8 m) (.int .u8 u) (.int .u8 wd) w' from
          ((told_walk (k : Int) nm m u wd pc p v' ys hpc HM.out hm0 W (by
            rw [HQ.out]
            rcases hv with h | ⟨h1, rfl⟩
            · exact .inl h
            · have h10 := HQ1.out
              refine .inr ⟨.inr ⟨b, o + 1, cap - 1, by rw [hyl], by omega, by omega, by omega, fun i hi => ?_⟩, h1⟩
              have hc := HCELL.out (1 + i) (by omega)
              rw [hyc i (by omega), hW.2.1.cell (World.block_lt_of_cell? w _ (by rw [← Nat.add_assoc] at hc; exact hc)), Nat.add_assoc]
              exact hc) (by rw [hyl, HQ.out]) hyf (HL.out.below hW.2.1)).mono fun e w' ⟨he, hbb⟩ => ⟨by rw [he, hyl, hTB], hW.below hbb⟩))
        rw [hTB] at HTX
        clear hTB hTL hys hyc hyf
        have z3 := HZ.out
        have q1 : ¬ 9223372036854775807 < 4 + TB.size := by omega
        have s0 := HQ1.out
        have s1 : (n1 : Int) ≤ (cap : Int) := by omega
        have s2 : (1 : Int) ≤ (n1 : Int) := by omega
        have s3 : ((n1 : Int)).toNat = n1 := by omega
        have s7 : n1 - 1 = q := by omega
        have s6 : n1 ≤ cap := by omega
        have s4 : (1 : Int) ≤ (cap : Int) := by omega
        have KD := Lib.hid (show TextS w K (.int .u8 k) (.string nm) (.int .u8 m) (.int .u8 u) (.int .u8 wd) w2.drew from HY.out.below (Below.refl _ _).drew)
        have d0 : w2.drew.cell? ⟨K, 0, none⟩ = some (.int .u8 k) := g0
        have d1 : w2.drew.cell? ⟨K, 1, none⟩ = some (.string nm) := g1
        have d2 : w2.drew.cell? ⟨K, 2, none⟩ = some (.int .u8 m) := g2
        have d3 : w2.drew.cell? ⟨K, 3, none⟩ = some (.int .u8 u) := g3
        have d4 : w2.drew.cell? ⟨K, 4, none⟩ = some (.int .u8 wd) := g4
        rcases Nat.eq_zero_or_pos q with hq0 | hq0
        · subst hq0
          have HTD0 := Lib.hid (fun W hW a c => HTD.out W hW (.slice a 0 c) (.inl ⟨rfl, a, c, rfl⟩))
          clear s0 HTD
          obtain ⟨sa, sc, hsl⟩ : ∃ sa sc, ∀ W, (Instr.sliceAt 23 (.slice (some ⟨b, o, none⟩) n cap) (some (.int .i64 1)) (some (.int .i64 (n1 : Int))) none).run Tryz.prog W = .ok (.slice sa 0 sc) W := by
            have he : Tryz.prog.underlying 23 = some (.slice (Tryz.prog.elem 23)) := by simp [Program.elem, Tryz.underlying23]
            refine ⟨if cap = 1 then some ⟨b, o, none⟩ else (some ⟨b, o, none⟩ : Option Addr).map (·.add (1 * 1)), cap - 1, fun W => ?_⟩
            rw [run_sliceAt_slice (h := he), run_slice_lh (ht := he) (h0 := by omega) (h1 := s2) (h2 := s1)]
            rw [show (sizeOf (Tryz.prog.elem 23)).run Tryz.prog W = .ok 1 W by simp [Program.elem, Tryz.underlying23, go_sem]]
            simp only [Result.andThen, sliced, s3, show (1 : Int).toNat = 1 from rfl, s7]
          clear s1 s2 s3 s4 s6
          go_upto_region 9 with fail
          go_region_held3 (fun w' => w'.cell? ⟨K, 0, none⟩ = some (.int .u8 k) ∧ w'.cell? ⟨K, 1, none⟩ = some (.string nm) ∧ w'.cell? ⟨K, 2, none⟩ = some (.int .u8 m) ∧ w'.cell? ⟨K, 3, none⟩ = some (.int .u8 u) ∧ w'.cell? ⟨K, 4, none⟩ = some (.int .u8 wd)) (first | (with_reducible exact ⟨g0, g1, g2, g3, g4⟩) | (with_reducible exact ⟨d0, d1, d2, d3, d4⟩) | (with_reducible exact ⟨c0, c1, c2, c3, c4⟩) | go_keep) (first | (go_at_call 27; refine Calls.mono (HTD0.out _ (by with_reducible exact KD.out) _ _) ?_; rintro e w3 ⟨rfl, Q⟩; have c0 := Q.1.1; have c1 := Q.1.2.1; have c2 := Q.1.2.2.1; have c3 := Q.1.2.2.2.1; have c4 := Q.1.2.2.2.2.1))
          all_goals
            go_wp2_with fail
            go_ret3
            exact ⟨by rw [HTX.out]; rfl, Q.2.1⟩
        · have s5 : ¬ cap = 1 := by omega
          clear s0
          have HTD2 := Lib.hid (fun W hW => HTD.out W hW _ (.inr ⟨hq0, rfl⟩))
          go_upto_region 9 with fail
          go_region_held3 (fun w' => w'.cell? ⟨K, 0, none⟩ = some (.int .u8 k) ∧ w'.cell? ⟨K, 1, none⟩ = some (.string nm) ∧ w'.cell? ⟨K, 2, none⟩ = some (.int .u8 m) ∧ w'.cell? ⟨K, 3, none⟩ = some (.int .u8 u) ∧ w'.cell? ⟨K, 4, none⟩ = some (.int .u8 wd)) (first | (with_reducible exact ⟨g0, g1, g2, g3, g4⟩) | (with_reducible exact ⟨d0, d1, d2, d3, d4⟩) | (with_reducible exact ⟨c0, c1, c2, c3, c4⟩) | go_keep) (first | (go_at_call 27; refine Calls.mono (HTD2.out _ (by with_reducible exact KD.out)) ?_; rintro e w3 ⟨rfl, Q⟩; have c0 := Q.1.1; have c1 := Q.1.2.1; have c2 := Q.1.2.2.1; have c3 := Q.1.2.2.2.1; have c4 := Q.1.2.2.2.2.1))
          all_goals
            go_wp2_with fail
            go_ret3
            exact ⟨by rw [HTX.out]; rfl, Q.2.1⟩
end Go.Proofs.YtpeieilbjadcfaaGreatDoor
