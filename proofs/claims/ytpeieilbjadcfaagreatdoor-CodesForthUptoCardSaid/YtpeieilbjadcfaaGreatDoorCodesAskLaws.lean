/- CodesBytes, CodesForth and CodesBack, walked at opened values. -/
import Derived.Test.YtpeieilbjadcfaaGreatDoorProg
import Derived.Test.YtpeieilbjadcfaaGreatDoorCodesRefAsk
import Derived.Test.YtpeieilbjadcfaaGreatDoorCodesAwake
import Derived.Test.YtpeieilbjadcfaaGreatDoorCodesSame
namespace Go.Proofs.YtpeieilbjadcfaaGreatDoor
open Go.RowKit Go.Shelf
set_option linter.unusedVariables false
set_option linter.unusedSimpArgs false

set_option maxRecDepth 100000 in
set_option maxHeartbeats 2000000 in
theorem bytes_law (s : ByteArray) (hs : s.size ≤ 1048576) (pc p : Nat) (hpc : pc < 65536) (hp : p < 256) (w : World) (hE : LaidE w) :
    Calls Tryz.prog 3 #[.string s, .int .u16 pc, .int .u8 p] w fun e w' => e = .returned (.bool true) ∧ Below w.heap.size w w' := by
  have HE := Lib.hid hE
  have HR := Lib.hid (fun W => refAsk_walk s hs pc p hpc hp W)
  have HP := Lib.hid (fun W hW => ask_walk s hs pc p hpc hp W hW)
  have HO := Lib.hid (fun bs bs' e e' h h' => ans_one s pc p hpc bs bs' e e' h h')
  clear hE
  go_enter Tryz.func3, Tryz.ntmps3
  go_upto_region 2 with (go_at_call 6; refine (HR.out _).mono ?_; rintro e w1 ⟨v1, bs, e1, rfl, ha1, hr1, hf1, hb1⟩)
  have HA1 := Lib.hid ha1
  have HR1 := Lib.hid hr1
  have HB1 := Lib.hid hb1
  clear ha1 hr1 hf1 hb1
  go_upto_region 3 with (go_at_call 7; refine (HP.out _ (HE.out.below HB1.out)).mono ?_; rintro e w2 ⟨v2, bs2, e2, rfl, ha2, hr2, hf2, hb2⟩)
  obtain ⟨h1, h2⟩ := HO.out _ _ _ _ HA1.out ha2
  subst h1 h2
  have HB2 := Lib.hid (HB1.out.trans (hb2.mono HB1.out.size))
  have HS := Lib.hid (bytes_same v2 v1 bs bs w2 hr2 (HR1.out.below hb2) rfl)
  rw [eqB_refl] at HS
  clear ha2 hr2 hf2 hb2
  go_wp2_with (first | (go_at_call 8; refine HS.out.mono ?_; rintro e w4 ⟨rfl, d, rfl⟩) | (go_at_call 9; refine (awake_walk _ (HE.out.1.below (below_drewN HB2.out _))).mono ?_; rintro e w5 ⟨rfl, hb5⟩))
  go_ret
  exact ⟨rfl, (below_drewN HB2.out _).trans (hb5.mono (below_drewN HB2.out _).size)⟩
/-- An answer that is no refusal. -/
theorem ans_ok (s : ByteArray) (pc p : Nat) (bs : List Int) (e : Nat) (h : AnsR s pc p bs e) (he : e = 0) : ∃ k o, k < 256 ∧ TxtO k o pc p s ∧ bs = (k : Int) :: o := by
  have l : ∀ L t, errE L t = 61 ∨ errE L t = 62 := fun L t => by unfold errE; split <;> simp
  rcases h with ⟨_, _, h⟩ | ⟨pre, k, post, o, h1, _, h3, h4, _⟩ | ⟨_, _, _, h⟩
  · omega
  · obtain ⟨n, hn, en, _⟩ := codes_nat s _ (mem_mid h1)
    have hk : k < 256 := by omega
    exact ⟨k, o, hk, h3, h4⟩
  · rcases l (codesOf s) (isTgt (restOf s)) with h' | h' <;> omega
theorem ans_no (s : ByteArray) (pc p : Nat) (bs : List Int) (e : Nat) (h : AnsR s pc p bs e) (he : e ≠ 0) : bs = [] ∧ (e = 60 ∨ e = 61 ∨ e = 62) := by
  have l : ∀ L t, errE L t = 61 ∨ errE L t = 62 := fun L t => by unfold errE; split <;> simp
  rcases h with ⟨_, h, h'⟩ | ⟨pre, k, post, o, _, _, _, _, h⟩ | ⟨_, _, h, h'⟩
  · exact ⟨h, .inl h'⟩
  · exact absurd h he
  · rcases l (codesOf s) (isTgt (restOf s)) with h2 | h2
    · exact ⟨h, .inr (.inl (h'.trans h2))⟩
    · exact ⟨h, .inr (.inr (h'.trans h2))⟩
set_option maxRecDepth 100000 in
set_option maxHeartbeats 2000000 in
theorem forth_law (s : ByteArray) (hs : s.size ≤ 1048576) (pc p : Nat) (hpc : pc < 65536) (hp : p < 256) (w : World) (hE : LaidE w) :
    Calls Tryz.prog 4 #[.string s, .int .u16 pc, .int .u8 p] w fun e w' => e = .returned (.bool true) ∧ Below w.heap.size w w' := by
  have HE := Lib.hid hE
  have HP := Lib.hid (fun W hW => ask_walk s hs pc p hpc hp W hW)
  have HOK := Lib.hid (fun bs e h he => ans_ok s pc p bs e h he)
  have HNO := Lib.hid (fun bs e h he => ans_no s pc p bs e h he)
  clear hE
  go_enter Tryz.func4, Tryz.ntmps4
  go_upto_region 2 with (go_at_call 7; refine (HP.out _ HE.out).mono ?_; rintro e w1 ⟨v1, bs, e1, rfl, ha1, hr1, hf1, hb1⟩)
  have HB1 := Lib.hid hb1
  clear hb1
  by_cases h0 : e1 = 0
  · subst h0
    obtain ⟨k, o, hk, htx, hbs⟩ := HOK.out _ _ ha1 rfl
    subst hbs
    obtain ⟨n, hn⟩ : ∃ n, opK k p = n := ⟨_, rfl⟩
    have hol := htx.1
    have hn3 : n ≤ 3 := by rw [← hn]; exact opN_le _ _ _
    have hlen : ((k : Int) :: o).length = n + 1 := by rw [List.length_cons, hol, hn]
    have HCO := Lib.hid (copy_any v1 ((k : Int) :: o) w1 hr1 (by rw [hlen]; omega))
    have HTV := Lib.hid (show textV ((k : Int) :: o) pc p = .tuple #[.string s, .int .i64 ((n + 1 : Nat) : Int), .bool true] by rw [text_of k pc p hk o hol, htx.2.2, hn, Nat.add_comm])
    have HTX := Lib.hid (fun v W hr hl => text_walk v ((k : Int) :: o) pc p hpc hp W hr hf1 hl)
    rw [HTV.out] at HTX
    obtain ⟨la, lc, rfl⟩ : ∃ la lc, v1 = .slice la (n + 1) lc := by
      rcases hr1 with ⟨a, cap, rfl, e, _⟩ | ⟨b, o', cap, rfl, _⟩
      · cases e
      · exact ⟨_, _, by rw [hlen]⟩
    have e1 := strEq_true (rfl : s = s)
    clear ha1 hr1 hf1 htx hol hn hlen
    go_upto_region 5 with (first | (go_at_call 11; refine HCO.out.mono ?_; rintro e w2 ⟨v2, rfl, hown, hb2⟩; have HB2 := Lib.hid (HB1.out.trans (hb2.mono HB1.out.size)); have HR2 := Lib.hid (Row.owned hown).1; clear hown hb2) | (go_at_call 10; refine (HTX.out _ _ HR2.out (HE.out.1.below HB2.out)).mono ?_; rintro e w3 ⟨rfl, hb3⟩))
    have HB3 := Lib.hid (HB2.out.trans (hb3.mono HB2.out.size))
    go_wp2_with (go_at_call 9; refine (awake_walk _ (HE.out.1.below HB3.out)).mono ?_; rintro e w5 ⟨rfl, hb5⟩)
    go_ret
    exact ⟨rfl, HB3.out.trans (hb5.mono HB3.out.size)⟩
  · obtain ⟨hbs, hk⟩ := HNO.out _ _ ha1 h0
    subst hbs
    obtain ⟨la, lc, rfl⟩ : ∃ la lc, v1 = .slice la 0 lc := by
      rcases hr1 with ⟨a, cap, rfl, _⟩ | ⟨b, o', cap, rfl, h, _⟩
      · exact ⟨_, _, rfl⟩
      · simp at h
    clear ha1 hr1 hf1 h0
    rcases hk with rfl | rfl | rfl
    all_goals
      go_wp2_with (go_at_call 9; refine (awake_walk _ (HE.out.1.below HB1.out)).mono ?_; rintro e w5 ⟨rfl, hb5⟩)
      go_ret
      exact ⟨rfl, HB1.out.trans (hb5.mono HB1.out.size)⟩
theorem askBytes_any (s : ByteArray) (pc p : Int) (W : World) {P : Prop} (_ : P) (hs : s.size ≤ 1048576) (w1 : (Lit.int .u16 pc).wf = true) (w2 : (Lit.int .u8 p).wf = true) (hL : LaidE W) :
    Calls Tryz.prog 3 #[.string s, .int .u16 pc, .int .u8 p] W fun e w' => e = .returned (.bool true) ∧ Below W.heap.size W w' := by
  have hb1 := bounds_u16 w1
  have hb2 := bounds_u8 w2
  obtain ⟨pc, rfl⟩ := Int.eq_ofNat_of_zero_le hb1.1
  obtain ⟨p, rfl⟩ := Int.eq_ofNat_of_zero_le hb2.1
  exact bytes_law s hs pc p (by omega) (by omega) W hL
theorem askForth_any (s : ByteArray) (pc p : Int) (W : World) {P : Prop} (_ : P) (hs : s.size ≤ 1048576) (w1 : (Lit.int .u16 pc).wf = true) (w2 : (Lit.int .u8 p).wf = true) (hL : LaidE W) :
    Calls Tryz.prog 4 #[.string s, .int .u16 pc, .int .u8 p] W fun e w' => e = .returned (.bool true) ∧ Below W.heap.size W w' := by
  have hb1 := bounds_u16 w1
  have hb2 := bounds_u8 w2
  obtain ⟨pc, rfl⟩ := Int.eq_ofNat_of_zero_le hb1.1
  obtain ⟨p, rfl⟩ := Int.eq_ofNat_of_zero_le hb2.1
  exact forth_law s hs pc p (by omega) (by omega) W hL
theorem textB_size (k x n pc : Nat) (hk : k < 256) (hn : n ≤ 3) : (textB k x n pc).size ≤ 1048576 := by
  unfold textB
  split
  · rw [(tab_lim ⟨k, hk⟩).1]; decide
  · rw [bytesB_size, List.length_append, List.length_cons, name_size k hk]
    have := toldL_length (modeN k) n x pc (mode_lim k hk) hn
    omega
set_option maxRecDepth 100000 in
set_option maxHeartbeats 2000000 in
theorem back_law (v : Value) (xs : List Int) (pc p : Nat) (hpc : pc < 65536) (hp : p < 256) (w : World) (hr : Row .u8 w v xs) (hf : Fits .u8 xs) (hn : xs.length ≤ 140737488355328) (hE : LaidE w) :
    Calls Tryz.prog 5 #[v, .int .u16 pc, .int .u8 p] w fun e w' => e = .returned (.bool true) ∧ Below w.heap.size w w' := by
  have HE := Lib.hid hE
  have HCO := Lib.hid (copy_any v xs w hr hn)
  have HTX := Lib.hid (fun v W hr hl => text_walk v xs pc p hpc hp W hr hf hl)
  clear hE hn
  have e00 := strEq_true (rfl : (⟨#[]⟩ : ByteArray) = ⟨#[]⟩)
  rcases hr with ⟨a, cap, rfl, rfl, _⟩ | ⟨b, o, cap, rfl, h0, hlc, hcm, hcell⟩
  · rw [textV_none [] pc p (.inl rfl)] at HTX
    rw [List.length_nil] at HCO
    clear hf
    go_enter Tryz.func5, Tryz.ntmps5
    go_upto_region 2 with (first | (go_at_call 11; refine HCO.out.mono ?_; rintro e w2 ⟨v2, rfl, hown, hb2⟩; have HB2 := Lib.hid hb2; have HR2 := Lib.hid (Row.owned hown).1; clear hown hb2) | (go_at_call 10; refine (HTX.out _ _ HR2.out (HE.out.1.below HB2.out)).mono ?_; rintro e w3 ⟨rfl, hb3⟩))
    have HB3 := Lib.hid (HB2.out.trans (hb3.mono HB2.out.size))
    go_wp2_with (go_at_call 9; refine (awake_walk _ (HE.out.1.below HB3.out)).mono ?_; rintro e w5 ⟨rfl, hb5⟩)
    go_ret
    exact ⟨rfl, HB3.out.trans (hb5.mono HB3.out.size)⟩
  · obtain ⟨m, hm⟩ : ∃ m, xs.length = m := ⟨_, rfl⟩
    have hb0 := hf.u8 (i := 0) h0
    have hc0 := hcell 0 h0
    obtain ⟨k, hk⟩ : ∃ k : Nat, xs[0]?.getD 0 = (k : Int) := ⟨(xs[0]?.getD 0).toNat, by omega⟩
    rw [hk] at hb0 hc0
    rw [Nat.add_zero] at hc0
    have hk256 : k < 256 := by omega
    have HN := Lib.hid (textV_none xs pc p)
    have HS := Lib.hid (textV_some xs pc p)
    rw [hk, Int.toNat_natCast, hm] at HN HS
    rw [hm] at h0 hlc HCO ⊢
    have e0 : ((m : Int) == 0) = false := by rw [beq_eq_false_iff_ne]; omega
    have h0i : (0 : Int) < (m : Int) := by omega
    have HSZ := Lib.hid (fun W => size_walk k p hk256 hp W)
    obtain ⟨q, hq⟩ : ∃ q, opK k p = q := ⟨_, rfl⟩
    have hq3 : q ≤ 3 := by rw [← hq]; exact opN_le _ _ _
    obtain ⟨n1, hn1⟩ : ∃ n1, 1 + q = n1 := ⟨_, rfl⟩
    rw [hq, hn1] at HSZ HN HS
    by_cases hsh : m < n1
    · rw [HN.out (.inr hsh)] at HTX
      have b1 : (m : Int) < (n1 : Int) := by omega
      clear hf hcell HS HN hk hq hn1 hm
      go_enter Tryz.func5, Tryz.ntmps5
      go_upto_region 2 with (first | (go_at_call 11; refine HCO.out.mono ?_; rintro e w2 ⟨v2, rfl, hown, hb2⟩; have HB2 := Lib.hid hb2; have HR2 := Lib.hid (Row.owned hown).1; clear hown hb2) | (go_at_call 10; refine (HTX.out _ _ HR2.out (HE.out.1.below HB2.out)).mono ?_; rintro e w3 ⟨rfl, hb3⟩))
      have HB3 := Lib.hid (HB2.out.trans (hb3.mono HB2.out.size))
      have hc3 : w3.cell? ⟨b, o, none⟩ = some (.int .u8 k) := (HB3.out.cell (World.block_lt_of_cell? w _ hc0)).trans hc0
      go_wp2_with (first | (go_at_call 12; refine (HSZ.out _).mono ?_; rintro e w4 ⟨rfl, hb4⟩; have HB4 := Lib.hid (HB3.out.trans (hb4.mono HB3.out.size))) | (go_at_call 9; refine (awake_walk _ (HE.out.1.below HB4.out)).mono ?_; rintro e w5 ⟨rfl, hb5⟩))
      go_ret
      exact ⟨rfl, HB4.out.trans (hb5.mono HB4.out.size)⟩
    · have hTV := HS.out (by omega)
      obtain ⟨ys, hys⟩ : ∃ ys, (xs.drop 1).take q = ys := ⟨_, rfl⟩
      have hyl : ys.length = q := by rw [← hys, List.length_take, List.length_drop]; omega
      have hyf : Fits .u8 ys := by rw [← hys]; exact fun y hy => hf y (List.mem_of_mem_drop (List.mem_of_mem_take hy))
      have hxk : xs.take n1 = (k : Int) :: ys := by
        cases xs with
        | nil => simp at hm; omega
        | cons x r =>
          have hx : x = (k : Int) := by simpa using hk
          rw [← hn1, Nat.add_comm, List.take_succ_cons, ← hys, List.drop_succ_cons, List.drop_zero, hx]
      obtain ⟨S, hS⟩ : ∃ S, textB k (leN ys).toNat q pc = S := ⟨_, rfl⟩
      rw [hys, hS] at hTV
      rw [hTV] at HTX
      have HBK := Lib.hid (fun bs e h => ans_back k pc p ys bs S e hk256 hpc ⟨by rw [hyl, hq], hyf, by rw [hq]; exact hS⟩ h)
      have HP := Lib.hid (fun W hW => ask_walk S (by rw [← hS]; exact textB_size k _ q pc hk256 hq3) pc p hpc hp W hW)
      have HROW := Lib.hid (show ∀ W, Below w.heap.size w W → Row .u8 W (.slice (some ⟨b, o, none⟩) n1 cap) ((k : Int) :: ys) from fun W hW => by
        rw [← hxk]
        have hl : (xs.take n1).length = n1 := by rw [List.length_take]; omega
        refine .inr ⟨b, o, cap, by rw [hl], by omega, by omega, hcm, fun i hi => ?_⟩
        have hi2 : i < n1 := by omega
        have hc := hcell i (by omega)
        rw [hW.cell (World.block_lt_of_cell? w _ hc), hc, List.getElem?_take_of_lt hi2])
      have b1 : ¬ (m : Int) < (n1 : Int) := by omega
      have b2 : (n1 : Int) ≤ (cap : Int) := by omega
      have b3 : (0 : Int) ≤ (n1 : Int) := by omega
      have HSAME := Lib.hid (fun W va (h1 : Row .u8 W va ((k : Int) :: ys)) (h2 : Row .u8 W (.slice (some ⟨b, o, none⟩) n1 cap) ((k : Int) :: ys)) => bytes_same va _ _ _ W h1 h2 rfl)
      rw [eqB_refl] at HSAME
      clear hf hcell HS HN hk hq hn1 hm hTV hys hyl hyf hxk hS
      go_enter Tryz.func5, Tryz.ntmps5
      go_upto_region 2 with (first | (go_at_call 11; refine HCO.out.mono ?_; rintro e w2 ⟨v2, rfl, hown, hb2⟩; have HB2 := Lib.hid hb2; have HR2 := Lib.hid (Row.owned hown).1; clear hown hb2) | (go_at_call 10; refine (HTX.out _ _ HR2.out (HE.out.1.below HB2.out)).mono ?_; rintro e w3 ⟨rfl, hb3⟩))
      have HB3 := Lib.hid (HB2.out.trans (hb3.mono HB2.out.size))
      have hc3 : w3.cell? ⟨b, o, none⟩ = some (.int .u8 k) := (HB3.out.cell (World.block_lt_of_cell? w _ hc0)).trans hc0
      clear HCO HTX HR2 hb3 hc0
      go_upto_region 6 with (go_at_call 12; refine (HSZ.out _).mono ?_; rintro e w4 ⟨rfl, hb4⟩; have HB4 := Lib.hid (HB3.out.trans (hb4.mono HB3.out.size)))
      clear hb4
      go_upto_region 7 with (go_at_call 7; refine (HP.out _ (HE.out.below HB4.out)).mono ?_; rintro e w5 ⟨v5, bs, e5, rfl, ha5, hr5, hf5, hb5⟩)
      obtain ⟨h1, h2⟩ := HBK.out _ _ ha5
      subst h1 h2
      have HB5 := Lib.hid (HB4.out.trans (hb5.mono HB4.out.size))
      have HS5 := Lib.hid (HSAME.out _ _ hr5 (HROW.out _ HB5.out))
      clear ha5 hr5 hf5 hb5 HROW HSAME HBK HP
      go_wp2_with (first | (go_at_call 8; refine HS5.out.mono ?_; rintro e w6 ⟨rfl, d, rfl⟩) | (go_at_call 9; refine (awake_walk _ (HE.out.1.below (below_drewN HB5.out _))).mono ?_; rintro e w7 ⟨rfl, hb7⟩))
      go_ret
      exact ⟨rfl, (below_drewN HB5.out _).trans (hb7.mono (below_drewN HB5.out _).size)⟩
theorem back_any (a : Option Addr) (len cap : Nat) (z : List Int) (pc p : Int) (W : World) (hr : IsRow .u8 W a len cap z) (hs : cap * 1 ≤ 140737488351232) (w1 : (Lit.int .u16 pc).wf = true) (w2 : (Lit.int .u8 p).wf = true) (hL : LaidE W) :
    Calls Tryz.prog 5 #[.slice a len cap, .int .u16 pc, .int .u8 p] W fun e w' => e = .returned (.bool true) ∧ Below W.heap.size W w' := by
  obtain ⟨h1, h2, h3, h4⟩ := Row.came hr
  have hb1 := bounds_u16 w1
  have hb2 := bounds_u8 w2
  obtain ⟨pc, rfl⟩ := Int.eq_ofNat_of_zero_le hb1.1
  obtain ⟨p, rfl⟩ := Int.eq_ofNat_of_zero_le hb2.1
  have hlc : len ≤ cap := by rcases hr with ⟨_, rfl, rfl, _⟩ | ⟨_, _, h, _⟩; exact Nat.le_refl _; exact h
  exact back_law _ _ pc p (by omega) (by omega) W h1 h2 (by omega) hL
end Go.Proofs.YtpeieilbjadcfaaGreatDoor
