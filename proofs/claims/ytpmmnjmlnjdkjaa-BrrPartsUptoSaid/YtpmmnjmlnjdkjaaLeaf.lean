/- The walks of the program's and of the document's leaves: a clamp, what is foreseen, a nibble's sample. -/
import Derived.Test.YtpmmnjmlnjdkjaaProg
import Derived.Test.YtpmmnjmlnjdkjaaPlain
import Derived.Test.YtpmmnjmlnjdkjaaKit
namespace Go.Proofs.Ytpmmnjmlnjdkjaa
open Go.RowKit

theorem clamp_any (n : Int) (w : World) : Calls Try.prog 43 #[.int .i64 n] w fun e w' => e = .returned (.int .i64 (clampN n)) ∧ w = w' := by
  go_enter Try.func43, Try.ntmps43
  go_wp2
  all_goals
    go_ret
    exact ⟨ret_int (by unfold clampN; repeat' split <;> omega), rfl⟩
theorem filt0 (p q : Int) (w : World) : Calls Try.prog 39 #[.int .i64 p, .int .i64 q] w fun e w' => e = .returned (.int .i64 (filterN 0 p q)) ∧ w = w' := by
  go_enter Try.func39, Try.ntmps39
  go_wp2
  go_ret
  exact ⟨rfl, rfl⟩
theorem filt1 (p q : Int) (p0 : -32768 ≤ p) (p1 : p ≤ 32767) (w : World) : Calls Try.prog 40 #[.int .i64 p, .int .i64 q] w fun e w' => e = .returned (.int .i64 (filterN 1 p q)) ∧ w = w' := by
  go_enter Try.func40, Try.ntmps40
  go_wp2
  go_ret
  exact ⟨rfl, rfl⟩
theorem filt2 (p q : Int) (p0 : -32768 ≤ p) (p1 : p ≤ 32767) (q0 : -32768 ≤ q) (q1 : q ≤ 32767) (w : World) : Calls Try.prog 41 #[.int .i64 p, .int .i64 q] w fun e w' => e = .returned (.int .i64 (filterN 2 p q)) ∧ w = w' := by
  go_enter Try.func41, Try.ntmps41
  go_wp2
  go_ret
  exact ⟨rfl, rfl⟩
theorem filt3 (p q : Int) (p0 : -32768 ≤ p) (p1 : p ≤ 32767) (q0 : -32768 ≤ q) (q1 : q ≤ 32767) (w : World) : Calls Try.prog 42 #[.int .i64 p, .int .i64 q] w fun e w' => e = .returned (.int .i64 (filterN 3 p q)) ∧ w = w' := by
  go_enter Try.func42, Try.ntmps42
  go_wp2
  go_ret
  exact ⟨rfl, rfl⟩

/-- The function that foresees, as the program holds it. -/
def fnOf (f : Int) : Value := .func (.func (if f = 1 then 40 else if f = 2 then 41 else if f = 3 then 42 else 39)) #[] #[]
theorem filt_any (f p q : Int) (p0 : -32768 ≤ p) (p1 : p ≤ 32767) (q0 : -32768 ≤ q) (q1 : q ≤ 32767) (w : World) :
    Calls Try.prog (if f = 1 then 40 else if f = 2 then 41 else if f = 3 then 42 else 39) #[.int .i64 p, .int .i64 q] w fun e w' => e = .returned (.int .i64 (filterN f p q)) ∧ w = w' := by
  by_cases h1 : f = 1
  · subst h1; exact filt1 p q p0 p1 w
  · by_cases h2 : f = 2
    · subst h2; exact filt2 p q p0 p1 q0 q1 w
    · by_cases h3 : f = 3
      · subst h3; exact filt3 p q p0 p1 q0 q1 w
      · rw [if_neg h1, if_neg h2, if_neg h3, show filterN f p q = filterN 0 p q from by unfold filterN; simp [h1, h2, h3]]; exact filt0 p q w

theorem fn_enter (f : Int) (args : Array Value) (w : World) :
    Sem.run Try.prog (callFunc (if f = 1 then 40 else if f = 2 then 41 else if f = 3 then 42 else 39) args) w = .ok (.enter (if f = 1 then 40 else if f = 2 then 41 else if f = 3 then 42 else 39) args) w := by
  by_cases h1 : f = 1
  · rw [if_pos h1]; kernel_rfl
  · by_cases h2 : f = 2
    · rw [if_neg h1, if_pos h2]; kernel_rfl
    · by_cases h3 : f = 3
      · rw [if_neg h1, if_neg h2, if_pos h3]; kernel_rfl
      · rw [if_neg h1, if_neg h2, if_neg h3]; kernel_rfl

/-- A row in memory: its shift, its filter, the last sample and the one ahead of it. -/
structure RowAt (w : World) (b : Nat) (sh f p q : Int) : Prop where
  c0 : w.cell? ⟨b, 0, none⟩ = some (.int .u8 sh)
  c1 : w.cell? ⟨b, 1, none⟩ = some (fnOf f)
  c2 : w.cell? ⟨b, 2, none⟩ = some (.int .i64 p)
  c3 : w.cell? ⟨b, 3, none⟩ = some (.int .i64 q)
  f2 : w.frozen? ⟨b, 2, none⟩ = false
  f3 : w.frozen? ⟨b, 3, none⟩ = false

theorem sample_any (b : Nat) (sh f nib p q : Int) (w : World) (hr : RowAt w b sh f p q) (s0 : 0 ≤ sh) (s1 : sh ≤ 15) (n0 : -8 ≤ nib) (n1 : nib ≤ 7)
    (p0 : -32768 ≤ p) (p1 : p ≤ 32767) (q0 : -32768 ≤ q) (q1 : q ≤ 32767) :
    Calls Try.prog 30 #[.pointer (some ⟨b, 0, none⟩), .int .i64 nib] w fun e w' => e = .returned (.int .i64 (sampleN sh f nib p q)) ∧ ∃ n, w' = w.drewN n := by
  obtain ⟨c0, c1, c2, c3, -, -⟩ := hr
  obtain ⟨g, hg, hen, hcall⟩ : ∃ g : Nat, fnOf f = .func (.func g) #[] #[] ∧ (∀ (args : Array Value) (w : World), Sem.run Try.prog (callFunc g args) w = .ok (.enter g args) w) ∧ ∀ w : World, Calls Try.prog g #[.int .i64 p, .int .i64 q] w fun e w' => e = .returned (.int .i64 (filterN f p q)) ∧ w = w' :=
    ⟨_, rfl, fn_enter f, fun w => filt_any f p q p0 p1 q0 q1 w⟩
  rw [hg] at c1
  have HK := Lib.hid hcall
  clear hg hcall
  have b1 := shl_bounds sh nib s1 n0 n1
  have b2 := filterN_bounds f p q p0 p1 q0 q1
  by_cases h : sh ≤ 12
  · have hb : baseN sh nib = nib * 2 ^ sh.toNat / 2 := by unfold baseN; rw [if_pos h]
    have HB := Lib.hid hb
    have hb2 := baseN_bounds sh nib n0 n1
    clear hb
    go_enter Try.func30, Try.ntmps30
    have hw : IntKind.i64.wrap (nib * 2 ^ sh.toNat / 2 + filterN f p q) = nib * 2 ^ sh.toNat / 2 + filterN f p q := IntWalk.i64_in _ (by omega)
    go_wp2
    go_quiet ((first | (go_at_call 43; exact quiet_left (clamp_any _ _)) | exact quiet_left (HK.out _)))
    go_wp2
    go_ret
    exact ⟨ret_int (by unfold sampleN; rw [HB.out]), _, rfl⟩
  · have hb : baseN sh nib = nib / 8 * 2048 := by unfold baseN; rw [if_neg h]; split <;> omega
    have HB := Lib.hid hb
    have hb2 := baseN_bounds sh nib n0 n1
    clear hb
    have hw : IntKind.i64.wrap (nib / 8 * 2048 + filterN f p q) = nib / 8 * 2048 + filterN f p q := IntWalk.i64_in _ (by omega)
    go_enter Try.func30, Try.ntmps30
    go_wp2
    go_quiet ((first | (go_at_call 43; exact quiet_left (clamp_any _ _)) | exact quiet_left (HK.out _)))
    go_wp2
    go_ret
    exact ⟨ret_int (by unfold sampleN; rw [HB.out]), _, rfl⟩

theorem take_any (b : Nat) (sh f p q s : Int) (w : World) (hr : RowAt w b sh f p q) :
    Calls Try.prog 29 #[.pointer (some ⟨b, 0, none⟩), .int .i64 s] w fun e w' => e = .returned (.tuple #[]) ∧ (w.setCell ⟨b, 2, none⟩ (.int .i64 s)).setCell ⟨b, 3, none⟩ (.int .i64 p) = w' := by
  obtain ⟨c0, c1, c2, c3, f2, f3⟩ := hr
  go_enter Try.func29, Try.ntmps29
  go_wp2
  go_end0
  exact ⟨rfl, rfl⟩

theorem RowAt.drewN {w : World} {b : Nat} {sh f p q : Int} (h : RowAt w b sh f p q) (n : Nat) : RowAt (w.drewN n) b sh f p q := ⟨h.c0, h.c1, h.c2, h.c3, h.f2, h.f3⟩
theorem RowAt.below {w w' : World} {b B : Nat} {sh f p q : Int} (h : RowAt w b sh f p q) (hb : Below B w w') (hB : b < B) : RowAt w' b sh f p q :=
  ⟨(hb.cell (p := ⟨b, 0, none⟩) hB).trans h.c0, (hb.cell (p := ⟨b, 1, none⟩) hB).trans h.c1, (hb.cell (p := ⟨b, 2, none⟩) hB).trans h.c2, (hb.cell (p := ⟨b, 3, none⟩) hB).trans h.c3,
    (hb.frozen (p := ⟨b, 2, none⟩) hB).trans h.f2, (hb.frozen (p := ⟨b, 3, none⟩) hB).trans h.f3⟩
theorem RowAt.lt {w : World} {b : Nat} {sh f p q : Int} (h : RowAt w b sh f p q) : b < w.heap.size := World.block_lt_of_cell? w _ h.c0
theorem RowAt.grown {w w' : World} {b : Nat} {row : Option Nat} {sh f p q : Int} (h : RowAt w b sh f p q) (hg : w.grownBy w' row) (hne : some b ≠ row) : RowAt w' b sh f p q := by
  have hk := hg.block b h.lt hne
  exact ⟨(World.cell?_of_block (a := ⟨b, 0, none⟩) hk).trans h.c0, (World.cell?_of_block (a := ⟨b, 1, none⟩) hk).trans h.c1, (World.cell?_of_block (a := ⟨b, 2, none⟩) hk).trans h.c2, (World.cell?_of_block (a := ⟨b, 3, none⟩) hk).trans h.c3,
    (World.frozen?_of_block (a := ⟨b, 2, none⟩) hk).trans h.f2, (World.frozen?_of_block (a := ⟨b, 3, none⟩) hk).trans h.f3⟩

theorem grownBy_setCell (w : World) (a : Addr) (u : Value) : w.grownBy (w.setCell a u) (some a.block) :=
  ⟨rfl, rfl, rfl, by simp [World.setCell], fun k _ hk => Below.heap_setCell w a u k (fun e => hk (by rw [e]))⟩
theorem grownBy_trans {a b c : World} {row : Option Nat} (h : a.grownBy b row) (k : b.grownBy c row) : a.grownBy c row :=
  ⟨k.os.trans h.os, k.tape.trans h.tape, k.output.trans h.output, Nat.le_trans h.size k.size, fun i hi hne => (k.block i (Nat.lt_of_lt_of_le hi h.size) hne).trans (h.block i hi hne)⟩
theorem grownBy_drewN {a b : World} {row : Option Nat} (h : a.grownBy b row) (n : Nat) : a.grownBy (b.drewN n) row := ⟨h.os, h.tape, h.output, h.size, h.block⟩
theorem grownBy_from_drewN {a b : World} {row : Option Nat} {n : Nat} (h : (a.drewN n).grownBy b row) : a.grownBy b row := ⟨h.os, h.tape, h.output, h.size, h.block⟩

theorem take_row (b : Nat) (sh f p q s : Int) (w : World) (hr : RowAt w b sh f p q) :
    Calls Try.prog 29 #[.pointer (some ⟨b, 0, none⟩), .int .i64 s] w fun e w' => e = .returned (.tuple #[]) ∧ RowAt w' b sh f s p ∧ w.grownBy w' (some b) ∧ w'.heap.size = w.heap.size := by
  refine (take_any b sh f p q s w hr).mono ?_
  rintro e w' ⟨rfl, rfl⟩
  obtain ⟨c0, c1, c2, c3, f2, f3⟩ := hr
  refine ⟨rfl, ⟨?_, ?_, ?_, ?_, ?_, ?_⟩, grownBy_trans (grownBy_setCell w _ _) (grownBy_setCell _ _ _), by simp [World.setCell]⟩
  · rw [World.cell?_setCell_other _ _ _ _ (by simp), World.cell?_setCell_other _ _ _ _ (by simp)]; exact c0
  · rw [World.cell?_setCell_other _ _ _ _ (by simp), World.cell?_setCell_other _ _ _ _ (by simp)]; exact c1
  · rw [World.cell?_setCell_other _ _ _ _ (by simp)]; exact World.cell?_setCell_same _ _ _ c2
  · exact World.cell?_setCell_same _ _ _ (by rw [World.cell?_setCell_other _ _ _ _ (by simp)]; exact c3)
  · rw [World.frozen?_setCell, World.frozen?_setCell]; exact f2
  · rw [World.frozen?_setCell, World.frozen?_setCell]; exact f3

/-! ### Heads -/
theorem and2 (h : Int) (h0 : 0 ≤ h) (h1 : h ≤ 255) : (bits BinOp.and IntKind.u8 h 2 != 0) = decide (h / 2 % 2 = 1) := by
  rw [u8_and h 2 h0 (by omega) (by decide) (by decide), show ((2 : Int).toNat) = 2 ^ 1 from rfl, nat_bit]
  refine eq_of_iff ?_
  simp only [bne_iff_ne, ne_eq, decide_eq_true_eq]
  omega
theorem and1 (h : Int) (h0 : 0 ≤ h) (h1 : h ≤ 255) : (bits BinOp.and IntKind.u8 h 1 != 0) = decide (h % 2 = 1) := by
  rw [u8_and h 1 h0 (by omega) (by decide) (by decide), show ((1 : Int).toNat) = 1 from rfl, nat_mask1]
  refine eq_of_iff ?_
  simp only [bne_iff_ne, ne_eq, decide_eq_true_eq]
  omega
theorem and3 (h : Int) (h0 : 0 ≤ h) (h1 : h ≤ 255) : bits BinOp.and IntKind.u8 (h / 4) 3 = h / 4 % 4 := by
  rw [u8_and (h / 4) 3 (by omega) (by omega) (by decide) (by decide), show ((3 : Int).toNat) = 3 from rfl, nat_mask2]; omega

theorem read_any (h : Int) (h0 : 0 ≤ h) (h1 : h ≤ 255) (w : World) :
    Calls Try.prog 16 #[.int .u8 h] w fun e w' => e = .returned (.agg #[.int .u8 (h / 16), .int .u8 (h / 4 % 4), .bool (decide (h / 2 % 2 = 1)), .bool (decide (h % 2 = 1))]) ∧ Below w.heap.size w w' := by
  have e2 := and2 h h0 h1
  have e1 := and1 h h0 h1
  have e3 := and3 h h0 h1
  go_enter Try.func16, Try.ntmps16
  go_wp2
  go_returns
  exact ⟨rfl, (Below.refl _ _).alloc (Nat.le_refl _) _⟩
theorem refRead_any (h : Int) (h0 : 0 ≤ h) (h1 : h ≤ 255) (w : World) :
    Calls Try.prog 17 #[.int .u8 h] w fun e w' => e = .returned (.agg #[.int .u8 (h / 16), .int .u8 (h / 4 % 4), .bool (decide (h / 2 % 2 = 1)), .bool (decide (h % 2 = 1))]) ∧ Below w.heap.size w w' := by
  have e2 : (h / 2 % 2 == 1) = decide (h / 2 % 2 = 1) := rfl
  have e1 : (h % 2 == 1) = decide (h % 2 = 1) := rfl
  go_enter Try.func17, Try.ntmps17
  go_wp2
  go_returns
  exact ⟨rfl, (Below.refl _ _).alloc (Nat.le_refl _) _⟩

/-! ### The document's answers -/
theorem refClamp_any (n : Int) (w : World) : Calls Try.prog 38 #[.int .i64 n] w fun e w' => e = .returned (.int .i64 (clampN n)) ∧ w = w' := by
  go_enter Try.func38, Try.ntmps38
  go_wp2
  all_goals
    go_ret
    exact ⟨ret_int (by unfold clampN; repeat' split <;> omega), rfl⟩
theorem tdiv_facts (v n : Int) (hn : n = 2 ∨ n = 16 ∨ n = 32 ∨ n = 64) (v0 : -16777216 ≤ v) (v1 : v ≤ 16777216) :
    -16777217 ≤ v.tdiv n ∧ v.tdiv n ≤ 16777217 ∧ (v.tmod n < 0 → v / n = v.tdiv n - 1) ∧ (0 ≤ v.tmod n → v / n = v.tdiv n) := by
  have hq := Int.mul_tdiv_add_tmod v n
  have h1 := Int.tmod_lt_of_pos v (show 0 < n by omega)
  have h2 := Int.lt_tmod_of_pos v (show 0 < n by omega)
  generalize v.tdiv n = q at *
  generalize v.tmod n = r at *
  rcases hn with rfl | rfl | rfl | rfl <;> omega
theorem by_any (v n : Int) (hn : n = 2 ∨ n = 16 ∨ n = 32 ∨ n = 64) (v0 : -16777216 ≤ v) (v1 : v ≤ 16777216) (w : World) :
    Calls Try.prog 37 #[.int .i64 v, .int .i64 n] w fun e w' => e = .returned (.int .i64 (v / n)) ∧ w = w' := by
  obtain ⟨q0, q1, q2, q3⟩ := tdiv_facts v n hn v0 v1
  have Q2 := Lib.hid q2
  have Q3 := Lib.hid q3
  have n1 : 1 ≤ n := by omega
  have n2 : n ≤ 64 := by omega
  clear q2 q3
  go_enter Try.func37, Try.ntmps37
  go_wp2
  · go_ret
    exact ⟨ret_int (Q2.out (by assumption)).symm, rfl⟩
  · go_ret
    exact ⟨ret_int (Q3.out (by assumption)).symm, rfl⟩

theorem refSample_any (nib sh f p q : Int) (w : World) (s0 : 0 ≤ sh) (s1 : sh ≤ 15) (f0 : 0 ≤ f) (f1 : f ≤ 3) (n0 : -8 ≤ nib) (n1 : nib ≤ 7)
    (p0 : -32768 ≤ p) (p1 : p ≤ 32767) (q0 : -32768 ≤ q) (q1 : q ≤ 32767) :
    Calls Try.prog 26 #[.int .i64 nib, .int .u8 sh, .int .u8 f, .int .i64 p, .int .i64 q] w fun e w' => e = .returned (.int .i64 (sampleN sh f nib p q)) ∧ w = w' := by
  have b1 := shl_bounds sh nib s1 n0 n1
  have b2 := pow_bounds sh s1
  have b3 := baseN_bounds sh nib n0 n1
  have b4 := filterN_bounds f p q p0 p1 q0 q1
  have hf : f = 0 ∨ f = 1 ∨ f = 2 ∨ f = 3 := by omega
  have HF := Lib.hid hf
  have hB1 : sh ≤ 12 → nib * 2 ^ sh.toNat / 2 = baseN sh nib := fun h => by unfold baseN; rw [if_pos h]
  have hB2 : 12 < sh → nib < 0 → -2048 = baseN sh nib := fun h h' => by unfold baseN; rw [if_neg (by omega), if_pos h']
  have hB3 : 12 < sh → 0 ≤ nib → 0 = baseN sh nib := fun h h' => by unfold baseN; rw [if_neg (by omega), if_neg (by omega)]
  have HB1 := Lib.hid hB1
  have HB2 := Lib.hid hB2
  have HB3 := Lib.hid hB3
  clear hf hB1 hB2 hB3
  go_enter Try.func26, Try.ntmps26
  go_upto_if 13 with fail
  go_cut [11] (fun s11 wx => s11 = .int .i64 (baseN sh nib) ∧ w = wx)
  case first =>
    go_wp2_with (go_at_call 37; refine (by_any _ _ (by omega) (by omega) (by omega) _).mono ?_; rintro e w' ⟨rfl, rfl⟩)
    · go_meet
      exact ⟨by rw [← HB1.out (by assumption)], rfl⟩
    · go_meet
      exact ⟨by rw [← HB2.out (by assumption) (by assumption)], rfl⟩
    · go_meet
      exact ⟨by rw [← HB3.out (by assumption) (by assumption)], rfl⟩
  case rest =>
    obtain ⟨rfl, rfl⟩ := hcut
    rcases HF.out with rfl | rfl | rfl | rfl
    all_goals
      go_wp2_with (first | (go_at_call 37; refine (by_any _ _ (by omega) (by omega) (by omega) _).mono ?_; rintro e w' ⟨rfl, rfl⟩) | (go_at_call 38; refine (refClamp_any _ _).mono ?_; rintro e w' ⟨rfl, rfl⟩))
      go_ret
      exact ⟨ret_int (by simp [sampleN, filterN]), rfl⟩

theorem nibble_any (b o : Nat) (cap : Nat) (k x : Int) (w : World) (k0 : 0 ≤ k) (k1 : k ≤ 15) (hx0 : 0 ≤ x) (hx1 : x ≤ 255) (hc : w.cell? ⟨b, o + (1 + k / 2).toNat, none⟩ = some (.int .u8 x)) :
    Calls Try.prog 27 #[.slice (some ⟨b, o, none⟩) 9 cap, .int .i64 k] w fun e w' => e = .returned (.int .i64 (nibN x k)) ∧ w = w' := by
  go_enter Try.func27, Try.ntmps27
  go_wp2
  all_goals
    go_ret
    exact ⟨ret_int (by unfold nibN; simp_all; try omega), rfl⟩
end Go.Proofs.Ytpmmnjmlnjdkjaa
