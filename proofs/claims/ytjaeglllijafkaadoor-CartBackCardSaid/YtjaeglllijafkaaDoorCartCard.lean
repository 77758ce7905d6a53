/- A card, as bytes have it: cart.Look and the document's Look. -/
import Derived.Test.YtjaeglllijafkaaDoorProg
import Derived.Test.YtjaeglllijafkaaDoorImage
import Derived.Test.YtjaeglllijafkaaDoorCartTab
import Derived.Test.YtjaeglllijafkaaDoorCartTrim
import Derived.StillTailTactics
import Derived.Deep.RegionHeld3
import Derived.Lib.SlBytesRow
namespace Go.Proofs.YtjaeglllijafkaaDoor
open Go.RowKit
set_option linter.unusedVariables false
set_option linter.unusedSimpArgs false

/-- A card's seven parts. -/
structure Card where
  ti : ByteArray
  mo : Int
  ki : Int
  rz : Int
  ck : Int
  su : Int
  re : Int
def Card.v (c : Card) : Value := .agg #[.string c.ti, .int .u8 c.mo, .int .u8 c.ki, .int .u8 c.rz, .int .u16 c.ck, .int .u16 c.su, .int .u16 c.re]
def noCard : Card := ⟨⟨#[]⟩, 0, 0, 0, 0, 0, 0⟩
def winI (xs : List Int) (A n : Nat) : List Int := (List.range n).map fun j => xs[A + j]?.getD 0
theorem winI_length (xs : List Int) (A n : Nat) : (winI xs A n).length = n := by simp [winI]
theorem winI_get (xs : List Int) (A n j : Nat) (h : j < n) : (winI xs A n).getD j 0 = xs[A + j]?.getD 0 := by simp [winI, h]
def titleN (xs : List Int) (A : Nat) : ByteArray := trimB (strOfNums (winI xs A 21))
def wordN (xs : List Int) (A : Nat) : Int := xs[A]?.getD 0 + 256 * xs[A + 1]?.getD 0
def cardN (xs : List Int) (A : Nat) : Card := ⟨titleN xs A, xs[A + 21]?.getD 0, xs[A + 22]?.getD 0, xs[A + 24]?.getD 0, wordN xs (A + 28), wordN xs (A + 30), wordN xs (A + 60)⟩
def lookN (xs : List Int) (n : Nat) (l : Int) : Card := if atN l < 0 ∨ (n : Int) < atN l + 64 then noCard else cardN xs (atN l).toNat
def lookE (n : Nat) (l : Int) : Int := if atN l < 0 then 2 else if (n : Int) < atN l + 64 then 5 else 0
theorem placeN_bounds (l : Int) : 0 ≤ placeN l ∧ placeN l ≤ 4259776 := by unfold placeN atN; split <;> (try split) <;> (try split) <;> (try split) <;> omega
theorem isL_at {l : Int} : isL l = !(decide (atN l < 0)) := by
  rw [Bool.eq_iff_iff]
  unfold isL atN
  by_cases h1 : l = 1
  · subst h1; decide
  · by_cases h2 : l = 2
    · subst h2; decide
    · by_cases h3 : l = 3
      · subst h3; decide
      · rw [if_neg h1, if_neg h2, if_neg h3]; simp; omega
theorem Tryd.zeroCard (w : World) : (zeroValue 27).run Tryd.prog w = .ok noCard.v w := by kernel_rfl

theorem conv_title (W : World) (b o c : Nat) (xs : List Int) (A : Nat) (h : ∀ j, j < 64 → W.cell? ⟨b, o + A + j, none⟩ = some (.int .u8 (xs[A + j]?.getD 0))) :
    (convert 28 9 (.slice (some ⟨b, o + A, none⟩) 21 c)).run Tryd.prog W = .ok (.string (strOfNums (winI xs A 21))) W :=
  run_convert_bytes_arg W 28 5 Tryd.underlying28 Tryd.underlying5 b (o + A) 21 c (winI xs A 21) (winI_length _ _ _) (fun i hi => by rw [winI_get _ _ _ _ hi]; exact h i (by omega)) 9 Tryd.underlying9
theorem word_at (W : World) (b o c : Nat) (xs : List Int) (A : Nat) (h : ∀ j, j < 64 → W.cell? ⟨b, o + A + j, none⟩ = some (.int .u8 (xs[A + j]?.getD 0))) (hf : ∀ j, j < 64 → 0 ≤ xs[A + j]?.getD 0 ∧ xs[A + j]?.getD 0 ≤ 255) (k : Nat) (hk : k + 1 < 64) :
    Calls Tryd.prog 25 #[.slice (some ⟨b, o + A, none⟩) 64 c, .int .i64 k] W fun e w' => e = .returned (.int .u16 (wordN xs (A + k))) ∧ ∃ n, w' = W.drewN n :=
  word_walk b (o + A) 64 c k _ _ W hk (by decide) (hf k (by omega)).1 (hf k (by omega)).2 (hf (k + 1) hk).1 (hf (k + 1) hk).2 (h k (by omega)) (h (k + 1) hk)
theorem word_int (W : World) (b o c : Nat) (xs : List Int) (A : Nat) (h : ∀ j, j < 64 → W.cell? ⟨b, o + A + j, none⟩ = some (.int .u8 (xs[A + j]?.getD 0))) (hf : ∀ j, j < 64 → 0 ≤ xs[A + j]?.getD 0 ∧ xs[A + j]?.getD 0 ≤ 255) (k : Int) (h0 : 0 ≤ k) (hk : k + 1 < 64) :
    Calls Tryd.prog 25 #[.slice (some ⟨b, o + A, none⟩) 64 c, .int .i64 k] W fun e w' => e = .returned (.int .u16 (wordN xs (A + k.toNat))) ∧ ∃ n, w' = W.drewN n := by
  have h2 := word_at W b o c xs A h hf k.toNat (by omega)
  rwa [show ((k.toNat : Nat) : Int) = k from by omega] at h2
theorem put7_other (W : World) (R b i : Nat) (v0 v1 v2 v3 v4 v5 v6 : Value) (h : b ≠ R) :
    (((((((W.setCell ⟨R, 0, none⟩ v0).setCell ⟨R, 1, none⟩ v1).setCell ⟨R, 2, none⟩ v2).setCell ⟨R, 3, none⟩ v3).setCell ⟨R, 4, none⟩ v4).setCell ⟨R, 5, none⟩ v5).setCell ⟨R, 6, none⟩ v6).cell? ⟨b, i, none⟩ = W.cell? ⟨b, i, none⟩ := by
  have ne : ∀ j, (⟨R, j, none⟩ : Addr) ≠ ⟨b, i, none⟩ := fun j e => h (by injection e with e; exact e.symm)
  rw [World.cell?_setCell_other _ _ _ _ (ne _), World.cell?_setCell_other _ _ _ _ (ne _), World.cell?_setCell_other _ _ _ _ (ne _), World.cell?_setCell_other _ _ _ _ (ne _), World.cell?_setCell_other _ _ _ _ (ne _), World.cell?_setCell_other _ _ _ _ (ne _), World.cell?_setCell_other _ _ _ _ (ne _)]
theorem title_walk (xs : List Int) (A : Nat) (W : World) : Calls Tryd.prog 24 #[.string (strOfNums (winI xs A 21)), .string ⟨#[32]⟩] W fun e w' => e = .returned (.string (titleN xs A)) ∧ w' = W :=
  trimRight_walk _ W (by rw [strOfNums_size, winI_length]; decide) (by rw [strOfNums_size, winI_length]; decide)

set_option maxRecDepth 100000 in
set_option maxHeartbeats 8000000 in
theorem look_yes (a : Option Addr) (n c : Nat) (l : Int) (xs : List Int) (w : World) (hr : Row .u8 w (.slice a n c) xs) (hn : xs.length = n) (hf : Fits .u8 xs) (hm : n ≤ 281474976710656) (l0 : 0 ≤ l) (l1 : l ≤ 255) (hl : isL l = true) (hA : placeN l + 64 ≤ n) :
    Calls Tryd.prog 9 #[.slice a n c, .int .u8 l] w fun e w' => e = .returned (.tuple #[(cardN xs (placeN l).toNat).v, .int .i64 0]) ∧ Below w.heap.size w w' := by
  obtain ⟨A, hA2⟩ : ∃ A : Nat, placeN l = A := ⟨(placeN l).toNat, by have := (placeN_bounds l).1; omega⟩
  obtain ⟨b, o, c2, hra, hcc, hcm, hrc⟩ := hr.cells (by omega)
  injection hra with hr1 hr2 hr3
  subst hr1 hr3
  unfold maxLen at hcm
  have HL := Lib.hid hl
  have HPA := Lib.hid hA2
  have HCB := Lib.hid (show (cardN xs (placeN l).toNat).v = (cardN xs A).v by rw [hA2]; rfl)
  have a64 : A + 64 ≤ n := by omega
  have hcc : n ≤ c := by omega
  have HX := Lib.hid (show ∀ j, j < n → w.cell? ⟨b, o + j, none⟩ = some (.int .u8 (xs[j]?.getD 0)) from fun j hj => hrc j (by omega))
  have HF := Lib.hid (show ∀ j, j < n → 0 ≤ xs[j]?.getD 0 ∧ xs[j]?.getD 0 ≤ 255 from fun j hj => hf.u8 (by omega))
  clear hr hn hf hl hA hA2 hrc hr2
  go_enter Tryd.func9, Tryd.ntmps9
  go_upto_region 1 with fail
  obtain ⟨R, hR⟩ : ∃ R, w.heap.size = R := ⟨_, rfl⟩
  have HRR := Lib.hid hR
  obtain ⟨wB, hwB⟩ : ∃ wB, w.alloc (.cells #[.string ⟨#[]⟩, .int .u8 0, .int .u8 0, .int .u8 0, .int .u16 0, .int .u16 0, .int .u16 0] 27) = wB := ⟨_, rfl⟩
  have HBB := Lib.hid (show Below w.heap.size w wB by rw [← hwB]; exact (Below.refl _ w).alloc (Nat.le_refl _) _)
  have HZB := Lib.hid (show wB.heap.size = R + 1 by rw [← hwB, ← hR]; simp)
  have HQ := Lib.hid (show (∃ u0 u1 u2 u3 u4 u5 u6, wB.cell? ⟨R, 0, none⟩ = some u0 ∧ wB.cell? ⟨R, 1, none⟩ = some u1 ∧ wB.cell? ⟨R, 2, none⟩ = some u2 ∧ wB.cell? ⟨R, 3, none⟩ = some u3 ∧ wB.cell? ⟨R, 4, none⟩ = some u4 ∧ wB.cell? ⟨R, 5, none⟩ = some u5 ∧ wB.cell? ⟨R, 6, none⟩ = some u6) ∧ ∀ j, wB.frozen? ⟨R, j, none⟩ = false by
    rw [← hwB, ← hR]; exact ⟨⟨_, _, _, _, _, _, _, by simp [go_sem]; rfl, by simp [go_sem]; rfl, by simp [go_sem]; rfl, by simp [go_sem]; rfl, by simp [go_sem]; rfl, by simp [go_sem]; rfl, by simp [go_sem]; rfl⟩, fun j => by simp [go_sem]⟩)
  rw [hwB]
  clear hwB hR
  go_upto_region 2 with (go_at_call 23; refine (of_walk l _ l0 l1).mono ?_; rintro e w1 ⟨rfl, hb⟩; rw [HL.out])
  have HX1 := Lib.hid (show ∀ j, j < 64 → (w1.alloc (.cells #[.int .i64 (placeN l), .int .u8 (m0N l), .int .u8 (m1N l)] 56)).cell? ⟨b, o + A + j, none⟩ = some (.int .u8 (xs[A + j]?.getD 0)) from fun j hj => by
    have h := HX.out (A + j) (by omega)
    have hbl := World.block_lt_of_cell? w _ h
    rw [Nat.add_assoc]
    have h2 := ((HBB.out.trans (hb.mono (by rw [HZB.out, HRR.out]; omega))).cell hbl).trans h
    exact (((Below.refl w1.heap.size w1).alloc (Nat.le_refl _) _).cell (World.block_lt_of_cell? w1 _ h2)).trans h2)
  have HQ1 := Lib.hid (show (∃ u0 u1 u2 u3 u4 u5 u6, (w1.alloc (.cells #[.int .i64 (placeN l), .int .u8 (m0N l), .int .u8 (m1N l)] 56)).cell? ⟨R, 0, none⟩ = some u0 ∧ (w1.alloc (.cells #[.int .i64 (placeN l), .int .u8 (m0N l), .int .u8 (m1N l)] 56)).cell? ⟨R, 1, none⟩ = some u1 ∧ (w1.alloc (.cells #[.int .i64 (placeN l), .int .u8 (m0N l), .int .u8 (m1N l)] 56)).cell? ⟨R, 2, none⟩ = some u2 ∧ (w1.alloc (.cells #[.int .i64 (placeN l), .int .u8 (m0N l), .int .u8 (m1N l)] 56)).cell? ⟨R, 3, none⟩ = some u3 ∧ (w1.alloc (.cells #[.int .i64 (placeN l), .int .u8 (m0N l), .int .u8 (m1N l)] 56)).cell? ⟨R, 4, none⟩ = some u4 ∧ (w1.alloc (.cells #[.int .i64 (placeN l), .int .u8 (m0N l), .int .u8 (m1N l)] 56)).cell? ⟨R, 5, none⟩ = some u5 ∧ (w1.alloc (.cells #[.int .i64 (placeN l), .int .u8 (m0N l), .int .u8 (m1N l)] 56)).cell? ⟨R, 6, none⟩ = some u6) ∧ ∀ j, (w1.alloc (.cells #[.int .i64 (placeN l), .int .u8 (m0N l), .int .u8 (m1N l)] 56)).frozen? ⟨R, j, none⟩ = false from by
    obtain ⟨⟨u0, u1, u2, u3, u4, u5, u6, g0, g1, g2, g3, g4, g5, g6⟩, gf⟩ := HQ.out
    have hlt : R < wB.heap.size := by rw [HZB.out]; omega
    have hlt1 : R < w1.heap.size := Nat.lt_of_lt_of_le hlt hb.size
    have hal := (Below.refl w1.heap.size w1).alloc (Nat.le_refl _) (.cells #[.int .i64 (placeN l), .int .u8 (m0N l), .int .u8 (m1N l)] 56)
    have k : ∀ i v, wB.cell? ⟨R, i, none⟩ = some v → (w1.alloc (.cells #[.int .i64 (placeN l), .int .u8 (m0N l), .int .u8 (m1N l)] 56)).cell? ⟨R, i, none⟩ = some v := fun i v h => (hal.cell (p := ⟨R, i, none⟩) hlt1).trans ((hb.cell (p := ⟨R, i, none⟩) hlt).trans h)
    exact ⟨⟨u0, u1, u2, u3, u4, u5, u6, k 0 _ g0, k 1 _ g1, k 2 _ g2, k 3 _ g3, k 4 _ g4, k 5 _ g5, k 6 _ g6⟩, fun j => (hal.frozen (p := ⟨R, j, none⟩) hlt1).trans ((hb.frozen (p := ⟨R, j, none⟩) hlt).trans (gf j))⟩)
  have y0 : (w1.alloc (.cells #[.int .i64 (placeN l), .int .u8 (m0N l), .int .u8 (m1N l)] 56)).cell? ⟨w1.heap.size, 0, none⟩ = some (.int .i64 A) := by simp [go_sem, HPA.out]
  have HB1 := Lib.hid (show Below w.heap.size w (w1.alloc (.cells #[.int .i64 (placeN l), .int .u8 (m0N l), .int .u8 (m1N l)] 56)) from (HBB.out.trans (hb.mono (by rw [HZB.out, HRR.out]; omega))).alloc (Nat.le_trans HBB.out.size hb.size) _)
  obtain ⟨W1, hW1⟩ : ∃ W1, w1.alloc (.cells #[.int .i64 (placeN l), .int .u8 (m0N l), .int .u8 (m1N l)] 56) = W1 := ⟨_, rfl⟩
  rw [hW1] at HX1 HQ1 y0 HB1 ⊢
  rw [HRR.out]
  obtain ⟨L, hL⟩ : ∃ L, w1.heap.size = L := ⟨_, rfl⟩
  rw [hL] at y0 ⊢
  have HXb := Lib.hid (HX.out 0 (by omega))
  clear hb hW1 HQ HX HBB HZB hL
  have s0 : (A : Int) + 64 ≤ (n : Int) := by omega
  have s1 : ((A : Int)).toNat = A := by omega
  have s2 : ((A : Int) + 64).toNat = A + 64 := by omega
  have s3 : ¬ c = A := by omega
  have s4 : (A : Int) + 64 ≤ (c : Int) := by omega
  have s5 : A + 64 ≤ c := by omega
  have s6 : (A : Int) ≤ (A : Int) + 64 := by omega
  go_upto_region 7 with fail
  clear y0 s0 s1 s2 s3 s4 s5 s6
  have k21 := HX1.out 21 (by decide)
  have k22 := HX1.out 22 (by decide)
  have k24 := HX1.out 24 (by decide)
  have z1 : (21 : Int) ≤ ((c - A : Nat) : Int) := by omega
  have z2 : 21 ≤ c - A := by omega
  have z3 : ¬ c - A = 0 := by omega
  have HCV := Lib.hid (fun W h => conv_title W b o (c - A) xs A h)
  have HWD := Lib.hid (fun W h k h0 hk => word_int W b o (c - A) xs A h (fun j hj => HF.out (A + j) (by omega)) k h0 hk)
  obtain ⟨x21, hx21⟩ : ∃ x, xs[A + 21]?.getD 0 = x := ⟨_, rfl⟩
  obtain ⟨x22, hx22⟩ : ∃ x, xs[A + 22]?.getD 0 = x := ⟨_, rfl⟩
  obtain ⟨x24, hx24⟩ : ∃ x, xs[A + 24]?.getD 0 = x := ⟨_, rfl⟩
  rw [hx21] at k21
  rw [hx22] at k22
  rw [hx24] at k24
  have HV := Lib.hid (show (cardN xs A).v = .agg #[.string (titleN xs A), .int .u8 x21, .int .u8 x22, .int .u8 x24, .int .u16 (wordN xs (A + 28)), .int .u16 (wordN xs (A + 30)), .int .u16 (wordN xs (A + 60))] from by rw [← hx21, ← hx22, ← hx24]; rfl)
  clear hx21 hx22 hx24
  obtain ⟨⟨u0, u1, u2, u3, u4, u5, u6, g0, g1, g2, g3, g4, g5, g6⟩, gf⟩ := HQ1.out
  have f0 := gf 0
  have f1 := gf 1
  have f2 := gf 2
  have f3 := gf 3
  have f4 := gf 4
  have f5 := gf 5
  have f6 := gf 6
  clear gf
  have KS := Lib.hid (fun (W : World) (hW : ∀ i, W.cell? ⟨b, i, none⟩ = W1.cell? ⟨b, i, none⟩) => show ((fun w' => w'.cell? ⟨b, o + A + 21, none⟩ = some (.int .u8 x21) ∧ w'.cell? ⟨b, o + A + 22, none⟩ = some (.int .u8 x22) ∧ w'.cell? ⟨b, o + A + 24, none⟩ = some (.int .u8 x24) ∧ (convert 28 9 (.slice (some ⟨b, o + A, none⟩) 21 (c - A))).run Tryd.prog w' = .ok (.string (strOfNums (winI xs A 21))) w') W) from ⟨(hW _).trans k21, (hW _).trans k22, (hW _).trans k24, HCV.out _ (fun j hj => (hW _).trans (HX1.out j hj))⟩)
  have KD := Lib.hid (KS.out W1.drew (fun p => rfl))
  have KN := Lib.hid (fun m => KS.out (W1.drewN m) (fun p => rfl))
  have HW1 := Lib.hid (fun k h0 hk => HWD.out W1.drew (fun j hj => HX1.out j hj) k h0 hk)
  have HWN := Lib.hid (fun m k h0 hk => HWD.out (W1.drewN m) (fun j hj => HX1.out j hj) k h0 hk)
  have HNE := Lib.hid (show b ≠ R from by have h1 : b < w.heap.size := World.block_lt_of_cell? w _ (HXb.out); have := HRR.out; omega)
  go_region_held3 (fun w' => w'.cell? ⟨b, o + A + 21, none⟩ = some (.int .u8 x21) ∧ w'.cell? ⟨b, o + A + 22, none⟩ = some (.int .u8 x22) ∧ w'.cell? ⟨b, o + A + 24, none⟩ = some (.int .u8 x24) ∧ (convert 28 9 (.slice (some ⟨b, o + A, none⟩) 21 (c - A))).run Tryd.prog w' = .ok (.string (strOfNums (winI xs A 21))) w') (first | (with_reducible exact KD.out) | (with_reducible exact KN.out _) | exact KS.out _ (fun i => put7_other _ _ _ _ _ _ _ _ _ _ _ HNE.out)) (first | (go_at_call 24; refine (title_walk xs A _).mono ?_; rintro e w' ⟨rfl, rfl⟩) | (go_at_call 25; first | (refine Calls.mono (HW1.out _ (by omega) (by omega)) ?_; rintro e w' ⟨rfl, q1, rfl⟩) | (refine Calls.mono (HWN.out _ _ (by omega) (by omega)) ?_; rintro e w' ⟨rfl, q1, rfl⟩)))
  rename_i qa qb K1
  obtain ⟨m, hm2⟩ : ∃ m, 1 + qa + qb + q1 = m := ⟨_, rfl⟩
  rw [hm2]
  have e0 : (W1.drewN m).cell? ⟨R, 0, none⟩ = some u0 := g0
  have e1 : (W1.drewN m).cell? ⟨R, 1, none⟩ = some u1 := g1
  have e2 : (W1.drewN m).cell? ⟨R, 2, none⟩ = some u2 := g2
  have e3 : (W1.drewN m).cell? ⟨R, 3, none⟩ = some u3 := g3
  have e4 : (W1.drewN m).cell? ⟨R, 4, none⟩ = some u4 := g4
  have e5 : (W1.drewN m).cell? ⟨R, 5, none⟩ = some u5 := g5
  have e6 : (W1.drewN m).cell? ⟨R, 6, none⟩ = some u6 := g6
  have HB2 := Lib.hid (below_drewN HB1.out m)
  obtain ⟨X, hX⟩ : ∃ X, W1.drewN m = X := ⟨_, rfl⟩
  rw [hX] at e0 e1 e2 e3 e4 e5 e6 HB2 ⊢
  clear hX hm2 g0 g1 g2 g3 g4 g5 g6 f0 f1 f2 f3 f4 f5 f6 k21 k22 k24
  go_wp2_with fail
  refine bodyPost_ret (v := .tuple #[.agg #[.string (titleN xs A), .int .u8 x21, .int .u8 x22, .int .u8 x24, .int .u16 (wordN xs (A + 28)), .int .u16 (wordN xs (A + 30)), .int .u16 (wordN xs (A + 60))], .int .i64 0]) (by simp [results, Tryd.results9, go_sem, e0, e1, e2, e3, e4, e5, e6]; try rfl) rfl ?_
  rw [HCB.out, HV.out]
  have hle : w.heap.size ≤ R := by rw [HRR.out]; exact Nat.le_refl _
  exact ⟨rfl, by refine Below.setCell (Below.setCell (Below.setCell (Below.setCell (Below.setCell (Below.setCell (Below.setCell HB2.out ?_ _) ?_ _) ?_ _) ?_ _) ?_ _) ?_ _) ?_ _ <;> exact hle⟩

set_option maxRecDepth 100000 in
set_option maxHeartbeats 4000000 in
theorem look_no0 (a : Option Addr) (n c : Nat) (l : Int) (w : World) (l0 : 0 ≤ l) (l1 : l ≤ 255) (hl : isL l = false) :
    Calls Tryd.prog 9 #[.slice a n c, .int .u8 l] w fun e w' => e = .returned (.tuple #[noCard.v, .int .i64 2]) ∧ Below w.heap.size w w' := by
  have HL := Lib.hid hl
  clear hl
  go_enter Tryd.func9, Tryd.ntmps9
  go_upto_region 2 with (go_at_call 23; refine (of_walk l _ l0 l1).mono ?_; rintro e w1 ⟨rfl, hb⟩; rw [HL.out])
  have hlt : w.heap.size < w1.heap.size := by have := hb.size; simp at this; omega
  have hw1 : Below w.heap.size w w1 := ((Below.refl _ w).alloc (Nat.le_refl _) _).trans (hb.mono (by simp))
  have k : ∀ i v, (w.alloc (.cells #[.string ⟨#[]⟩, .int .u8 0, .int .u8 0, .int .u8 0, .int .u16 0, .int .u16 0, .int .u16 0] 27)).cell? ⟨w.heap.size, i, none⟩ = some v → (w1.alloc (.cells #[.int .i64 (placeN l), .int .u8 (m0N l), .int .u8 (m1N l)] 56)).cell? ⟨w.heap.size, i, none⟩ = some v := fun i v h => (((Below.refl w1.heap.size w1).alloc (Nat.le_refl _) _).cell (p := ⟨w.heap.size, i, none⟩) hlt).trans ((hb.cell (p := ⟨w.heap.size, i, none⟩) (by simp)).trans h)
  have kf : ∀ i, (w1.alloc (.cells #[.int .i64 (placeN l), .int .u8 (m0N l), .int .u8 (m1N l)] 56)).frozen? ⟨w.heap.size, i, none⟩ = false := fun i => (((Below.refl w1.heap.size w1).alloc (Nat.le_refl _) _).frozen (p := ⟨w.heap.size, i, none⟩) hlt).trans ((hb.frozen (p := ⟨w.heap.size, i, none⟩) (by simp)).trans (by simp [go_sem]))
  have e0 := k 0 _ (by simp [go_sem]; rfl)
  have e1 := k 1 _ (by simp [go_sem]; rfl)
  have e2 := k 2 _ (by simp [go_sem]; rfl)
  have e3 := k 3 _ (by simp [go_sem]; rfl)
  have e4 := k 4 _ (by simp [go_sem]; rfl)
  have e5 := k 5 _ (by simp [go_sem]; rfl)
  have e6 := k 6 _ (by simp [go_sem]; rfl)
  have f0 := kf 0
  have f1 := kf 1
  have f2 := kf 2
  have f3 := kf 3
  have f4 := kf 4
  have f5 := kf 5
  have f6 := kf 6
  have HB1 := Lib.hid (hw1.alloc hw1.size (.cells #[.int .i64 (placeN l), .int .u8 (m0N l), .int .u8 (m1N l)] 56))
  obtain ⟨X, hX⟩ : ∃ X, w1.alloc (.cells #[.int .i64 (placeN l), .int .u8 (m0N l), .int .u8 (m1N l)] 56) = X := ⟨_, rfl⟩
  rw [hX] at e0 e1 e2 e3 e4 e5 e6 f0 f1 f2 f3 f4 f5 f6 HB1 ⊢
  clear hX k kf hb hw1 hlt
  go_wp2_with fail
  refine bodyPost_ret (v := .tuple #[noCard.v, .int .i64 2]) (by simp [results, Tryd.results9, go_sem, e0, e1, e2, e3, e4, e5, e6]; try rfl) rfl ?_
  exact ⟨rfl, by refine Below.setCell (Below.setCell (Below.setCell (Below.setCell (Below.setCell (Below.setCell (Below.setCell HB1.out ?_ _) ?_ _) ?_ _) ?_ _) ?_ _) ?_ _) ?_ _ <;> exact Nat.le_refl _⟩

set_option maxRecDepth 100000 in
set_option maxHeartbeats 4000000 in
theorem look_no1 (a : Option Addr) (n c : Nat) (l : Int) (w : World) (l0 : 0 ≤ l) (l1 : l ≤ 255) (hl : isL l = true) (hm : n ≤ 281474976710656) (hA : (n : Int) < placeN l + 64) :
    Calls Tryd.prog 9 #[.slice a n c, .int .u8 l] w fun e w' => e = .returned (.tuple #[noCard.v, .int .i64 5]) ∧ Below w.heap.size w w' := by
  have HL := Lib.hid hl
  have pb := placeN_bounds l
  obtain ⟨A, hA2⟩ : ∃ A : Nat, placeN l = A := ⟨(placeN l).toNat, by have := (placeN_bounds l).1; omega⟩
  rw [hA2] at hA pb
  have HPA := Lib.hid hA2
  clear hl hA2
  go_enter Tryd.func9, Tryd.ntmps9
  go_upto_region 2 with (go_at_call 23; refine (of_walk l _ l0 l1).mono ?_; rintro e w1 ⟨rfl, hb⟩; rw [HL.out])
  have hlt : w.heap.size < w1.heap.size := by have := hb.size; simp at this; omega
  have hw1 : Below w.heap.size w w1 := ((Below.refl _ w).alloc (Nat.le_refl _) _).trans (hb.mono (by simp))
  have k : ∀ i v, (w.alloc (.cells #[.string ⟨#[]⟩, .int .u8 0, .int .u8 0, .int .u8 0, .int .u16 0, .int .u16 0, .int .u16 0] 27)).cell? ⟨w.heap.size, i, none⟩ = some v → (w1.alloc (.cells #[.int .i64 (placeN l), .int .u8 (m0N l), .int .u8 (m1N l)] 56)).cell? ⟨w.heap.size, i, none⟩ = some v := fun i v h => (((Below.refl w1.heap.size w1).alloc (Nat.le_refl _) _).cell (p := ⟨w.heap.size, i, none⟩) hlt).trans ((hb.cell (p := ⟨w.heap.size, i, none⟩) (by simp)).trans h)
  have kf : ∀ i, (w1.alloc (.cells #[.int .i64 (placeN l), .int .u8 (m0N l), .int .u8 (m1N l)] 56)).frozen? ⟨w.heap.size, i, none⟩ = false := fun i => (((Below.refl w1.heap.size w1).alloc (Nat.le_refl _) _).frozen (p := ⟨w.heap.size, i, none⟩) hlt).trans ((hb.frozen (p := ⟨w.heap.size, i, none⟩) (by simp)).trans (by simp [go_sem]))
  have y0 : (w1.alloc (.cells #[.int .i64 (placeN l), .int .u8 (m0N l), .int .u8 (m1N l)] 56)).cell? ⟨w1.heap.size, 0, none⟩ = some (.int .i64 A) := by simp [go_sem, HPA.out]
  have e0 := k 0 _ (by simp [go_sem]; rfl)
  have e1 := k 1 _ (by simp [go_sem]; rfl)
  have e2 := k 2 _ (by simp [go_sem]; rfl)
  have e3 := k 3 _ (by simp [go_sem]; rfl)
  have e4 := k 4 _ (by simp [go_sem]; rfl)
  have e5 := k 5 _ (by simp [go_sem]; rfl)
  have e6 := k 6 _ (by simp [go_sem]; rfl)
  have f0 := kf 0
  have f1 := kf 1
  have f2 := kf 2
  have f3 := kf 3
  have f4 := kf 4
  have f5 := kf 5
  have f6 := kf 6
  have HB1 := Lib.hid (hw1.alloc hw1.size (.cells #[.int .i64 (placeN l), .int .u8 (m0N l), .int .u8 (m1N l)] 56))
  obtain ⟨X, hX⟩ : ∃ X, w1.alloc (.cells #[.int .i64 (placeN l), .int .u8 (m0N l), .int .u8 (m1N l)] 56) = X := ⟨_, rfl⟩
  rw [hX] at y0 e0 e1 e2 e3 e4 e5 e6 f0 f1 f2 f3 f4 f5 f6 HB1 ⊢
  obtain ⟨L, hL⟩ : ∃ L, w1.heap.size = L := ⟨_, rfl⟩
  rw [hL] at y0 ⊢
  clear hX k kf hb hw1 hlt hL
  go_wp2_with fail
  refine bodyPost_ret (v := .tuple #[noCard.v, .int .i64 5]) (by simp [results, Tryd.results9, go_sem, e0, e1, e2, e3, e4, e5, e6]; try rfl) rfl ?_
  exact ⟨rfl, by refine Below.setCell (Below.setCell (Below.setCell (Below.setCell (Below.setCell (Below.setCell (Below.setCell HB1.out ?_ _) ?_ _) ?_ _) ?_ _) ?_ _) ?_ _) ?_ _ <;> exact Nat.le_refl _⟩

theorem look_any (a : Option Addr) (n c : Nat) (l : Int) (xs : List Int) (w : World) (hr : Row .u8 w (.slice a n c) xs) (hn : xs.length = n) (hf : Fits .u8 xs) (hm : n ≤ 281474976710656) (l0 : 0 ≤ l) (l1 : l ≤ 255) :
    Calls Tryd.prog 9 #[.slice a n c, .int .u8 l] w fun e w' => e = .returned (.tuple #[(lookN xs n l).v, .int .i64 (lookE n l)]) ∧ Below w.heap.size w w' := by
  have hi := @isL_at l
  by_cases h0 : atN l < 0
  · have e1 : lookN xs n l = noCard := by unfold lookN; rw [if_pos (.inl h0)]
    have e2 : lookE n l = 2 := by unfold lookE; rw [if_pos h0]
    rw [e1, e2]
    exact look_no0 a n c l w l0 l1 (by rw [hi, decide_eq_true h0]; rfl)
  · have hl : isL l = true := by rw [hi, decide_eq_false h0]; rfl
    have hp : placeN l = atN l := by unfold placeN; rw [if_pos (of_decide_eq_true hl)]
    by_cases h1 : (n : Int) < atN l + 64
    · have e1 : lookN xs n l = noCard := by unfold lookN; rw [if_pos (.inr h1)]
      have e2 : lookE n l = 5 := by unfold lookE; rw [if_neg h0, if_pos h1]
      rw [e1, e2]
      exact look_no1 a n c l w l0 l1 hl hm (by rw [hp]; exact h1)
    · have e1 : lookN xs n l = cardN xs (atN l).toNat := by unfold lookN; rw [if_neg (by omega)]
      have e2 : lookE n l = 0 := by unfold lookE; rw [if_neg h0, if_neg h1]
      rw [e1, e2, ← hp]
      exact look_yes a n c l xs w hr hn hf hm l0 l1 hl (by rw [hp]; omega)
end Go.Proofs.YtjaeglllijafkaaDoor
