/- Numbers told to the base 16: the library's formatting, noughts ahead, the program's digits and the document's. -/
import Derived.Test.YtpeieilbjadcfaaGreatDoorProg
import Derived.Test.YtpeieilbjadcfaaGreatDoorCodesPart
import Derived.Test.YtpeieilbjadcfaaGreatDoorCodesStr
import Derived.Test.YtpeieilbjadcfaaGreatDoorLib
namespace Go.Proofs.YtpeieilbjadcfaaGreatDoor
open Go.RowKit
set_option linter.unusedVariables false
set_option linter.unusedSimpArgs false
set_option maxRecDepth 100000 in
set_option maxHeartbeats 400000 in
theorem tz64 (x y a m q : Int) (h0 : (x == 0) = false) (h1 : IntKind.u64.wrap (-x) = y) (h2 : bits .and .u64 x y = a) (h3 : IntKind.u64.wrap (a * 285870213051353865) = m) (h4 : m / 288230376151711744 = q) (h5 : 0 ≤ q) (h6 : q < 64) (h7 : q.toNat = 15) (w : World) (hc : w.cell? ⟨7, 15, none⟩ = some (.int .u8 4)) :
    Calls Tryz.prog 123 #[.int .u64 x] w fun e w' => e = .returned (.int .i64 4) ∧ w' = w := by
  go_enter Tryz.func123, Tryz.ntmps123
  go_wp2_with fail
  go_returns
  exact ⟨rfl, rfl⟩
set_option maxRecDepth 100000 in
set_option maxHeartbeats 400000 in
theorem tz (x y a m q : Int) (h0 : (x == 0) = false) (h1 : IntKind.u64.wrap (-x) = y) (h2 : bits .and .u64 x y = a) (h3 : IntKind.u64.wrap (a * 285870213051353865) = m) (h4 : m / 288230376151711744 = q) (h5 : 0 ≤ q) (h6 : q < 64) (h7 : q.toNat = 15) (w : World) (hc : w.cell? ⟨7, 15, none⟩ = some (.int .u8 4)) :
    Calls Tryz.prog 119 #[.int .u64 x] w fun e w' => e = .returned (.int .i64 4) ∧ w' = w := by
  have H := Lib.hid (tz64 x y a m q h0 h1 h2 h3 h4 h5 h6 h7 w hc)
  clear h0 h1 h2 h3 h4 h5 h6 h7 hc
  go_enter Tryz.func119, Tryz.ntmps119
  go_wp2_with (go_at_call 123; refine H.out.mono ?_; rintro e w1 ⟨rfl, rfl⟩)
  go_returns
  exact ⟨rfl, rfl⟩
theorem trailing_walk (w : World) (hc : w.cell? ⟨7, 15, none⟩ = some (.int .u8 4)) :
    Calls Tryz.prog 119 #[.int .u64 16] w fun e w' => e = .returned (.int .i64 4) ∧ w' = w :=
  tz 16 18446744073709551600 16 4573923408821661840 15 (by decide +kernel) (by decide +kernel) (by decide +kernel) (by decide +kernel) (by decide +kernel) (by decide) (by decide) (by decide) w hc
set_option maxRecDepth 100000 in
set_option maxHeartbeats 400000 in
theorem pow2 (x : Int) (h0 : bits .and .i64 x 15 = 0) (h1 : IntKind.i64.wrap (x - 1) = 15) (w : World) :
    Calls Tryz.prog 118 #[.int .i64 x] w fun e w' => e = .returned (.bool true) ∧ w' = w := by
  go_enter Tryz.func118, Tryz.ntmps118
  go_wp2_with fail
  go_returns
  exact ⟨rfl, rfl⟩
theorem pow16 (w : World) : Calls Tryz.prog 118 #[.int .i64 16] w fun e w' => e = .returned (.bool true) ∧ w' = w := pow2 16 (by decide +kernel) (by decide +kernel) w
/-- A block of 65 bytes that a call made; from place i on its bytes are these. -/
def Dig (w : World) (g i : Nat) (ds : List UInt8) : Prop :=
  i + ds.length = 65 ∧ (∀ t, t < 65 → ∃ v, w.cell? ⟨g, t, none⟩ = some (.int .u8 v)) ∧ (∀ t, w.frozen? ⟨g, t, none⟩ = false) ∧ ∀ t, t < ds.length → w.cell? ⟨g, i + t, none⟩ = some (.int .u8 ((ds[t]?.getD 0).toNat : Int))
theorem Dig.zero (w : World) : Dig (w.alloc (.cells Tryz.zeroCells140 140)) w.heap.size 65 [] := by
  have hz : Tryz.zeroCells140 = Array.replicate 65 (.int .u8 0) := by kernel_rfl
  refine ⟨rfl, fun t ht => ⟨0, ?_⟩, fun t => World.frozen?_alloc_new _ _ _ _, fun t ht => by cases ht⟩
  rw [World.cell?_alloc_new, hz, Array.getElem?_replicate, if_pos ht]
theorem Dig.put {w : World} {g i : Nat} {ds : List UInt8} (h : Dig w g (i + 1) ds) (d : UInt8) : Dig (w.setCell ⟨g, i, none⟩ (.int .u8 (d.toNat : Int))) g i (d :: ds) := by
  obtain ⟨h1, h2, h3, h4⟩ := h
  obtain ⟨v0, hv0⟩ := h2 i (by omega)
  refine ⟨by simp; omega, fun t ht => ?_, fun t => by simp [go_sem, h3], fun t ht => ?_⟩
  · by_cases e : t = i
    · subst e
      exact ⟨_, World.cell?_setCell_same _ _ _ hv0⟩
    · obtain ⟨v, hv⟩ := h2 t ht
      exact ⟨v, by rw [World.cell?_setCell_other _ _ _ _ (by intro c; injection c; omega)]; exact hv⟩
  · rcases t with _ | t
    · exact World.cell?_setCell_same _ _ _ hv0
    · rw [World.cell?_setCell_other _ _ _ _ (by intro c; injection c; omega), show i + (t + 1) = i + 1 + t by omega]
      simpa using h4 t (by simpa using ht)
theorem and15 (u : Nat) (h : u < 18446744073709551616) : bits .and .u64 (u : Int) 15 = ((u % 16 : Nat) : Int) := by
  have h2 := bits_mask .u64 64 (by decide) (fun n h₀ h₁ => by simp [IntKind.wrap, IntKind.bits, IntKind.signed]; omega) 4 (by decide) (u : Int) (by omega) (by omega)
  simpa using h2
theorem dig_one : ∀ k : Fin 16, (#[48, 49, 50, 51, 52, 53, 54, 55, 56, 57, 97, 98, 99, 100, 101, 102, 103, 104, 105, 106, 107, 108, 109, 110, 111, 112, 113, 114, 115, 116, 117, 118, 119, 120, 121, 122] : Array UInt8)[(k : Nat)]?.getD 0 = hexD false k := by decide +kernel
theorem dig_at (k : Nat) (h : k < 16) (hs : k < (⟨#[48, 49, 50, 51, 52, 53, 54, 55, 56, 57, 97, 98, 99, 100, 101, 102, 103, 104, 105, 106, 107, 108, 109, 110, 111, 112, 113, 114, 115, 116, 117, 118, 119, 120, 121, 122]⟩ : ByteArray).size) : (⟨#[48, 49, 50, 51, 52, 53, 54, 55, 56, 57, 97, 98, 99, 100, 101, 102, 103, 104, 105, 106, 107, 108, 109, 110, 111, 112, 113, 114, 115, 116, 117, 118, 119, 120, 121, 122]⟩ : ByteArray)[k] = hexD false k := by
  rw [← dig_one ⟨k, h⟩, Array.getElem?_eq_getElem (by exact hs), Option.getD_some]; rfl
set_option maxRecDepth 100000 in
set_option maxHeartbeats 400000 in
theorem formatBits_walk (x : Nat) (hx : x < 4294967296) (w : World) (hc : w.cell? ⟨7, 15, none⟩ = some (.int .u8 4)) :
    Calls Tryz.prog 105 #[.slice none 0 0, .int .u64 x, .int .i64 16, .bool false, .bool false] w fun e w' => e = .returned (.tuple #[.slice none 0 0, .string (bytesB (hexM false x))]) ∧ Below w.heap.size w w' := by
  have HT := Lib.hid (fun (W : World) (hW : Below w.heap.size w W) => trailing_walk W ((hW.cell (World.block_lt_of_cell? w _ hc)).trans hc))
  go_enter Tryz.func105, Tryz.ntmps105
  go_upto_region 4 with fail
  obtain ⟨X, hX⟩ : ∃ X, w.alloc (.cells Tryz.zeroCells140 140) = X := ⟨_, rfl⟩
  have HB := Lib.hid (show Below w.heap.size w X by rw [← hX]; exact (Below.refl _ w).alloc (Nat.le_refl _) _)
  have HD := Lib.hid (show Dig X w.heap.size 65 [] by rw [← hX]; exact Dig.zero w)
  rw [hX]
  clear hX
  obtain ⟨g, hg⟩ : ∃ g, w.heap.size = g := ⟨_, rfl⟩
  rw [hg] at HT HB HD ⊢
  go_upto_region 11 with (first | (go_at_call 118; refine (pow16 _).mono ?_; rintro e w1 ⟨rfl, rfl⟩) | (go_at_call 119; refine (HT.out _ HB.out).mono ?_; rintro e w1 ⟨rfl, rfl⟩))
  have HN := Lib.hid (fun (j u : Nat) => And.intro (hexN_great (x := u)) (hexL_cons false j x))
  go_loopw [1, 13] (fun s1 s13 wr => ∃ (u i j : Nat), i + j = 65 ∧ s1 = .int .u64 u ∧ s13 = .int .i64 i ∧ Hid (u = x / 16 ^ j) ∧ Hid (hexN x = hexN u + j ∧ hexN x ≤ 8) ∧ Hid (Dig wr g i (hexL false x j)) ∧ Hid (Below g w wr)) (fun s1 s13 _ => (intOf s13).toNat)
  case atStart => exact ⟨x, 65, 0, rfl, rfl, rfl, Lib.hid (by simp), Lib.hid ⟨rfl, hexN_lt 7 x (by omega)⟩, HD, HB⟩
  case round =>
    obtain ⟨u, i, j, hij, rfl, rfl, HU, HL, HDr, HBr⟩ := hrel
    have hu : u ≤ x := by rw [HU.out]; exact Nat.div_le_self _ _
    by_cases hlt : 16 ≤ u
    · have b1 : (16 : Int) ≤ (u : Int) := by omega
      have hj : j ≤ 7 := by have h1 := HL.out; have := hexN_pos u; omega
      have i1 : IntKind.i64.wrap ((i : Int) - 1) = ((i - 1 : Nat) : Int) := by rw [IntWalk.i64_in _ (by omega)]; omega
      have a1 := and15 u (by omega)
      have i2 : ((u % 16 : Nat) : Int) < 36 := by omega
      have i3 : ((i - 1 : Nat) : Int) < 65 := by omega
      obtain ⟨v0, hv0⟩ := HDr.out.2.1 (i - 1) (by omega)
      have hf0 := HDr.out.2.2.1 (i - 1)
      have HE := Lib.hid (show hexL false x (j + 1) = hexD false (u % 16) :: hexL false x j by rw [hexL_cons, ← HU.out])
      have HU2 := Lib.hid (show u / 16 = x / 16 ^ (j + 1) by rw [HU.out, Nat.div_div_eq_div_mul, Nat.pow_succ])
      have HL2 := Lib.hid (show hexN x = hexN (u / 16) + (j + 1) ∧ hexN x ≤ 8 by have h1 := HL.out; rw [hexN_great (x := u) (by omega)] at h1; omega)
      have HP := Lib.hid (fun (v : Value) (d : UInt8) (hv : v = .int .u8 (d.toNat : Int)) => show Dig (wr.setCell ⟨g, i - 1, none⟩ v) g (i - 1) (d :: hexL false x j) by rw [hv]; exact Dig.put (w := wr) (g := g) (i := i - 1) (by have h1 := HDr.out; rwa [← show i - 1 + 1 = i by omega] at h1) d)
      go_wp2_with fail
      go_roundw
      case rel =>
        refine ⟨u / 16, i - 1, j + 1, by omega, by simp, by simp, HU2, HL2, ?_, Lib.hid (HBr.out.setCell (by simp) _)⟩
        rw [HE.out]
        exact Lib.hid (HP.out _ _ (by rw [dig_at (u % 16) (by omega)]))
      case measure => simp [intOf]; omega
    · have b1 : ¬ (16 : Int) ≤ (u : Int) := by omega
      have hj : j ≤ 7 := by have h1 := HL.out; have := hexN_pos u; omega
      have i1 : IntKind.i64.wrap ((i : Int) - 1) = ((i - 1 : Nat) : Int) := by rw [IntWalk.i64_in _ (by omega)]; omega
      have i2 : (u : Int) < 36 := by omega
      have i3 : ((i - 1 : Nat) : Int) < 65 := by omega
      obtain ⟨v0, hv0⟩ := HDr.out.2.1 (i - 1) (by omega)
      have hf0 := HDr.out.2.2.1 (i - 1)
      have HE := Lib.hid (show hexM false x = hexD false u :: hexL false x j by
        have h1 := HL.out
        rw [hexN_small (x := u) (by omega)] at h1
        rw [hexM, show hexN x = j + 1 by omega, hexL_cons, ← HU.out, Nat.mod_eq_of_lt (by omega)])
      have HP := Lib.hid (fun (v : Value) (d : UInt8) (hv : v = .int .u8 (d.toNat : Int)) => show Dig (wr.setCell ⟨g, i - 1, none⟩ v) g (i - 1) (d :: hexL false x j) by rw [hv]; exact Dig.put (w := wr) (g := g) (i := i - 1) (by have h1 := HDr.out; rwa [← show i - 1 + 1 = i by omega] at h1) d)
      go_upto_region 25 with fail
      have HW2 := Lib.hid (HP.out _ _ (show Value.int .u8 (((⟨#[48, 49, 50, 51, 52, 53, 54, 55, 56, 57, 97, 98, 99, 100, 101, 102, 103, 104, 105, 106, 107, 108, 109, 110, 111, 112, 113, 114, 115, 116, 117, 118, 119, 120, 121, 122]⟩ : ByteArray)[u]'(by show u < 36; omega)).toNat : Int) = _ by rw [dig_at u (by omega)]))
      have HB2 := Lib.hid (HBr.out.setCell (p := ⟨g, i - 1, none⟩) (by simp) (Value.int .u8 (((⟨#[48, 49, 50, 51, 52, 53, 54, 55, 56, 57, 97, 98, 99, 100, 101, 102, 103, 104, 105, 106, 107, 108, 109, 110, 111, 112, 113, 114, 115, 116, 117, 118, 119, 120, 121, 122]⟩ : ByteArray)[u]'(by show u < 36; omega)).toNat : Int)))
      obtain ⟨W2, hW2⟩ : ∃ W2, wr.setCell ⟨g, i - 1, none⟩ (.int .u8 (((⟨#[48, 49, 50, 51, 52, 53, 54, 55, 56, 57, 97, 98, 99, 100, 101, 102, 103, 104, 105, 106, 107, 108, 109, 110, 111, 112, 113, 114, 115, 116, 117, 118, 119, 120, 121, 122]⟩ : ByteArray)[u]'(by show u < 36; omega)).toNat : Int)) = W2 := ⟨_, rfl⟩
      rw [hW2] at HW2 HB2 ⊢
      clear hW2 hv0 hf0
      have HCV := Lib.hid (show (convert 23 9 (.slice (some ⟨g, i - 1, none⟩) (65 - (i - 1)) (65 - (i - 1)))).run Tryz.prog W2 = .ok (.string (bytesB (hexM false x))) W2 by
        have h1 := run_convert_bytes_back (P := Tryz.prog) W2 23 9 5 ⟨g, i - 1, none⟩ (65 - (i - 1)) (hexM false x) Tryz.underlying23 Tryz.underlying5 Tryz.underlying9 (fun t ht => by
          have h2 := HW2.out.2.2.2 t (by rw [← HE.out]; exact ht)
          rw [← HE.out, List.getElem?_eq_getElem ht, Option.getD_some] at h2
          rw [show (⟨g, i - 1, none⟩ : Addr).add t = ⟨g, i - 1 + t, none⟩ by unfold Addr.add; split <;> simp_all]; exact h2)
        have h3 := HW2.out.1
        rw [← HE.out] at h3
        rw [show (hexM false x).length = 65 - (i - 1) by omega] at h1
        exact h1)
      have i4 : ((i - 1 : Nat) : Int) ≤ 65 := by omega
      have i5 : (0 : Int) ≤ ((i - 1 : Nat) : Int) := by omega
      go_upto_region 30 with fail
      have hcv := HCV.out
      go_wp2_with fail
      go_ret2
      exact ⟨rfl, HB2.out⟩
set_option maxRecDepth 100000 in
set_option maxHeartbeats 400000 in
theorem formatUintI_walk (x : Nat) (hx : x < 4294967296) (w : World) (hc : w.cell? ⟨7, 15, none⟩ = some (.int .u8 4)) :
    Calls Tryz.prog 80 #[.int .u64 x, .int .i64 16] w fun e w' => e = .returned (.string (bytesB (hexM false x))) ∧ Below w.heap.size w w' := by
  have H := Lib.hid (formatBits_walk x hx w hc)
  go_enter Tryz.func80, Tryz.ntmps80
  go_wp2_with (go_at_call 105; refine H.out.mono ?_; rintro e w1 ⟨rfl, hb⟩)
  go_ret
  exact ⟨rfl, hb⟩
set_option maxRecDepth 100000 in
set_option maxHeartbeats 400000 in
theorem formatUint_walk (x : Nat) (hx : x < 4294967296) (w : World) (hc : w.cell? ⟨7, 15, none⟩ = some (.int .u8 4)) :
    Calls Tryz.prog 64 #[.int .u64 x, .int .i64 16] w fun e w' => e = .returned (.string (bytesB (hexM false x))) ∧ Below w.heap.size w w' := by
  have H := Lib.hid (formatUintI_walk x hx w hc)
  go_enter Tryz.func64, Tryz.ntmps64
  go_wp2_with (go_at_call 80; refine H.out.mono ?_; rintro e w1 ⟨rfl, hb⟩)
  go_ret
  exact ⟨rfl, hb⟩
theorem repeatL_nought (c : Nat) : Lib.repeatL [48] c = List.replicate c 48 := by
  induction c with
  | zero => rfl
  | succ c ih => rw [Lib.repeatL, ih]; rfl
set_option maxRecDepth 100000 in
set_option maxHeartbeats 400000 in
theorem digits_walk (x n : Nat) (hx : x < 4294967296) (hn : hexN x ≤ n) (hn8 : n ≤ 8) (w : World) (hc : w.cell? ⟨7, 15, none⟩ = some (.int .u8 4)) :
    Calls Tryz.prog 42 #[.int .u32 x, .int .i64 n] w fun e w' => e = .returned (.string (bytesB (36 :: hexL false x n))) ∧ Below w.heap.size w w' := by
  have H := Lib.hid (formatUint_walk x hx w hc)
  have HR := Lib.hid (fun W => strings_Repeat ⟨#[48]⟩ (n - hexN x) W (by omega) (by have : (⟨#[48]⟩ : ByteArray).size = 1 := rfl; rw [this]; omega))
  have HP := Lib.hid (hexL_pad false x n (hexN x) rfl hn)
  have HS := Lib.hid (show (bytesB (hexM false x)).size = hexN x by rw [bytesB_size, hexM, hexL_length])
  have i1 : IntKind.i64.wrap ((n : Int) - (hexN x : Int)) = ((n - hexN x : Nat) : Int) := by rw [IntWalk.i64_in _ (by omega)]; omega
  obtain ⟨k, hk⟩ : ∃ k, hexN x = k := ⟨_, rfl⟩
  have i0 : IntKind.u64.wrap (x : Int) = (x : Int) := by simp [IntKind.wrap, IntKind.bits, IntKind.signed]; omega
  obtain ⟨M, hM⟩ : ∃ M, bytesB (hexM false x) = M := ⟨_, rfl⟩
  obtain ⟨R, hR⟩ : ∃ R : ByteArray, ⟨(Lib.repeatL [48] (n - hexN x)).toArray⟩ = R := ⟨_, rfl⟩
  have HE := Lib.hid (show (⟨#[36]⟩ : ByteArray) ++ R ++ M = bytesB (36 :: hexL false x n) by
    rw [← hR, ← hM, repeatL_nought, show (⟨#[36]⟩ : ByteArray) = bytesB [36] from rfl, show (⟨(List.replicate (n - hexN x) (48 : UInt8)).toArray⟩ : ByteArray) = bytesB (List.replicate (n - hexN x) 48) from rfl, bytesB_append, bytesB_append, List.append_assoc, HP.out]; rfl)
  have hzR : R.size = n - hexN x := by rw [← hR, repeatL_nought]; exact (bytesB_size _).trans (List.length_replicate ..)
  have HR2 := Lib.hid (fun W => show Calls Tryz.prog 65 #[.string ⟨#[48]⟩, .int .i64 ((n - hexN x : Nat) : Int)] W fun e w' => e = .returned (.string R) ∧ Below W.heap.size W w' by rw [← hR]; exact HR.out W)
  clear HR hR
  rw [hM] at H HS
  rw [hk] at HR2 HP HS i1 hn hzR
  have q1 : ¬ 9223372036854775807 < 1 + (n - k) := by omega
  have q2 : ¬ 9223372036854775807 < 1 + (n - k) + k := by omega
  clear hM hk
  go_enter Tryz.func42, Tryz.ntmps42
  go_upto_region 2 with (go_at_call 64; refine H.out.mono ?_; rintro e w1 ⟨rfl, hb⟩)
  have hz := HS.out
  go_wp2_with (go_at_call 65; refine (HR2.out _).mono ?_; rintro e w2 ⟨rfl, hb2⟩)
  go_ret
  exact ⟨by rw [HE.out]; rfl, below_step hb hb.size hb2⟩

theorem dig_cut (k : Nat) (h : k < 16) : (⟨#[48, 49, 50, 51, 52, 53, 54, 55, 56, 57, 97, 98, 99, 100, 101, 102]⟩ : ByteArray).extract k (k + 1) = bytesB [hexD false k] := by
  have h2 : ∀ k : Fin 16, (⟨#[48, 49, 50, 51, 52, 53, 54, 55, 56, 57, 97, 98, 99, 100, 101, 102]⟩ : ByteArray).extract (k : Nat) ((k : Nat) + 1) = bytesB [hexD false k] := by decide +kernel
  exact h2 ⟨k, h⟩
set_option maxRecDepth 100000 in
set_option maxHeartbeats 400000 in
theorem refDigits_walk (x n : Nat) (hx : x < 9223372036854775808) (hn : n < 1000) (w : World) :
    Calls Tryz.prog 49 #[.int .i64 x, .int .i64 n] w fun e w' => e = .returned (.string (bytesB (hexL false x n))) ∧ w' = w := by
  go_enter Tryz.func49, Tryz.ntmps49
  go_upto_region 3 with fail
  go_loopw [0, 5, 6] (fun s0 s5 s6 wr => ∃ (u j : Nat) (B : ByteArray), j ≤ n ∧ s0 = .int .i64 u ∧ s5 = .string B ∧ s6 = .int .i64 j ∧ wr = w ∧ Hid (u = x / 16 ^ j) ∧ Hid (B = bytesB (hexL false x j)) ∧ B.size = j) (fun _ _ s6 _ => n - (intOf s6).toNat)
  case atStart => exact ⟨x, 0, _, Nat.zero_le _, rfl, rfl, rfl, rfl, Lib.hid (by simp), Lib.hid rfl, rfl⟩
  case round =>
    obtain ⟨u, j, B, hj, rfl, rfl, rfl, rfl, HU, HB, hz⟩ := hrel
    by_cases hlt : j < n
    · have b1 : (j : Int) < (n : Int) := by omega
      have hu : u ≤ x := by rw [HU.out]; exact Nat.div_le_self _ _
      have HE := Lib.hid (show bytesB [hexD false (u % 16)] ++ B = bytesB (hexL false x (j + 1)) by rw [HB.out, bytesB_append, hexL_cons, HU.out]; rfl)
      have HU2 := Lib.hid (show u / 16 = x / 16 ^ (j + 1) by rw [HU.out, Nat.div_div_eq_div_mul, Nat.pow_succ])
      go_wp2_with fail
      go_roundw
      case rel =>
        refine ⟨u / 16, j + 1, _, by omega, by simp, rfl, by simp, trivial, HU2, Lib.hid ?_, ?_⟩
        · rw [dig_cut _ (by omega)]; exact HE.out
        · rw [dig_cut _ (by omega), HE.out, bytesB_size, hexL_length]
      case measure => simp [intOf]; omega
    · have b1 : ¬ (j : Int) < (n : Int) := by omega
      have HE := Lib.hid (show B = bytesB (hexL false x n) by rw [HB.out, show j = n by omega])
      go_wp2_with fail
      go_ret
      exact ⟨by rw [← HE.out]; rfl, rfl⟩
end Go.Proofs.YtpeieilbjadcfaaGreatDoor
