/- Numbers to the base 16, two or four digits: the program's and the document's. -/
import Derived.Test.YteabjninmaceaaaGreatDoorProg
import Derived.Test.YteabjninmaceaaaGreatDoorHex
import Derived.Test.YteabjninmaceaaaGreatDoorNotesOf
import Derived.Test.YteabjninmaceaaaGreatDoorLib
namespace Go.Proofs.YteabjninmaceaaaGreatDoor
open Go.RowKit
set_option linter.unusedVariables false
set_option linter.unusedSimpArgs false
/-- What the walks read of the world: a length, and one cell of a table of the library. -/
def Laid (w : World) : Prop := LaidM w ∧ w.cell? ⟨8, 15, none⟩ = some (.int .u8 4)
theorem Laid.below {w w' : World} (h : Laid w) (hb : Below w.heap.size w w') : Laid w' := ⟨h.1.below hb, (hb.cell (World.block_lt_of_cell? w _ h.2)).trans h.2⟩
theorem bytesB_append (a b : List UInt8) : bytesB a ++ bytesB b = bytesB (a ++ b) := by
  apply ByteArray.ext
  rw [ByteArray.data_append]
  simp [bytesB]
theorem bytesB_inj {a b : List UInt8} (h : bytesB a = bytesB b) : a = b := by
  have := congrArg (fun s => s.data.toList) h
  simpa [bytesB] using this
set_option maxRecDepth 100000 in
set_option maxHeartbeats 400000 in
theorem tz64 (x y a m q : Int) (h0 : (x == 0) = false) (h1 : IntKind.u64.wrap (-x) = y) (h2 : bits .and .u64 x y = a) (h3 : IntKind.u64.wrap (a * 285870213051353865) = m) (h4 : m / 288230376151711744 = q) (h5 : 0 ≤ q) (h6 : q < 64) (h7 : q.toNat = 15) (w : World) (hc : w.cell? ⟨8, 15, none⟩ = some (.int .u8 4)) :
    Calls Tryz.prog 115 #[.int .u64 x] w fun e w' => e = .returned (.int .i64 4) ∧ w' = w := by
  go_enter Tryz.func115, Tryz.ntmps115
  go_wp2_with fail
  go_returns
  exact ⟨rfl, rfl⟩
set_option maxRecDepth 100000 in
set_option maxHeartbeats 400000 in
theorem tz (x y a m q : Int) (h0 : (x == 0) = false) (h1 : IntKind.u64.wrap (-x) = y) (h2 : bits .and .u64 x y = a) (h3 : IntKind.u64.wrap (a * 285870213051353865) = m) (h4 : m / 288230376151711744 = q) (h5 : 0 ≤ q) (h6 : q < 64) (h7 : q.toNat = 15) (w : World) (hc : w.cell? ⟨8, 15, none⟩ = some (.int .u8 4)) :
    Calls Tryz.prog 104 #[.int .u64 x] w fun e w' => e = .returned (.int .i64 4) ∧ w' = w := by
  have H := Lib.hid (tz64 x y a m q h0 h1 h2 h3 h4 h5 h6 h7 w hc)
  clear h0 h1 h2 h3 h4 h5 h6 h7 hc
  go_enter Tryz.func104, Tryz.ntmps104
  go_wp2_with (go_at_call 115; refine H.out.mono ?_; rintro e w1 ⟨rfl, rfl⟩)
  go_returns
  exact ⟨rfl, rfl⟩
theorem trailing_walk (w : World) (hc : w.cell? ⟨8, 15, none⟩ = some (.int .u8 4)) :
    Calls Tryz.prog 104 #[.int .u64 16] w fun e w' => e = .returned (.int .i64 4) ∧ w' = w :=
  tz 16 18446744073709551600 16 4573923408821661840 15 (by decide +kernel) (by decide +kernel) (by decide +kernel) (by decide +kernel) (by decide +kernel) (by decide) (by decide) (by decide) w hc
set_option maxRecDepth 100000 in
set_option maxHeartbeats 400000 in
theorem pow2 (x : Int) (h0 : bits .and .i64 x 15 = 0) (h1 : IntKind.i64.wrap (x - 1) = 15) (w : World) :
    Calls Tryz.prog 103 #[.int .i64 x] w fun e w' => e = .returned (.bool true) ∧ w' = w := by
  go_enter Tryz.func103, Tryz.ntmps103
  go_wp2_with fail
  go_returns
  exact ⟨rfl, rfl⟩
theorem pow16 (w : World) : Calls Tryz.prog 103 #[.int .i64 16] w fun e w' => e = .returned (.bool true) ∧ w' = w := pow2 16 (by decide +kernel) (by decide +kernel) w
/-- A block of 65 bytes that a call made; from place i on its bytes are these. -/
def Dig (w : World) (g i : Nat) (ds : List UInt8) : Prop :=
  i + ds.length = 65 ∧ (∀ t, t < 65 → ∃ v, w.cell? ⟨g, t, none⟩ = some (.int .u8 v)) ∧ (∀ t, w.frozen? ⟨g, t, none⟩ = false) ∧ ∀ t, t < ds.length → w.cell? ⟨g, i + t, none⟩ = some (.int .u8 ((ds[t]?.getD 0).toNat : Int))
theorem Dig.zero (w : World) : Dig (w.alloc (.cells Tryz.zeroCells132 132)) w.heap.size 65 [] := by
  have hz : Tryz.zeroCells132 = Array.replicate 65 (.int .u8 0) := by kernel_rfl
  refine ⟨rfl, fun t ht => ⟨0, ?_⟩, fun t => World.frozen?_alloc_new _ _ _ _, fun t ht => by cases ht⟩
  rw [World.cell?_alloc_new, hz, Array.getElem?_replicate, if_pos ht]
theorem Dig.put {w : World} {g i : Nat} {ds : List UInt8} (h : Dig w g (i + 1) ds) (d : UInt8) : Dig (w.setCell ⟨g, i, none⟩ (.int .u8 (d.toNat : Int))) g i (d :: ds) := by
  obtain ⟨h1, h2, h3, h4⟩ := h
  obtain ⟨v0, hv0⟩ := h2 i (by omega)
  refine ⟨by simp; omega, fun t ht => ?_, fun t => by simp [go_sem, h3], fun t ht => ?_⟩
  · by_cases e : t = i
    · subst e
      exact ⟨_, World.cell?_setCell_same _ _ _ hv0⟩
    · obtain ⟨v, hv⟩ := h2 t ht
      exact ⟨v, by rw [World.cell?_setCell_other _ _ _ _ (by intro c; injection c; omega)]; exact hv⟩
  · rcases t with _ | t
    · exact World.cell?_setCell_same _ _ _ hv0
    · rw [World.cell?_setCell_other _ _ _ _ (by intro c; injection c; omega), show i + (t + 1) = i + 1 + t by omega]
      simpa using h4 t (by simpa using ht)
theorem and15 (u : Nat) (h : u < 18446744073709551616) : bits .and .u64 (u : Int) 15 = ((u % 16 : Nat) : Int) := by
  have h2 := bits_mask .u64 64 (by decide) (fun n h₀ h₁ => by simp [IntKind.wrap, IntKind.bits, IntKind.signed]; omega) 4 (by decide) (u : Int) (by omega) (by omega)
  simpa using h2
theorem dig_one : ∀ k : Fin 16, (#[48, 49, 50, 51, 52, 53, 54, 55, 56, 57, 97, 98, 99, 100, 101, 102, 103, 104, 105, 106, 107, 108, 109, 110, 111, 112, 113, 114, 115, 116, 117, 118, 119, 120, 121, 122] : Array UInt8)[(k : Nat)]?.getD 0 = hexD false k := by decide +kernel
theorem dig_at (k : Nat) (h : k < 16) (hs : k < (⟨#[48, 49, 50, 51, 52, 53, 54, 55, 56, 57, 97, 98, 99, 100, 101, 102, 103, 104, 105, 106, 107, 108, 109, 110, 111, 112, 113, 114, 115, 116, 117, 118, 119, 120, 121, 122]⟩ : ByteArray).size) : (⟨#[48, 49, 50, 51, 52, 53, 54, 55, 56, 57, 97, 98, 99, 100, 101, 102, 103, 104, 105, 106, 107, 108, 109, 110, 111, 112, 113, 114, 115, 116, 117, 118, 119, 120, 121, 122]⟩ : ByteArray)[k] = hexD false k := by
  rw [← dig_one ⟨k, h⟩, Array.getElem?_eq_getElem (by exact hs), Option.getD_some]; rfl
set_option maxRecDepth 100000 in
set_option maxHeartbeats 400000 in
theorem formatBits_walk (x : Nat) (hx : x < 4294967296) (w : World) (hc : w.cell? ⟨8, 15, none⟩ = some (.int .u8 4)) :
    Calls Tryz.prog 83 #[.slice none 0 0, .int .u64 x, .int .i64 16, .bool false, .bool false] w fun e w' => e = .returned (.tuple #[.slice none 0 0, .string (bytesB (hexM false x))]) ∧ Below w.heap.size w w' := by
  have HT := Lib.hid (fun (W : World) (hW : Below w.heap.size w W) => trailing_walk W ((hW.cell (World.block_lt_of_cell? w _ hc)).trans hc))
  go_enter Tryz.func83, Tryz.ntmps83
  go_upto_region 4 with fail
  obtain ⟨X, hX⟩ : ∃ X, w.alloc (.cells Tryz.zeroCells132 132) = X := ⟨_, rfl⟩
  have HB := Lib.hid (show Below w.heap.size w X by rw [← hX]; exact (Below.refl _ w).alloc (Nat.le_refl _) _)
  have HD := Lib.hid (show Dig X w.heap.size 65 [] by rw [← hX]; exact Dig.zero w)
  rw [hX]
  clear hX
  obtain ⟨g, hg⟩ : ∃ g, w.heap.size = g := ⟨_, rfl⟩
  rw [hg] at HT HB HD ⊢
  go_upto_region 11 with (first | (go_at_call 103; refine (pow16 _).mono ?_; rintro e w1 ⟨rfl, rfl⟩) | (go_at_call 104; refine (HT.out _ HB.out).mono ?_; rintro e w1 ⟨rfl, rfl⟩))
  have HN := Lib.hid (fun (j u : Nat) => And.intro (hexN_great (x := u)) (hexL_cons false j x))
  go_loopw [1, 13] (fun s1 s13 wr => ∃ (u i j : Nat), i + j = 65 ∧ s1 = .int .u64 u ∧ s13 = .int .i64 i ∧ Hid (u = x / 16 ^ j) ∧ Hid (hexN x = hexN u + j ∧ hexN x ≤ 8) ∧ Hid (Dig wr g i (hexL false x j)) ∧ Hid (Below g w wr)) (fun s1 s13 _ => (intOf s13).toNat)
  case atStart => exact ⟨x, 65, 0, rfl, rfl, rfl, Lib.hid (by simp), Lib.hid ⟨rfl, hexN_lt 7 x (by omega)⟩, HD, HB⟩
  case round =>
    obtain ⟨u, i, j, hij, rfl, rfl, HU, HL, HDr, HBr⟩ := hrel
    have hu : u ≤ x := by rw [HU.out]; exact Nat.div_le_self _ _
    by_cases hlt : 16 ≤ u
    · have b1 : (16 : Int) ≤ (u : Int) := by omega
      have hj : j ≤ 7 := by have h1 := HL.out; have := hexN_pos u; omega
      have i1 : IntKind.i64.wrap ((i : Int) - 1) = ((i - 1 : Nat) : Int) := by rw [IntWalk.i64_in _ (by omega)]; omega
      have a1 := and15 u (by omega)
      have i2 : ((u % 16 : Nat) : Int) < 36 := by omega
      have i3 : ((i - 1 : Nat) : Int) < 65 := by omega
      obtain ⟨v0, hv0⟩ := HDr.out.2.1 (i - 1) (by omega)
      have hf0 := HDr.out.2.2.1 (i - 1)
      have HE := Lib.hid (show hexL false x (j + 1) = hexD false (u % 16) :: hexL false x j by rw [hexL_cons, ← HU.out])
      have HU2 := Lib.hid (show u / 16 = x / 16 ^ (j + 1) by rw [HU.out, Nat.div_div_eq_div_mul, Nat.pow_succ])
      have HL2 := Lib.hid (show hexN x = hexN (u / 16) + (j + 1) ∧ hexN x ≤ 8 by have h1 := HL.out; rw [hexN_great (x := u) (by omega)] at h1; omega)
      have HP := Lib.hid (fun (v : Value) (d : UInt8) (hv : v = .int .u8 (d.toNat : Int)) => show Dig (wr.setCell ⟨g, i - 1, none⟩ v) g (i - 1) (d :: hexL false x j) by rw [hv]; exact Dig.put (w := wr) (g := g) (i := i - 1) (by have h1 := HDr.out; rwa [← show i - 1 + 1 = i by omega] at h1) d)
      go_wp2_with fail
      go_roundw
      case rel =>
        refine ⟨u / 16, i - 1, j + 1, by omega, by simp, by simp, HU2, HL2, ?_, Lib.hid (HBr.out.setCell (by simp) _)⟩
        rw [HE.out]
        exact Lib.hid (HP.out _ _ (by rw [dig_at (u % 16) (by omega)]))
      case measure => simp [intOf]; omega
    · have b1 : ¬ (16 : Int) ≤ (u : Int) := by omega
      have hj : j ≤ 7 := by have h1 := HL.out; have := hexN_pos u; omega
      have i1 : IntKind.i64.wrap ((i : Int) - 1) = ((i - 1 : Nat) : Int) := by rw [IntWalk.i64_in _ (by omega)]; omega
      have i2 : (u : Int) < 36 := by omega
      have i3 : ((i - 1 : Nat) : Int) < 65 := by omega
      obtain ⟨v0, hv0⟩ := HDr.out.2.1 (i - 1) (by omega)
      have hf0 := HDr.out.2.2.1 (i - 1)
      have HE := Lib.hid (show hexM false x = hexD false u :: hexL false x j by
        have h1 := HL.out
        rw [hexN_small (x := u) (by omega)] at h1
        rw [hexM, show hexN x = j + 1 by omega, hexL_cons, ← HU.out, Nat.mod_eq_of_lt (by omega)])
      have HP := Lib.hid (fun (v : Value) (d : UInt8) (hv : v = .int .u8 (d.toNat : Int)) => show Dig (wr.setCell ⟨g, i - 1, none⟩ v) g (i - 1) (d :: hexL false x j) by rw [hv]; exact Dig.put (w := wr) (g := g) (i := i - 1) (by have h1 := HDr.out; rwa [← show i - 1 + 1 = i by omega] at h1) d)
      go_upto_region 25 with fail
      have HW2 := Lib.hid (HP.out _ _ (show Value.int .u8 (((⟨#[48, 49, 50, 51, 52, 53, 54, 55, 56, 57, 97, 98, 99, 100, 101, 102, 103, 104, 105, 106, 107, 108, 109, 110, 111, 112, 113, 114, 115, 116, 117, 118, 119, 120, 121, 122]⟩ : ByteArray)[u]'(by show u < 36; omega)).toNat : Int) = _ by rw [dig_at u (by omega)]))
      have HB2 := Lib.hid (HBr.out.setCell (p := ⟨g, i - 1, none⟩) (by simp) (Value.int .u8 (((⟨#[48, 49, 50, 51, 52, 53, 54, 55, 56, 57, 97, 98, 99, 100, 101, 102, 103, 104, 105, 106, 107, 108, 109, 110, 111, 112, 113, 114, 115, 116, 117, 118, 119, 120, 121, 122]⟩ : ByteArray)[u]'(by show u < 36; omega)).toNat : Int)))
      obtain ⟨W2, hW2⟩ : ∃ W2, wr.setCell ⟨g, i - 1, none⟩ (.int .u8 (((⟨#[48, 49, 50, 51, 52, 53, 54, 55, 56, 57, 97, 98, 99, 100, 101, 102, 103, 104, 105, 106, 107, 108, 109, 110, 111, 112, 113, 114, 115, 116, 117, 118, 119, 120, 121, 122]⟩ : ByteArray)[u]'(by show u < 36; omega)).toNat : Int)) = W2 := ⟨_, rfl⟩
      rw [hW2] at HW2 HB2 ⊢
      clear hW2 hv0 hf0
      have HCV := Lib.hid (show (convert 22 9 (.slice (some ⟨g, i - 1, none⟩) (65 - (i - 1)) (65 - (i - 1)))).run Tryz.prog W2 = .ok (.string (bytesB (hexM false x))) W2 by
        have h1 := run_convert_bytes_back (P := Tryz.prog) W2 22 9 5 ⟨g, i - 1, none⟩ (65 - (i - 1)) (hexM false x) Tryz.underlying22 Tryz.underlying5 Tryz.underlying9 (fun t ht => by
          have h2 := HW2.out.2.2.2 t (by rw [← HE.out]; exact ht)
          rw [← HE.out, List.getElem?_eq_getElem ht, Option.getD_some] at h2
          rw [show (⟨g, i - 1, none⟩ : Addr).add t = ⟨g, i - 1 + t, none⟩ by unfold Addr.add; split <;> simp_all]; exact h2)
        have h3 := HW2.out.1
        rw [← HE.out] at h3
        rw [show (hexM false x).length = 65 - (i - 1) by omega] at h1
        exact h1)
      have i4 : ((i - 1 : Nat) : Int) ≤ 65 := by omega
      have i5 : (0 : Int) ≤ ((i - 1 : Nat) : Int) := by omega
      go_upto_region 30 with fail
      have hcv := HCV.out
      go_wp2_with fail
      go_ret2
      exact ⟨rfl, HB2.out⟩
set_option maxRecDepth 100000 in
set_option maxHeartbeats 400000 in
theorem formatIntI_walk (x : Nat) (hx : x < 4294967296) (w : World) (hc : w.cell? ⟨8, 15, none⟩ = some (.int .u8 4)) :
    Calls Tryz.prog 59 #[.int .i64 x, .int .i64 16] w fun e w' => e = .returned (.string (bytesB (hexM false x))) ∧ Below w.heap.size w w' := by
  have H := Lib.hid (formatBits_walk x hx w hc)
  have i0 : ¬ (x : Int) < 0 := by omega
  have i1 : IntKind.u64.wrap (x : Int) = (x : Int) := by simp [IntKind.wrap, IntKind.bits, IntKind.signed]; omega
  go_enter Tryz.func59, Tryz.ntmps59
  go_wp2_with (go_at_call 83; refine H.out.mono ?_; rintro e w1 ⟨rfl, hb⟩)
  go_ret
  exact ⟨rfl, hb⟩
set_option maxRecDepth 100000 in
set_option maxHeartbeats 400000 in
theorem formatInt_walk (x : Nat) (hx : x < 4294967296) (w : World) (hc : w.cell? ⟨8, 15, none⟩ = some (.int .u8 4)) :
    Calls Tryz.prog 45 #[.int .i64 x, .int .i64 16] w fun e w' => e = .returned (.string (bytesB (hexM false x))) ∧ Below w.heap.size w w' := by
  have H := Lib.hid (formatIntI_walk x hx w hc)
  go_enter Tryz.func45, Tryz.ntmps45
  go_wp2_with (go_at_call 59; refine H.out.mono ?_; rintro e w1 ⟨rfl, hb⟩)
  go_ret
  exact ⟨rfl, hb⟩
end Go.Proofs.YteabjninmaceaaaGreatDoor
