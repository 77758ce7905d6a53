/- Numbers to the base 16: the program's hex; a bit of an address. -/
import Derived.Test.YteabjninmaceaaaGreatDoorProg
import Derived.Test.YteabjninmaceaaaGreatDoorNotesSay
import Derived.Test.YteabjninmaceaaaGreatDoorLib2
namespace Go.Proofs.YteabjninmaceaaaGreatDoor
open Go.RowKit
set_option linter.unusedVariables false
set_option linter.unusedSimpArgs false

theorem upper_digit : ∀ d : Fin 16, Lib.upperB (hexD false d) = hexD true d := by decide
theorem upper_hexL (x n : Nat) : Lib.toUpperA (hexL false x n) = hexL true x n := by
  induction n generalizing x with
  | zero => rfl
  | succ n ih =>
    rw [hexL, hexL, ← ih]
    have := upper_digit ⟨x % 16, by omega⟩
    simp only [Lib.toUpperA, List.map_append, List.map_cons, List.map_nil, this]
theorem repeatL_nought (c : Nat) : Lib.repeatL [48] c = List.replicate c 48 := by
  induction c with
  | zero => rfl
  | succ c ih => rw [Lib.repeatL, ih]; rfl
theorem hexL_ascii (x n : Nat) : ∀ (j : Nat) (b : UInt8), (hexL false x n)[j]? = some b → b.toNat < 128 := by
  intro j b h
  rcases hexL_lower x n b (List.mem_of_getElem? h) with ⟨h1, h2⟩ | ⟨h1, h2⟩
  · have := UInt8.le_iff_toNat_le.1 h2
    have e : (57 : UInt8).toNat = 57 := rfl
    omega
  · have := UInt8.le_iff_toNat_le.1 h2
    have e : (102 : UInt8).toNat = 102 := rfl
    omega
theorem upper_walk (x : Nat) (hx : x < 4294967296) (w : World) :
    Calls Tryz.prog 44 #[.string (bytesB (hexM false x))] w fun e w' => e = .returned (.string (bytesB (hexM true x))) ∧ Below w.heap.size w w' := by
  have hl : (bytesB (hexM false x)).data.toList = hexM false x := bytesB_data _
  have hn := hexN_lt 7 x (by omega)
  have h := strings_ToUpper_ascii (bytesB (hexM false x)) w (by rw [bytesB_size, hexM, hexL_length]; omega) (by rw [hl]; exact hexL_ascii _ _)
  rw [hl, hexM, upper_hexL] at h
  exact h
set_option maxRecDepth 100000 in
set_option maxHeartbeats 400000 in
theorem hex_walk (x n : Nat) (hx : x < 16 ^ n) (h0 : 1 ≤ n) (hn8 : n ≤ 7) (w : World) (hL : Laid w) :
    Calls Tryz.prog 20 #[.int .i64 x, .int .i64 n] w fun e w' => e = .returned (.string (bytesB (hexL true x n))) ∧ Below w.heap.size w w' := by
  have hx2 : x < 4294967296 := Nat.lt_of_lt_of_le hx (Nat.le_trans (Nat.pow_le_pow_right (by decide) hn8) (by decide))
  have hn : hexN x ≤ n := by
    obtain ⟨m, rfl⟩ : ∃ m, n = m + 1 := ⟨n - 1, by omega⟩
    exact hexN_lt m x hx
  have H := Lib.hid (formatInt_walk x hx2 w hL.2)
  have HU := Lib.hid (fun W => upper_walk x hx2 W)
  have HR := Lib.hid (fun W => strings_Repeat ⟨#[48]⟩ (n - hexN x) W (by omega) (by have : (⟨#[48]⟩ : ByteArray).size = 1 := rfl; rw [this]; omega))
  have HP := Lib.hid (hexL_pad true x n (hexN x) rfl hn)
  have hs : (bytesB (hexM true x)).size = hexN x := by rw [bytesB_size, hexM, hexL_length]
  have i1 : IntKind.i64.wrap ((n : Int) - (hexN x : Int)) = ((n - hexN x : Nat) : Int) := by rw [IntWalk.i64_in _ (by omega)]; omega
  obtain ⟨k, hk⟩ : ∃ k, hexN x = k := ⟨_, rfl⟩
  obtain ⟨M, hM⟩ : ∃ M, bytesB (hexM true x) = M := ⟨_, rfl⟩
  obtain ⟨R, hR⟩ : ∃ R : ByteArray, ⟨(Lib.repeatL [48] (n - hexN x)).toArray⟩ = R := ⟨_, rfl⟩
  have HE := Lib.hid (show R ++ M = bytesB (hexL true x n) by
    rw [← hR, ← hM, repeatL_nought, show (⟨(List.replicate (n - hexN x) (48 : UInt8)).toArray⟩ : ByteArray) = bytesB (List.replicate (n - hexN x) 48) from rfl, bytesB_append, HP.out])
  have hzR : R.size = n - hexN x := by rw [← hR, repeatL_nought]; exact (bytesB_size _).trans (List.length_replicate ..)
  have HR2 := Lib.hid (fun W => show Calls Tryz.prog 46 #[.string ⟨#[48]⟩, .int .i64 ((n - hexN x : Nat) : Int)] W fun e w' => e = .returned (.string R) ∧ Below W.heap.size W w' by rw [← hR]; exact HR.out W)
  clear HR hR
  rw [hM] at HU hs
  rw [hk] at HR2 HP i1 hn hzR hs
  have q1 : ¬ 9223372036854775807 < (n - k) + k := by omega
  obtain ⟨A, hA⟩ : ∃ A, bytesB (hexM false x) = A := ⟨_, rfl⟩
  rw [hA] at H HU
  clear hM hk hx hx2 hL hA HP
  go_enter Tryz.func20, Tryz.ntmps20
  go_upto_region 2 with (first | (go_at_call 45; refine H.out.mono ?_; rintro e w1 ⟨rfl, hb⟩) | (go_at_call 44; refine (HU.out _).mono ?_; rintro e w2 ⟨rfl, hb2⟩))
  go_wp2_with (go_at_call 46; refine (HR2.out _).mono ?_; rintro e w3 ⟨rfl, hb3⟩)
  go_ret
  exact ⟨by rw [← HE.out]; rfl, below_step (below_step hb hb.size hb2) (Nat.le_trans hb.size hb2.size) hb3⟩
theorem decDigits_tens : ∀ x : Fin 16, Lib.decDigits x.1 = decL x.1 := by decide +kernel
theorem itoa_walk (x : Nat) (hx : x < 16) (w : World) :
    Calls Tryz.prog 36 #[.int .i64 x] w fun e w' => e = .returned (.string (bytesB (decL x))) ∧ w' = w := by
  have h := strconv_Itoa_small x (by omega) w
  rw [decDigits_tens ⟨x, hx⟩] at h
  exact h
set_option maxRecDepth 100000 in
set_option maxHeartbeats 400000 in
theorem bit_walk (v : Nat) (hv : v < 65536) (w : World) (hL : Laid w) :
    Calls Tryz.prog 37 #[.int .i64 v] w fun e w' => e = .returned (.string (bytesB (bitL v))) ∧ Below w.heap.size w w' := by
  have H := Lib.hid (hex_walk (v % 8192) 4 (by omega) (by omega) (by omega) w hL)
  have T := Lib.hid (fun W => show Calls Tryz.prog 36 #[.int .i64 ((v : Int) / 8192)] W fun e w' => e = .returned (.string (bytesB (decL (v / 8192)))) ∧ w' = W from itoa_walk (v / 8192) (by omega) W)
  have z := hexL_size true (v % 8192) 4
  have zd : (bytesB (decL (v / 8192))).size ≤ 2 := by rw [bytesB_size]; unfold decL; split <;> simp [hexL_length]
  have a1 : bits .and .i64 (v : Int) 8191 = ((v % 8192 : Nat) : Int) := by
    have h2 := bits_mask .i64 63 (by decide) (fun n h₀ h₁ => IntWalk.i64_in _ (by omega)) 13 (by decide) (v : Int) (by omega) (by omega)
    simpa using h2
  obtain ⟨B, hB⟩ : ∃ x, bytesB (hexL true (v % 8192) 4) = x := ⟨_, rfl⟩
  obtain ⟨D, hD⟩ : ∃ x, bytesB (decL (v / 8192)) = x := ⟨_, rfl⟩
  have HE := Lib.hid (show (B ++ (⟨#[46]⟩ : ByteArray)) ++ D = bytesB (bitL v) by
    rw [← hB, ← hD, show (⟨#[46]⟩ : ByteArray) = bytesB [46] from rfl, bytesB_append, bytesB_append, List.append_assoc]; rfl)
  rw [hB] at H z
  rw [hD] at T zd
  clear hB hD hL
  go_enter Tryz.func37, Tryz.ntmps37
  go_wp2_with (first | (go_at_call 20; refine H.out.mono ?_; rintro e w1 ⟨rfl, hb1⟩) | (go_at_call 36; refine (T.out _).mono ?_; rintro e w1 ⟨rfl, rfl⟩))
  go_ret
  exact ⟨by rw [← HE.out]; rfl, hb1⟩
end Go.Proofs.YteabjninmaceaaaGreatDoor
