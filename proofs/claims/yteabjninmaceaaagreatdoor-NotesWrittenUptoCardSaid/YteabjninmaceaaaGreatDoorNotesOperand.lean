/- How an operand is written: the document's Operand, letter by letter (printed by gen_operand.py). -/
import Derived.Test.YteabjninmaceaaaGreatDoorProg
import Derived.Test.YteabjninmaceaaaGreatDoorNotesSay
namespace Go.Proofs.YteabjninmaceaaaGreatDoor
open Go.RowKit
set_option linter.unusedVariables false
set_option linter.unusedSimpArgs false

theorem mkB (a : Array UInt8) : (⟨a⟩ : ByteArray) = bytesB a.toList := by simp [bytesB]

set_option maxRecDepth 100000 in
set_option maxHeartbeats 1000000 in
theorem operand_65 (code next v : Nat) (hcode : code < 256) (hnext : next < 65536) (hv : v < 65536) (w : World) :
    Calls Tryz.prog 16 #[.int .u8 65, .int .i64 v, .int .u8 code, .int .u16 next] w fun e w' => e = .returned (.string (bytesB (opL 65 code next v))) ∧ Below w.heap.size w w' := by
  have hcv := run_convert_bytes_back (P := Tryz.prog) (w.alloc (.cells #[.int .u8 65] 5)) 22 9 5 ⟨w.heap.size, 0, none⟩ 1 [65] Tryz.underlying22 Tryz.underlying5 Tryz.underlying9 (fun t ht => by
    obtain rfl : t = 0 := by simpa using ht
    simp [go_sem, Addr.add])
  have HX := Lib.hid hcv
  clear hcv
  go_enter Tryz.func16, Tryz.ntmps16
  go_upto_region 6 with fail
  have hcv := HX.out
  simp only [List.length_cons, List.length_nil, Nat.zero_add] at hcv
  go_wp2_with fail
  go_ret
  exact ⟨rfl, (Below.refl _ w).alloc (Nat.le_refl _) _⟩
set_option maxRecDepth 100000 in
set_option maxHeartbeats 1000000 in
theorem operand_88 (code next v : Nat) (hcode : code < 256) (hnext : next < 65536) (hv : v < 65536) (w : World) :
    Calls Tryz.prog 16 #[.int .u8 88, .int .i64 v, .int .u8 code, .int .u16 next] w fun e w' => e = .returned (.string (bytesB (opL 88 code next v))) ∧ Below w.heap.size w w' := by
  have hcv := run_convert_bytes_back (P := Tryz.prog) (w.alloc (.cells #[.int .u8 88] 5)) 22 9 5 ⟨w.heap.size, 0, none⟩ 1 [88] Tryz.underlying22 Tryz.underlying5 Tryz.underlying9 (fun t ht => by
    obtain rfl : t = 0 := by simpa using ht
    simp [go_sem, Addr.add])
  have HX := Lib.hid hcv
  clear hcv
  go_enter Tryz.func16, Tryz.ntmps16
  go_upto_region 6 with fail
  have hcv := HX.out
  simp only [List.length_cons, List.length_nil, Nat.zero_add] at hcv
  go_wp2_with fail
  go_ret
  exact ⟨rfl, (Below.refl _ w).alloc (Nat.le_refl _) _⟩
set_option maxRecDepth 100000 in
set_option maxHeartbeats 1000000 in
theorem operand_89 (code next v : Nat) (hcode : code < 256) (hnext : next < 65536) (hv : v < 65536) (w : World) :
    Calls Tryz.prog 16 #[.int .u8 89, .int .i64 v, .int .u8 code, .int .u16 next] w fun e w' => e = .returned (.string (bytesB (opL 89 code next v))) ∧ Below w.heap.size w w' := by
  have hcv := run_convert_bytes_back (P := Tryz.prog) (w.alloc (.cells #[.int .u8 89] 5)) 22 9 5 ⟨w.heap.size, 0, none⟩ 1 [89] Tryz.underlying22 Tryz.underlying5 Tryz.underlying9 (fun t ht => by
    obtain rfl : t = 0 := by simpa using ht
    simp [go_sem, Addr.add])
  have HX := Lib.hid hcv
  clear hcv
  go_enter Tryz.func16, Tryz.ntmps16
  go_upto_region 6 with fail
  have hcv := HX.out
  simp only [List.length_cons, List.length_nil, Nat.zero_add] at hcv
  go_wp2_with fail
  go_ret
  exact ⟨rfl, (Below.refl _ w).alloc (Nat.le_refl _) _⟩
set_option maxRecDepth 100000 in
set_option maxHeartbeats 1000000 in
theorem operand_83 (code next v : Nat) (hcode : code < 256) (hnext : next < 65536) (hv : v < 65536) (w : World) :
    Calls Tryz.prog 16 #[.int .u8 83, .int .i64 v, .int .u8 code, .int .u16 next] w fun e w' => e = .returned (.string (bytesB (opL 83 code next v))) ∧ Below w.heap.size w w' := by
  go_enter Tryz.func16, Tryz.ntmps16
  go_wp2_with fail
  go_ret
  exact ⟨rfl, Below.refl _ _⟩
set_option maxRecDepth 100000 in
set_option maxHeartbeats 1000000 in
theorem operand_80 (code next v : Nat) (hcode : code < 256) (hnext : next < 65536) (hv : v < 65536) (w : World) :
    Calls Tryz.prog 16 #[.int .u8 80, .int .i64 v, .int .u8 code, .int .u16 next] w fun e w' => e = .returned (.string (bytesB (opL 80 code next v))) ∧ Below w.heap.size w w' := by
  go_enter Tryz.func16, Tryz.ntmps16
  go_wp2_with fail
  go_ret
  exact ⟨rfl, Below.refl _ _⟩
set_option maxRecDepth 100000 in
set_option maxHeartbeats 1000000 in
theorem operand_87 (code next v : Nat) (hcode : code < 256) (hnext : next < 65536) (hv : v < 65536) (w : World) :
    Calls Tryz.prog 16 #[.int .u8 87, .int .i64 v, .int .u8 code, .int .u16 next] w fun e w' => e = .returned (.string (bytesB (opL 87 code next v))) ∧ Below w.heap.size w w' := by
  go_enter Tryz.func16, Tryz.ntmps16
  go_wp2_with fail
  go_ret
  exact ⟨rfl, Below.refl _ _⟩
set_option maxRecDepth 100000 in
set_option maxHeartbeats 1000000 in
theorem operand_67 (code next v : Nat) (hcode : code < 256) (hnext : next < 65536) (hv : v < 65536) (w : World) :
    Calls Tryz.prog 16 #[.int .u8 67, .int .i64 v, .int .u8 code, .int .u16 next] w fun e w' => e = .returned (.string (bytesB (opL 67 code next v))) ∧ Below w.heap.size w w' := by
  have hcv := run_convert_bytes_back (P := Tryz.prog) (w.alloc (.cells #[.int .u8 67] 5)) 22 9 5 ⟨w.heap.size, 0, none⟩ 1 [67] Tryz.underlying22 Tryz.underlying5 Tryz.underlying9 (fun t ht => by
    obtain rfl : t = 0 := by simpa using ht
    simp [go_sem, Addr.add])
  have HX := Lib.hid hcv
  clear hcv
  go_enter Tryz.func16, Tryz.ntmps16
  go_upto_region 6 with fail
  have hcv := HX.out
  simp only [List.length_cons, List.length_nil, Nat.zero_add] at hcv
  go_wp2_with fail
  go_ret
  exact ⟨rfl, (Below.refl _ w).alloc (Nat.le_refl _) _⟩
set_option maxRecDepth 100000 in
set_option maxHeartbeats 1000000 in
theorem operand_105 (code next v : Nat) (hcode : code < 256) (hnext : next < 65536) (hv : v < 65536) (w : World) :
    Calls Tryz.prog 16 #[.int .u8 105, .int .i64 v, .int .u8 code, .int .u16 next] w fun e w' => e = .returned (.string (bytesB (opL 105 code next v))) ∧ Below w.heap.size w w' := by
  go_enter Tryz.func16, Tryz.ntmps16
  go_wp2_with fail
  go_ret
  exact ⟨rfl, Below.refl _ _⟩
set_option maxRecDepth 100000 in
set_option maxHeartbeats 1000000 in
theorem operand_106 (code next v : Nat) (hcode : code < 256) (hnext : next < 65536) (hv : v < 65536) (w : World) :
    Calls Tryz.prog 16 #[.int .u8 106, .int .i64 v, .int .u8 code, .int .u16 next] w fun e w' => e = .returned (.string (bytesB (opL 106 code next v))) ∧ Below w.heap.size w w' := by
  go_enter Tryz.func16, Tryz.ntmps16
  go_wp2_with fail
  go_ret
  exact ⟨rfl, Below.refl _ _⟩
set_option maxRecDepth 100000 in
set_option maxHeartbeats 1000000 in
theorem operand_43 (code next v : Nat) (hcode : code < 256) (hnext : next < 65536) (hv : v < 65536) (w : World) :
    Calls Tryz.prog 16 #[.int .u8 43, .int .i64 v, .int .u8 code, .int .u16 next] w fun e w' => e = .returned (.string (bytesB (opL 43 code next v))) ∧ Below w.heap.size w w' := by
  go_enter Tryz.func16, Tryz.ntmps16
  go_wp2_with fail
  go_ret
  exact ⟨rfl, Below.refl _ _⟩
set_option maxRecDepth 100000 in
set_option maxHeartbeats 1000000 in
theorem operand_35 (code next v : Nat) (hcode : code < 256) (hnext : next < 65536) (hv : v < 65536) (w : World) :
    Calls Tryz.prog 16 #[.int .u8 35, .int .i64 v, .int .u8 code, .int .u16 next] w fun e w' => e = .returned (.string (bytesB (opL 35 code next v))) ∧ Below w.heap.size w w' := by
  have H := Lib.hid (refHex_walk v 2 (by omega) (by omega) w)
  have z := hexL_size true v 2
  obtain ⟨B, hB⟩ : ∃ x, bytesB (hexL true v 2) = x := ⟨_, rfl⟩
  have HE := Lib.hid (show (⟨#[35]⟩ : ByteArray) ++ B = bytesB (opL 35 code next v) by
    rw [← hB]
    first | rfl | (simp only [mkB, bytesB_append]; rfl))
  rw [hB] at H z
  clear hB
  go_enter Tryz.func16, Tryz.ntmps16
  go_wp2_with (go_at_call 21; refine H.out.mono ?_; rintro e w1 ⟨rfl, rfl⟩)
  go_ret
  exact ⟨by rw [← HE.out]; rfl, Below.refl _ _⟩
set_option maxRecDepth 100000 in
set_option maxHeartbeats 1000000 in
theorem operand_100 (code next v : Nat) (hcode : code < 256) (hnext : next < 65536) (hv : v < 65536) (w : World) :
    Calls Tryz.prog 16 #[.int .u8 100, .int .i64 v, .int .u8 code, .int .u16 next] w fun e w' => e = .returned (.string (bytesB (opL 100 code next v))) ∧ Below w.heap.size w w' := by
  have H := Lib.hid (refHex_walk v 2 (by omega) (by omega) w)
  have z := hexL_size true v 2
  obtain ⟨B, hB⟩ : ∃ x, bytesB (hexL true v 2) = x := ⟨_, rfl⟩
  have HE := Lib.hid (show B = bytesB (opL 100 code next v) by
    rw [← hB]
    first | rfl | (simp only [mkB, bytesB_append]; rfl))
  rw [hB] at H z
  clear hB
  go_enter Tryz.func16, Tryz.ntmps16
  go_wp2_with (go_at_call 21; refine H.out.mono ?_; rintro e w1 ⟨rfl, rfl⟩)
  go_ret
  exact ⟨by rw [← HE.out]; rfl, Below.refl _ _⟩
set_option maxRecDepth 100000 in
set_option maxHeartbeats 1000000 in
theorem operand_68 (code next v : Nat) (hcode : code < 256) (hnext : next < 65536) (hv : v < 65536) (w : World) :
    Calls Tryz.prog 16 #[.int .u8 68, .int .i64 v, .int .u8 code, .int .u16 next] w fun e w' => e = .returned (.string (bytesB (opL 68 code next v))) ∧ Below w.heap.size w w' := by
  have H := Lib.hid (refHex_walk v 2 (by omega) (by omega) w)
  have z := hexL_size true v 2
  obtain ⟨B, hB⟩ : ∃ x, bytesB (hexL true v 2) = x := ⟨_, rfl⟩
  have HE := Lib.hid (show B = bytesB (opL 68 code next v) by
    rw [← hB]
    first | rfl | (simp only [mkB, bytesB_append]; rfl))
  rw [hB] at H z
  clear hB
  go_enter Tryz.func16, Tryz.ntmps16
  go_wp2_with (go_at_call 21; refine H.out.mono ?_; rintro e w1 ⟨rfl, rfl⟩)
  go_ret
  exact ⟨by rw [← HE.out]; rfl, Below.refl _ _⟩
set_option maxRecDepth 100000 in
set_option maxHeartbeats 1000000 in
theorem operand_120 (code next v : Nat) (hcode : code < 256) (hnext : next < 65536) (hv : v < 65536) (w : World) :
    Calls Tryz.prog 16 #[.int .u8 120, .int .i64 v, .int .u8 code, .int .u16 next] w fun e w' => e = .returned (.string (bytesB (opL 120 code next v))) ∧ Below w.heap.size w w' := by
  have H := Lib.hid (refHex_walk v 2 (by omega) (by omega) w)
  have z := hexL_size true v 2
  obtain ⟨B, hB⟩ : ∃ x, bytesB (hexL true v 2) = x := ⟨_, rfl⟩
  have HE := Lib.hid (show B ++ (⟨#[43, 88]⟩ : ByteArray) = bytesB (opL 120 code next v) by
    rw [← hB]
    first | rfl | (simp only [mkB, bytesB_append]; rfl))
  rw [hB] at H z
  clear hB
  go_enter Tryz.func16, Tryz.ntmps16
  go_wp2_with (go_at_call 21; refine H.out.mono ?_; rintro e w1 ⟨rfl, rfl⟩)
  go_ret
  exact ⟨by rw [← HE.out]; rfl, Below.refl _ _⟩
set_option maxRecDepth 100000 in
set_option maxHeartbeats 1000000 in
theorem operand_121 (code next v : Nat) (hcode : code < 256) (hnext : next < 65536) (hv : v < 65536) (w : World) :
    Calls Tryz.prog 16 #[.int .u8 121, .int .i64 v, .int .u8 code, .int .u16 next] w fun e w' => e = .returned (.string (bytesB (opL 121 code next v))) ∧ Below w.heap.size w w' := by
  have H := Lib.hid (refHex_walk v 2 (by omega) (by omega) w)
  have z := hexL_size true v 2
  obtain ⟨B, hB⟩ : ∃ x, bytesB (hexL true v 2) = x := ⟨_, rfl⟩
  have HE := Lib.hid (show B ++ (⟨#[43, 89]⟩ : ByteArray) = bytesB (opL 121 code next v) by
    rw [← hB]
    first | rfl | (simp only [mkB, bytesB_append]; rfl))
  rw [hB] at H z
  clear hB
  go_enter Tryz.func16, Tryz.ntmps16
  go_wp2_with (go_at_call 21; refine H.out.mono ?_; rintro e w1 ⟨rfl, rfl⟩)
  go_ret
  exact ⟨by rw [← HE.out]; rfl, Below.refl _ _⟩
set_option maxRecDepth 100000 in
set_option maxHeartbeats 1000000 in
theorem operand_108 (code next v : Nat) (hcode : code < 256) (hnext : next < 65536) (hv : v < 65536) (w : World) :
    Calls Tryz.prog 16 #[.int .u8 108, .int .i64 v, .int .u8 code, .int .u16 next] w fun e w' => e = .returned (.string (bytesB (opL 108 code next v))) ∧ Below w.heap.size w w' := by
  have H := Lib.hid (refHex_walk v 2 (by omega) (by omega) w)
  have z := hexL_size true v 2
  obtain ⟨B, hB⟩ : ∃ x, bytesB (hexL true v 2) = x := ⟨_, rfl⟩
  have HE := Lib.hid (show ((⟨#[91]⟩ : ByteArray) ++ B) ++ (⟨#[43, 88, 93]⟩ : ByteArray) = bytesB (opL 108 code next v) by
    rw [← hB]
    first | rfl | (simp only [mkB, bytesB_append]; rfl))
  rw [hB] at H z
  clear hB
  go_enter Tryz.func16, Tryz.ntmps16
  go_wp2_with (go_at_call 21; refine H.out.mono ?_; rintro e w1 ⟨rfl, rfl⟩)
  go_ret
  exact ⟨by rw [← HE.out]; rfl, Below.refl _ _⟩
set_option maxRecDepth 100000 in
set_option maxHeartbeats 1000000 in
theorem operand_109 (code next v : Nat) (hcode : code < 256) (hnext : next < 65536) (hv : v < 65536) (w : World) :
    Calls Tryz.prog 16 #[.int .u8 109, .int .i64 v, .int .u8 code, .int .u16 next] w fun e w' => e = .returned (.string (bytesB (opL 109 code next v))) ∧ Below w.heap.size w w' := by
  have H := Lib.hid (refHex_walk v 2 (by omega) (by omega) w)
  have z := hexL_size true v 2
  obtain ⟨B, hB⟩ : ∃ x, bytesB (hexL true v 2) = x := ⟨_, rfl⟩
  have HE := Lib.hid (show ((⟨#[91]⟩ : ByteArray) ++ B) ++ (⟨#[93, 43, 89]⟩ : ByteArray) = bytesB (opL 109 code next v) by
    rw [← hB]
    first | rfl | (simp only [mkB, bytesB_append]; rfl))
  rw [hB] at H z
  clear hB
  go_enter Tryz.func16, Tryz.ntmps16
  go_wp2_with (go_at_call 21; refine H.out.mono ?_; rintro e w1 ⟨rfl, rfl⟩)
  go_ret
  exact ⟨by rw [← HE.out]; rfl, Below.refl _ _⟩
set_option maxRecDepth 100000 in
set_option maxHeartbeats 1000000 in
theorem operand_117 (code next v : Nat) (hcode : code < 256) (hnext : next < 65536) (hv : v < 65536) (w : World) :
    Calls Tryz.prog 16 #[.int .u8 117, .int .i64 v, .int .u8 code, .int .u16 next] w fun e w' => e = .returned (.string (bytesB (opL 117 code next v))) ∧ Below w.heap.size w w' := by
  have H := Lib.hid (refHex_walk v 2 (by omega) (by omega) w)
  have z := hexL_size true v 2
  obtain ⟨B, hB⟩ : ∃ x, bytesB (hexL true v 2) = x := ⟨_, rfl⟩
  have HE := Lib.hid (show (⟨#[70, 70]⟩ : ByteArray) ++ B = bytesB (opL 117 code next v) by
    rw [← hB]
    first | rfl | (simp only [mkB, bytesB_append]; rfl))
  rw [hB] at H z
  clear hB
  go_enter Tryz.func16, Tryz.ntmps16
  go_wp2_with (go_at_call 21; refine H.out.mono ?_; rintro e w1 ⟨rfl, rfl⟩)
  go_ret
  exact ⟨by rw [← HE.out]; rfl, Below.refl _ _⟩
set_option maxRecDepth 100000 in
set_option maxHeartbeats 1000000 in
theorem operand_98 (code next v : Nat) (hcode : code < 256) (hnext : next < 65536) (hv : v < 65536) (w : World) :
    Calls Tryz.prog 16 #[.int .u8 98, .int .i64 v, .int .u8 code, .int .u16 next] w fun e w' => e = .returned (.string (bytesB (opL 98 code next v))) ∧ Below w.heap.size w w' := by
  have H := Lib.hid (refHex_walk v 2 (by omega) (by omega) w)
  have T := Lib.hid (tens_walk (code / 32) (by omega) w)
  have z := hexL_size true v 2
  have zd : (bytesB (decL (code / 32))).size ≤ 2 := by rw [bytesB_size]; unfold decL; split <;> simp [hexL_length]
  have i1 : (code : Int).tdiv 32 = ((code / 32 : Nat) : Int) := by rw [Int.tdiv_eq_ediv_of_nonneg (by omega)]; omega
  have i3 : (v : Int).tdiv 8192 = ((v / 8192 : Nat) : Int) := by rw [Int.tdiv_eq_ediv_of_nonneg (by omega)]; omega
  have i4 : (v : Int).tmod 8192 = ((v % 8192 : Nat) : Int) := by rw [Int.tmod_eq_emod_of_nonneg (by omega)]; omega
  obtain ⟨B, hB⟩ : ∃ x, bytesB (hexL true v 2) = x := ⟨_, rfl⟩
  obtain ⟨D, hD⟩ : ∃ x, bytesB (decL (code / 32)) = x := ⟨_, rfl⟩
  have HE := Lib.hid (show (B ++ (⟨#[46]⟩ : ByteArray)) ++ D = bytesB (opL 98 code next v) by
    rw [← hB, ← hD]
    simp only [mkB, bytesB_append, List.append_assoc]
    rfl)
  rw [hB] at H z
  rw [hD] at T zd
  clear hB hD
  go_enter Tryz.func16, Tryz.ntmps16
  go_wp2_with (first | (go_at_call 21; refine H.out.mono ?_; rintro e w1 ⟨rfl, rfl⟩) | (go_at_call 31; refine T.out.mono ?_; rintro e w1 ⟨rfl, rfl⟩))
  go_ret
  exact ⟨by rw [← HE.out]; rfl, Below.refl _ _⟩
set_option maxRecDepth 100000 in
set_option maxHeartbeats 1000000 in
theorem operand_97 (code next v : Nat) (hcode : code < 256) (hnext : next < 65536) (hv : v < 65536) (w : World) :
    Calls Tryz.prog 16 #[.int .u8 97, .int .i64 v, .int .u8 code, .int .u16 next] w fun e w' => e = .returned (.string (bytesB (opL 97 code next v))) ∧ Below w.heap.size w w' := by
  have H := Lib.hid (refHex_walk v 4 (by omega) (by omega) w)
  have z := hexL_size true v 4
  obtain ⟨B, hB⟩ : ∃ x, bytesB (hexL true v 4) = x := ⟨_, rfl⟩
  have HE := Lib.hid (show (⟨#[33]⟩ : ByteArray) ++ B = bytesB (opL 97 code next v) by
    rw [← hB]
    first | rfl | (simp only [mkB, bytesB_append]; rfl))
  rw [hB] at H z
  clear hB
  go_enter Tryz.func16, Tryz.ntmps16
  go_wp2_with (go_at_call 21; refine H.out.mono ?_; rintro e w1 ⟨rfl, rfl⟩)
  go_ret
  exact ⟨by rw [← HE.out]; rfl, Below.refl _ _⟩
set_option maxRecDepth 100000 in
set_option maxHeartbeats 1000000 in
theorem operand_112 (code next v : Nat) (hcode : code < 256) (hnext : next < 65536) (hv : v < 65536) (w : World) :
    Calls Tryz.prog 16 #[.int .u8 112, .int .i64 v, .int .u8 code, .int .u16 next] w fun e w' => e = .returned (.string (bytesB (opL 112 code next v))) ∧ Below w.heap.size w w' := by
  have H := Lib.hid (refHex_walk v 4 (by omega) (by omega) w)
  have z := hexL_size true v 4
  obtain ⟨B, hB⟩ : ∃ x, bytesB (hexL true v 4) = x := ⟨_, rfl⟩
  have HE := Lib.hid (show ((⟨#[33]⟩ : ByteArray) ++ B) ++ (⟨#[43, 88]⟩ : ByteArray) = bytesB (opL 112 code next v) by
    rw [← hB]
    first | rfl | (simp only [mkB, bytesB_append]; rfl))
  rw [hB] at H z
  clear hB
  go_enter Tryz.func16, Tryz.ntmps16
  go_wp2_with (go_at_call 21; refine H.out.mono ?_; rintro e w1 ⟨rfl, rfl⟩)
  go_ret
  exact ⟨by rw [← HE.out]; rfl, Below.refl _ _⟩
set_option maxRecDepth 100000 in
set_option maxHeartbeats 1000000 in
theorem operand_113 (code next v : Nat) (hcode : code < 256) (hnext : next < 65536) (hv : v < 65536) (w : World) :
    Calls Tryz.prog 16 #[.int .u8 113, .int .i64 v, .int .u8 code, .int .u16 next] w fun e w' => e = .returned (.string (bytesB (opL 113 code next v))) ∧ Below w.heap.size w w' := by
  have H := Lib.hid (refHex_walk v 4 (by omega) (by omega) w)
  have z := hexL_size true v 4
  obtain ⟨B, hB⟩ : ∃ x, bytesB (hexL true v 4) = x := ⟨_, rfl⟩
  have HE := Lib.hid (show ((⟨#[33]⟩ : ByteArray) ++ B) ++ (⟨#[43, 89]⟩ : ByteArray) = bytesB (opL 113 code next v) by
    rw [← hB]
    first | rfl | (simp only [mkB, bytesB_append]; rfl))
  rw [hB] at H z
  clear hB
  go_enter Tryz.func16, Tryz.ntmps16
  go_wp2_with (go_at_call 21; refine H.out.mono ?_; rintro e w1 ⟨rfl, rfl⟩)
  go_ret
  exact ⟨by rw [← HE.out]; rfl, Below.refl _ _⟩
set_option maxRecDepth 100000 in
set_option maxHeartbeats 1000000 in
theorem operand_42 (code next v : Nat) (hcode : code < 256) (hnext : next < 65536) (hv : v < 65536) (w : World) :
    Calls Tryz.prog 16 #[.int .u8 42, .int .i64 v, .int .u8 code, .int .u16 next] w fun e w' => e = .returned (.string (bytesB (opL 42 code next v))) ∧ Below w.heap.size w w' := by
  have H := Lib.hid (refHex_walk v 4 (by omega) (by omega) w)
  have z := hexL_size true v 4
  obtain ⟨B, hB⟩ : ∃ x, bytesB (hexL true v 4) = x := ⟨_, rfl⟩
  have HE := Lib.hid (show ((⟨#[91, 33]⟩ : ByteArray) ++ B) ++ (⟨#[43, 88, 93]⟩ : ByteArray) = bytesB (opL 42 code next v) by
    rw [← hB]
    first | rfl | (simp only [mkB, bytesB_append]; rfl))
  rw [hB] at H z
  clear hB
  go_enter Tryz.func16, Tryz.ntmps16
  go_wp2_with (go_at_call 21; refine H.out.mono ?_; rintro e w1 ⟨rfl, rfl⟩)
  go_ret
  exact ⟨by rw [← HE.out]; rfl, Below.refl _ _⟩
set_option maxRecDepth 100000 in
set_option maxHeartbeats 1000000 in
theorem operand_110 (code next v : Nat) (hcode : code < 256) (hnext : next < 65536) (hv : v < 65536) (w : World) :
    Calls Tryz.prog 16 #[.int .u8 110, .int .i64 v, .int .u8 code, .int .u16 next] w fun e w' => e = .returned (.string (bytesB (opL 110 code next v))) ∧ Below w.heap.size w w' := by
  have H := Lib.hid (refHex_walk (v % 8192) 4 (by omega) (by omega) w)
  have T := Lib.hid (tens_walk (v / 8192) (by omega) w)
  have z := hexL_size true (v % 8192) 4
  have zd : (bytesB (decL (v / 8192))).size ≤ 2 := by rw [bytesB_size]; unfold decL; split <;> simp [hexL_length]
  have i1 : (code : Int).tdiv 32 = ((code / 32 : Nat) : Int) := by rw [Int.tdiv_eq_ediv_of_nonneg (by omega)]; omega
  have i3 : (v : Int).tdiv 8192 = ((v / 8192 : Nat) : Int) := by rw [Int.tdiv_eq_ediv_of_nonneg (by omega)]; omega
  have i4 : (v : Int).tmod 8192 = ((v % 8192 : Nat) : Int) := by rw [Int.tmod_eq_emod_of_nonneg (by omega)]; omega
  obtain ⟨B, hB⟩ : ∃ x, bytesB (hexL true (v % 8192) 4) = x := ⟨_, rfl⟩
  obtain ⟨D, hD⟩ : ∃ x, bytesB (decL (v / 8192)) = x := ⟨_, rfl⟩
  have HE := Lib.hid (show (B ++ (⟨#[46]⟩ : ByteArray)) ++ D = bytesB (opL 110 code next v) by
    rw [← hB, ← hD]
    simp only [mkB, bytesB_append, List.append_assoc]
    rfl)
  rw [hB] at H z
  rw [hD] at T zd
  clear hB hD
  go_enter Tryz.func16, Tryz.ntmps16
  go_wp2_with (first | (go_at_call 21; refine H.out.mono ?_; rintro e w1 ⟨rfl, rfl⟩) | (go_at_call 31; refine T.out.mono ?_; rintro e w1 ⟨rfl, rfl⟩))
  go_ret
  exact ⟨by rw [← HE.out]; rfl, Below.refl _ _⟩
set_option maxRecDepth 100000 in
set_option maxHeartbeats 1000000 in
theorem operand_47 (code next v : Nat) (hcode : code < 256) (hnext : next < 65536) (hv : v < 65536) (w : World) :
    Calls Tryz.prog 16 #[.int .u8 47, .int .i64 v, .int .u8 code, .int .u16 next] w fun e w' => e = .returned (.string (bytesB (opL 47 code next v))) ∧ Below w.heap.size w w' := by
  have H := Lib.hid (refHex_walk (v % 8192) 4 (by omega) (by omega) w)
  have T := Lib.hid (tens_walk (v / 8192) (by omega) w)
  have z := hexL_size true (v % 8192) 4
  have zd : (bytesB (decL (v / 8192))).size ≤ 2 := by rw [bytesB_size]; unfold decL; split <;> simp [hexL_length]
  have i1 : (code : Int).tdiv 32 = ((code / 32 : Nat) : Int) := by rw [Int.tdiv_eq_ediv_of_nonneg (by omega)]; omega
  have i3 : (v : Int).tdiv 8192 = ((v / 8192 : Nat) : Int) := by rw [Int.tdiv_eq_ediv_of_nonneg (by omega)]; omega
  have i4 : (v : Int).tmod 8192 = ((v % 8192 : Nat) : Int) := by rw [Int.tmod_eq_emod_of_nonneg (by omega)]; omega
  obtain ⟨B, hB⟩ : ∃ x, bytesB (hexL true (v % 8192) 4) = x := ⟨_, rfl⟩
  obtain ⟨D, hD⟩ : ∃ x, bytesB (decL (v / 8192)) = x := ⟨_, rfl⟩
  have HE := Lib.hid (show (((⟨#[47]⟩ : ByteArray) ++ B) ++ (⟨#[46]⟩ : ByteArray)) ++ D = bytesB (opL 47 code next v) by
    rw [← hB, ← hD]
    simp only [mkB, bytesB_append, List.append_assoc]
    rfl)
  rw [hB] at H z
  rw [hD] at T zd
  clear hB hD
  go_enter Tryz.func16, Tryz.ntmps16
  go_wp2_with (first | (go_at_call 21; refine H.out.mono ?_; rintro e w1 ⟨rfl, rfl⟩) | (go_at_call 31; refine T.out.mono ?_; rintro e w1 ⟨rfl, rfl⟩))
  go_ret
  exact ⟨by rw [← HE.out]; rfl, Below.refl _ _⟩
set_option maxRecDepth 100000 in
set_option maxHeartbeats 1000000 in
theorem operand_116 (code next v : Nat) (hcode : code < 256) (hnext : next < 65536) (hv : v < 65536) (w : World) :
    Calls Tryz.prog 16 #[.int .u8 116, .int .i64 v, .int .u8 code, .int .u16 next] w fun e w' => e = .returned (.string (bytesB (opL 116 code next v))) ∧ Below w.heap.size w w' := by
  have H := Lib.hid (tens_walk (code / 16) (by omega) w)
  have i2 : (code : Int).tdiv 16 = ((code / 16 : Nat) : Int) := by rw [Int.tdiv_eq_ediv_of_nonneg (by omega)]; omega
  go_enter Tryz.func16, Tryz.ntmps16
  go_wp2_with (go_at_call 31; refine H.out.mono ?_; rintro e w1 ⟨rfl, rfl⟩)
  go_ret
  exact ⟨rfl, Below.refl _ _⟩
set_option maxRecDepth 100000 in
set_option maxHeartbeats 1000000 in
theorem operand_114 (code next v : Nat) (hcode : code < 256) (hnext : next < 65536) (hv : v < 65536) (h8 : v < 256) (w : World) :
    Calls Tryz.prog 16 #[.int .u8 114, .int .i64 v, .int .u8 code, .int .u16 next] w fun e w' => e = .returned (.string (bytesB (opL 114 code next v))) ∧ Below w.heap.size w w' := by
  have H := Lib.hid (refHex_walk ((next + (if 127 < v then v + 65280 else v)) % 65536) 4 (by omega) (by omega) w)
  by_cases h : 127 < v
  · rw [if_pos h] at H
    have b1 : (127 : Int) < (v : Int) := by omega
    have i1 : IntKind.i64.wrap ((v : Int) - 256) = (v : Int) - 256 := IntWalk.i64_in _ (by omega)
    have i2 : IntKind.i64.wrap ((next : Int) + ((v : Int) - 256)) = (next : Int) + ((v : Int) - 256) := IntWalk.i64_in _ (by omega)
    have i3 : IntKind.i64.wrap ((next : Int) + ((v : Int) - 256) + 65536) = ((next + (v + 65280) : Nat) : Int) := by rw [IntWalk.i64_in _ (by omega)]; omega
    have i4 : ((next + (v + 65280) : Nat) : Int).tmod 65536 = (((next + (v + 65280)) % 65536 : Nat) : Int) := by rw [Int.tmod_eq_emod_of_nonneg (by omega)]; omega
    have HE := Lib.hid (show bytesB (hexL true ((next + (v + 65280)) % 65536) 4) = bytesB (opL 114 code next v) by
      rw [show opL 114 code next v = relL next v from rfl, relL, if_pos h])
    obtain ⟨y, hy⟩ : ∃ y, next + (v + 65280) = y := ⟨_, rfl⟩
    rw [hy] at H i3 i4 HE
    obtain ⟨z, hz⟩ : ∃ z, y % 65536 = z := ⟨_, rfl⟩
    rw [hz] at H i4 HE
    clear hy hz
    go_enter Tryz.func16, Tryz.ntmps16
    go_wp2_with (go_at_call 21; refine H.out.mono ?_; rintro e w1 ⟨rfl, rfl⟩)
    go_ret
    exact ⟨by rw [← HE.out]; rfl, Below.refl _ _⟩
  · rw [if_neg h] at H
    have b1 : ¬ (127 : Int) < (v : Int) := by omega
    have i2 : IntKind.i64.wrap ((next : Int) + (v : Int)) = (next : Int) + (v : Int) := IntWalk.i64_in _ (by omega)
    have i3 : IntKind.i64.wrap ((next : Int) + (v : Int) + 65536) = ((next + v + 65536 : Nat) : Int) := by rw [IntWalk.i64_in _ (by omega)]; omega
    have i4 : ((next + v + 65536 : Nat) : Int).tmod 65536 = (((next + v) % 65536 : Nat) : Int) := by rw [Int.tmod_eq_emod_of_nonneg (by omega)]; omega
    have HE := Lib.hid (show bytesB (hexL true ((next + v) % 65536) 4) = bytesB (opL 114 code next v) by
      rw [show opL 114 code next v = relL next v from rfl, relL, if_neg h])
    obtain ⟨y, hy⟩ : ∃ y, next + v + 65536 = y := ⟨_, rfl⟩
    rw [hy] at i3 i4
    obtain ⟨z, hz⟩ : ∃ z, (next + v) % 65536 = z := ⟨_, rfl⟩
    rw [hz] at H i4 HE
    clear hy hz
    go_enter Tryz.func16, Tryz.ntmps16
    go_wp2_with (go_at_call 21; refine H.out.mono ?_; rintro e w1 ⟨rfl, rfl⟩)
    go_ret
    exact ⟨by rw [← HE.out]; rfl, Below.refl _ _⟩
theorem operand_walk (c code next v : Nat) (hc : c ∈ ltrs) (hcode : code < 256) (hnext : next < 65536) (hv : v < 65536) (h8 : c = 114 → v < 256) (w : World) :
    Calls Tryz.prog 16 #[.int .u8 c, .int .i64 v, .int .u8 code, .int .u16 next] w fun e w' => e = .returned (.string (bytesB (opL c code next v))) ∧ Below w.heap.size w w' := by
  simp only [ltrs, List.mem_cons, List.not_mem_nil, or_false] at hc
  rcases hc with rfl | rfl | rfl | rfl | rfl | rfl | rfl | rfl | rfl | rfl | rfl | rfl | rfl | rfl | rfl | rfl | rfl | rfl | rfl | rfl | rfl | rfl | rfl | rfl | rfl | rfl | rfl
  · exact operand_65 code next v hcode hnext hv w
  · exact operand_88 code next v hcode hnext hv w
  · exact operand_89 code next v hcode hnext hv w
  · exact operand_83 code next v hcode hnext hv w
  · exact operand_80 code next v hcode hnext hv w
  · exact operand_87 code next v hcode hnext hv w
  · exact operand_67 code next v hcode hnext hv w
  · exact operand_105 code next v hcode hnext hv w
  · exact operand_106 code next v hcode hnext hv w
  · exact operand_43 code next v hcode hnext hv w
  · exact operand_35 code next v hcode hnext hv w
  · exact operand_100 code next v hcode hnext hv w
  · exact operand_68 code next v hcode hnext hv w
  · exact operand_120 code next v hcode hnext hv w
  · exact operand_121 code next v hcode hnext hv w
  · exact operand_108 code next v hcode hnext hv w
  · exact operand_109 code next v hcode hnext hv w
  · exact operand_117 code next v hcode hnext hv w
  · exact operand_98 code next v hcode hnext hv w
  · exact operand_97 code next v hcode hnext hv w
  · exact operand_112 code next v hcode hnext hv w
  · exact operand_113 code next v hcode hnext hv w
  · exact operand_42 code next v hcode hnext hv w
  · exact operand_110 code next v hcode hnext hv w
  · exact operand_47 code next v hcode hnext hv w
  · exact operand_114 code next v hcode hnext hv (h8 rfl) w
  · exact operand_116 code next v hcode hnext hv w
end Go.Proofs.YteabjninmaceaaaGreatDoor
