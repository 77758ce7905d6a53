/- strconv.ParseUint of digits to the base 16, of 32 bits; for every text of such digits. -/
import Derived.Test.YtpeieilbjadcfaaGreatDoorProg
import Derived.Test.YtpeieilbjadcfaaGreatDoorCodesParse
import Derived.Laws.Strings3
import Derived.Laws.Closers25
import Derived.Laws.Closers25b
import Derived.Lib.Strings
import Derived.Lib.Walk
import Derived.BigGuard
namespace Go.Proofs.YtpeieilbjadcfaaGreatDoor
open Go.RowKit Go.Shelf
set_option linter.unusedVariables false
set_option linter.unusedSimpArgs false

theorem low32 : ∀ c : Fin 256, 97 ≤ (c : Nat) → (c : Nat) ≤ 102 → bits .or .u8 ((c : Nat) : Int) 32 = ((c : Nat) : Int) := by decide +kernel
set_option maxHeartbeats 1000000 in
theorem lower_walk (c : Nat) (h0 : 97 ≤ c) (h1 : c ≤ 102) (w : World) :
    Calls Tryz.prog 94 #[.int .u8 c] w fun e w' => e = .returned (.int .u8 c) ∧ w' = w := by
  have hb := low32 ⟨c, by omega⟩ h0 h1
  dsimp only at hb
  have HB := Lib.hid (show True from trivial)
  go_enter Tryz.func94, Tryz.ntmps94
  go_wp2_with fail
  go_returns
  exact ⟨rfl, rfl⟩
/-- What is answered of digits. -/
def uintV (l : List UInt8) : Value := if hexNum 0 l ≤ 4294967295 then .tuple #[.int .u64 (hexNum 0 l : Nat), .nilIface] else .tuple #[.int .u64 4294967295, .iface 117 (.int .i64 1)]
theorem isHex_kinds (c : UInt8) (h : isHex c = true) : (48 ≤ c.toNat ∧ c.toNat ≤ 57 ∧ hexVal c = c.toNat - 48) ∨ (97 ≤ c.toNat ∧ c.toNat ≤ 102 ∧ hexVal c = c.toNat - 87) := by
  have h2 : ∀ k : Fin 256, isHex (UInt8.ofNat k) = true → (48 ≤ (UInt8.ofNat k).toNat ∧ (UInt8.ofNat k).toNat ≤ 57 ∧ hexVal (UInt8.ofNat k) = (UInt8.ofNat k).toNat - 48) ∨ (97 ≤ (UInt8.ofNat k).toNat ∧ (UInt8.ofNat k).toNat ≤ 102 ∧ hexVal (UInt8.ofNat k) = (UInt8.ofNat k).toNat - 87) := by decide +kernel
  have := h2 ⟨c.toNat, c.toNat_lt⟩
  simp only [UInt8.ofNat_toNat] at this
  exact this h
set_option maxHeartbeats 8000000 in
set_option maxRecDepth 100000 in
theorem uint_inner (t : ByteArray) (hne : t.size ≠ 0) (hmax : t.size ≤ 140737488355328) (hhex : ∀ c ∈ t.data.toList, isHex c = true) (w : World) :
    Calls Tryz.prog 75 #[.string t, .int .i64 16, .int .i64 32] w fun e w' => e = .returned (uintV t.data.toList) ∧ w' = Lib.bytesWorld w 5 t := by
  have hemp : t.toList.isEmpty = false := by
    rw [← decide_eq_emptyBytes]
    exact decide_eq_false (fun h => hne (by rw [h]; rfl))
  have hcv := Lib.run_convert_string_bytes (P := Tryz.prog) w 9 23 5 t (u := .string) Tryz.underlying9 Tryz.underlying23 Tryz.underlying5
  have HB := Lib.hid (show ∀ j, j < t.size → (Lib.bytesWorld w 5 t).cell? ⟨w.heap.size, j, none⟩ = some (.int .u8 (t.data.toList.getD j 0).toNat) from fun j hj => Lib.bytesWorld_cell w 5 t j hj)
  obtain ⟨W1, hW1⟩ : ∃ W1, W1 = Lib.bytesWorld w 5 t := ⟨_, rfl⟩
  rw [← hW1] at hcv HB ⊢
  clear hW1
  obtain ⟨bs, hL⟩ : ∃ bs, bs = t.data.toList := ⟨_, rfl⟩
  have hLn : bs.length = t.size := by rw [hL, Lib.size_eq]
  rw [← hL] at HB hhex ⊢
  have HH := Lib.hid hhex
  have HLN := Lib.hid hLn
  clear hL hhex hLn
  have hmv : IntKind.u64.wrap (IntKind.u64.wrap 4294967296 - 1) = 4294967295 := by
    rw [IntKind.wrap_u64, IntKind.wrap_u64]
    decide
  go_enter Tryz.func75, Tryz.ntmps75
  go_wp2
  go_loopw [12, 13, 101] (fun vu vn vi wr => ∃ (k acc : Nat), vu = .bool false ∧ vn = .int .u64 (acc : Nat) ∧ vi = .int .i64 k ∧ wr = W1 ∧ k ≤ t.size ∧ Hid (acc ≤ 4294967295 ∧ hexNum 0 bs = hexNum acc (bs.drop k)))
    (fun _ _ vi _ => t.size - (intOf vi).toNat)
  case atStart => exact ⟨0, 0, rfl, rfl, rfl, rfl, by omega, Lib.hid ⟨by omega, rfl⟩⟩
  case round =>
    obtain ⟨k, acc, rfl, rfl, rfl, rfl, hk, hh⟩ := hrel
    by_cases hkn : k < t.size
    · have hc := HB.out k hkn
      have hlen := HLN.out
      have hdrop : bs.drop k = bs[k]'(by omega) :: bs.drop (k + 1) := List.drop_eq_getElem_cons (by omega)
      have hget : bs.getD k 0 = bs[k]'(by omega) := by simp [List.getD, List.getElem?_eq_getElem (show k < bs.length by omega)]
      have hx := HH.out (bs[k]'(by omega)) (List.getElem_mem _)
      have hdec := hh.out.2
      have hacc := hh.out.1
      rw [hdrop, hexNum_cons] at hdec
      rw [hget] at hc
      generalize bs[k]'(by omega) = c at hc hdec hx
      have hkd := isHex_kinds c hx
      obtain ⟨d, hd⟩ : ∃ d, hexVal c = d := ⟨_, rfl⟩
      rw [hd] at hdec hkd
      obtain ⟨x, hxn⟩ : ∃ x, c.toNat = x := ⟨_, rfl⟩
      rw [hxn] at hc hkd
      clear hdrop hget hlen hx hd hxn
      have i1 : (k : Int) < (t.size : Int) := by omega
      have i3 : IntKind.i64.wrap ((k : Int) + 1) = ((k + 1 : Nat) : Int) := by rw [IntWalk.i64_in _ (by omega)]; rfl
      obtain ⟨m1, hm1⟩ : ∃ m1, 16 * acc = m1 := ⟨_, rfl⟩
      obtain ⟨m2, hm2⟩ : ∃ m2, m1 + d = m2 := ⟨_, rfl⟩
      rw [hm1, hm2] at hdec
      have hdl : d < 16 := by omega
      have q0 : decide ((1152921504606846976 : Int) ≤ (acc : Int)) = false := decide_eq_false (by omega)
      have q1 : IntKind.u64.wrap ((acc : Int) * 16) = (m1 : Int) := by rw [IntKind.wrap_u64]; omega
      have q2 : IntKind.u64.wrap ((m1 : Int) + (d : Int)) = (m2 : Int) := by rw [IntKind.wrap_u64]; omega
      have q3 : m1 ≤ m2 := by omega
      have q4 : decide ((16 : Int) ≤ (d : Int)) = false := decide_eq_false (by omega)
      have i2 : (0 : Int) ≤ (k : Int) := by omega
      have q7 : IntKind.u64.wrap (d : Int) = (d : Int) := by rw [IntKind.wrap_u64]; omega
      have u0 : ((x : Int) == 95) = false := by rw [beq_eq_false_iff_ne]; omega
      by_cases hov : 4294967295 < m2
      · have HE := Lib.hid (show uintV bs = .tuple #[.int .u64 4294967295, .iface 117 (.int .i64 1)] by
          unfold uintV
          rw [hdec, if_neg (by have := hexNum_ge m2 (bs.drop (k + 1)); omega)])
        have q8 : decide ((4294967295 : Int) < (m2 : Int)) = true := decide_eq_true (by omega)
        clear hdec hh hacc hov hm1 hm2 hdl
        rcases hkd with ⟨x0, x1, hd⟩ | ⟨x0, x1, hd⟩
        · have p0 : decide ((48 : Int) ≤ (x : Int)) = true := decide_eq_true (by omega)
          have p1 : decide ((x : Int) ≤ 57) = true := decide_eq_true (by omega)
          have q5 : IntKind.u8.wrap ((x : Int) - 48) = (d : Int) := by rw [IntKind.wrap_u8]; omega
          clear hd x0 x1
          go_wp2_with fail
          go_returns
          exact ⟨by rw [HE.out]; rfl, rfl⟩
        · have p1 : decide ((x : Int) ≤ 57) = false := decide_eq_false (by omega)
          have p2 : decide ((97 : Int) ≤ (x : Int)) = true := decide_eq_true (by omega)
          have p3 : decide ((x : Int) ≤ 122) = true := decide_eq_true (by omega)
          have p4 : decide ((48 : Int) ≤ (x : Int)) = true := decide_eq_true (by omega)
          have HLO := Lib.hid (fun W => lower_walk x x0 x1 W)
          obtain ⟨y, hy⟩ : ∃ y : Nat, x - 97 = y := ⟨_, rfl⟩
          have q5 : IntKind.u8.wrap ((x : Int) - 97) = (y : Int) := by rw [IntKind.wrap_u8]; omega
          have q6 : IntKind.u8.wrap ((y : Int) + 10) = (d : Int) := by rw [IntKind.wrap_u8]; omega
          clear hd x0 x1 hy
          go_wp2_with (go_at_call 94; refine (HLO.out _).mono ?_; rintro e w2 ⟨rfl, rfl⟩)
          go_returns
          exact ⟨by rw [HE.out]; rfl, rfl⟩
      · have HN := Lib.hid (show m2 ≤ 4294967295 ∧ hexNum 0 bs = hexNum m2 (bs.drop (k + 1)) from ⟨by omega, hdec⟩)
        have q8 : decide ((4294967295 : Int) < (m2 : Int)) = false := decide_eq_false (by omega)
        clear hdec hh hacc hov hm1 hm2 hdl
        rcases hkd with ⟨x0, x1, hd⟩ | ⟨x0, x1, hd⟩
        · have p0 : decide ((48 : Int) ≤ (x : Int)) = true := decide_eq_true (by omega)
          have p1 : decide ((x : Int) ≤ 57) = true := decide_eq_true (by omega)
          have q5 : IntKind.u8.wrap ((x : Int) - 48) = (d : Int) := by rw [IntKind.wrap_u8]; omega
          clear hd x0 x1
          go_wp2_with fail
          go_roundw
          case rel => exact ⟨k + 1, _, rfl, rfl, rfl, trivial, by omega, HN⟩
          case measure => simp [intOf]; omega
        · have p1 : decide ((x : Int) ≤ 57) = false := decide_eq_false (by omega)
          have p2 : decide ((97 : Int) ≤ (x : Int)) = true := decide_eq_true (by omega)
          have p3 : decide ((x : Int) ≤ 122) = true := decide_eq_true (by omega)
          have p4 : decide ((48 : Int) ≤ (x : Int)) = true := decide_eq_true (by omega)
          have HLO := Lib.hid (fun W => lower_walk x x0 x1 W)
          obtain ⟨y, hy⟩ : ∃ y : Nat, x - 97 = y := ⟨_, rfl⟩
          have q5 : IntKind.u8.wrap ((x : Int) - 97) = (y : Int) := by rw [IntKind.wrap_u8]; omega
          have q6 : IntKind.u8.wrap ((y : Int) + 10) = (d : Int) := by rw [IntKind.wrap_u8]; omega
          clear hd x0 x1 hy
          go_wp2_with (go_at_call 94; refine (HLO.out _).mono ?_; rintro e w2 ⟨rfl, rfl⟩)
          go_roundw
          case rel => exact ⟨k + 1, _, rfl, rfl, rfl, trivial, by omega, HN⟩
          case measure => simp [intOf]; omega
    · have hacc := hh.out.1
      have HE := Lib.hid (show uintV bs = .tuple #[.int .u64 (acc : Nat), .nilIface] by
        have hdec := hh.out.2
        rw [List.drop_eq_nil_of_le (by have := HLN.out; omega), hexNum_nil] at hdec
        unfold uintV
        rw [hdec, if_pos hacc])
      have i1 : ¬ (k : Int) < (t.size : Int) := by omega
      clear hacc hh
      go_wp2_with fail
      go_returns
      exact ⟨by rw [HE.out]; rfl, rfl⟩
end Go.Proofs.YtpeieilbjadcfaaGreatDoor
