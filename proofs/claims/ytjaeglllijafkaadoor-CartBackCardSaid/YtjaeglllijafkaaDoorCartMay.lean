/- What may not be made: the seven tests, and the row of functions that holds them. -/
import Derived.Test.YtjaeglllijafkaaDoorProg
import Derived.Test.YtjaeglllijafkaaDoorKit
import Derived.Test.YtjaeglllijafkaaDoorCopy
import Derived.Test.YtjaeglllijafkaaDoorLib
import Derived.Test.YtjaeglllijafkaaDoorCartLeaf
import Derived.Test.YtjaeglllijafkaaDoorCartTab
import Derived.Laws.EntriesVeiled
namespace Go.Proofs.YtjaeglllijafkaaDoor
open Go.RowKit
set_option linter.unusedVariables false
set_option linter.unusedSimpArgs false

/-- A cartridge's box. -/
structure CartAt (W : World) (P : Nat) (l ch : Int) (rv : Value) (ram : Int) (ti : ByteArray) (rs : Int) (fa : Bool) (sg : Value) : Prop where
  c0 : W.cell? ⟨P, 0, none⟩ = some (.int .u8 l)
  c1 : W.cell? ⟨P, 1, none⟩ = some (.int .u8 ch)
  c2 : W.cell? ⟨P, 2, none⟩ = some rv
  c3 : W.cell? ⟨P, 3, none⟩ = some (.int .i64 ram)
  c4 : W.cell? ⟨P, 4, none⟩ = some (.string ti)
  c5 : W.cell? ⟨P, 5, none⟩ = some (.int .u16 rs)
  c6 : W.cell? ⟨P, 6, none⟩ = some (.bool fa)
  c7 : W.cell? ⟨P, 7, none⟩ = some sg
theorem CartAt.keep {W W' : World} {P B : Nat} {l ch : Int} {rv : Value} {ram : Int} {ti : ByteArray} {rs : Int} {fa : Bool} {sg : Value} (h : CartAt W P l ch rv ram ti rs fa sg) (hb : Below B W W') (hp : P < B) : CartAt W' P l ch rv ram ti rs fa sg :=
  ⟨(hb.cell hp).trans h.c0, (hb.cell hp).trans h.c1, (hb.cell hp).trans h.c2, (hb.cell hp).trans h.c3, (hb.cell hp).trans h.c4, (hb.cell hp).trans h.c5, (hb.cell hp).trans h.c6, (hb.cell hp).trans h.c7⟩

def badLen (n : Nat) : Bool := decide (n < 32768 ∨ 8388608 < n ∨ n % 1024 ≠ 0)
def badName (ti : ByteArray) : Bool := decide (21 < ti.size) || !(plainB ti) || Lib.hasSuffix ti.data.toList [32]

theorem may1 (I : Nat) (b : Bool) (w : World) (h : w.cell? ⟨I, 0, none⟩ = some (.bool b)) : Calls Tryd.prog 42 #[.pointer (some ⟨I, 0, none⟩)] w fun e w' => e = .returned (.bool (!b)) ∧ w' = w := by
  go_enter Tryd.func42, Tryd.ntmps42
  go_wp2_with fail
  all_goals
    go_returns
    exact ⟨by simp_all, rfl⟩
section
variable {w : World} {P : Nat} {l ch : Int} {ram : Int} {ti : ByteArray} {rs : Int} {fa : Bool} {sg : Value} {ra : Option Addr} {n rc : Nat}
theorem may2 (h : CartAt w P l ch (.slice ra n rc) ram ti rs fa sg) : Calls Tryd.prog 43 #[.pointer (some ⟨P, 0, none⟩)] w fun e w' => e = .returned (.bool (decide (2 < ch))) ∧ w' = w := by
  have c := h.c1
  go_enter Tryd.func43, Tryd.ntmps43
  go_wp2_with fail
  go_returns
  exact ⟨rfl, rfl⟩
theorem may3 (h : CartAt w P l ch (.slice ra n rc) ram ti rs fa sg) : Calls Tryd.prog 44 #[.pointer (some ⟨P, 0, none⟩)] w fun e w' => e = .returned (.bool (decide (sizeR ram = 255))) ∧ w' = w := by
  have c := h.c3
  go_enter Tryd.func44, Tryd.ntmps44
  go_wp2_with (go_at_call 35; refine (ramSize_walk _ _).mono ?_; rintro e w1 ⟨rfl, rfl⟩)
  all_goals
    go_returns
    exact ⟨by simp_all, rfl⟩
theorem may4 (h : CartAt w P l ch (.slice ra n rc) ram ti rs fa sg) : Calls Tryd.prog 45 #[.pointer (some ⟨P, 0, none⟩)] w fun e w' => e = .returned (.bool (badLen n)) ∧ w' = w := by
  have c := h.c2
  by_cases a1 : n < 32768
  · have e : Hid (badLen n = true) := Lib.hid (decide_eq_true (.inl a1))
    have i1 : (n : Int) < 32768 := by omega
    go_enter Tryd.func45, Tryd.ntmps45
    go_wp2_with fail
    go_returns
    exact ⟨by rw [e.out]; first | rfl | simp, rfl⟩
  by_cases a2 : 8388608 < n
  · have e : Hid (badLen n = true) := Lib.hid (decide_eq_true (.inr (.inl a2)))
    have i1 : ¬ (n : Int) < 32768 := by omega
    have i2 : 8388608 < (n : Int) := by omega
    go_enter Tryd.func45, Tryd.ntmps45
    go_wp2_with fail
    go_returns
    exact ⟨by rw [e.out]; first | rfl | simp, rfl⟩
  by_cases a3 : n % 1024 = 0
  · have e : Hid (badLen n = false) := Lib.hid (decide_eq_false (by omega))
    have i1 : ¬ (n : Int) < 32768 := by omega
    have i2 : ¬ 8388608 < (n : Int) := by omega
    have i3 : ((n : Int) % 1024 != 0) = false := by simp; omega
    go_enter Tryd.func45, Tryd.ntmps45
    go_wp2_with fail
    go_returns
    exact ⟨by rw [e.out]; first | rfl | simp, rfl⟩
  · have e : Hid (badLen n = true) := Lib.hid (decide_eq_true (.inr (.inr a3)))
    have i1 : ¬ (n : Int) < 32768 := by omega
    have i2 : ¬ 8388608 < (n : Int) := by omega
    have i3 : ((n : Int) % 1024 != 0) = true := by simp; omega
    go_enter Tryd.func45, Tryd.ntmps45
    go_wp2_with fail
    go_returns
    exact ⟨by rw [e.out]; first | rfl | simp, rfl⟩
theorem may5 (T : Nat) (p : Int) (p0 : 0 ≤ p) (p1 : p ≤ 4259776) (h : CartAt w P l ch (.slice ra n rc) ram ti rs fa sg) (ht : w.cell? ⟨T, 0, none⟩ = some (.int .i64 p)) : Calls Tryd.prog 46 #[.pointer (some ⟨P, 0, none⟩), .pointer (some ⟨T, 0, none⟩)] w fun e w' => e = .returned (.bool (decide ((n : Int) < p + 64))) ∧ w' = w := by
  have c := h.c2
  go_enter Tryd.func46, Tryd.ntmps46
  go_wp2_with fail
  go_returns
  exact ⟨rfl, rfl⟩
theorem may6 (hs : ti.size ≤ 9223372036854775807) (h : CartAt w P l ch (.slice ra n rc) ram ti rs fa sg) : Calls Tryd.prog 47 #[.pointer (some ⟨P, 0, none⟩)] w fun e w' => e = .returned (.bool (badName ti)) ∧ w' = w := by
  have c := h.c4
  by_cases a1 : 21 < ti.size
  · have e := Lib.hid (show badName ti = true by unfold badName; rw [decide_eq_true a1]; rfl)
    have i1 : 21 < (ti.size : Int) := by omega
    have hp : True := trivial
    go_enter Tryd.func47, Tryd.ntmps47
    go_wp2_with (first | (go_at_call 27; refine (plain_walk _ _ hs).mono ?_; rintro e w1 ⟨rfl, rfl⟩) | (go_at_call 48; refine (strings_HasSuffix _ _ _ hs).mono ?_; rintro e w2 ⟨rfl, rfl⟩))
    go_returns
    exact ⟨by rw [e.out]; first | rfl | simp, rfl⟩
  have i1 : ¬ 21 < (ti.size : Int) := by omega
  cases hp : plainB ti
  · have e := Lib.hid (show badName ti = true by unfold badName; rw [hp]; simp)
    go_enter Tryd.func47, Tryd.ntmps47
    go_wp2_with (first | (go_at_call 27; refine (plain_walk _ _ hs).mono ?_; rintro e w1 ⟨rfl, rfl⟩; rw [hp]) | (go_at_call 48; refine (strings_HasSuffix _ _ _ hs).mono ?_; rintro e w2 ⟨rfl, rfl⟩))
    go_returns
    exact ⟨by rw [e.out]; first | rfl | simp, rfl⟩
  · have e := Lib.hid (show badName ti = Lib.hasSuffix ti.data.toList [32] by unfold badName; rw [hp, decide_eq_false a1]; simp)
    go_enter Tryd.func47, Tryd.ntmps47
    go_wp2_with (first | (go_at_call 27; refine (plain_walk _ _ hs).mono ?_; rintro e w1 ⟨rfl, rfl⟩; rw [hp]) | (go_at_call 48; refine (strings_HasSuffix _ _ _ hs).mono ?_; rintro e w2 ⟨rfl, rfl⟩))
    go_returns
    exact ⟨by rw [e.out]; first | rfl | simp, rfl⟩
theorem may7 (h : CartAt w P l ch (.slice ra n rc) ram ti rs fa sg) : Calls Tryd.prog 49 #[.pointer (some ⟨P, 0, none⟩)] w fun e w' => e = .returned (.bool (decide (rs < 32768))) ∧ w' = w := by
  have c := h.c5
  go_enter Tryd.func49, Tryd.ntmps49
  go_wp2_with fail
  go_returns
  exact ⟨rfl, rfl⟩
end
end Go.Proofs.YtjaeglllijafkaaDoor
