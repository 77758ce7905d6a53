/- How operands are written: the program's closures. -/
import Derived.Test.YteabjninmaceaaaGreatDoorProg
import Derived.Test.YteabjninmaceaaaGreatDoorNotesHex
import Derived.StillTailTactics
namespace Go.Proofs.YteabjninmaceaaaGreatDoor
open Go.RowKit
set_option linter.unusedVariables false
set_option linter.unusedSimpArgs false

theorem cell_behind {w X w1 : World} (hb : Below X.heap.size X w1) {a : Addr} {v : Value} (h : w.cell? a = some v) (hX : X.heap = w.heap) : w1.cell? a = some v := by
  have h2 : X.cell? a = some v := by unfold World.cell? at h ⊢; rw [hX]; exact h
  exact (hb.cell (World.block_lt_of_cell? X _ h2)).trans h2
theorem Laid.drew {w : World} (h : Laid w) : Laid w.drew := h
set_option maxRecDepth 100000 in
set_option maxHeartbeats 400000 in
theorem plainF_walk (s : ByteArray) (w : World) :
    Calls Tryz.prog 34 #[.string s] w fun e w' => e = .returned (.func (.func 35) #[] #[.pointer (some ⟨w.heap.size, 0, none⟩)]) ∧ w' = w.alloc (.cells #[.string s] 9) := by
  go_enter Tryz.func34, Tryz.ntmps34
  go_wp2_with fail
  go_ret
  exact ⟨rfl, rfl⟩
set_option maxRecDepth 100000 in
set_option maxHeartbeats 400000 in
theorem aroundF_walk (a b : ByteArray) (d : Int) (w : World) :
    Calls Tryz.prog 32 #[.string a, .int .i64 d, .string b] w fun e w' => e = .returned (.func (.func 33) #[] #[.pointer (some ⟨w.heap.size, 0, none⟩), .pointer (some ⟨w.heap.size + 1, 0, none⟩), .pointer (some ⟨w.heap.size + 1 + 1, 0, none⟩)]) ∧ w' = ((w.alloc (.cells #[.string a] 9)).alloc (.cells #[.int .i64 d] 3)).alloc (.cells #[.string b] 9) := by
  go_enter Tryz.func32, Tryz.ntmps32
  go_wp2_with fail
  go_ret
  exact ⟨rfl, rfl⟩
set_option maxRecDepth 100000 in
set_option maxHeartbeats 400000 in
theorem call_plain (p : Nat) (s : ByteArray) (v : Int) (w : World) (hc : w.cell? ⟨p, 0, none⟩ = some (.string s)) :
    Calls Tryz.prog 35 #[.int .i64 v, .pointer (some ⟨p, 0, none⟩)] w fun e w' => e = .returned (.string s) ∧ w' = w := by
  go_enter Tryz.func35, Tryz.ntmps35
  go_wp2_with fail
  go_ret
  exact ⟨rfl, rfl⟩
set_option maxRecDepth 100000 in
set_option maxHeartbeats 4000000 in
theorem call_around (p q r : Nat) (a b : List UInt8) (d v : Nat) (hd0 : 1 ≤ d) (hd : d ≤ 4) (ha : a.length ≤ 9) (hb : b.length ≤ 9) (hv : v < 16 ^ d) (w : World) (hL : Laid w)
    (hp : w.cell? ⟨p, 0, none⟩ = some (.string (bytesB a))) (hq : w.cell? ⟨q, 0, none⟩ = some (.int .i64 d)) (hr : w.cell? ⟨r, 0, none⟩ = some (.string (bytesB b))) :
    Calls Tryz.prog 33 #[.int .i64 v, .pointer (some ⟨p, 0, none⟩), .pointer (some ⟨q, 0, none⟩), .pointer (some ⟨r, 0, none⟩)] w fun e w' => e = .returned (.string (bytesB (a ++ hexL true v d ++ b))) ∧ Below w.heap.size w w' := by
  have hmx : Tryz.prog.follows .mixedOrders = true := by kernel_rfl
  have H := Lib.hid (fun W (hl : Laid W) => hex_walk v d hv hd0 (by omega) W hl)
  have z := hexL_size true v d
  have za : (bytesB a).size = a.length := bytesB_size a
  have zb : (bytesB b).size = b.length := bytesB_size b
  obtain ⟨D, hD⟩ : ∃ x, bytesB (hexL true v d) = x := ⟨_, rfl⟩
  have HE := Lib.hid (show (bytesB a ++ D) ++ bytesB b = bytesB (a ++ hexL true v d ++ b) by rw [← hD, bytesB_append, bytesB_append])
  rw [hD] at H z
  obtain ⟨A, hA⟩ : ∃ x, bytesB a = x := ⟨_, rfl⟩
  obtain ⟨B, hB⟩ : ∃ x, bytesB b = x := ⟨_, rfl⟩
  rw [hA] at hp za HE
  rw [hB] at hr zb HE
  have HL := Lib.hid hL
  clear hD hA hB hv hL
  go_enter Tryz.func33, Tryz.ntmps33
  go_upto_region 1 with fail
  go_region_with (go_at_call 20; refine (H.out _ HL.out.drew).mono ?_; rintro e w1 ⟨rfl, hbb⟩; have p0 := cell_behind hbb hp rfl; have p1 := cell_behind hbb hr rfl)
  all_goals
    have hbb2 : Below w.heap.size w w1 := by first | exact (Below.refl _ w).drew.trans hbb | exact hbb
    clear hbb p0 p1 hp hq hr H
    go_wp2_with fail
    go_ret
    exact ⟨by rw [← HE.out]; rfl, hbb2⟩
set_option maxRecDepth 100000 in
set_option maxHeartbeats 400000 in
theorem call_slash (v : Nat) (hv : v < 65536) (w : World) (hL : Laid w) :
    Calls Tryz.prog 38 #[.int .i64 v] w fun e w' => e = .returned (.string (bytesB (47 :: bitL v))) ∧ Below w.heap.size w w' := by
  have H := Lib.hid (bit_walk v hv w hL)
  have z : (bytesB (bitL v)).size ≤ 9 := by
    have hd : (decL (v / 8192)).length ≤ 2 := by unfold decL; split <;> simp [hexL_length]
    rw [bytesB_size, bitL, List.length_append, List.length_cons, hexL_length]; omega
  obtain ⟨B, hB⟩ : ∃ x, bytesB (bitL v) = x := ⟨_, rfl⟩
  have HE := Lib.hid (show (⟨#[47]⟩ : ByteArray) ++ B = bytesB (47 :: bitL v) by rw [← hB, show (⟨#[47]⟩ : ByteArray) = bytesB [47] from rfl, bytesB_append]; rfl)
  rw [hB] at H z
  clear hB hL
  go_enter Tryz.func38, Tryz.ntmps38
  go_wp2_with (go_at_call 37; refine H.out.mono ?_; rintro e w1 ⟨rfl, hb1⟩)
  go_ret
  exact ⟨by rw [← HE.out]; rfl, hb1⟩
set_option maxRecDepth 100000 in
set_option maxHeartbeats 400000 in
theorem call_rel (p next v : Nat) (hn : next < 65536) (hv : v < 256) (w : World) (hL : Laid w) (hp : w.cell? ⟨p, 0, none⟩ = some (.int .u16 next)) :
    Calls Tryz.prog 39 #[.int .i64 v, .pointer (some ⟨p, 0, none⟩)] w fun e w' => e = .returned (.string (bytesB (relL next v))) ∧ Below w.heap.size w w' := by
  have H := Lib.hid (hex_walk ((next + (if 127 < v then v + 65280 else v)) % 65536) 4 (by omega) (by omega) (by omega) w hL)
  have HE := Lib.hid (show hexL true ((next + (if 127 < v then v + 65280 else v)) % 65536) 4 = relL next v from rfl)
  have i1 : IntKind.u16.wrap (IntKind.i8.wrap (v : Int)) = (((if 127 < v then v + 65280 else v) : Nat) : Int) := by
    by_cases h : 127 < v
    · rw [if_pos h]; simp [IntKind.wrap, IntKind.bits, IntKind.signed]; omega
    · rw [if_neg h]; simp [IntKind.wrap, IntKind.bits, IntKind.signed]; omega
  obtain ⟨y, hy⟩ : ∃ y, (if 127 < v then v + 65280 else v) = y := ⟨_, rfl⟩
  rw [hy] at H i1 HE
  have i2 : IntKind.u16.wrap ((next : Int) + (y : Int)) = (((next + y) % 65536 : Nat) : Int) := by simp [IntKind.wrap, IntKind.bits, IntKind.signed]
  obtain ⟨z, hz⟩ : ∃ z, (next + y) % 65536 = z := ⟨_, rfl⟩
  have hzl : z < 65536 := by omega
  rw [hz] at H i2 HE
  have i3 : IntKind.i64.wrap (z : Int) = (z : Int) := IntWalk.i64_in _ (by omega)
  rw [HE.out] at H
  clear hy hz hL HE
  go_enter Tryz.func39, Tryz.ntmps39
  go_wp2_with (go_at_call 20; refine H.out.mono ?_; rintro e w1 ⟨rfl, hb1⟩)
  go_ret
  exact ⟨rfl, hb1⟩
/-- A function that writes an operand: whichever of the closures it is, it says T of v (below B). -/
def WF (W : World) (f : Value) (next B : Nat) (T : Nat → List UInt8) : Prop :=
  (∃ p s, f = .func (.func 35) #[] #[.pointer (some ⟨p, 0, none⟩)] ∧ W.cell? ⟨p, 0, none⟩ = some (.string (bytesB s)) ∧ ∀ v, T v = s) ∨
  (∃ p q r a d b, f = .func (.func 33) #[] #[.pointer (some ⟨p, 0, none⟩), .pointer (some ⟨q, 0, none⟩), .pointer (some ⟨r, 0, none⟩)] ∧ W.cell? ⟨p, 0, none⟩ = some (.string (bytesB a)) ∧ W.cell? ⟨q, 0, none⟩ = some (.int .i64 (d : Nat)) ∧ W.cell? ⟨r, 0, none⟩ = some (.string (bytesB b)) ∧ (1 ≤ d ∧ d ≤ 4 ∧ a.length ≤ 9 ∧ b.length ≤ 9) ∧ B = 16 ^ d ∧ ∀ v, T v = a ++ hexL true v d ++ b) ∨
  (f = .func (.func 37) #[] #[] ∧ B = 65536 ∧ ∀ v, T v = bitL v) ∨
  (f = .func (.func 38) #[] #[] ∧ B = 65536 ∧ ∀ v, T v = 47 :: bitL v) ∨
  (∃ p, f = .func (.func 39) #[] #[.pointer (some ⟨p, 0, none⟩)] ∧ W.cell? ⟨p, 0, none⟩ = some (.int .u16 next) ∧ B = 256 ∧ ∀ v, T v = relL next v)
theorem WF.kept {W W' : World} {f : Value} {next B : Nat} {T : Nat → List UInt8} (h : WF W f next B T) (hk : ∀ a v, W.cell? a = some v → W'.cell? a = some v) : WF W' f next B T := by
  rcases h with ⟨p, s, h1, h2, h3⟩ | ⟨p, q, r, a, d, b, h1, h2, h3, h4, h5⟩ | h | h | ⟨p, h1, h2, h3⟩
  · exact .inl ⟨p, s, h1, hk _ _ h2, h3⟩
  · exact .inr (.inl ⟨p, q, r, a, d, b, h1, hk _ _ h2, hk _ _ h3, hk _ _ h4, h5⟩)
  · exact .inr (.inr (.inl h))
  · exact .inr (.inr (.inr (.inl h)))
  · exact .inr (.inr (.inr (.inr ⟨p, h1, hk _ _ h2, h3⟩)))
/-- What such a function says. -/
theorem WF.call {W : World} {f : Value} {next B : Nat} {T : Nat → List UInt8} (h : WF W f next B T) (hn : next < 65536) (v : Nat) (hv : v < B) (hL : Laid W) :
    ∃ fn bound, f = .func (.func fn) #[] bound ∧ Calls Tryz.prog fn (#[.int .i64 v] ++ bound) W fun e w' => e = .returned (.string (bytesB (T v))) ∧ Below W.heap.size W w' := by
  rcases h with ⟨p, s, rfl, h2, h3⟩ | ⟨p, q, r, a, d, b, rfl, h2, h3, h4, ⟨d1, d2, d3, d4⟩, rfl, h5⟩ | ⟨rfl, rfl, h⟩ | ⟨rfl, rfl, h⟩ | ⟨p, rfl, h2, rfl, h3⟩
  · exact ⟨_, _, rfl, (call_plain p (bytesB s) v W h2).mono fun e w' ⟨he, hw⟩ => ⟨by rw [he, h3], hw ▸ Below.refl _ _⟩⟩
  · exact ⟨_, _, rfl, (call_around p q r a b d v d1 d2 d3 d4 hv W hL h2 h3 h4).mono fun e w' ⟨he, hw⟩ => ⟨by rw [he, h5], hw⟩⟩
  · exact ⟨_, _, rfl, (bit_walk v hv W hL).mono fun e w' ⟨he, hw⟩ => ⟨by rw [he, h], hw⟩⟩
  · exact ⟨_, _, rfl, (call_slash v hv W hL).mono fun e w' ⟨he, hw⟩ => ⟨by rw [he, h], hw⟩⟩
  · exact ⟨_, _, rfl, (call_rel p next v hn hv W hL h2).mono fun e w' ⟨he, hw⟩ => ⟨by rw [he, h3], hw⟩⟩
end Go.Proofs.YteabjninmaceaaaGreatDoor
