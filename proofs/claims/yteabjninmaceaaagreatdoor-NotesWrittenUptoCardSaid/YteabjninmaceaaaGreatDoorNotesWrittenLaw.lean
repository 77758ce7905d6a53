/- NotesWritten, walked: bytes are written as instructions, one and all of them, as the document says. -/
import Derived.Test.YteabjninmaceaaaGreatDoorProg
import Derived.Test.YteabjninmaceaaaGreatDoorNotesRefList
import Derived.Test.YteabjninmaceaaaGreatDoorCopy
import Derived.Test.YteabjninmaceaaaGreatDoorSame
import Derived.BigQuiet
namespace Go.Proofs.YteabjninmaceaaaGreatDoor
open Go.RowKit
set_option linter.unusedVariables false
set_option linter.unusedSimpArgs false

theorem ansX_form (xs : List Int) (at' : Nat) : ∃ S N E, ansX xs at' = .tuple #[.string S, .int .i64 N, .int .i64 E] := by
  unfold ansX
  split
  · exact ⟨_, _, _, rfl⟩
  · exact ⟨_, _, _, rfl⟩
theorem strEqR (a : ByteArray) : (a.toList == a.toList) = true := beq_self_eq_true _
set_option maxRecDepth 100000 in
set_option maxHeartbeats 4000000 in
theorem written_law (v : Value) (at' : Nat) (hat : at' < 65536) (xs : List Int) (hlen : xs.length ≤ 1048576) (w : World) (hr : Row .u8 w v xs) (hf : Fits .u8 xs) (hL : Laid w) :
    Calls Tryz.prog 3 #[v, .int .u16 at'] w fun e w' => e = .returned (.bool true) ∧ Below w.heap.size w w' := by
  have hmx : Tryz.prog.follows .mixedOrders = true := by kernel_rfl
  obtain ⟨B0, hB0⟩ : ∃ B0, w.heap.size = B0 := ⟨_, rfl⟩
  have hb0 : ∀ W, Below B0 w W → B0 ≤ W.heap.size := fun W h => by have := h.size; omega
  have HR := Lib.hid (fun W (h : Below B0 w W) => show Row .u8 W v xs from hr.below' h (Nat.le_of_eq hB0))
  have HL := Lib.hid (fun W (h : Below B0 w W) => show Laid W from hL.below (by rw [hB0]; exact h))
  have HT1 := Lib.hid (fun v W (h : Row .u8 W v xs) => refText_walk v at' xs W h hf)
  have HT2 := Lib.hid (fun v W (h : Row .u8 W v xs) (hl : Laid W) => text_walk v at' xs W h hf hl)
  have HLI := Lib.hid (fun v W (h : Row .u8 W v xs) (hl : Laid W) => list_walk v at' hat xs hlen W h hf hl)
  have HRL := Lib.hid (fun v W (h : Row .u8 W v xs) => refList_walk v at' hat xs hlen W h hf)
  have HCP := Lib.hid (fun W (h : Row .u8 W v xs) => copy_any v xs W h (by omega))
  have HBY := Lib.hid (fun a b W (h1 : Row .u8 W a xs) (h2 : Row .u8 W b xs) => show Calls Tryz.prog 10 #[a, b] W (fun e w' => e = .returned (.bool true) ∧ ∃ n, w' = W.drewN n) from by
    have h := bytes_any a b xs xs W h1 h2
    rw [eqB_refl] at h; exact h)
  obtain ⟨S, N, E, hA⟩ := ansX_form xs at'
  rw [hA] at HT1 HT2
  have g1 := strEqR S
  clear hA hr hL hf
  have HB := Lib.hid (show Below B0 w w by rw [← hB0]; exact Below.refl _ _)
  go_enter Tryz.func3, Tryz.ntmps3
  go_upto_region 2 with (go_at_call 5; refine (HT1.out _ _ (HR.out _ HB.out)).mono ?_; rintro e w1 ⟨rfl, hb1⟩)
  have HB1 := Lib.hid (HB.out.trans (hb1.mono (hb0 _ HB.out)))
  clear hb1
  go_upto_region 3 with (go_at_call 6; refine (HCP.out _ (HR.out _ HB1.out)).mono ?_; rintro e w2 ⟨vc, rfl, hown, hb2⟩)
  have HB2 := Lib.hid (HB1.out.trans (hb2.mono (hb0 _ HB1.out)))
  have HC2 := Lib.hid (Row.owned hown).1
  clear hb2 hown
  go_upto_region 4 with (go_at_call 7; refine (HT2.out _ _ HC2.out (HL.out _ HB2.out)).mono ?_; rintro e w3 ⟨rfl, hb3⟩)
  have HB3 := Lib.hid (HB2.out.trans (hb3.mono (hb0 _ HB2.out)))
  have HC3 := Lib.hid (HC2.out.below hb3)
  clear hb3
  go_upto_region 5 with (go_at_call 8; refine (HLI.out _ _ HC3.out (HL.out _ HB3.out)).mono ?_; rintro e w4 ⟨l1, L1, rfl, hL1, hown1, hb4⟩)
  have HB4 := Lib.hid (HB3.out.trans (hb4.mono (hb0 _ HB3.out)))
  have HC4 := Lib.hid (HC3.out.below hb4)
  have HO4 := Lib.hid hown1
  clear hb4 hown1
  go_upto_region 6 with (go_at_call 9; refine (HRL.out _ _ (HR.out _ HB4.out)).mono ?_; rintro e w5 ⟨l2, L2, rfl, hL2, hown2, hb5⟩)
  obtain rfl := hL1.same hL2
  have HB5 := Lib.hid (HB4.out.trans (hb5.mono (hb0 _ HB4.out)))
  have HC5 := Lib.hid (HC4.out.below hb5)
  have HO5 := Lib.hid (ownsRow_behind HO4.out hb5)
  have HP5 := Lib.hid hown2
  clear hb5 hown2 hL1 hL2 HO4
  obtain ⟨n, hn⟩ : ∃ n, L1.length = n := ⟨_, rfl⟩
  rw [hn] at HO5 HP5
  obtain ⟨a1, c1, rfl⟩ : ∃ a c, l1 = .slice a n c := by
    rcases HO5.out.2 with ⟨rfl, h0⟩ | ⟨g, c, cur, rfl, _⟩
    · exact ⟨none, 0, by rw [h0]⟩
    · exact ⟨_, _, rfl⟩
  obtain ⟨a2, c2, rfl⟩ : ∃ a c, l2 = .slice a n c := by
    rcases HP5.out.2 with ⟨rfl, h0⟩ | ⟨g, c, cur, rfl, _⟩
    · exact ⟨none, 0, by rw [h0]⟩
    · exact ⟨_, _, rfl⟩
  go_upto_region 9 with (go_at_call 10; refine (HBY.out _ _ _ HC5.out (HR.out _ HB5.out)).mono ?_; rintro e w6 ⟨rfl, n6, hw6⟩)
  have HCELL := Lib.hid (fun (b : Nat) (vv : Value) (base : Nat) (m : Nat) (h : w5.ownsRow base 9 1 vv n (L1.map (fun t => Value.string (bytesB t)))) (i : Nat) (hi : i < n) => show ∃ g c, vv = .slice (some ⟨g, 0, none⟩) n c ∧ (w5.drewN m).cell? ⟨g, i, none⟩ = some (.string (bytesB (L1[i]?.getD []))) from by
    have h2 := ownsRow_behind h (below_drewN (Below.refl _ w5) m)
    rcases h.2 with ⟨rfl, h0⟩ | ⟨g, c, cur, rfl, _⟩
    · omega
    · refine ⟨g, c, rfl, ?_⟩
      rw [h2.cellAt i (by omega), List.getElem?_map]
      rw [List.getElem?_eq_getElem (by omega)]; rfl)
  go_loopw [14] (fun s14 wr => ∃ (i m : Nat), i ≤ n ∧ s14 = .int .i64 i ∧ wr = w5.drewN m) (fun s14 _ => n - (intOf s14).toNat)
  case atStart => exact ⟨0, n6, Nat.zero_le _, rfl, by first | rfl | exact hw6⟩
  case round =>
    obtain ⟨i, m, hi, rfl, hwm⟩ := hrel
    have HEND := Lib.hid (show Below B0 w wr by rw [hwm]; exact below_drewN HB5.out m)
    have hnl : n ≤ 9223372036854775807 := by
      have h := HO5.out.2
      rcases h with ⟨_, h0⟩ | ⟨g, c, cur, _, _, _, h1, h2, _⟩
      · omega
      · unfold maxLen at h2; omega
    by_cases hlt : i < n
    · have i1 : (i : Int) < (n : Int) := by omega
      have i3 : IntKind.i64.wrap ((i : Int) + 1) = ((i + 1 : Nat) : Int) := by rw [IntWalk.i64_in _ (by omega)]; rfl
      obtain ⟨g1', c1', e1, q1⟩ := HCELL.out 0 _ _ m HO5.out i hlt
      obtain ⟨g2', c2', e2, q2⟩ := HCELL.out 0 _ _ m HP5.out i hlt
      injection e1 with e1 e1b e1c
      injection e2 with e2 e2b e2c
      subst e1 e2
      rw [← hwm] at q1 q2
      obtain ⟨T, hT⟩ : ∃ T, bytesB (L1[i]?.getD []) = T := ⟨_, rfl⟩
      rw [hT] at q1 q2
      have g7 := strEqR T
      have HDR := Lib.hid (fun j => show ∃ m', (wr.drewN j) = w5.drewN m' from ⟨m + j, by rw [hwm, World.drewN_drewN]⟩)
      clear hT hwm e1b e1c e2b e2c HCELL
      go_upto_region 11 with fail
      go_quiet (fail)
      all_goals
        go_wp2_with fail
        go_roundw
      all_goals first
        | exact ⟨i + 1, (HDR.out _).choose, by omega, by go_num, (HDR.out _).choose_spec⟩
        | (simp [intOf]; omega)
    · have i1 : ¬ (i : Int) < (n : Int) := by omega
      clear hwm
      go_wp2_with fail
      go_ret
      exact ⟨rfl, HEND.out⟩
theorem written_any (a : Option Addr) (len cap : Nat) (zs : List Int) (at' : Int) (W : World) (w0 : IsRow .u8 W a len cap zs) (s0 : cap ≤ 1048576) (w1 : (Lit.int .u16 at').wf = true) (hL : Laid W) :
    Calls Tryz.prog 3 #[.slice a len cap, .int .u16 at'] W fun e w' => e = .returned (.bool true) ∧ Below W.heap.size W w' := by
  have h2 : 0 ≤ at' ∧ at' < 65536 := by
    simp [Lit.wf, IntKind.min, IntKind.max, IntKind.signed, IntKind.bits] at w1; omega
  obtain ⟨at', rfl⟩ := Int.eq_ofNat_of_zero_le h2.1
  obtain ⟨hrow, hff, hl, _⟩ := Row.came w0
  have hlc : len ≤ cap := by
    rcases w0 with ⟨rfl, rfl, rfl, rfl⟩ | ⟨x, rfl, hle, _⟩
    · exact Nat.le_refl _
    · exact hle
  exact written_law _ at' (by omega) (zs.take len) (by omega) W hrow hff hL
end Go.Proofs.YteabjninmaceaaaGreatDoor
