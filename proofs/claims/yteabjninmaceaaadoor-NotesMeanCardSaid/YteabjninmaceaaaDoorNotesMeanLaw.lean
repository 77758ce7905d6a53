/- NotesMean, walked: what each code means, each letter's bytes, the code of a name and form. (Numbers of chapter 10's seat D.) -/
import Derived.Test.YteabjninmaceaaaDoorNotesRefFind
import Derived.Test.YteabjninmaceaaaDoorNotesRefOf
namespace Go.Proofs.YteabjninmaceaaaDoor
open Go.RowKit Go.Shelf
set_option linter.unusedVariables false
set_option linter.unusedSimpArgs false

set_option maxRecDepth 100000 in
set_option maxHeartbeats 4000000 in
theorem mean_law_nat (k c : Nat) (hk : k < 256) (hc : c < 256) (name form : ByteArray) (w : World) (hL : LaidM w) :
    Calls Tryd.prog 4 #[.int .u8 k, .int .u8 c, .string name, .string form] w fun e w' => e = .returned (.bool true) ∧ Below w.heap.size w w' := by
  have HF1 := Lib.hid (fun W => refFind_walk name form W)
  have HF2 := Lib.hid (fun W hl => find_walk name form W hl)
  have HO1 := Lib.hid (fun W hl => of_walk k hk W hl)
  have HO2 := Lib.hid (fun W => refOf_walk k hk W)
  have HW1 := Lib.hid (fun W => width_walk c hc W)
  have HW2 := Lib.hid (fun W => refWidth_walk c hc W)
  have HV := Lib.hid (show noteV k = .agg #[.int .u8 k, .string (nameT k), .string (formT k), .int .i64 (1 + sumW (formT k).data.toList : Nat), .int .i64 (cycT k)] from rfl)
  have HL := Lib.hid hL
  rw [HV.out] at HO1 HO2
  obtain ⟨nm, hnm⟩ : ∃ x, nameT k = x := ⟨_, rfl⟩
  obtain ⟨fm, hfm⟩ : ∃ x, formT k = x := ⟨_, rfl⟩
  obtain ⟨cy, hcy⟩ : ∃ x, cycT k = x := ⟨_, rfl⟩
  rw [hnm, hfm, hcy] at HO1 HO2
  obtain ⟨sz, hsz⟩ : ∃ x, 1 + sumW fm.data.toList = x := ⟨_, rfl⟩
  rw [hsz] at HO1 HO2
  obtain ⟨wc, hwc⟩ : ∃ x, widthN c = x := ⟨_, rfl⟩
  rw [hwc] at HW1 HW2
  clear HV hL hnm hfm hcy hsz hwc
  go_enter Tryd.func4, Tryd.ntmps4
  go_upto_region 2 with (go_at_call 7; refine (HF1.out _).mono ?_; rintro e w1 ⟨r1, b1, rfl, hf1, hb1⟩)
  have HL1 := Lib.hid (HL.out.below hb1)
  have HB1 := Lib.hid hb1
  have HFF := Lib.hid hf1
  clear hb1 hf1 HF1
  go_upto_region 3 with (go_at_call 8; refine (HF2.out _ HL1.out).mono ?_; rintro e w2 ⟨r2, b2, rfl, hf2, hb2⟩)
  obtain ⟨rfl, rfl⟩ := hf2.same HFF.out
  have HL2 := Lib.hid (HL1.out.below hb2)
  have HB2 := Lib.hid (HB1.out.trans (hb2.mono HB1.out.size))
  clear hb2 hf2 HF2 HL1 HB1 HFF HL
  go_wp2_with (first | (go_at_call 9; refine (HO1.out _ HL2.out).mono ?_; rintro e w3 ⟨rfl, hb3⟩) | (go_at_call 6; refine (HO2.out _).mono ?_; rintro e w4 ⟨rfl, hb4⟩) | (go_at_call 10; refine (HW1.out _).mono ?_; rintro e w5 ⟨rfl, rfl⟩) | (go_at_call 11; refine (HW2.out _).mono ?_; rintro e w6 ⟨rfl, rfl⟩))
  have HB3 := Lib.hid (below_step HB2.out HB2.out.size (below_step hb3 hb3.size hb4))
  clear hb3 hb4
  go_wp2_with fail
  go_ret
  exact ⟨rfl, HB3.out⟩
theorem mean_any (k c : Int) (name form : ByteArray) (W : World) (wk : (Lit.int .u8 k).wf = true) (wc : (Lit.int .u8 c).wf = true) {P Q : Prop} (_ : P) (_ : Q) (hL : LaidM W) :
    Calls Tryd.prog 4 #[.int .u8 k, .int .u8 c, .string name, .string form] W fun e w' => e = .returned (.bool true) ∧ Below W.heap.size W w' := by
  have h1 := bounds_u8 wk
  have h2 := bounds_u8 wc
  obtain ⟨k, rfl⟩ := Int.eq_ofNat_of_zero_le h1.1
  obtain ⟨c, rfl⟩ := Int.eq_ofNat_of_zero_le h2.1
  exact mean_law_nat k c (by omega) (by omega) name form W hL
end Go.Proofs.YteabjninmaceaaaDoor
