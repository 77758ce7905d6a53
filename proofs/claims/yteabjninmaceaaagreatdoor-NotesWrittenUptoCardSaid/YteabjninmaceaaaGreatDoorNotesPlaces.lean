/- Where the operands' bytes begin: the document's Places. -/
import Derived.Test.YteabjninmaceaaaGreatDoorProg
import Derived.Test.YteabjninmaceaaaGreatDoorNotesSay
import Derived.Test.YteabjninmaceaaaGreatDoorNotesWidth
import Derived.Deep.OwnRows
import Derived.Deep.CutRange
import Derived.Deep.DeepCutAuto
namespace Go.Proofs.YteabjninmaceaaaGreatDoor
open Go.RowKit
set_option linter.unusedVariables false
set_option linter.unusedSimpArgs false

theorem Tryz.infoInt : (Tryz.prog.info? 3).map (fun i => (i.zero, i.size, i.bytes)) = some (some (.int .i64 0), 1, 8) := by kernel_rfl
/-- Where an operand's bytes begin, behind the code. -/
def plc (fm : ByteArray) (i : Nat) : Nat := if hasC fm 114 0 = true then 1 + sumW (fm.data.toList.take i) else 1 + sumW (fm.data.toList.drop (i + 1))
/-- A block of n integers, those told that satisfy p. -/
def Ints (w : World) (g n : Nat) (p : Nat → Prop) (f : Nat → Int) : Prop := (∀ j, j < n → ∃ x, w.cell? ⟨g, j, none⟩ = some (.int .i64 x)) ∧ (∀ j, w.frozen? ⟨g, j, none⟩ = false) ∧ ∀ j, j < n → p j → w.cell? ⟨g, j, none⟩ = some (.int .i64 (f j))
theorem Ints.new (w : World) (n : Nat) (p : Nat → Prop) (f : Nat → Int) (h : ∀ j, j < n → ¬ p j) : Ints (w.alloc (.cells (madeCells #[.int .i64 0] n) 3)) w.heap.size n p f := by
  refine ⟨fun j hj => ⟨0, ?_⟩, fun j => World.frozen?_alloc_new _ _ _ _, fun j hj hp => absurd hp (h j hj)⟩
  rw [World.cell?_alloc_new]
  simp [madeCells, hj, Nat.mod_one]
theorem Ints.below {w w' : World} {g n B : Nat} {p : Nat → Prop} {f : Nat → Int} (h : Ints w g n p f) (hb : Below B w w') (hg : g < B) : Ints w' g n p f := by
  refine ⟨fun j hj => ?_, fun j => (hb.frozen hg).trans (h.2.1 j), fun j hj hp => (hb.cell (p := ⟨g, j, none⟩) hg).trans (h.2.2 j hj hp)⟩
  obtain ⟨x, hx⟩ := h.1 j hj
  exact ⟨x, (hb.cell (p := ⟨g, j, none⟩) hg).trans hx⟩
theorem Ints.set {w : World} {g n : Nat} {p q : Nat → Prop} {f : Nat → Int} (h : Ints w g n p f) (i : Nat) (hi : i < n) (x : Int) (hx : x = f i) (hq : ∀ j, q j → j = i ∨ p j) : Ints (w.setCell ⟨g, i, none⟩ (.int .i64 x)) g n q f := by
  obtain ⟨h1, h2, h3⟩ := h
  obtain ⟨v0, hv0⟩ := h1 i hi
  subst hx
  refine ⟨fun j hj => ?_, fun j => by simp [go_sem, h2], fun j hj hp => ?_⟩
  · by_cases e : j = i
    · subst e; exact ⟨_, World.cell?_setCell_same _ _ _ hv0⟩
    · obtain ⟨v, hv⟩ := h1 j hj
      exact ⟨v, by rw [World.cell?_setCell_other _ _ _ _ (by intro c; injection c; omega)]; exact hv⟩
  · by_cases e : j = i
    · subst e; exact World.cell?_setCell_same _ _ _ hv0
    · rw [World.cell?_setCell_other _ _ _ _ (by intro c; injection c; omega)]
      exact h3 j hj ((hq j hp).resolve_left e)
theorem sumW_drop (s : ByteArray) (i : Nat) (h : i < s.size) : sumW (s.data.toList.drop i) = sumW (s.data.toList.drop (i + 1)) + widthC (s[i]'h) := by
  have h2 : i < s.data.toList.length := by simpa using h
  rw [List.drop_eq_getElem_cons h2, sumW, Nat.add_comm]; rfl
set_option maxRecDepth 100000 in
set_option maxHeartbeats 4000000 in
theorem places_walk (fm : ByteArray) (hz : fm.size ≤ 2) (w : World) :
    Calls Tryz.prog 14 #[.string fm] w fun e w' => ∃ g, e = .returned (.slice (some ⟨g, 0, none⟩) fm.size fm.size) ∧ w.heap.size ≤ g ∧ Ints w' g fm.size (fun _ => True) (fun i => (plc fm i : Nat)) ∧ Below w.heap.size w w' := by
  have HIN := Lib.hid (fun W => in_walk fm 114 (by omega) W)
  have HST := Lib.hid (sumW_step fm)
  have HDR := Lib.hid (sumW_drop fm)
  have HDE := Lib.hid (show sumW (fm.data.toList.drop fm.size) = 0 by rw [List.drop_of_length_le (by simp)]; rfl)
  have HPL := Lib.hid (fun i => show plc fm i = if hasC fm 114 0 = true then 1 + sumW (fm.data.toList.take i) else 1 + sumW (fm.data.toList.drop (i + 1)) from rfl)
  obtain ⟨n, hn⟩ : ∃ n, fm.size = n := ⟨_, rfl⟩
  obtain ⟨g, hg⟩ : ∃ g, w.heap.size = g := ⟨_, rfl⟩
  have hmk := run_make_row' (P := Tryz.prog) 38 3 (.int .i64 0) 8 Tryz.underlying38 Tryz.infoInt rfl .i64 .i64 n (by omega) (by omega)
  obtain ⟨X, hX⟩ : ∃ X, w.alloc (.cells (madeCells #[.int .i64 0] n) 3) = X := ⟨_, rfl⟩
  have HX := Lib.hid (show Below g w X ∧ ∀ p f, (∀ j, j < n → ¬ p j) → Ints X g n p f by
    rw [← hX, ← hg]
    exact ⟨(Below.refl _ w).alloc (Nat.le_refl _) _, fun p f h => Ints.new w n p f h⟩)
  have hn2 : n ≤ 2 := by omega
  obtain ⟨r, hr⟩ : ∃ r, hasC fm 114 0 = r := ⟨_, rfl⟩
  rw [hr] at HIN HPL
  clear hr
  have hrA : Hid (r = true ∨ r = false) := by cases r <;> exact Lib.hid (by simp)
  by_cases hrt : r = true
  · subst hrt
    have HPT := Lib.hid (show ∀ i, ((plc fm i : Nat) : Int) = ((1 + sumW (fm.data.toList.take i) : Nat) : Int) from fun i => by rw [HPL.out i, if_pos rfl])
    clear HPL HDR HDE hrA
    go_enter Tryz.func14, Tryz.ntmps14
    go_upto_region 5 with (go_at_call 30; refine (HIN.out _).mono ?_; rintro e w1 ⟨rfl, rfl⟩)
    clear hX hmk
    go_loopw [4, 5] (fun s4 s5 wr => ∃ (i t : Nat), i ≤ n ∧ t ≤ 1 + 2 * i ∧ s4 = .int .i64 t ∧ s5 = .int .i64 i ∧ Hid (t = 1 + sumW (fm.data.toList.take i)) ∧ Hid (Ints wr g n (fun j => j < i) (fun j => (plc fm j : Nat))) ∧ Hid (Below g w wr)) (fun _ s5 _ => n - (intOf s5).toNat)
    case atStart => exact ⟨0, 1, Nat.zero_le _, by omega, rfl, rfl, Lib.hid rfl, Lib.hid (HX.out.2 _ _ (fun j hj h => by omega)), Lib.hid HX.out.1⟩
    case round =>
      obtain ⟨i, t, hi, ht, rfl, rfl, HT, HI, HB⟩ := hrel
      by_cases hlt : i < n
      · have b1 : (i : Int) < (n : Int) := by omega
        have hif : i < fm.size := by rw [hn]; exact hlt
        have hwn := widthN_byte (fm[i]'hif)
        have hx256 : (fm[i]'hif).toNat < 256 := UInt8.toNat_lt _
        have hst := HST.out i hif
        have hc := widthC_le (fm[i]'hif)
        rw [← hwn] at hst hc
        obtain ⟨x, hx⟩ : ∃ x, (fm[i]'hif).toNat = x := ⟨_, rfl⟩
        rw [hx] at hx256 hst hc
        have HWW := Lib.hid (fun W => refWidth_walk x hx256 W)
        have HT2 := Lib.hid (show t + widthN x = 1 + sumW (fm.data.toList.take (i + 1)) by rw [hst, HT.out]; omega)
        have HXX := Lib.hid hx
        have i2 : IntKind.i64.wrap ((t : Int) + (widthN x : Int)) = ((t + widthN x : Nat) : Int) := by rw [IntWalk.i64_in _ (by omega)]; rfl
        have i3 : IntKind.i64.wrap ((i : Int) + 1) = ((i + 1 : Nat) : Int) := by rw [IntWalk.i64_in _ (by omega)]; rfl
        obtain ⟨v0, c1⟩ := HI.out.1 i hlt
        have f1 := HI.out.2.1 i
        have HI2 := Lib.hid (HI.out.set (q := fun j => j < i + 1) i hlt (t : Int) (by show (t : Int) = ((plc fm i : Nat) : Int); rw [HPT.out, HT.out]) (fun j hj => by omega))
        have HB2 := Lib.hid (HB.out.setCell (p := ⟨g, i, none⟩) (Nat.le_refl g) (.int .i64 (t : Int)))
        have hxb : (fm[i]'hif).toNat = x := hx
        clear hwn hst HI HB HT
        go_wp2_with (go_at_call 15; refine (HWW.out _).mono ?_; rintro e w1 ⟨rfl, rfl⟩)
        go_roundw
        case rel => exact ⟨i + 1, t + widthN x, by omega, by omega, rfl, by go_num, HT2, HI2, HB2⟩
        case measure => simp [intOf]; omega
      · have b1 : ¬ (i : Int) < (n : Int) := by omega
        obtain rfl : i = n := by omega
        go_wp2_with fail
        go_ret
        exact ⟨g, rfl, Nat.le_refl _, ⟨HI.out.1, HI.out.2.1, fun j hj _ => HI.out.2.2 j hj hj⟩, HB.out⟩
  · obtain rfl : r = false := by simpa using hrt
    have HPT := Lib.hid (show ∀ i, ((plc fm i : Nat) : Int) = ((1 + sumW (fm.data.toList.drop (i + 1)) : Nat) : Int) from fun i => by rw [HPL.out i, if_neg (by decide)])
    clear HPL HST hrA hrt
    go_enter Tryz.func14, Tryz.ntmps14
    have i0 : IntKind.i64.wrap ((n : Int) - 1) = (n : Int) - 1 := IntWalk.i64_in _ (by omega)
    go_upto_region 11 with (go_at_call 30; refine (HIN.out _).mono ?_; rintro e w1 ⟨rfl, rfl⟩)
    clear hX hmk
    go_loopw [4, 6] (fun s4 s6 wr => ∃ (i t : Nat), i ≤ n ∧ t ≤ 1 + 2 * (n - i) ∧ s4 = .int .i64 t ∧ s6 = .int .i64 ((i : Int) - 1) ∧ Hid (t = 1 + sumW (fm.data.toList.drop i)) ∧ Hid (Ints wr g n (fun j => i ≤ j) (fun j => (plc fm j : Nat))) ∧ Hid (Below g w wr)) (fun _ s6 _ => (intOf s6 + 1).toNat)
    case atStart => exact ⟨n, 1, Nat.le_refl _, by omega, rfl, rfl, Lib.hid (by rw [← hn, HDE.out]), Lib.hid (HX.out.2 _ _ (fun j hj h => by omega)), Lib.hid HX.out.1⟩
    case round =>
      obtain ⟨i, t, hi, ht, rfl, rfl, HT, HI, HB⟩ := hrel
      by_cases hlt : 0 < i
      · obtain ⟨j, rfl⟩ : ∃ j, i = j + 1 := ⟨i - 1, by omega⟩
        have e1 : (((j + 1 : Nat) : Int) - 1) = (j : Int) := by omega
        rw [e1]
        have b1 : (0 : Int) ≤ (j : Int) := by omega
        have b2 : (j : Int) < (n : Int) := by omega
        have hif : j < fm.size := by rw [hn]; omega
        have hlt2 : j < n := by omega
        have hwn := widthN_byte (fm[j]'hif)
        have hx256 : (fm[j]'hif).toNat < 256 := UInt8.toNat_lt _
        have hst := HDR.out j hif
        have hc := widthC_le (fm[j]'hif)
        rw [← hwn] at hst hc
        obtain ⟨x, hx⟩ : ∃ x, (fm[j]'hif).toNat = x := ⟨_, rfl⟩
        rw [hx] at hx256 hst hc
        have HWW := Lib.hid (fun W => refWidth_walk x hx256 W)
        have HT2 := Lib.hid (show t + widthN x = 1 + sumW (fm.data.toList.drop j) by rw [hst, HT.out]; omega)
        have i2 : IntKind.i64.wrap ((t : Int) + (widthN x : Int)) = ((t + widthN x : Nat) : Int) := by rw [IntWalk.i64_in _ (by omega)]; rfl
        have i3 : IntKind.i64.wrap ((j : Int) - 1) = (j : Int) - 1 := IntWalk.i64_in _ (by omega)
        obtain ⟨v0, c1⟩ := HI.out.1 j hlt2
        have f1 := HI.out.2.1 j
        have HI2 := Lib.hid (HI.out.set (q := fun k => j ≤ k) j hlt2 (t : Int) (by show (t : Int) = ((plc fm j : Nat) : Int); rw [HPT.out, HT.out]) (fun k hk => by omega))
        have HB2 := Lib.hid (HB.out.setCell (p := ⟨g, j, none⟩) (Nat.le_refl g) (.int .i64 (t : Int)))
        have hxb : (fm[j]'hif).toNat = x := hx
        clear hwn hst HI HB HT
        go_wp2_with (go_at_call 15; refine (HWW.out _).mono ?_; rintro e w1 ⟨rfl, rfl⟩)
        go_roundw
        case rel => exact ⟨j, t + widthN x, by omega, by omega, rfl, by go_num, HT2, HI2, HB2⟩
        case measure => simp [intOf]
      · obtain rfl : i = 0 := by omega
        have e1 : (((0 : Nat) : Int) - 1) = -1 := by omega
        rw [e1]
        go_wp2_with fail
        go_ret
        exact ⟨g, by rw [hn]; rfl, Nat.le_of_eq hg, by rw [hn]; exact ⟨HI.out.1, HI.out.2.1, fun j hj _ => HI.out.2.2 j hj (Nat.zero_le _)⟩, by rw [hg]; exact HB.out⟩
end Go.Proofs.YteabjninmaceaaaGreatDoor
