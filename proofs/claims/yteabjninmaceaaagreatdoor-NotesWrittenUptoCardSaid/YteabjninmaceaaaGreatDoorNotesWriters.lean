/- How operands are written: the program's map of closures (printed by gen_writers.py). -/
import Derived.Test.YteabjninmaceaaaGreatDoorProg
import Derived.Test.YteabjninmaceaaaGreatDoorNotesMap
namespace Go.Proofs.YteabjninmaceaaaGreatDoor
open Go.RowKit
set_option linter.unusedVariables false
set_option linter.unusedSimpArgs false

set_option maxRecDepth 100000 in
set_option maxHeartbeats 4000000 in
theorem writers_walk (code next : Nat) (hcode : code < 256) (hnext : next < 65536) (w : World) :
    Calls Tryz.prog 17 #[.int .u8 code, .int .u16 next] w fun e w' => ∃ M, e = .returned (.map (some M)) ∧ MapW w' M code next ltrs.reverse ∧ Below w.heap.size w w' := by
  have T1 := Lib.hid (fun W => show Calls Tryz.prog 36 #[.int .i64 ((code : Int) / 32)] W fun e w' => e = .returned (.string (bytesB (decL (code / 32)))) ∧ w' = W from itoa_walk (code / 32) (by omega) W)
  have T2 := Lib.hid (fun W => show Calls Tryz.prog 36 #[.int .i64 ((code : Int) / 16)] W fun e w' => e = .returned (.string (bytesB (decL (code / 16)))) ∧ w' = W from itoa_walk (code / 16) (by omega) W)
  have i1 : IntKind.i64.wrap ((code : Int) / 32) = (code : Int) / 32 := IntWalk.i64_in _ (by omega)
  have i2 : IntKind.i64.wrap ((code : Int) / 16) = (code : Int) / 16 := IntWalk.i64_in _ (by omega)
  have zd : (bytesB (decL (code / 32))).size ≤ 2 := by rw [bytesB_size]; unfold decL; split <;> simp [hexL_length]
  have ld : (46 :: decL (code / 32)).length ≤ 9 := by have := zd; rw [bytesB_size] at this; simp only [List.length_cons]; omega
  obtain ⟨D1, hD1⟩ : ∃ x, bytesB (decL (code / 32)) = x := ⟨_, rfl⟩
  have HD1 := Lib.hid (show (⟨#[46]⟩ : ByteArray) ++ D1 = bytesB (46 :: decL (code / 32)) by rw [← hD1, show (⟨#[46]⟩ : ByteArray) = bytesB [46] from rfl, bytesB_append]; rfl)
  have HLD := Lib.hid ld
  rw [hD1] at T1 zd
  clear hD1 ld
  have hmm := @run_makeMap Tryz.prog
  go_enter Tryz.func17, Tryz.ntmps17
  go_wp2_with fail
  obtain ⟨w0, hw0⟩ : ∃ w0, w.alloc (.cells #[.int .u16 next] 23) = w0 := ⟨_, rfl⟩
  obtain ⟨M, hM⟩ : ∃ M, w.heap.size + 1 = M := ⟨_, rfl⟩
  have HB0 := Lib.hid (show Below w.heap.size w w0 ∧ w0.heap.size = M ∧ w0.cell? ⟨w.heap.size, 0, none⟩ = some (.int .u16 next) by
    rw [← hw0, ← hM]
    exact ⟨(Below.refl _ w).alloc (Nat.le_refl _) _, by simp, by simp [go_sem]⟩)
  obtain ⟨W0, hW0⟩ : ∃ W0, w0.alloc (.map #[] 0) = W0 := ⟨_, rfl⟩
  have HM0 : Hid (Ms w0 M code next [] W0) := by
    rw [← hW0]
    refine ⟨⟨#[], 0, ?_, fun e he => absurd he (by simp), fun c hc => absurd hc (by simp)⟩, (Below.refl _ w0).alloc (Nat.le_refl _) _, Nat.le_of_eq HB0.out.2.1⟩
    rw [← HB0.out.2.1]; exact World.alloc_heap_new w0 _
  rw [hw0, hM, hW0]
  clear hw0 hW0 hM hmm
  go_at_call 34
  refine (plainF_walk _ _).mono ?_
  rintro e w1 ⟨rfl, rfl⟩
  obtain ⟨W1, hr1, HM1⟩ := ms_plain HM0 65 65 rfl ⟨#[65]⟩ [65] rfl (fun _ => rfl) (by decide)
  clear HM0
  go_wp2_with fail
  go_at_call 34
  refine (plainF_walk _ _).mono ?_
  rintro e w1 ⟨rfl, rfl⟩
  obtain ⟨W2, hr2, HM2⟩ := ms_plain HM1 88 88 rfl ⟨#[88]⟩ [88] rfl (fun _ => rfl) (by decide)
  clear HM1 hr1
  go_wp2_with fail
  go_at_call 34
  refine (plainF_walk _ _).mono ?_
  rintro e w1 ⟨rfl, rfl⟩
  obtain ⟨W3, hr3, HM3⟩ := ms_plain HM2 89 89 rfl ⟨#[89]⟩ [89] rfl (fun _ => rfl) (by decide)
  clear HM2 hr2
  go_wp2_with fail
  go_at_call 34
  refine (plainF_walk _ _).mono ?_
  rintro e w1 ⟨rfl, rfl⟩
  obtain ⟨W4, hr4, HM4⟩ := ms_plain HM3 83 83 rfl ⟨#[83, 80]⟩ [83, 80] rfl (fun _ => rfl) (by decide)
  clear HM3 hr3
  go_wp2_with fail
  go_at_call 34
  refine (plainF_walk _ _).mono ?_
  rintro e w1 ⟨rfl, rfl⟩
  obtain ⟨W5, hr5, HM5⟩ := ms_plain HM4 80 80 rfl ⟨#[80, 83, 87]⟩ [80, 83, 87] rfl (fun _ => rfl) (by decide)
  clear HM4 hr4
  go_wp2_with fail
  go_at_call 34
  refine (plainF_walk _ _).mono ?_
  rintro e w1 ⟨rfl, rfl⟩
  obtain ⟨W6, hr6, HM6⟩ := ms_plain HM5 87 87 rfl ⟨#[89, 65]⟩ [89, 65] rfl (fun _ => rfl) (by decide)
  clear HM5 hr5
  go_wp2_with fail
  go_at_call 34
  refine (plainF_walk _ _).mono ?_
  rintro e w1 ⟨rfl, rfl⟩
  obtain ⟨W7, hr7, HM7⟩ := ms_plain HM6 67 67 rfl ⟨#[67]⟩ [67] rfl (fun _ => rfl) (by decide)
  clear HM6 hr6
  go_wp2_with fail
  go_at_call 34
  refine (plainF_walk _ _).mono ?_
  rintro e w1 ⟨rfl, rfl⟩
  obtain ⟨W8, hr8, HM8⟩ := ms_plain HM7 105 105 rfl ⟨#[40, 88, 41]⟩ [40, 88, 41] rfl (fun _ => rfl) (by decide)
  clear HM7 hr7
  go_wp2_with fail
  go_at_call 34
  refine (plainF_walk _ _).mono ?_
  rintro e w1 ⟨rfl, rfl⟩
  obtain ⟨W9, hr9, HM9⟩ := ms_plain HM8 106 106 rfl ⟨#[40, 89, 41]⟩ [40, 89, 41] rfl (fun _ => rfl) (by decide)
  clear HM8 hr8
  go_wp2_with fail
  go_at_call 34
  refine (plainF_walk _ _).mono ?_
  rintro e w1 ⟨rfl, rfl⟩
  obtain ⟨W10, hr10, HM10⟩ := ms_plain HM9 43 43 rfl ⟨#[40, 88, 41, 43]⟩ [40, 88, 41, 43] rfl (fun _ => rfl) (by decide)
  clear HM9 hr9
  go_wp2_with fail
  go_at_call 32
  refine (aroundF_walk _ _ _ _).mono ?_
  rintro e w1 ⟨rfl, rfl⟩
  obtain ⟨W11, hr11, HM11⟩ := ms_around HM10 35 35 rfl ⟨#[35]⟩ ⟨#[]⟩ [35] [] 2 2 rfl rfl rfl ⟨by decide, by decide, by decide, by decide⟩ rfl (fun v => by first | rfl | (rw [List.append_nil]; rfl)) (by decide)
  clear HM10 hr10
  go_wp2_with fail
  go_at_call 32
  refine (aroundF_walk _ _ _ _).mono ?_
  rintro e w1 ⟨rfl, rfl⟩
  obtain ⟨W12, hr12, HM12⟩ := ms_around HM11 100 100 rfl ⟨#[]⟩ ⟨#[]⟩ [] [] 2 2 rfl rfl rfl ⟨by decide, by decide, by decide, by decide⟩ rfl (fun v => by first | rfl | (rw [List.append_nil]; rfl)) (by decide)
  clear HM11 hr11
  go_wp2_with fail
  go_at_call 32
  refine (aroundF_walk _ _ _ _).mono ?_
  rintro e w1 ⟨rfl, rfl⟩
  obtain ⟨W13, hr13, HM13⟩ := ms_around HM12 68 68 rfl ⟨#[]⟩ ⟨#[]⟩ [] [] 2 2 rfl rfl rfl ⟨by decide, by decide, by decide, by decide⟩ rfl (fun v => by first | rfl | (rw [List.append_nil]; rfl)) (by decide)
  clear HM12 hr12
  go_wp2_with fail
  go_at_call 32
  refine (aroundF_walk _ _ _ _).mono ?_
  rintro e w1 ⟨rfl, rfl⟩
  obtain ⟨W14, hr14, HM14⟩ := ms_around HM13 120 120 rfl ⟨#[]⟩ ⟨#[43, 88]⟩ [] [43, 88] 2 2 rfl rfl rfl ⟨by decide, by decide, by decide, by decide⟩ rfl (fun v => by first | rfl | (rw [List.append_nil]; rfl)) (by decide)
  clear HM13 hr13
  go_wp2_with fail
  go_at_call 32
  refine (aroundF_walk _ _ _ _).mono ?_
  rintro e w1 ⟨rfl, rfl⟩
  obtain ⟨W15, hr15, HM15⟩ := ms_around HM14 121 121 rfl ⟨#[]⟩ ⟨#[43, 89]⟩ [] [43, 89] 2 2 rfl rfl rfl ⟨by decide, by decide, by decide, by decide⟩ rfl (fun v => by first | rfl | (rw [List.append_nil]; rfl)) (by decide)
  clear HM14 hr14
  go_wp2_with fail
  go_at_call 32
  refine (aroundF_walk _ _ _ _).mono ?_
  rintro e w1 ⟨rfl, rfl⟩
  obtain ⟨W16, hr16, HM16⟩ := ms_around HM15 108 108 rfl ⟨#[91]⟩ ⟨#[43, 88, 93]⟩ [91] [43, 88, 93] 2 2 rfl rfl rfl ⟨by decide, by decide, by decide, by decide⟩ rfl (fun v => by first | rfl | (rw [List.append_nil]; rfl)) (by decide)
  clear HM15 hr15
  go_wp2_with fail
  go_at_call 32
  refine (aroundF_walk _ _ _ _).mono ?_
  rintro e w1 ⟨rfl, rfl⟩
  obtain ⟨W17, hr17, HM17⟩ := ms_around HM16 109 109 rfl ⟨#[91]⟩ ⟨#[93, 43, 89]⟩ [91] [93, 43, 89] 2 2 rfl rfl rfl ⟨by decide, by decide, by decide, by decide⟩ rfl (fun v => by first | rfl | (rw [List.append_nil]; rfl)) (by decide)
  clear HM16 hr16
  go_wp2_with fail
  go_at_call 32
  refine (aroundF_walk _ _ _ _).mono ?_
  rintro e w1 ⟨rfl, rfl⟩
  obtain ⟨W18, hr18, HM18⟩ := ms_around HM17 117 117 rfl ⟨#[70, 70]⟩ ⟨#[]⟩ [70, 70] [] 2 2 rfl rfl rfl ⟨by decide, by decide, by decide, by decide⟩ rfl (fun v => by first | rfl | (rw [List.append_nil]; rfl)) (by decide)
  clear HM17 hr17
  go_wp2_with fail
  go_at_call 36
  refine (T1.out _).mono ?_
  rintro e w1 ⟨rfl, rfl⟩
  go_wp2_with fail
  go_at_call 32
  refine (aroundF_walk _ _ _ _).mono ?_
  rintro e w1 ⟨rfl, rfl⟩
  obtain ⟨W19, hr19, HM19⟩ := ms_around HM18 98 98 rfl ⟨#[]⟩ (⟨#[46]⟩ ++ D1) [] (46 :: decL (code / 32)) 2 2 rfl rfl HD1.out ⟨by decide, by decide, by decide, HLD.out⟩ rfl (fun _ => rfl) (by decide)
  clear HM18 hr18
  go_wp2_with fail
  go_at_call 32
  refine (aroundF_walk _ _ _ _).mono ?_
  rintro e w1 ⟨rfl, rfl⟩
  obtain ⟨W20, hr20, HM20⟩ := ms_around HM19 97 97 rfl ⟨#[33]⟩ ⟨#[]⟩ [33] [] 4 4 rfl rfl rfl ⟨by decide, by decide, by decide, by decide⟩ rfl (fun v => by first | rfl | (rw [List.append_nil]; rfl)) (by decide)
  clear HM19 hr19
  go_wp2_with fail
  go_at_call 32
  refine (aroundF_walk _ _ _ _).mono ?_
  rintro e w1 ⟨rfl, rfl⟩
  obtain ⟨W21, hr21, HM21⟩ := ms_around HM20 112 112 rfl ⟨#[33]⟩ ⟨#[43, 88]⟩ [33] [43, 88] 4 4 rfl rfl rfl ⟨by decide, by decide, by decide, by decide⟩ rfl (fun v => by first | rfl | (rw [List.append_nil]; rfl)) (by decide)
  clear HM20 hr20
  go_wp2_with fail
  go_at_call 32
  refine (aroundF_walk _ _ _ _).mono ?_
  rintro e w1 ⟨rfl, rfl⟩
  obtain ⟨W22, hr22, HM22⟩ := ms_around HM21 113 113 rfl ⟨#[33]⟩ ⟨#[43, 89]⟩ [33] [43, 89] 4 4 rfl rfl rfl ⟨by decide, by decide, by decide, by decide⟩ rfl (fun v => by first | rfl | (rw [List.append_nil]; rfl)) (by decide)
  clear HM21 hr21
  go_wp2_with fail
  go_at_call 32
  refine (aroundF_walk _ _ _ _).mono ?_
  rintro e w1 ⟨rfl, rfl⟩
  obtain ⟨W23, hr23, HM23⟩ := ms_around HM22 42 42 rfl ⟨#[91, 33]⟩ ⟨#[43, 88, 93]⟩ [91, 33] [43, 88, 93] 4 4 rfl rfl rfl ⟨by decide, by decide, by decide, by decide⟩ rfl (fun v => by first | rfl | (rw [List.append_nil]; rfl)) (by decide)
  clear HM22 hr22
  obtain ⟨Wa, hra, HMa⟩ := ms_put HM23.out (Below.refl _ _) 110 110 rfl (.func (.func 37) #[] #[]) (.inr (.inr (.inl ⟨rfl, rfl, fun _ => rfl⟩))) (by decide)
  obtain ⟨Wb, hrb, HMb⟩ := ms_put HMa (Below.refl _ _) 47 47 rfl (.func (.func 38) #[] #[]) (.inr (.inr (.inr (.inl ⟨rfl, rfl, fun _ => rfl⟩)))) (by decide)
  have hbx : Wb.cell? ⟨w.heap.size, 0, none⟩ = some (.int .u16 next) := (HMb.2.1.cell (World.block_lt_of_cell? w0 _ HB0.out.2.2)).trans HB0.out.2.2
  obtain ⟨Wc, hrc, HMc⟩ := ms_put HMb (Below.refl _ _) 114 114 rfl (.func (.func 39) #[] #[.pointer (some ⟨w.heap.size, 0, none⟩)]) (.inr (.inr (.inr (.inr ⟨_, rfl, hbx, rfl, fun _ => rfl⟩)))) (by decide)
  have HMC := Lib.hid HMc
  clear HM23 HMa HMb HMc hbx
  go_wp2_with fail
  go_at_call 36
  refine (T2.out _).mono ?_
  rintro e w1 ⟨rfl, rfl⟩
  go_wp2_with fail
  go_at_call 34
  refine (plainF_walk _ _).mono ?_
  rintro e w1 ⟨rfl, rfl⟩
  obtain ⟨Wd, hrd, HMd⟩ := ms_plain HMC 116 116 rfl (bytesB (decL (code / 16))) (decL (code / 16)) rfl (fun _ => rfl) (by decide)
  go_wp2_with fail
  go_ret
  exact ⟨M, rfl, HMd.out.1, HB0.out.1.trans (HMd.out.2.1.mono HB0.out.1.size)⟩
end Go.Proofs.YteabjninmaceaaaGreatDoor
