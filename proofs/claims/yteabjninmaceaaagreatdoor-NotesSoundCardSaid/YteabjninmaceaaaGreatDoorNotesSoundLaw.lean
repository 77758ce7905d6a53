/- NotesSound, walked: names, sizes and cycles are sound; what is written has just its bytes. -/
import Derived.Test.YteabjninmaceaaaGreatDoorProg
import Derived.Test.YteabjninmaceaaaGreatDoorNotesTexts
import Derived.Test.YteabjninmaceaaaGreatDoorNotesFind
import Derived.Laws.AppendOwnNone
import Derived.BigQuiet
namespace Go.Proofs.YteabjninmaceaaaGreatDoor
open Go.RowKit
set_option linter.unusedVariables false
set_option linter.unusedSimpArgs false

theorem few_take {xs : List Int} (h : fewX xs = false) : ∀ at', ansX (xs.take (sizeN (codeX xs))) at' = ansX xs at' := by
  intro at'
  have h1 : ¬ (xs.length = 0 ∨ xs.length < sizeN (codeX xs)) := by simpa [fewX] using h
  obtain ⟨s, hs⟩ : ∃ s, sizeN (codeX xs) = s := ⟨_, rfl⟩
  have hs1 : 1 ≤ s := by rw [← hs]; unfold sizeN; omega
  have hc : codeX (xs.take s) = codeX xs := by unfold codeX; rw [List.getElem?_take_of_lt (by omega)]
  have hl : (xs.take s).length = s := by rw [List.length_take]; omega
  have hf : fewX (xs.take s) = false := by
    unfold fewX
    rw [hc, hs, hl]
    simp; omega
  have hr : restX (xs.take s) = restX xs := by
    unfold restX
    rw [hc, hs, List.drop_take, List.take_take, Nat.min_self]
  rw [hs]
  unfold ansX insX nextX
  rw [hf, h, hc, hs, hr]
theorem extract_head (a b : ByteArray) : (a ++ b).extract 0 a.size = a := by
  apply ByteArray.ext
  apply Array.ext'
  rw [ByteArray.data_extract, ByteArray.data_append, Array.toList_extract, List.extract_eq_take_drop, List.drop_zero, Nat.sub_zero, Array.toList_append]
  have h : a.data.toList.length = a.size := by simp
  rw [List.take_append_of_le_length (by rw [h]; exact Nat.le_refl _), List.take_of_length_le (by rw [h]; exact Nat.le_refl _)]
theorem Tryz.infoU8 : (Tryz.prog.info? 5).map (fun i => (i.zero, i.size, i.bytes)) = some (some (.int .u8 0), 1, 1) := by kernel_rfl
set_option maxRecDepth 100000 in
set_option maxHeartbeats 4000000 in
theorem sound_law (k : Nat) (hk : k < 256) (at' : Nat) (va : Value) (ys : List Int) (w : World) (hv : (va = .slice none 0 0 ∧ ys = []) ∨ ∃ x l c, va = .slice (some x) l c ∧ ys.length = l ∧ ∀ j, j < l → w.cell? (x.add j) = some (.int .u8 (ys[j]?.getD 0))) (hf : Fits .u8 ys) (hlen : ys.length ≤ 140737488351232) (hL : Laid w) :
    Calls Tryz.prog 4 #[.int .u8 k, va, .int .u16 at'] w fun e w' => e = .returned (.bool true) ∧ Below w.heap.size w w' := by
  obtain ⟨o1, o2, o3, o4, o5, o6, o7, o8, o9, o10, o11, o12, o13⟩ := note_ok k hk
  have HOF := Lib.hid (fun j (hj : j < 256) W (hl : LaidM W) => of_walk j hj W hl)
  have HFI := Lib.hid (fun W (hl : LaidM W) => find_walk (nameT k) (formT k) W hl)
  have HV := Lib.hid (fun j => show noteV j = .agg #[.int .u8 j, .string (nameT j), .string (formT j), .int .i64 (sizeN j : Nat), .int .i64 (cycT j)] from rfl)
  have HTX := Lib.hid (fun v xs W (hr : Row .u8 W v xs) (hff : Fits .u8 xs) (hl : Laid W) => text_walk v at' xs W hr hff hl)
  have hs := sizeN_le hk
  have HL := Lib.hid hL
  have HOK := Lib.hid (HOF.out k hk w hL.1)
  rw [HV.out k] at HOK
  have HSZ := Lib.hid (fun j (h : formT j = formT k) => show sizeN j = sizeN k by unfold sizeN; rw [h])
  have hnz : (nameT k).data.toList.length = (nameT k).size := by simp
  have hne : ((nameT k).toList == []) = false := by
    rw [beq_eq_false_iff_ne, Lib.toList_data]
    intro e; rw [e] at o11; simp at o11
  obtain ⟨sz, hsz⟩ : ∃ x, sizeN k = x := ⟨_, rfl⟩
  obtain ⟨cy, hcy⟩ : ∃ x, cycT k = x := ⟨_, rfl⟩
  rw [hsz] at HOK HSZ hs
  rw [hcy] at HOK o12 o13
  have b1 : ¬ (sz : Int) < 1 := by omega
  have b2 : ¬ (3 : Int) < (sz : Int) := by omega
  have b3 : ¬ cy < 2 := by omega
  have b4 : ¬ (12 : Int) < cy := by omega
  have d1 := decide_eq_false b1
  have d2 := decide_eq_false b2
  have d3 := decide_eq_false b3
  have d4 := decide_eq_false b4
  obtain ⟨nm, hnm⟩ : ∃ x, nameT k = x := ⟨_, rfl⟩
  obtain ⟨fm, hfm⟩ : ∃ x, formT k = x := ⟨_, rfl⟩
  rw [hnm] at HOK HFI hne hnz o10
  rw [hfm] at HOK HFI HSZ
  have HNM := Lib.hid hnm
  have HFM := Lib.hid hfm
  have HSK := Lib.hid hsz
  clear o1 o2 o3 o4 o5 o6 o7 o8 o9 o11 o12 o13 hL hnm hfm hsz hcy
  go_enter Tryz.func4, Tryz.ntmps4
  go_upto_region 2 with (go_at_call 11; refine HOK.out.mono ?_; rintro e w1 ⟨rfl, hb1⟩)
  obtain ⟨B0, hB0⟩ : ∃ B0, w.heap.size = B0 := ⟨_, rfl⟩
  obtain ⟨NB, hNB⟩ : ∃ NB, w1.heap.size = NB := ⟨_, rfl⟩
  obtain ⟨X, hX⟩ : ∃ X, w1.alloc (.cells #[.int .u8 k, .string nm, .string fm, .int .i64 (sz : Nat), .int .i64 cy] 33) = X := ⟨_, rfl⟩
  have HX := Lib.hid (show Five X NB (.int .u8 k) (.string nm) (.string fm) (.int .i64 (sz : Nat)) (.int .i64 cy) ∧ Below B0 w X ∧ NB < X.heap.size by
    rw [← hX, ← hNB, ← hB0]
    exact ⟨five_new _ _ _ _ _ _ _, hb1.alloc hb1.size _, by simp⟩)
  rw [hX, hNB]
  obtain ⟨x0, x1, x2, x3, x4, xf⟩ := HX.out.1
  have hLX := Lib.hid (HL.out.below (by rw [hB0]; exact HX.out.2.1))
  clear hX hNB hb1 HOK xf
  go_upto_region 5 with (go_at_call 12; refine (HFI.out _ hLX.out.1).mono ?_; rintro e w2 ⟨r, b, rfl, hfa, hb2⟩)
  obtain ⟨k2, hk2, ⟨hn2, hf2⟩, hfirst, rfl, rfl⟩ : ∃ k2, k2 < 256 ∧ IsN nm fm k2 ∧ (∀ j, j < k2 → ¬ IsN nm fm j) ∧ r = (k2 : Int) ∧ b = true := by
    rcases hfa with ⟨k2, h⟩ | ⟨hn, _⟩
    · exact ⟨k2, h⟩
    · exact absurd ⟨HNM.out, HFM.out⟩ (hn k hk)
  have hle : ¬ (k : Int) < (k2 : Int) := by
    intro h
    exact hfirst k (by omega) ⟨HNM.out, HFM.out⟩
  have d5 := decide_eq_false hle
  have d6 : decide (k < k2) = false := decide_eq_false (by omega)
  have hL2 := Lib.hid (hLX.out.below hb2)
  have HO2 := Lib.hid (HOF.out k2 hk2 w2 hL2.out.1)
  rw [HV.out k2, hn2, hf2, HSZ.out k2 hf2] at HO2
  have HX2 := Lib.hid (show Five w2 NB (.int .u8 k) (.string nm) (.string fm) (.int .i64 (sz : Nat)) (.int .i64 cy) ∧ Below B0 w w2 ∧ NB < w2.heap.size from ⟨HX.out.1.below hb2 HX.out.2.2, HX.out.2.1.trans (hb2.mono (by have := HX.out.2.1.size; rw [hB0] at this; exact this)), Nat.lt_of_lt_of_le HX.out.2.2 hb2.size⟩)
  obtain ⟨cy2, hcy2⟩ : ∃ x, cycT k2 = x := ⟨_, rfl⟩
  rw [hcy2] at HO2
  clear x0 x1 x2 x3 x4 HX hLX hb2 HFI HOF HV hfirst hn2 hf2 hcy2 hfa HSZ
  go_upto_region 6 with (go_at_call 11; refine HO2.out.mono ?_; rintro e w3 ⟨rfl, hb3⟩)
  obtain ⟨NC, hNC⟩ : ∃ NC, w3.heap.size = NC := ⟨_, rfl⟩
  obtain ⟨Y, hY⟩ : ∃ Y, w3.alloc (.cells #[.int .u8 k2, .string nm, .string fm, .int .i64 (sz : Nat), .int .i64 cy2] 33) = Y := ⟨_, rfl⟩
  have HY := Lib.hid (show Five Y NC (.int .u8 k2) (.string nm) (.string fm) (.int .i64 (sz : Nat)) (.int .i64 cy2) ∧ Five Y NB (.int .u8 k) (.string nm) (.string fm) (.int .i64 (sz : Nat)) (.int .i64 cy) ∧ Below B0 w Y ∧ NB < Y.heap.size ∧ Laid Y by
    have hb : Below w2.heap.size w2 Y := by rw [← hY]; exact hb3.alloc hb3.size _
    refine ⟨by rw [← hY, ← hNC]; exact five_new _ _ _ _ _ _ _, HX2.out.1.below hb HX2.out.2.2, HX2.out.2.1.trans (hb.mono (by have := HX2.out.2.1.size; rw [hB0] at this; exact this)), Nat.lt_of_lt_of_le HX2.out.2.2 hb.size, hL2.out.below hb⟩)
  rw [hY, hNC]
  obtain ⟨-, y1, y2, y3, -, -⟩ := HY.out.1
  obtain ⟨x0, x1, x2, x3, x4, -⟩ := HY.out.2.1
  clear hY hNC hb3 HO2 HX2 hL2
  go_upto_region 8 with fail
  obtain ⟨i0, hi, hz0, hz1, hz2⟩ := info_parts Tryz.infoU8
  have hi' := Lib.hid hi
  have hz0' := Lib.hid hz0
  have hz1' := Lib.hid hz1
  have hz2' := Lib.hid hz2
  clear hi hz0 hz1 hz2
  go_upto_region 9 with fail
  obtain ⟨B1, hB1⟩ : ∃ B1, Y.heap.size = B1 := ⟨_, rfl⟩
  obtain ⟨Z, hZ⟩ : ∃ Z, Y.alloc (.cells #[.int .u8 (k : Nat)] 5) = Z := ⟨_, rfl⟩
  have HB1 := Lib.hid hB1
  have HZ := Lib.hid (show Below B1 Y Z ∧ Z.ownsRow B1 5 1 (.slice (some ⟨B1, 0, none⟩) 1 1) 1 [.int .u8 (k : Nat)] ∧ B1 ≤ Z.heap.size by
    rw [← hZ, ← hB1]
    exact ⟨(Below.refl _ Y).alloc (Nat.le_refl _) _, ⟨rfl, .inr ⟨_, 1, _, rfl, Nat.le_refl _, World.alloc_heap_new _ _, Nat.le_refl _, by unfold maxLen; omega, rfl, rfl⟩⟩, by simp⟩)
  simp only [hB1, hZ]
  have HV := Lib.hid hv
  have HBY := Lib.hid HY.out.2.2.1
  clear hZ hv
  go_cut [11] from 89 to 91 (fun s11 wx => ∃ g c, s11 = .slice (some ⟨g, 0, none⟩) (1 + ys.length) c ∧ Hid (wx.ownsRow B1 5 1 (.slice (some ⟨g, 0, none⟩) (1 + ys.length) c) (1 + ys.length) ((((k : Nat) : Int) :: ys).map (.int .u8))) ∧ Hid (Below B1 Y wx))
  case first =>
    rcases HV.out with ⟨rfl, rfl⟩ | ⟨x, l, c, rfl, hl, hcell⟩
    · go_wp2_with (at_builtin; refine wpList_append_own_none rfl _ _ 22 rfl B1 5 i0 1 Tryz.underlying22 hi'.out (.slice (some ⟨B1, 0, none⟩) 1 1) 1 _ rfl HZ.out.2.1 rfl ?_)
      go_wp2_with fail
      go_meet
      exact ⟨B1, 1, rfl, Lib.hid HZ.out.2.1, Lib.hid HZ.out.1⟩
    · subst hl
      have hblk : ∀ j, j < ys.length → Z.cell? (x.add j) = some (.int .u8 (ys[j]?.getD 0)) := fun j hj => by
        have h1 := hcell j hj
        have hb : Below B0 w Z := HBY.out.trans (HZ.out.1.mono (by have := HBY.out.size; omega))
        exact (hb.cell (by rw [← hB0]; exact World.block_lt_of_cell? w _ h1)).trans h1
      have HBL := Lib.hid hblk
      clear hcell hblk
      go_wp2_with (at_builtin; refine wpList_append_own _ rfl _ _ 22 rfl B1 5 i0 (.int .u8 0) 1 1 Tryz.underlying22 hi'.out hz0'.out hz1'.out hz2'.out rfl (by decide) (.slice (some ⟨B1, 0, none⟩) 1 1) 1 _ rfl HZ.out.2.1 x ys.length c (ys.map (.int .u8)) rfl (by rw [List.length_map, Nat.mul_one]) ?c1 ?c2 ?c3 ?c4 ?c5 ?_)
      case c1 =>
        intro j u hj
        have hjl : j < ys.length := by have := (List.getElem?_eq_some_iff.1 hj).1; rw [List.length_map] at this; exact this
        rw [HBL.out j hjl]
        rw [List.getElem?_map, List.getElem?_eq_getElem hjl] at hj
        rw [List.getElem?_eq_getElem hjl]
        simpa using hj
      case c2 =>
        intro u hu
        obtain ⟨z, _, rfl⟩ := List.mem_map.1 hu
        rfl
      case c3 => unfold maxLen; omega
      case c4 => omega
      case c5 => exact HZ.out.2.2
      intro v' w4 hown hgrow _
      obtain ⟨g', cap', rfl⟩ : ∃ g' cap', v' = .slice (some ⟨g', 0, none⟩) (1 + ys.length) cap' := by
        rw [Nat.add_comm] at hown ⊢
        exact ownsRow_succ hown
      have HO4 := Lib.hid hown
      have HB4 := Lib.hid (HZ.out.1.grown hgrow HZ.out.2.2 (fun j e => by simp only [Value.ownBlock, Option.some.injEq] at e; omega))
      clear hown hgrow
      go_wp2_with fail
      go_meet
      exact ⟨g', cap', rfl, HO4, HB4⟩
  case rest =>
    obtain ⟨g, c, rfl, HO, HB⟩ := hcut
    have HROW := Lib.hid (Row.owned HO.out).1
    have HFK := Lib.hid (show Fits .u8 (((k : Nat) : Int) :: ys) from fun z hz => by
      rcases List.mem_cons.1 hz with rfl | h
      · simp [Lit.wf, IntKind.min, IntKind.max, IntKind.signed, IntKind.bits]; omega
      · exact hf z h)
    obtain ⟨W5, hW5⟩ : ∃ W5, wc = W5 := ⟨_, rfl⟩
    rw [hW5] at HROW HB HO ⊢
    clear hW5
    have HLW := Lib.hid (HY.out.2.2.2.2.below (by rw [HB1.out]; exact HB.out))
    have HT1 := Lib.hid (HTX.out _ _ W5 HROW.out HFK.out HLW.out)
    clear x0 x1 x2 x3 x4 y1 y2 y3 HV HZ
    have hcode : codeX (((k : Nat) : Int) :: ys) = k := by simp [codeX]
    have HEND := Lib.hid (show Below w.heap.size w W5 from by
      rw [hB0]
      exact HBY.out.trans (HB.out.mono (by have := HBY.out.size; have := HB1.out; omega)))
    have hlx : (((k : Nat) : Int) :: ys).length = 1 + ys.length := by rw [List.length_cons, Nat.add_comm]
    have hB1z : B1 ≤ W5.heap.size := by have := HB.out.size; have := HB1.out; omega
    by_cases hfew : fewX (((k : Nat) : Int) :: ys) = true
    · have HA := Lib.hid (show ansX (((k : Nat) : Int) :: ys) at' = .tuple #[.string ⟨#[]⟩, .int .i64 0, .int .i64 5] by unfold ansX; rw [if_pos hfew])
      rw [HA.out] at HT1
      have hlt : 1 + ys.length < sz := by
        have h : (((k : Nat) : Int) :: ys).length = 0 ∨ (((k : Nat) : Int) :: ys).length < sizeN (codeX (((k : Nat) : Int) :: ys)) := by simpa [fewX] using hfew
        rw [hcode, HSK.out, hlx] at h; omega
      have e1 : (1 : Int) + (ys.length : Int) < (sz : Int) := by omega
      have e2 : ((1 + ys.length : Nat) : Int) < (sz : Int) := by omega
      have hNB : NB < B1 := by rw [← HB1.out]; exact HY.out.2.2.2.1
      obtain ⟨m, hm⟩ : ∃ m, 1 + ys.length = m := ⟨_, rfl⟩
      rw [hm] at HT1 e2 ⊢
      obtain ⟨-, -, -, z3, -, -⟩ := HY.out.2.1
      have q3 := (HB.out.cell (p := ⟨NB, 3, none⟩) hNB).trans z3
      clear e1 hlt hfew hcode z3
      go_upto_region 11 with (go_at_call 7; refine HT1.out.mono ?_; rintro e w6 ⟨rfl, hb6⟩)
      have r3 := (hb6.cell (p := ⟨NB, 3, none⟩) (by show NB < _; omega)).trans q3
      have HFN := Lib.hid (HEND.out.trans (hb6.mono HEND.out.size))
      clear hb6 q3
      go_wp2_with fail
      go_ret
      exact ⟨rfl, HFN.out⟩
    · have hfew := Bool.eq_false_iff.2 hfew
      have HTK := Lib.hid (few_take hfew at')
      rw [hcode, HSK.out] at HTK
      have HA := Lib.hid (show ansX (((k : Nat) : Int) :: ys) at' = .tuple #[.string (bytesB (insX (((k : Nat) : Int) :: ys) at')), .int .i64 (sz : Nat), .int .i64 0] by unfold ansX; rw [if_neg (by rw [hfew]; decide), hcode, HSK.out])
      have hlt : sz ≤ 1 + ys.length := by
        have h : ¬ ((((k : Nat) : Int) :: ys).length = 0 ∨ (((k : Nat) : Int) :: ys).length < sizeN (codeX (((k : Nat) : Int) :: ys))) := by simpa [fewX] using hfew
        rw [hcode, HSK.out, hlx] at h; omega
      rw [HA.out] at HT1 HTK
      have HIN := Lib.hid (show bytesB (insX (((k : Nat) : Int) :: ys) at') = nm ++ bytesB (opsX (codeX (((k : Nat) : Int) :: ys)) (nextX (((k : Nat) : Int) :: ys) at') (restX (((k : Nat) : Int) :: ys)) (formT (codeX (((k : Nat) : Int) :: ys))).size) by
        unfold insX
        rw [hcode, HNM.out, ← bytesB_append, bytesB_list])
      have hisz : (bytesB (insX (((k : Nat) : Int) :: ys) at')).size ≤ 1000 := by
        rw [HIN.out, ByteArray.size_append, bytesB_size]
        have h1 := opsX_length (codeX (((k : Nat) : Int) :: ys)) (nextX (((k : Nat) : Int) :: ys) at') (restX (((k : Nat) : Int) :: ys)) (formT (codeX (((k : Nat) : Int) :: ys))).size
        rw [hcode] at h1 ⊢
        have h2 := (note_ok k hk).2.2.2.2.2.2.2.1
        have h3 : (formT k).data.toList.length = (formT k).size := by simp
        omega
      obtain ⟨I, hI⟩ : ∃ I, bytesB (insX (((k : Nat) : Int) :: ys) at') = I := ⟨_, rfl⟩
      rw [hI] at HT1 HTK HIN hisz
      have hex : I.extract 0 nm.size = nm := by rw [HIN.out]; exact extract_head _ _
      have hni : nm.size ≤ I.size := by rw [HIN.out, ByteArray.size_append]; omega
      have g1 : ¬ (I.size : Int) < (nm.size : Int) := by omega
      have g2 : (0 : Int) ≤ (nm.size : Int) := by omega
      have g3 : (nm.size : Int) ≤ (I.size : Int) := by omega
      have g4 := decide_eq_false g1
      have g5 : decide (I.size < nm.size) = false := decide_eq_false (by omega)
      have g6 := strEq_true (rfl : nm = nm)
      have HR2 := Lib.hid (row_take HROW.out sz (by rw [hlx]; exact hlt))
      have HFK2 := Lib.hid (show Fits .u8 ((((k : Nat) : Int) :: ys).take sz) from fun z hz => HFK.out z (List.mem_of_mem_take hz))
      have e1 : ¬ ((1 + ys.length : Nat) : Int) < (sz : Int) := by omega
      have hcap : 1 + ys.length ≤ c := row_cap HROW.out
      obtain ⟨m, hm⟩ : ∃ m, 1 + ys.length = m := ⟨_, rfl⟩
      rw [hm] at HT1 e1 hcap hlt ⊢
      have e2 : (sz : Int) ≤ (c : Int) := by omega
      have e3 : (0 : Int) ≤ (sz : Int) := by omega
      have hNB : NB < B1 := by rw [← HB1.out]; exact HY.out.2.2.2.1
      obtain ⟨-, z1, -, z3, -, -⟩ := HY.out.2.1
      have q1 := (HB.out.cell (p := ⟨NB, 1, none⟩) hNB).trans z1
      have q3 := (HB.out.cell (p := ⟨NB, 3, none⟩) hNB).trans z3
      clear hfew hcode z1 z3 hI HIN HA
      go_upto_region 11 with (go_at_call 7; refine HT1.out.mono ?_; rintro e w6 ⟨rfl, hb6⟩)
      have r1 := (hb6.cell (p := ⟨NB, 1, none⟩) (by show NB < _; omega)).trans q1
      have r3 := (hb6.cell (p := ⟨NB, 3, none⟩) (by show NB < _; omega)).trans q3
      have HFN := Lib.hid (HEND.out.trans (hb6.mono HEND.out.size))
      have HL6 := Lib.hid (HLW.out.below hb6)
      have HR6 := Lib.hid (HR2.out.below' hb6 (Nat.le_refl _))
      clear hb6 q1 q3
      go_upto_region 13 with fail
      go_cut [139] from 114 to 138 (fun s6 wx => s6 = .bool false ∧ ∃ n6, wx = w6.drewN n6)
      case first =>
        go_quiet (fail)
        all_goals
          go_wp2_with fail
          go_meet
          first
            | exact ⟨rfl, 0, rfl⟩
            | exact ⟨rfl, 1, rfl⟩
            | exact ⟨rfl, _, rfl⟩
      case rest =>
        obtain ⟨rfl, n6, hw7⟩ := hcut
        obtain ⟨W7, hW7⟩ : ∃ W7, wc = W7 := ⟨_, rfl⟩
        rw [hW7] at hw7 ⊢
        have HB7 := Lib.hid (show Below w6.heap.size w6 W7 by rw [hw7]; exact below_drewN (Below.refl _ w6) n6)
        have q3 := (HB7.out.cell (World.block_lt_of_cell? w6 _ r3)).trans r3
        have HT2 := Lib.hid (HTX.out _ _ W7 (HR6.out.below HB7.out) HFK2.out (HL6.out.below HB7.out))
        rw [HTK.out] at HT2
        have HF7 := Lib.hid (HFN.out.trans (HB7.out.mono HFN.out.size))
        have hcz : ¬ c = 0 := by omega
        have g7 := strEq_true (rfl : I = I)
        clear hw7 hW7 r1 r3 HB7
        go_wp2_with (go_at_call 7; refine HT2.out.mono ?_; rintro e w8 ⟨rfl, hb8⟩)
        go_ret
        exact ⟨rfl, HF7.out.trans (hb8.mono HF7.out.size)⟩
theorem sound_any (k : Int) (a : Option Addr) (len cap : Nat) (zs : List Int) (at' : Int) (W : World) (wk : (Lit.int .u8 k).wf = true) (w1 : IsRow .u8 W a len cap zs) (s1 : cap * 1 ≤ 140737488351232) (w2 : (Lit.int .u16 at').wf = true) (hL : Laid W) :
    Calls Tryz.prog 4 #[.int .u8 k, .slice a len cap, .int .u16 at'] W fun e w' => e = .returned (.bool true) ∧ Below W.heap.size W w' := by
  have h1 := bounds_u8 wk
  obtain ⟨k, rfl⟩ := Int.eq_ofNat_of_zero_le h1.1
  have h2 : 0 ≤ at' := by
    simp [Lit.wf, IntKind.min, IntKind.max, IntKind.signed, IntKind.bits] at w2; omega
  obtain ⟨at', rfl⟩ := Int.eq_ofNat_of_zero_le h2
  obtain ⟨hrow, hff, hl, _⟩ := Row.came w1
  rcases w1 with ⟨rfl, rfl, rfl, rfl⟩ | ⟨x, rfl, hle, hm, hz, hcell, hwz⟩
  · exact sound_law k (by omega) at' _ [] W (.inl ⟨rfl, rfl⟩) (fun _ h => absurd h (by simp)) (by simp) hL
  · refine sound_law k (by omega) at' _ (zs.take len) W (.inr ⟨x, len, cap, rfl, hl, fun j hj => ?_⟩) hff (by omega) hL
    have h := hcell j (by omega)
    rw [h, List.getElem?_take_of_lt hj]
    simp
end Go.Proofs.YteabjninmaceaaaGreatDoor
