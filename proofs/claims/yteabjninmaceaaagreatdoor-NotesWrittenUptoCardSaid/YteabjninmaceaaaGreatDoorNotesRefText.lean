/- The text of an instruction: the document's Text. -/
import Derived.Test.YteabjninmaceaaaGreatDoorProg
import Derived.Test.YteabjninmaceaaaGreatDoorNotesTextP
import Derived.Test.YteabjninmaceaaaGreatDoorNotesOperand
import Derived.Test.YteabjninmaceaaaGreatDoorNotesPlaces
import Derived.Test.YteabjninmaceaaaGreatDoorNotesRefOf
import Derived.Deep.RegionHeld3
namespace Go.Proofs.YteabjninmaceaaaGreatDoor
open Go.RowKit
set_option linter.unusedVariables false
set_option linter.unusedSimpArgs false

theorem row_at {W : World} {a : Option Addr} {l c : Nat} {xs : List Int} (h : Row .u8 W (.slice a l c) xs) (hn : 0 < xs.length) : ∃ bk o, a = some ⟨bk, o, none⟩ ∧ l = xs.length ∧ Hid (∀ i, i < xs.length → W.cell? ⟨bk, o + i, none⟩ = some (.int .u8 (xs[i]?.getD 0))) := by
  rcases h with ⟨a', c', e, rfl, hc⟩ | ⟨b, o, c', e, h0, h1, h2, h3⟩
  · simp at hn
  · injection e with e1 e2 e3
    exact ⟨b, o, e1, e2, Lib.hid h3⟩
theorem cell_later {w X w1 : World} (hb : Below X.heap.size X w1) {a : Addr} {v : Value} (h : w.cell? a = some v) (hX : X.heap = w.heap) : w1.cell? a = some v := by
  have h2 : X.cell? a = some v := by unfold World.cell? at h ⊢; rw [hX]; exact h
  exact (hb.cell (World.block_lt_of_cell? X _ h2)).trans h2
set_option maxRecDepth 100000 in
set_option maxHeartbeats 1000000 in
theorem refText_empty (ad : Option Addr) (c : Nat) (at' : Int) (w : World) :
    Calls Tryz.prog 5 #[.slice ad 0 c, .int .u16 at'] w fun e w' => e = .returned (.tuple #[.string ⟨#[]⟩, .int .i64 0, .int .i64 5]) ∧ w' = w := by
  go_enter Tryz.func5, Tryz.ntmps5
  go_wp2_with fail
  refine bodyPost_ret (v := .tuple #[.string ⟨#[]⟩, .int .i64 0, .int .i64 5]) (by simp [results, Tryz.results5, go_sem]) rfl ?_
  exact ⟨rfl, rfl⟩
set_option maxRecDepth 100000 in
set_option maxHeartbeats 1000000 in
theorem refText_short (bk o l c k sz : Nat) (at' : Int) (hk : k < 256) (hsz : sizeN k = sz) (hl0 : 0 < l) (hls : l < sz) (w : World) (hc : w.cell? ⟨bk, o, none⟩ = some (.int .u8 (k : Int))) :
    Calls Tryz.prog 5 #[.slice (some ⟨bk, o, none⟩) l c, .int .u16 at'] w fun e w' => e = .returned (.tuple #[.string ⟨#[]⟩, .int .i64 0, .int .i64 5]) ∧ Below w.heap.size w w' := by
  have HOF := Lib.hid (refOf_walk k hk w)
  have HV := Lib.hid (show noteV k = .agg #[.int .u8 k, .string (nameT k), .string (formT k), .int .i64 (sizeN k : Nat), .int .i64 (cycT k)] from rfl)
  rw [HV.out, hsz] at HOF
  have b0 : ((l : Int) == 0) = false := by rw [beq_eq_false_iff_ne]; omega
  have b1 : (l : Int) < (sz : Int) := by omega
  have b2 : (0 : Int) < (l : Int) := by omega
  obtain ⟨nm, hnm⟩ : ∃ x, nameT k = x := ⟨_, rfl⟩
  obtain ⟨fm, hfm⟩ : ∃ x, formT k = x := ⟨_, rfl⟩
  rw [hnm, hfm] at HOF
  clear HV hnm hfm hsz hls
  go_enter Tryz.func5, Tryz.ntmps5
  go_wp2_with (go_at_call 13; refine HOF.out.mono ?_; rintro e w1 ⟨rfl, hb⟩)
  refine bodyPost_ret (v := .tuple #[.string ⟨#[]⟩, .int .i64 0, .int .i64 5]) (by simp [results, Tryz.results5, go_sem]) rfl ?_
  exact ⟨rfl, hb.alloc hb.size _⟩
/-- An operand's bytes lie where the document says. -/
theorem opnd_at (fm : ByteArray) (xs : List Int) (m i k : Nat) (hi : i < fm.size) (hk : k < widthC (ltr fm i)) (hm : sumW fm.data.toList = m) (hx : m < xs.length) :
    (opnd fm ((xs.drop 1).take m) i)[k]?.getD 0 = xs[plc fm i + k]?.getD 0 ∧ plc fm i + k < 1 + m ∧ 1 ≤ plc fm i ∧ (opnd fm ((xs.drop 1).take m) i).length = widthC (ltr fm i) := by
  have hp : plc fm i + widthC (ltr fm i) ≤ 1 + m ∧ 1 ≤ plc fm i := by
    unfold plc
    rw [ltr_at fm i hi, ← hm]
    by_cases hr : hasC fm 114 0 = true
    · rw [if_pos hr]
      have h1 := sumW_step fm i hi
      have h2 : sumW (fm.data.toList.take (i + 1)) ≤ sumW fm.data.toList := by
        conv => rhs; rw [← List.take_append_drop (i + 1) fm.data.toList]
        exact sumW_le_append _ _
      omega
    · rw [if_neg hr]
      have h1 := sumW_drop fm i hi
      have h2 : sumW (fm.data.toList.drop i) ≤ sumW fm.data.toList := by
        conv => rhs; rw [← List.take_append_drop i fm.data.toList]
        rw [sumW_append]; omega
      omega
  have hl : (opnd fm ((xs.drop 1).take m) i).length = widthC (ltr fm i) := by
    unfold opnd
    rw [List.length_take, List.length_drop, List.length_take, List.length_drop]; omega
  refine ⟨?_, by omega, hp.2, hl⟩
  unfold opnd
  rw [List.getElem?_take_of_lt hk, List.getElem?_drop, List.getElem?_take_of_lt (by omega), List.getElem?_drop]
  congr 2; omega
/-- Big end first, from behind. -/
theorem leL_drop (l : List Int) (k : Nat) (h : k < l.length) : leL (l.drop k) = (l[k]?.getD 0).toNat + 256 * leL (l.drop (k + 1)) := by
  rw [List.drop_eq_getElem_cons h, leL, List.getElem?_eq_getElem h]; rfl
set_option maxRecDepth 100000 in
set_option maxHeartbeats 4000000 in
theorem refText_full (ad : Option Addr) (l c k sz next : Nat) (at' : Int) (xs : List Int) (hk : k < 256) (hsz : sizeN k = sz) (hls : sz ≤ l) (h3 : sz ≤ 3) (w : World) (hr : Row .u8 w (.slice ad l c) xs) (hf : Fits .u8 xs) (hkx : xs[0]?.getD 0 = (k : Int)) (hnx : IntKind.u16.wrap (at' + (sz : Int)) = (next : Int)) (hnl : next < 65536) :
    Calls Tryz.prog 5 #[.slice ad l c, .int .u16 at'] w fun e w' => e = .returned (.tuple #[.string (bytesB ((nameT k).data.toList ++ opsX k next ((xs.drop 1).take (sz - 1)) (formT k).size)), .int .i64 (sz : Nat), .int .i64 0]) ∧ Below w.heap.size w w' := by
  obtain ⟨o1, o2, o3, o4, o5, o6, o7, o8, o9, o10, o11, o12, o13⟩ := note_ok k hk
  have hs1 : 1 ≤ sz := by rw [← hsz]; unfold sizeN; omega
  obtain ⟨bk, o, rfl, hlx, HXC⟩ := row_at hr (by
    rcases hr with ⟨a', c', e, rfl, hc⟩ | ⟨b, o, c', e, h0, h1, h2, h3⟩
    · injection e with e1 e2 e3; omega
    · exact h0)
  have hsw : sumW (formT k).data.toList = sz - 1 := by rw [← hsz]; unfold sizeN; omega
  have hfs : (formT k).size ≤ 2 := by have : (formT k).data.toList.length = (formT k).size := by simp
                                      omega
  have hpla := Lib.hid (fun W => places_walk (formT k) hfs W)
  have HOF := Lib.hid (refOf_walk k hk w)
  have HV := Lib.hid (show noteV k = .agg #[.int .u8 k, .string (nameT k), .string (formT k), .int .i64 (sizeN k : Nat), .int .i64 (cycT k)] from rfl)
  rw [HV.out, hsz] at HOF
  have HLT := Lib.hid (fun (b : UInt8) (hb : b ∈ (formT k).data.toList) => form_letter k hk b hb)
  have HOA := Lib.hid (fun i j (hi : i < (formT k).size) (hj : j < widthC (ltr (formT k) i)) => opnd_at (formT k) xs (sz - 1) i j hi hj hsw (by omega))
  have HSX := Lib.hid (fun i => show sayX k next ((xs.drop 1).take (sz - 1)) i = opL (ltr (formT k) i).toNat k next (leL (opnd (formT k) ((xs.drop 1).take (sz - 1)) i)) from rfl)
  have HFO := Lib.hid (fun i => show ∀ z ∈ opnd (formT k) ((xs.drop 1).take (sz - 1)) i, 0 ≤ z ∧ z ≤ 255 from fun z hz => bounds_u8 (hf z (List.mem_of_mem_drop (List.mem_of_mem_take (List.mem_of_mem_drop (List.mem_of_mem_take hz))))))
  have HOL := Lib.hid (fun i => show (opnd (formT k) ((xs.drop 1).take (sz - 1)) i).length ≤ widthC (ltr (formT k) i) from by unfold opnd; rw [List.length_take]; omega)
  obtain ⟨nm, hnm⟩ : ∃ x, nameT k = x := ⟨_, rfl⟩
  obtain ⟨fm, hfm⟩ : ∃ x, formT k = x := ⟨_, rfl⟩
  obtain ⟨cy, hcy⟩ : ∃ x, cycT k = x := ⟨_, rfl⟩
  obtain ⟨ys, hys⟩ : ∃ x, (xs.drop 1).take (sz - 1) = x := ⟨_, rfl⟩
  rw [hcy] at HOF
  rw [hnm] at HOF o10
  rw [hfm] at HOF HLT HSX hfs hpla HOA HFO HOL
  rw [hys] at HSX HOA HFO HOL
  rw [hnm, hfm, hys]
  have hnz : nm.size ≤ 5 := by have : nm.data.toList.length = nm.size := by simp
                               omega
  have c0 := HXC.out 0 (by omega)
  rw [hkx, Nat.add_zero] at c0
  have b0 : ((l : Int) == 0) = false := by rw [beq_eq_false_iff_ne]; omega
  have b1 : ¬ (l : Int) < (sz : Int) := by omega
  have b2 : (0 : Int) < (l : Int) := by omega
  have hwz : IntKind.u16.wrap (sz : Int) = (sz : Int) := by simp [IntKind.wrap, IntKind.bits, IntKind.signed]; omega
  have HF := Lib.hid hf
  have HLX := Lib.hid hlx
  clear hlx o1 o2 o3 o4 o5 o6 o7 o8 o9 o10 o11 o12 o13 hr hf hkx HV hnm hfm hys hcy hsz hsw
  obtain ⟨n, hn⟩ : ∃ n, fm.size = n := ⟨_, rfl⟩
  rw [hn] at hfs hpla HOA
  go_enter Tryz.func5, Tryz.ntmps5
  go_upto_region 4 with (go_at_call 13; refine HOF.out.mono ?_; rintro e w1 ⟨rfl, hb1⟩)
  obtain ⟨B0, hB0⟩ : ∃ B0, w.heap.size = B0 := ⟨_, rfl⟩
  obtain ⟨NB, hNB⟩ : ∃ NB, w1.heap.size = NB := ⟨_, rfl⟩
  obtain ⟨X, hX⟩ : ∃ X, w1.alloc (.cells #[.int .u8 k, .string nm, .string fm, .int .i64 (sz : Nat), .int .i64 cy] 33) = X := ⟨_, rfl⟩
  have HX := Lib.hid (show Five X NB (.int .u8 k) (.string nm) (.string fm) (.int .i64 (sz : Nat)) (.int .i64 cy) ∧ Below B0 w X ∧ NB < X.heap.size by
    rw [← hX, ← hNB, ← hB0]
    exact ⟨five_new _ _ _ _ _ _ _, hb1.alloc hb1.size _, by simp⟩)
  rw [hX, hNB]
  obtain ⟨x0, x1, x2, x3, x4, xf⟩ := HX.out.1
  clear hX hNB hb1 HOF
  go_upto_region 9 with (go_at_call 14; refine (hpla.out _).mono ?_; rintro e W1 ⟨g, rfl, hge, hI, hb2⟩)
  have HY := Lib.hid (show Five W1 NB (.int .u8 k) (.string nm) (.string fm) (.int .i64 (sz : Nat)) (.int .i64 cy) ∧ Below B0 w W1 ∧ NB < W1.heap.size from ⟨HX.out.1.below hb2 HX.out.2.2, HX.out.2.1.trans (hb2.mono (by have := HX.out.2.1.size; rw [hB0] at this; exact this)), Nat.lt_of_lt_of_le HX.out.2.2 hb2.size⟩)
  clear x0 x1 x2 x3 x4 xf hb2 HX hpla hge
  obtain ⟨B1, hB1⟩ : ∃ B1, W1.heap.size = B1 := ⟨_, rfl⟩
  have HBX := Lib.hid (fun W (h : Below B1 W1 W) => show W.cell? ⟨NB, 1, none⟩ = some (.string nm) ∧ W.cell? ⟨NB, 2, none⟩ = some (.string fm) ∧ W.cell? ⟨NB, 3, none⟩ = some (.int .i64 (sz : Nat)) from by
    have hNB : NB < B1 := by rw [← hB1]; exact HY.out.2.2
    obtain ⟨z0, z1, z2, z3, z4, zf⟩ := HY.out.1
    exact ⟨(h.cell (p := ⟨NB, 1, none⟩) hNB).trans z1, (h.cell (p := ⟨NB, 2, none⟩) hNB).trans z2, (h.cell (p := ⟨NB, 3, none⟩) hNB).trans z3⟩)
  have HXY := Lib.hid (fun W (h : Below B1 W1 W) j (hj : j < xs.length) => show W.cell? ⟨bk, o + j, none⟩ = some (.int .u8 (xs[j]?.getD 0)) from by
    have h1 := HXC.out j hj
    have h2 := (HY.out.2.1.cell (p := ⟨bk, o + j, none⟩) (by rw [← hB0]; exact World.block_lt_of_cell? w _ h1)).trans h1
    exact (h.cell (p := ⟨bk, o + j, none⟩) (by rw [← hB1]; exact World.block_lt_of_cell? W1 _ h2)).trans h2)
  have HC0 := Lib.hid (fun W (h : Below B1 W1 W) => show W.cell? ⟨bk, o, none⟩ = some (.int .u8 (k : Int)) from by
    have h2 := (HY.out.2.1.cell (p := ⟨bk, o, none⟩) (by rw [← hB0]; exact World.block_lt_of_cell? w _ c0)).trans c0
    exact (h.cell (p := ⟨bk, o, none⟩) (by rw [← hB1]; exact World.block_lt_of_cell? W1 _ h2)).trans h2)
  have HPY := Lib.hid (fun W (h : Below B1 W1 W) i (hi : i < n) => show W.cell? ⟨g, i, none⟩ = some (.int .i64 (plc fm i : Nat)) from by
    have hc := hI.2.2 i hi trivial
    exact (h.cell (p := ⟨g, i, none⟩) (by rw [← hB1]; exact World.block_lt_of_cell? W1 _ hc)).trans hc)
  have hbb1 : ∀ W, Below B1 W1 W → B1 ≤ W.heap.size := fun W h => by have := h.size; omega
  clear c0 hI HXC
  try rw [hn]
  go_loopw [8, 10] (fun s8 s10 wr => ∃ (i : Nat) (S : ByteArray), i ≤ n ∧ s10 = .int .i64 i ∧ s8 = .string S ∧ S.size ≤ 5 + 10 * i ∧ Hid (S = bytesB (nm.data.toList ++ opsX k next ys i)) ∧ Hid (Below B1 W1 wr)) (fun _ s10 _ => n - (intOf s10).toNat)
  case atStart => exact ⟨0, nm, Nat.zero_le _, rfl, rfl, by omega, Lib.hid (by rw [opsX, List.append_nil, bytesB_list]), Lib.hid (by rw [← hB1]; exact Below.refl _ _)⟩
  case round =>
    obtain ⟨i, S, hi, rfl, rfl, hS, HS, HB⟩ := hrel
    obtain ⟨y1, y2, y3⟩ := HBX.out _ HB.out
    by_cases hlt : i < n
    · have i1 : (i : Int) < (n : Int) := by omega
      have hif : i < fm.size := by rw [hn]; exact hlt
      have hmem : (fm[i]'hif) ∈ fm.data.toList := by show fm.data[i] ∈ fm.data.toList; rw [← Array.getElem_toList]; exact List.getElem_mem _
      have hxl := HLT.out _ hmem
      have hlt1 := ltr_at fm i hif
      have hwn := widthN_byte (fm[i]'hif)
      have hx256 : (fm[i]'hif).toNat < 256 := UInt8.toNat_lt _
      have hc2 := widthC_le (fm[i]'hif)
      have hsx := HSX.out i
      have hol := HOL.out i
      have hoa := fun j => HOA.out i j hlt
      rw [hlt1] at hsx hol hoa
      obtain ⟨x, hx⟩ : ∃ x, (fm[i]'hif).toNat = x := ⟨_, rfl⟩
      rw [hx] at hxl hwn hx256 hsx
      have HWW := Lib.hid (fun W => refWidth_walk x hx256 W)
      rw [hwn] at HWW
      obtain ⟨wn, hwnn⟩ : ∃ wn, widthC (fm[i]'hif) = wn := ⟨_, rfl⟩
      rw [hwnn] at HWW hc2 hol hoa
      have hfo := HFO.out i
      obtain ⟨bs, hbs⟩ : ∃ bs, opnd fm ys i = bs := ⟨_, rfl⟩
      rw [hbs] at hsx hol hfo hoa
      have HOA2 := Lib.hid hoa
      have HSX2 := Lib.hid hsx
      have HFO2 := Lib.hid hfo
      have HXL := Lib.hid hxl
      have HC9 := Lib.hid (show x = 114 → wn ≤ 1 by
        intro h
        rw [← hwnn, ← hwn, h]; decide)
      have hbl : 0 < wn → bs.length = wn := fun h => (hoa 0 h).2.2.2
      have HLB := Lib.hid (show bs.length = wn by
        rcases Nat.eq_zero_or_pos wn with h | h
        · omega
        · exact hbl h)
      clear hmem hlt1 hsx hol hfo hoa hxl hbl hwn hwnn hbs
      have hxb : (fm[i]'hif).toNat = x := hx
      clear hx
      have i0 : IntKind.i64.wrap ((wn : Int) - 1) = (wn : Int) - 1 := IntWalk.i64_in _ (by omega)
      go_upto_region 13 with (go_at_call 15; refine (HWW.out _).mono ?_; rintro e w1 ⟨rfl, hw1⟩; obtain rfl := hw1.symm)
      go_loopw [11, 12] (fun s11 s12 wi => ∃ (j v : Nat), j ≤ wn ∧ v < 256 ^ (wn - j) ∧ s12 = .int .i64 ((j : Int) - 1) ∧ s11 = .int .i64 v ∧ Hid (v = leL (bs.drop j)) ∧ wi = wr) (fun _ s12 _ => (intOf s12 + 1).toNat)
      case atStart => exact ⟨wn, 0, Nat.le_refl _, by simp, rfl, rfl, Lib.hid (by rw [List.drop_of_length_le (by rw [HLB.out]; exact Nat.le_refl _)]; rfl), rfl⟩
      case round =>
        obtain ⟨j, v, hj, hv, rfl, rfl, HV, rfl⟩ := hrel
        by_cases hj0 : 0 < j
        · obtain ⟨m, rfl⟩ : ∃ m, j = m + 1 := ⟨j - 1, by omega⟩
          have e1 : (((m + 1 : Nat) : Int) - 1) = (m : Int) := by omega
          rw [e1]
          have j0 : (0 : Int) ≤ (m : Int) := by omega
          have hmw : m < wn := by omega
          obtain ⟨q1, q2, q3, q4⟩ := HOA2.out m hmw
          have hp := HPY.out _ HB.out i hlt
          obtain ⟨p, hpp⟩ : ∃ p, plc fm i = p := ⟨_, rfl⟩
          rw [hpp] at q1 q2 q3 hp
          obtain ⟨t, ht⟩ : ∃ t, p + m = t := ⟨_, rfl⟩
          rw [ht] at q1 q2
          have hxc := HXY.out _ HB.out t (by have := HLX.out; omega)
          rw [← q1] at hxc
          have hmb : m < bs.length := by rw [HLB.out]; exact hmw
          have hfb := HFO2.out _ (getD_mem hmb)
          obtain ⟨y, hy⟩ := Int.eq_ofNat_of_zero_le hfb.1
          rw [hy] at hxc hfb
          have HV2 := Lib.hid (show 256 * v + y = leL (bs.drop m) by
            rw [leL_drop bs m hmb, hy, Int.toNat_natCast, ← HV.out]; omega)
          have hy2 : y < 256 := by omega
          have hvb : v < 256 := by
            have : wn - (m + 1) ≤ 1 := by omega
            exact Nat.lt_of_lt_of_le hv (Nat.le_trans (Nat.pow_le_pow_right (by decide) this) (by decide))
          have hvn : 256 * v + y < 256 ^ (wn - m) := by
            rw [show wn - m = (wn - (m + 1)) + 1 by omega, Nat.pow_succ]; omega
          have k1 : IntKind.i64.wrap (256 * (v : Int)) = 256 * (v : Int) := IntWalk.i64_in _ (by omega)
          have k2 : IntKind.i64.wrap ((p : Int) + (m : Int)) = (t : Int) := by rw [IntWalk.i64_in _ (by omega)]; omega
          have k3 : IntKind.i64.wrap (256 * (v : Int) + (y : Int)) = ((256 * v + y : Nat) : Int) := by rw [IntWalk.i64_in _ (by omega)]; rfl
          have k4 : IntKind.i64.wrap ((m : Int) - 1) = (m : Int) - 1 := IntWalk.i64_in _ (by omega)
          have k5 : (t : Int) < (l : Int) := by have := HLX.out; omega
          have k6 : (0 : Int) ≤ (t : Int) := by omega
          obtain ⟨v2, hv2⟩ : ∃ v2, 256 * v + y = v2 := ⟨_, rfl⟩
          rw [hv2] at HV2 hvn k3
          clear q1 q2 q3 q4 hpp hmb hfb hy HV hv ht
          go_wp2_with fail
          go_roundw
          case rel => exact ⟨m, v2, by omega, hvn, rfl, rfl, HV2, trivial⟩
          case measure => simp [intOf]
        · obtain rfl : j = 0 := by omega
          have e1 : (((0 : Nat) : Int) - 1) = -1 := by omega
          rw [e1]
          rw [Nat.sub_zero] at hv
          have hv6 : v < 65536 := Nat.lt_of_lt_of_le hv (Nat.le_trans (Nat.pow_le_pow_right (by decide) hc2) (by decide))
          have hv8 : x = 114 → v < 256 := fun h => Nat.lt_of_lt_of_le hv (Nat.le_trans (Nat.pow_le_pow_right (by decide) (HC9.out h)) (by decide))
          have HOP := Lib.hid (fun W => operand_walk x k next v HXL.out hk hnl hv6 hv8 W)
          have HVV := Lib.hid (show opL x k next v = sayX k next ys i by rw [HSX2.out, HV.out, List.drop_zero])
          rw [HVV.out] at HOP
          have hz9 : (bytesB (sayX k next ys i)).size ≤ 9 := by rw [bytesB_size]; exact sayX_length _ _ _ _
          obtain ⟨R, hR⟩ : ∃ R, bytesB (sayX k next ys i) = R := ⟨_, rfl⟩
          rw [hR] at HOP hz9
          have HR := Lib.hid hR
          have hc0 := HC0.out _ HB.out
          have hmx : Tryz.prog.follows .mixedOrders = true := by kernel_rfl
          have i3 : IntKind.i64.wrap ((i : Int) + 1) = ((i + 1 : Nat) : Int) := by rw [IntWalk.i64_in _ (by omega)]; rfl
          clear hR hv hv6 hv8 HV
          by_cases hi0 : i = 0
          · have e2 : ((i : Int) == 0) = true := by rw [hi0]; rfl
            have HE := Lib.hid (show (S ++ (⟨#[32]⟩ : ByteArray)) ++ R = bytesB (nm.data.toList ++ opsX k next ys (i + 1)) by
              rw [opsX, if_pos hi0, HS.out, ← HR.out, show (⟨#[32]⟩ : ByteArray) = bytesB [32] from rfl, bytesB_append, bytesB_append, List.append_assoc, List.append_assoc]; rfl)
            clear HLT HOL HFO HSX HF HLX HOA HXY HPY HY HOA2 HSX2 HFO2 HXL HC9 HLB HWW HVV HS HR hw1 i0 hs1 hls h3 b0 hnz hc2 hx256 e1 hi0
            go_upto_region 19 with fail
            have hl0 : 0 < l := by omega
            have hq1 : ¬ 9223372036854775807 < S.size + 1 + R.size := by omega
            refine wp_region_held_drew (S := fun W => Below B1 W1 W) (by kernel_rfl) HB.out.drew (fun hHeld => ?_)
            obtain ⟨Z, hZ⟩ : ∃ Z, wr.drew = Z := ⟨_, rfl⟩
            rw [hZ] at hHeld ⊢
            clear y1 y2 y3 hc0
            refine wpAnyH_take (i := 0) (v := ?_) rfl (by kernel_rfl) (by kernel_rfl) (by kernel_rfl) (fun _ _ _ h => h) (Or.inl ⟨by rfl, ?_⟩) (by assumption) ?_
            rotate_left
            focus
              intro wq hSw
              go_simp
              try with_reducible rfl
            try simp only [Act.put, List.setIfInBounds_toArray, List.set_cons_zero, List.set_cons_succ]
            refine wpAnyH_take (i := 1) (v := ?_) rfl (by kernel_rfl) (by kernel_rfl) (by kernel_rfl) (fun _ _ _ h => h) (Or.inl ⟨by rfl, ?_⟩) (by assumption) ?_
            rotate_left
            focus
              intro wq hSw
              go_simp
              try with_reducible rfl
            try simp only [Act.put, List.setIfInBounds_toArray, List.set_cons_zero, List.set_cons_succ]
            refine wpAnyH_take (i := 2) (v := ?_) rfl (by kernel_rfl) (by kernel_rfl) (by kernel_rfl) (fun _ _ _ h => h) (Or.inl ⟨by rfl, ?_⟩) (by assumption) ?_
            rotate_left
            focus
              intro wq hSw
              have g2 := (HBX.out wq hSw).2.1
              go_simp
              try with_reducible rfl
            try simp only [Act.put, List.setIfInBounds_toArray, List.set_cons_zero, List.set_cons_succ]
            refine wpAnyH_take (i := 3) (v := ?_) rfl (by kernel_rfl) (by kernel_rfl) (by kernel_rfl) (fun _ _ _ h => h) (Or.inl ⟨by rfl, ?_⟩) (by assumption) ?_
            rotate_left
            focus
              intro wq hSw
              go_simp
              try with_reducible rfl
            try simp only [Act.put, List.setIfInBounds_toArray, List.set_cons_zero, List.set_cons_succ]
            refine wpAnyH_take (i := 4) (v := ?_) rfl (by kernel_rfl) (by kernel_rfl) (by kernel_rfl) (fun _ _ _ h => h) (Or.inl ⟨by rfl, ?_⟩) (by assumption) ?_
            rotate_left
            focus
              intro wq hSw
              go_simp
              try with_reducible rfl
            try simp only [Act.put, List.setIfInBounds_toArray, List.set_cons_zero, List.set_cons_succ]
            refine wpAnyH_take (i := 5) (v := ?_) rfl (by kernel_rfl) (by kernel_rfl) (by kernel_rfl) (fun _ _ _ h => h) (Or.inl ⟨by rfl, ?_⟩) (by assumption) ?_
            rotate_left
            focus
              intro wq hSw
              go_simp
              try with_reducible rfl
            try simp only [Act.put, List.setIfInBounds_toArray, List.set_cons_zero, List.set_cons_succ]
            refine wpAnyH_take (i := 6) (v := ?_) rfl (by kernel_rfl) (by kernel_rfl) (by kernel_rfl) (fun _ _ _ h => h) (Or.inl ⟨by rfl, ?_⟩) (by assumption) ?_
            rotate_left
            focus
              intro wq hSw
              go_simp
              try with_reducible rfl
            try simp only [Act.put, List.setIfInBounds_toArray, List.set_cons_zero, List.set_cons_succ]
            refine wpAnyH_take (i := 7) (v := ?_) rfl (by kernel_rfl) (by kernel_rfl) (by kernel_rfl) (fun _ _ _ h => h) (Or.inl ⟨by rfl, ?_⟩) (by assumption) ?_
            rotate_left
            focus
              intro wq hSw
              go_simp
              try rw [if_pos hl0]
              try with_reducible rfl
            try simp only [Act.put, List.setIfInBounds_toArray, List.set_cons_zero, List.set_cons_succ]
            refine wpAnyH_take (i := 8) (v := ?_) rfl (by kernel_rfl) (by kernel_rfl) (by kernel_rfl) (fun _ _ _ h => h) (Or.inl ⟨by rfl, ?_⟩) (by assumption) ?_
            rotate_left
            focus
              intro wq hSw
              have hcc := HC0.out wq hSw
              go_simp
              try with_reducible rfl
            try simp only [Act.put, List.setIfInBounds_toArray, List.set_cons_zero, List.set_cons_succ]
            refine wpAnyH_take (i := 9) (v := ?_) rfl (by kernel_rfl) (by kernel_rfl) (by kernel_rfl) (fun _ _ _ h => h) (Or.inl ⟨by rfl, ?_⟩) (by assumption) ?_
            rotate_left
            focus
              intro wq hSw
              go_simp
              try with_reducible rfl
            try simp only [Act.put, List.setIfInBounds_toArray, List.set_cons_zero, List.set_cons_succ]
            refine wpAnyH_take (i := 10) (v := ?_) rfl (by kernel_rfl) (by kernel_rfl) (by kernel_rfl) (fun _ _ _ h => h) (Or.inl ⟨by rfl, ?_⟩) (by assumption) ?_
            rotate_left
            focus
              intro wq hSw
              go_simp
              try with_reducible rfl
            try simp only [Act.put, List.setIfInBounds_toArray, List.set_cons_zero, List.set_cons_succ]
            refine wpAnyH_take (i := 11) (v := ?_) rfl (by kernel_rfl) (by kernel_rfl) (by kernel_rfl) (fun _ _ _ h => h) (Or.inl ⟨by rfl, ?_⟩) (by assumption) ?_
            rotate_left
            focus
              intro wq hSw
              have g3 := (HBX.out wq hSw).2.2
              go_simp
              try with_reducible rfl
            try simp only [Act.put, List.setIfInBounds_toArray, List.set_cons_zero, List.set_cons_succ]
            refine wpAnyH_take (i := 12) (v := ?_) rfl (by kernel_rfl) (by kernel_rfl) (by kernel_rfl) (fun _ _ _ h => h) (Or.inl ⟨by rfl, ?_⟩) (by assumption) ?_
            rotate_left
            focus
              intro wq hSw
              go_simp
              try with_reducible rfl
            try simp only [Act.put, List.setIfInBounds_toArray, List.set_cons_zero, List.set_cons_succ]
            refine wpAnyH_take (i := 13) (v := ?_) rfl (by kernel_rfl) (by kernel_rfl) (by kernel_rfl) (fun _ _ _ h => h) (Or.inl ⟨by rfl, ?_⟩) (by assumption) ?_
            rotate_left
            focus
              intro wq hSw
              go_simp
              try with_reducible rfl
            try simp only [Act.put, List.setIfInBounds_toArray, List.set_cons_zero, List.set_cons_succ]
            refine wpAnyH_ready (rs := [14]) (by kernel_rfl) (by simp) ?_
            refine AllReadyH.cons rfl (fun K hK => ?_) AllReadyH.nil
            go_simp
            refine (HOP.out _).mono ?_
            rintro e w5 ⟨rfl, hbb⟩
            dsimp only
            have hB5 : Below B1 W1 w5 := hHeld.trans (hbb.mono (hbb1 _ hHeld))
            refine hK.out _ _ ?s2 (fun hHeld2 => ?_)
            case s2 => exact hB5
            clear hK K hHeld2 hHeld hbb HOP
            try simp only [Act.put, List.setIfInBounds_toArray, List.set_cons_zero, List.set_cons_succ]
            refine wpAnyH_ready (rs := [15]) (by kernel_rfl) (by simp) ?_
            refine AllReadyH.cons rfl (fun K hK => ?_) AllReadyH.nil
            go_simp
            refine hK.out _ _ ?s3 (fun hHeld2 => ?_)
            case s3 => exact hB5
            clear hK K hHeld2
            try simp only [Act.put, List.setIfInBounds_toArray, List.set_cons_zero, List.set_cons_succ]
            refine wpAnyH_ready (rs := [16]) (by kernel_rfl) (by simp) ?_
            refine AllReadyH.cons rfl (fun K hK => ?_) AllReadyH.nil
            go_simp
            refine hK.out _ _ ?s4 (fun hHeld2 => ?_)
            case s4 => exact hB5
            clear hK K hHeld2
            try simp only [Act.put, List.setIfInBounds_toArray, List.set_cons_zero, List.set_cons_succ]
            refine wpAnyH_done (by kernel_rfl) ?_ _
            have HBN := Lib.hid hB5
            clear hB5 hZ
            go_wp2_with fail
            go_roundw
            case rel => exact ⟨i + 1, _, by omega, by go_num, rfl, by rw [ByteArray.size_append, ByteArray.size_append]; have : (⟨#[32]⟩ : ByteArray).size = 1 := rfl; omega, HE, HBN⟩
            case measure => simp [intOf]; omega
          · have e2 : ((i : Int) == 0) = false := by rw [beq_eq_false_iff_ne]; omega
            have HE := Lib.hid (show (S ++ (⟨#[44]⟩ : ByteArray)) ++ R = bytesB (nm.data.toList ++ opsX k next ys (i + 1)) by
              rw [opsX, if_neg hi0, HS.out, ← HR.out, show (⟨#[44]⟩ : ByteArray) = bytesB [44] from rfl, bytesB_append, bytesB_append, List.append_assoc, List.append_assoc]; rfl)
            clear HLT HOL HFO HSX HF HLX HOA HXY HPY HY HOA2 HSX2 HFO2 HXL HC9 HLB HWW HVV HS HR hw1 i0 hs1 hls h3 b0 hnz hc2 hx256 e1 hi0
            go_upto_region 19 with fail
            have hl0 : 0 < l := by omega
            have hq1 : ¬ 9223372036854775807 < S.size + 1 + R.size := by omega
            refine wp_region_held_drew (S := fun W => Below B1 W1 W) (by kernel_rfl) HB.out.drew (fun hHeld => ?_)
            obtain ⟨Z, hZ⟩ : ∃ Z, wr.drew = Z := ⟨_, rfl⟩
            rw [hZ] at hHeld ⊢
            clear y1 y2 y3 hc0
            refine wpAnyH_take (i := 0) (v := ?_) rfl (by kernel_rfl) (by kernel_rfl) (by kernel_rfl) (fun _ _ _ h => h) (Or.inl ⟨by rfl, ?_⟩) (by assumption) ?_
            rotate_left
            focus
              intro wq hSw
              go_simp
              try with_reducible rfl
            try simp only [Act.put, List.setIfInBounds_toArray, List.set_cons_zero, List.set_cons_succ]
            refine wpAnyH_take (i := 1) (v := ?_) rfl (by kernel_rfl) (by kernel_rfl) (by kernel_rfl) (fun _ _ _ h => h) (Or.inl ⟨by rfl, ?_⟩) (by assumption) ?_
            rotate_left
            focus
              intro wq hSw
              go_simp
              try with_reducible rfl
            try simp only [Act.put, List.setIfInBounds_toArray, List.set_cons_zero, List.set_cons_succ]
            refine wpAnyH_take (i := 2) (v := ?_) rfl (by kernel_rfl) (by kernel_rfl) (by kernel_rfl) (fun _ _ _ h => h) (Or.inl ⟨by rfl, ?_⟩) (by assumption) ?_
            rotate_left
            focus
              intro wq hSw
              have g2 := (HBX.out wq hSw).2.1
              go_simp
              try with_reducible rfl
            try simp only [Act.put, List.setIfInBounds_toArray, List.set_cons_zero, List.set_cons_succ]
            refine wpAnyH_take (i := 3) (v := ?_) rfl (by kernel_rfl) (by kernel_rfl) (by kernel_rfl) (fun _ _ _ h => h) (Or.inl ⟨by rfl, ?_⟩) (by assumption) ?_
            rotate_left
            focus
              intro wq hSw
              go_simp
              try with_reducible rfl
            try simp only [Act.put, List.setIfInBounds_toArray, List.set_cons_zero, List.set_cons_succ]
            refine wpAnyH_take (i := 4) (v := ?_) rfl (by kernel_rfl) (by kernel_rfl) (by kernel_rfl) (fun _ _ _ h => h) (Or.inl ⟨by rfl, ?_⟩) (by assumption) ?_
            rotate_left
            focus
              intro wq hSw
              go_simp
              try with_reducible rfl
            try simp only [Act.put, List.setIfInBounds_toArray, List.set_cons_zero, List.set_cons_succ]
            refine wpAnyH_take (i := 5) (v := ?_) rfl (by kernel_rfl) (by kernel_rfl) (by kernel_rfl) (fun _ _ _ h => h) (Or.inl ⟨by rfl, ?_⟩) (by assumption) ?_
            rotate_left
            focus
              intro wq hSw
              go_simp
              try with_reducible rfl
            try simp only [Act.put, List.setIfInBounds_toArray, List.set_cons_zero, List.set_cons_succ]
            refine wpAnyH_take (i := 6) (v := ?_) rfl (by kernel_rfl) (by kernel_rfl) (by kernel_rfl) (fun _ _ _ h => h) (Or.inl ⟨by rfl, ?_⟩) (by assumption) ?_
            rotate_left
            focus
              intro wq hSw
              go_simp
              try with_reducible rfl
            try simp only [Act.put, List.setIfInBounds_toArray, List.set_cons_zero, List.set_cons_succ]
            refine wpAnyH_take (i := 7) (v := ?_) rfl (by kernel_rfl) (by kernel_rfl) (by kernel_rfl) (fun _ _ _ h => h) (Or.inl ⟨by rfl, ?_⟩) (by assumption) ?_
            rotate_left
            focus
              intro wq hSw
              go_simp
              try rw [if_pos hl0]
              try with_reducible rfl
            try simp only [Act.put, List.setIfInBounds_toArray, List.set_cons_zero, List.set_cons_succ]
            refine wpAnyH_take (i := 8) (v := ?_) rfl (by kernel_rfl) (by kernel_rfl) (by kernel_rfl) (fun _ _ _ h => h) (Or.inl ⟨by rfl, ?_⟩) (by assumption) ?_
            rotate_left
            focus
              intro wq hSw
              have hcc := HC0.out wq hSw
              go_simp
              try with_reducible rfl
            try simp only [Act.put, List.setIfInBounds_toArray, List.set_cons_zero, List.set_cons_succ]
            refine wpAnyH_take (i := 9) (v := ?_) rfl (by kernel_rfl) (by kernel_rfl) (by kernel_rfl) (fun _ _ _ h => h) (Or.inl ⟨by rfl, ?_⟩) (by assumption) ?_
            rotate_left
            focus
              intro wq hSw
              go_simp
              try with_reducible rfl
            try simp only [Act.put, List.setIfInBounds_toArray, List.set_cons_zero, List.set_cons_succ]
            refine wpAnyH_take (i := 10) (v := ?_) rfl (by kernel_rfl) (by kernel_rfl) (by kernel_rfl) (fun _ _ _ h => h) (Or.inl ⟨by rfl, ?_⟩) (by assumption) ?_
            rotate_left
            focus
              intro wq hSw
              go_simp
              try with_reducible rfl
            try simp only [Act.put, List.setIfInBounds_toArray, List.set_cons_zero, List.set_cons_succ]
            refine wpAnyH_take (i := 11) (v := ?_) rfl (by kernel_rfl) (by kernel_rfl) (by kernel_rfl) (fun _ _ _ h => h) (Or.inl ⟨by rfl, ?_⟩) (by assumption) ?_
            rotate_left
            focus
              intro wq hSw
              have g3 := (HBX.out wq hSw).2.2
              go_simp
              try with_reducible rfl
            try simp only [Act.put, List.setIfInBounds_toArray, List.set_cons_zero, List.set_cons_succ]
            refine wpAnyH_take (i := 12) (v := ?_) rfl (by kernel_rfl) (by kernel_rfl) (by kernel_rfl) (fun _ _ _ h => h) (Or.inl ⟨by rfl, ?_⟩) (by assumption) ?_
            rotate_left
            focus
              intro wq hSw
              go_simp
              try with_reducible rfl
            try simp only [Act.put, List.setIfInBounds_toArray, List.set_cons_zero, List.set_cons_succ]
            refine wpAnyH_take (i := 13) (v := ?_) rfl (by kernel_rfl) (by kernel_rfl) (by kernel_rfl) (fun _ _ _ h => h) (Or.inl ⟨by rfl, ?_⟩) (by assumption) ?_
            rotate_left
            focus
              intro wq hSw
              go_simp
              try with_reducible rfl
            try simp only [Act.put, List.setIfInBounds_toArray, List.set_cons_zero, List.set_cons_succ]
            refine wpAnyH_ready (rs := [14]) (by kernel_rfl) (by simp) ?_
            refine AllReadyH.cons rfl (fun K hK => ?_) AllReadyH.nil
            go_simp
            refine (HOP.out _).mono ?_
            rintro e w5 ⟨rfl, hbb⟩
            dsimp only
            have hB5 : Below B1 W1 w5 := hHeld.trans (hbb.mono (hbb1 _ hHeld))
            refine hK.out _ _ ?s2 (fun hHeld2 => ?_)
            case s2 => exact hB5
            clear hK K hHeld2 hHeld hbb HOP
            try simp only [Act.put, List.setIfInBounds_toArray, List.set_cons_zero, List.set_cons_succ]
            refine wpAnyH_ready (rs := [15]) (by kernel_rfl) (by simp) ?_
            refine AllReadyH.cons rfl (fun K hK => ?_) AllReadyH.nil
            go_simp
            refine hK.out _ _ ?s3 (fun hHeld2 => ?_)
            case s3 => exact hB5
            clear hK K hHeld2
            try simp only [Act.put, List.setIfInBounds_toArray, List.set_cons_zero, List.set_cons_succ]
            refine wpAnyH_ready (rs := [16]) (by kernel_rfl) (by simp) ?_
            refine AllReadyH.cons rfl (fun K hK => ?_) AllReadyH.nil
            go_simp
            refine hK.out _ _ ?s4 (fun hHeld2 => ?_)
            case s4 => exact hB5
            clear hK K hHeld2
            try simp only [Act.put, List.setIfInBounds_toArray, List.set_cons_zero, List.set_cons_succ]
            refine wpAnyH_done (by kernel_rfl) ?_ _
            have HBN := Lib.hid hB5
            clear hB5 hZ
            go_wp2_with fail
            go_roundw
            case rel => exact ⟨i + 1, _, by omega, by go_num, rfl, by rw [ByteArray.size_append, ByteArray.size_append]; have : (⟨#[44]⟩ : ByteArray).size = 1 := rfl; omega, HE, HBN⟩
            case measure => simp [intOf]; omega
    · have i1 : ¬ (i : Int) < (n : Int) := by omega
      obtain rfl : i = n := by omega
      have hmx : Tryz.prog.follows .mixedOrders = true := by kernel_rfl
      have HFE := Lib.hid (show Value.tuple #[.string S, .int .i64 (sz : Nat), .int .i64 0] = .tuple #[.string (bytesB (nm.data.toList ++ opsX k next ys fm.size)), .int .i64 (sz : Nat), .int .i64 0] by rw [HS.out, hn])
      have HEND := Lib.hid (show Below w.heap.size w wr from by
        rw [hB0]
        exact HY.out.2.1.trans (HB.out.mono (by have := HY.out.2.1.size; omega)))
      clear HS
      go_upto_region 20 with fail
      go_region
      all_goals
        go_wp2_with fail
        refine bodyPost_ret (v := .tuple #[.string S, .int .i64 (sz : Nat), .int .i64 0]) (by simp [results, Tryz.results5, go_sem]) rfl ?_
        exact ⟨by rw [HFE.out]; try rw [hn], by first | exact HEND.out.drew | (rw [← hB0]; exact HEND.out.drew) | exact HEND.out⟩
end Go.Proofs.YteabjninmaceaaaGreatDoor
