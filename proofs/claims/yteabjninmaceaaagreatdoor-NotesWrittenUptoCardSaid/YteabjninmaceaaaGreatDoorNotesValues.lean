/- What the operands' bytes say: the program's values. -/
import Derived.Test.YteabjninmaceaaaGreatDoorProg
import Derived.Test.YteabjninmaceaaaGreatDoorNotesVal0
namespace Go.Proofs.YteabjninmaceaaaGreatDoor
open Go.RowKit
set_option linter.unusedVariables false
set_option linter.unusedSimpArgs false

theorem row_len {W : World} {a : Option Addr} {l c : Nat} {xs : List Int} (h : Row .u8 W (.slice a l c) xs) : l = xs.length := by
  rcases h with ⟨a', c', e, rfl, hc⟩ | ⟨b, o, c', e, h0, h1, h2, h3⟩
  · injection e
  · injection e
theorem row_cap {W : World} {a : Option Addr} {l c : Nat} {xs : List Int} (h : Row .u8 W (.slice a l c) xs) : l ≤ c := by
  rcases h with ⟨a', c', e, rfl, hc⟩ | ⟨b, o, c', e, h0, h1, h2, h3⟩
  · injection e with e1 e2 e3
    omega
  · injection e with e1 e2 e3
    omega
set_option maxRecDepth 100000 in
set_option maxHeartbeats 4000000 in
theorem values_walk (fm : ByteArray) (hz : fm.size ≤ 2) (hlow : ∀ b ∈ fm.data.toList, b.toNat < 128) (hw2 : sumW fm.data.toList ≤ 2) (ad : Option Addr) (l c : Nat) (ys : List Int) (w : World) (hr : Row .u8 w (.slice ad l c) ys) (hl : ys.length = sumW fm.data.toList) (hf : Fits .u8 ys) :
    Calls Tryz.prog 18 #[.string fm, .slice ad l c] w fun e w' => ∃ g, e = .returned (.slice (some ⟨g, 0, none⟩) fm.size fm.size) ∧ w.heap.size ≤ g ∧ Ints w' g fm.size (fun _ => True) (fun i => (valI fm ys i : Nat)) ∧ Below w.heap.size w w' := by
  have HCO := Lib.hid (fun W => strings_Contains_one fm 114 W)
  rw [contains_hasC] at HCO
  have HLOW := Lib.hid hlow
  obtain ⟨i0, hi, hz0, hz1, hz2⟩ := info_parts Tryz.infoInt
  have hi' := Lib.hid hi
  have hz0' := Lib.hid hz0
  have hz1' := Lib.hid hz1
  have hz2' := Lib.hid hz2
  have hmk2 := fun (W : World) => run_make (P := Tryz.prog) (w := W) 38 3 i0 (.int .i64 0) Tryz.underlying38 hi hz0 .i64 .i64 0 (fm.size : Int) (by omega) (by omega) (by rw [hz2]; omega) (by omega)
  have hmk1 := run_make_row' (P := Tryz.prog) 38 3 (.int .i64 0) 8 Tryz.underlying38 Tryz.infoInt rfl .i64 .i64 fm.size (by omega) (by omega)
  simp only [hz1, Nat.mul_one, Int.toNat_natCast, Int.toNat_zero, Value.cells] at hmk2
  obtain ⟨n, hn⟩ : ∃ n, fm.size = n := ⟨_, rfl⟩
  rw [hn] at hmk1 hmk2
  have hn2 : n ≤ 2 := by omega
  obtain ⟨r, hrr⟩ : ∃ r, hasC fm 114 0 = r := ⟨_, rfl⟩
  rw [hrr] at HCO
  have HRR := Lib.hid hrr
  obtain ⟨B0, hB0⟩ : ∃ B0, w.heap.size = B0 := ⟨_, rfl⟩
  have hb0 : ∀ W, Below B0 w W → B0 ≤ W.heap.size := fun W h => by have := h.size; omega
  have HROW := Lib.hid hr
  have HF := Lib.hid hf
  have HLL := Lib.hid hl
  have HW2 := Lib.hid hw2
  clear hi hz0 hz1 hz2 hlow hrr hr hf hl hw2
  go_enter Tryz.func18, Tryz.ntmps18
  go_upto_region 3 with fail
  obtain ⟨X, hX⟩ : ∃ X, (w.alloc (.cells (madeCells #[.int .i64 0] n) 3)).iter fm 0 = X := ⟨_, rfl⟩
  have HX := Lib.hid (show X.heap[B0 + 1]? = some (.stringIter fm 0) ∧ X.ownsRow B0 3 1 (.slice (some ⟨B0, 0, none⟩) 0 n) 0 ((ordL r 0).map (.int .i64)) ∧ Below B0 w X by
    have h1 := made_own w n hn2
    have h2 : (ordL r 0).map (Value.int .i64) = [] := by cases r <;> rfl
    rw [hB0] at h1
    rw [← hX, h2]
    have hb : Below B0 w (w.alloc (.cells (madeCells #[.int .i64 0] n) 3)) := by rw [← hB0]; exact (Below.refl _ w).alloc (Nat.le_refl _) _
    refine ⟨?_, ?_, ?_⟩
    · have h3 := World.iter_heap (w.alloc (.cells (madeCells #[.int .i64 0] n) 3)) fm 0
      rw [World.size_alloc, hB0] at h3; exact h3
    · exact h1.kept (row := none) (grows_below ((Below.refl _ _).alloc (Nat.le_refl _) _)) (by simp [Value.ownBlock])
    · exact hb.alloc (by simp [hB0]) _)
  rw [hX]
  clear hX
  go_loopw [5] (fun s5 wr => ∃ (pos cap g : Nat), pos ≤ n ∧ s5 = .slice (some ⟨g, 0, none⟩) pos cap ∧ Hid (wr.heap[B0 + 1]? = some (.stringIter fm pos)) ∧ Hid (wr.ownsRow B0 3 1 (.slice (some ⟨g, 0, none⟩) pos cap) pos ((ordL r pos).map (.int .i64))) ∧ Hid (Below B0 w wr)) (fun _ wr => n - wr.iterPos (B0 + 1))
  case atStart => exact ⟨0, n, B0, Nat.zero_le _, rfl, Lib.hid HX.out.1, Lib.hid HX.out.2.1, Lib.hid HX.out.2.2⟩
  case round =>
    obtain ⟨pos, cap, g, hpos, rfl, HIT, HO, HB⟩ := hrel
    by_cases hp : pos < n
    · have hpf : pos < fm.size := by rw [hn]; exact hp
      have hlow : (fm[pos]'hpf).toNat < 128 := HLOW.out _ (by show fm.data[pos] ∈ fm.data.toList; rw [← Array.getElem_toList]; exact List.getElem_mem _)
      obtain ⟨x, hx⟩ : ∃ x, (fm[pos]'hpf).toNat = x := ⟨_, rfl⟩
      have hnx : ∀ ty, (Instr.next (.pointer (some ⟨B0 + 1, 0, none⟩)) true ty).run Tryz.prog _ = .ok (.tuple #[.bool true, .int .i64 pos, .int .i32 (x : Int)]) (World.iterAt wr (B0 + 1) fm (pos + 1)) := fun ty => by rw [← hx]; exact Lib.run_next_ascii_at _ (B0 + 1) fm pos ty HIT.out hpf hlow
      obtain ⟨Y, hY⟩ : ∃ Y, World.iterAt wr (B0 + 1) fm (pos + 1) = Y := ⟨_, rfl⟩
      have HY := Lib.hid (show Y.heap[B0 + 1]? = some (.stringIter fm (pos + 1)) ∧ Y.ownsRow B0 3 1 (.slice (some ⟨g, 0, none⟩) pos cap) pos ((ordL r pos).map (.int .i64)) ∧ Below B0 w Y by
        rw [← hY]
        exact ⟨heap_iterAt HIT.out _ _, ownsRow_iter HO.out HIT.out, HB.out.grown (grownBy_iterAt _ _ _ _) (hb0 _ HB.out) (fun k e => by cases e; omega)⟩)
      have HIT0 := Lib.hid (iterPos_of HIT.out)
      rw [hY] at hnx
      clear hlow hx hY HIT HO HB hmk1 hmk2
      by_cases hrt : r = true
      · subst hrt
        go_upto_region 6 with (go_at_call 40; refine (HCO.out _).mono ?_; rintro e w1 ⟨rfl, hw1⟩; obtain rfl := hw1.symm)
        have HRA := Lib.hid (show (Y.alloc (.cells #[.int .i64 (pos : Nat)] 3)).ownsRow B0 3 1 (.slice (some ⟨g, 0, none⟩) pos cap) pos ((ordL true pos).map (.int .i64)) from HY.out.2.1.kept (row := none) (grows_below ((Below.refl _ _).alloc (Nat.le_refl _) _)) (by simp [Value.ownBlock]))
        have HBZ := Lib.hid (show Below B0 w (Y.alloc (.cells #[.int .i64 (pos : Nat)] 3)) from HY.out.2.2.alloc (hb0 _ HY.out.2.2) _)
        have HKZ := Lib.hid (show (Y.alloc (.cells #[.int .i64 (pos : Nat)] 3)).heap[B0 + 1]? = some (.stringIter fm (pos + 1)) from (((Below.refl Y.heap.size Y).alloc (Nat.le_refl _) _).block (B0 + 1) (Array.getElem?_eq_some_iff.1 HY.out.1).1).trans HY.out.1)
        have HGE := Lib.hid (show B0 ≤ g ∧ g ≠ B0 + 1 by
          rcases HY.out.2.1.2 with ⟨e2, _⟩ | ⟨g2, c2, cur, e2, h1, h2, _⟩
          · cases e2
          · injection e2 with e3
            injection e3 with e3
            injection e3 with e3
            subst e3
            refine ⟨h1, fun e4 => ?_⟩
            rw [e4, HY.out.1] at h2; cases h2)
        go_wp2_with (at_builtin; refine wpList_append_own _ rfl _ _ 38 rfl B0 3 i0 (.int .i64 0) 1 8 Tryz.underlying38 hi'.out hz0'.out hz1'.out hz2'.out rfl (by decide) _ _ _ rfl HRA.out ⟨Y.heap.size, 0, none⟩ 1 1 [.int .i64 (pos : Nat)] rfl rfl ?c1 ?c2 ?c3 ?c4 ?c5 ?_)
        case c1 =>
          intro j u hj
          rcases j with _ | j
          · have : u = .int .i64 (pos : Nat) := by simpa using hj.symm
            rw [this]; simp [go_sem]
          · simp at hj
        case c2 => simp [Value.oneCell']
        case c3 => unfold maxLen; omega
        case c4 => omega
        case c5 => exact hb0 _ HBZ.out
        intro v' w3 hown' hgrow _
        obtain ⟨g', cap', rfl⟩ : ∃ g' cap', v' = .slice (some ⟨g', 0, none⟩) (pos + 1) cap' := ownsRow_succ hown'
        have hge := HGE.out.1
        have hge2 := hb0 _ HY.out.2.2
        have HO3 := Lib.hid (show w3.ownsRow B0 3 1 (.slice (some ⟨g', 0, none⟩) (pos + 1) cap') (pos + 1) ((ordL true (pos + 1)).map (.int .i64)) by rw [ordL, List.map_append]; exact hown')
        have HB3 := Lib.hid (HBZ.out.grown hgrow (hb0 _ HBZ.out) (fun k e => by simp only [Value.ownBlock, Option.some.injEq] at e; omega))
        have HK3 := Lib.hid ((hgrow.block (B0 + 1) (Array.getElem?_eq_some_iff.1 HKZ.out).1 (by simp only [Value.ownBlock, ne_eq, Option.some.injEq]; exact fun e => HGE.out.2 e.symm)).trans HKZ.out)
        clear hown' hgrow hge hge2
        go_wp2
        go_roundw
        case rel => exact ⟨pos + 1, cap', g', by omega, rfl, HK3, HO3, HB3⟩
        case measure => rw [iterPos_of HK3.out, HIT0.out]; omega
      · obtain rfl : r = false := by simpa using hrt
        go_upto_region 7 with (go_at_call 40; refine (HCO.out _).mono ?_; rintro e w1 ⟨rfl, hw1⟩; obtain rfl := hw1.symm)
        have HRA := Lib.hid (show (Y.alloc (.cells #[.int .i64 (pos : Nat)] 3)).ownsRow B0 3 1 (.slice (some ⟨g, 0, none⟩) pos cap) pos ((ordL false pos).map (.int .i64)) from HY.out.2.1.kept (row := none) (grows_below ((Below.refl _ _).alloc (Nat.le_refl _) _)) (by simp [Value.ownBlock]))
        have HRN := Lib.hid (show (Y.alloc (.cells #[.int .i64 (pos : Nat)] 3)).ownsRow B0 3 1 (.slice (some ⟨Y.heap.size, 0, none⟩) 1 1) 1 [.int .i64 (pos : Nat)] from ⟨rfl, .inr ⟨_, 1, _, rfl, hb0 _ HY.out.2.2, World.alloc_heap_new _ _, Nat.le_refl _, by unfold maxLen; omega, rfl, rfl⟩⟩)
        have HBZ := Lib.hid (show Below B0 w (Y.alloc (.cells #[.int .i64 (pos : Nat)] 3)) from HY.out.2.2.alloc (hb0 _ HY.out.2.2) _)
        have HKZ := Lib.hid (show (Y.alloc (.cells #[.int .i64 (pos : Nat)] 3)).heap[B0 + 1]? = some (.stringIter fm (pos + 1)) from (((Below.refl Y.heap.size Y).alloc (Nat.le_refl _) _).block (B0 + 1) (Array.getElem?_eq_some_iff.1 HY.out.1).1).trans HY.out.1)
        have HGE := Lib.hid (show B0 ≤ g ∧ g ≠ B0 + 1 by
          rcases HY.out.2.1.2 with ⟨e2, _⟩ | ⟨g2, c2, cur, e2, h1, h2, _⟩
          · cases e2
          · injection e2 with e3
            injection e3 with e3
            injection e3 with e3
            subst e3
            refine ⟨h1, fun e4 => ?_⟩
            rw [e4, HY.out.1] at h2; cases h2)
        go_wp2_with (at_builtin; refine wpList_append_own _ rfl _ _ 38 rfl B0 3 i0 (.int .i64 0) 1 8 Tryz.underlying38 hi'.out hz0'.out hz1'.out hz2'.out rfl (by decide) _ _ _ rfl HRN.out ⟨g, 0, none⟩ pos cap ((ordL false pos).map (.int .i64)) rfl (by rw [List.length_map, ordL_length, Nat.mul_one]) ?c1 ?c2 ?c3 ?c4 ?c5 ?_)
        case c1 =>
          intro j u hj
          have hjl : j < pos := by
            have := (List.getElem?_eq_some_iff.1 hj).1
            rw [List.length_map, ordL_length] at this; exact this
          have h := HRA.out.cellAt j (by omega)
          rw [hj] at h
          rw [show (⟨g, 0, none⟩ : Addr).add j = ⟨g, j, none⟩ by simp [Addr.add]]
          exact h
        case c2 =>
          intro u hu
          obtain ⟨x, _, rfl⟩ := List.mem_map.1 hu
          rfl
        case c3 => unfold maxLen; omega
        case c4 => omega
        case c5 => exact hb0 _ HBZ.out
        intro v' w3 hown' hgrow _
        rw [Nat.add_comm 1 pos] at hown'
        obtain ⟨g', cap', rfl⟩ : ∃ g' cap', v' = .slice (some ⟨g', 0, none⟩) (pos + 1) cap' := ownsRow_succ hown'
        have hge := HGE.out.1
        have hge2 := hb0 _ HY.out.2.2
        have HO3 := Lib.hid (show w3.ownsRow B0 3 1 (.slice (some ⟨g', 0, none⟩) (pos + 1) cap') (pos + 1) ((ordL false (pos + 1)).map (.int .i64)) by rw [ordL, List.map_cons]; exact hown')
        have HB3 := Lib.hid (HBZ.out.grown hgrow (hb0 _ HBZ.out) (fun k e => by simp only [Value.ownBlock, Option.some.injEq] at e; omega))
        have HK3 := Lib.hid ((hgrow.block (B0 + 1) (Array.getElem?_eq_some_iff.1 HKZ.out).1 (by simp only [Value.ownBlock, ne_eq, Option.some.injEq]; intro e; have := (Array.getElem?_eq_some_iff.1 HY.out.1).1; omega)).trans HKZ.out)
        clear hown' hgrow hge hge2
        go_wp2
        go_roundw
        case rel => exact ⟨pos + 1, cap', g', by omega, rfl, HK3, HO3, HB3⟩
        case measure => rw [iterPos_of HK3.out, HIT0.out]; omega
    · obtain rfl : pos = n := by omega
      have hnx : ∀ ty, (Instr.next (.pointer (some ⟨B0 + 1, 0, none⟩)) true ty).run Tryz.prog _ = .ok (.tuple #[.bool false]) _ := fun ty => Lib.run_next_end_at _ (B0 + 1) fm pos ty HIT.out (by omega)
      clear HX HIT HCO
      go_upto_region 10 with fail
      obtain ⟨n, hpn⟩ : ∃ n, pos = n := ⟨_, rfl⟩
      rw [hpn] at HO hn hn2 hmk1
      clear hpos hp hmk2 hnx
      try rw [hpn]
      obtain ⟨W1, hW1⟩ : ∃ W1, wr = W1 := ⟨_, rfl⟩
      rw [hW1] at HO HB
      try rw [hW1]
      clear hW1 hpn
      obtain ⟨G, hG⟩ : ∃ G, W1.heap.size = G := ⟨_, rfl⟩
      obtain ⟨X2, hX2⟩ : ∃ X2, W1.alloc (.cells (madeCells #[.int .i64 0] n) 3) = X2 := ⟨_, rfl⟩
      have HX2 := Lib.hid (show Below G W1 X2 ∧ Ints X2 G n (fun _ => True) (fun j => if dn r n 0 j = true then (valI fm ys j : Nat) else 0) by
        rw [← hX2, ← hG]
        refine ⟨(Below.refl _ W1).alloc (Nat.le_refl _) _, ?_⟩
        refine ⟨(Ints.new W1 n (fun _ => False) (fun _ => 0) (fun _ _ h => h)).1, (Ints.new W1 n (fun _ => False) (fun _ => 0) (fun _ _ h => h)).2.1, fun j hj _ => ?_⟩
        have hd : dn r n 0 j = false := by unfold dn; split <;> simp only [decide_eq_false_iff_not] <;> omega
        show _ = some (Value.int .i64 (if dn r n 0 j = true then _ else 0))
        rw [hd, World.cell?_alloc_new]
        simp [madeCells, hj, Nat.mod_one])
      have HG := Lib.hid (hb0 _ HB.out)
      have HORD := Lib.hid (show ∀ q, q < n → W1.cell? ⟨g, q, none⟩ = some (.int .i64 ((idx r n q : Nat) : Int)) from fun q hq => by
        have h := HO.out.cellAt q (by omega)
        rw [h, List.getElem?_map, ordL_at r n q hq]; rfl)
      have HROW1 := Lib.hid (HROW.out.below' HB.out (Nat.le_of_eq hB0))
      have HOFF := Lib.hid (fun q (h : q < fm.size) => off_step fm q h)
      have HOF0 := Lib.hid (off_zero fm r)
      have HOFL := Lib.hid (off_le fm r)
      rw [HRR.out, hn] at HOFF
      clear HO HLOW hmk1 HROW
      simp only [hG, hX2]
      clear hX2
      go_loopw [1, 35] (fun s1 s35 wr => ∃ (q : Nat) (a2 : Option Addr) (l2 c2 : Nat), q ≤ n ∧ s35 = .int .i64 q ∧ s1 = .slice a2 l2 c2 ∧ Hid (Row .u8 W1 (.slice a2 l2 c2) (ys.drop (off fm r q))) ∧ Hid (Ints wr G n (fun _ => True) (fun j => if dn r n q j = true then (valI fm ys j : Nat) else 0)) ∧ Hid (Below G W1 wr)) (fun _ s35 _ => n - (intOf s35).toNat)
      case atStart => exact ⟨0, ad, l, c, Nat.zero_le _, rfl, rfl, Lib.hid (by rw [HOF0.out]; exact HROW1.out), Lib.hid HX2.out.2, Lib.hid HX2.out.1⟩
      case round =>
        obtain ⟨q, a2, l2, c2, hq, rfl, rfl, HR2, HI2, HB2⟩ := hrel
        by_cases hlt : q < n
        · have i1 : (q : Int) < (n : Int) := by omega
          have hqf : q < fm.size := by rw [hn]; exact hlt
          have hil := idx_lt r n q hlt
          have hord := HORD.out q hlt
          have hgG : g < G := by rw [← hG]; exact World.block_lt_of_cell? W1 _ hord
          have c1 := (HB2.out.cell (p := ⟨g, q, none⟩) hgG).trans hord
          have hstep := HOFF.out q hlt
          have hdi := dn_self r n q hlt
          have HDN := Lib.hid (fun j (hj : j < n) => dn_idx r n q j hlt hj)
          obtain ⟨i, hii⟩ : ∃ i, idx r n q = i := ⟨_, rfl⟩
          rw [hii] at c1 hil hstep hdi HDN
          have hif : i < fm.size := by rw [hn]; exact hil
          have hlt1 := ltr_at fm i hif
          have hwn := widthN_byte (fm[i]'hif)
          have hx256 : (fm[i]'hif).toNat < 256 := UInt8.toNat_lt _
          have hc2 := widthC_le (fm[i]'hif)
          rw [← hlt1] at hwn hx256 hc2
          have hxb : (fm[i]'hif).toNat = (ltr fm i).toNat := by rw [hlt1]
          obtain ⟨x, hx⟩ : ∃ x, (ltr fm i).toNat = x := ⟨_, rfl⟩
          rw [hx] at hx256 hxb hwn
          have HWW := Lib.hid (fun W => width_walk x hx256 W)
          rw [hwn] at HWW
          obtain ⟨wn, hwnn⟩ : ∃ wn, widthC (ltr fm i) = wn := ⟨_, rfl⟩
          rw [hwnn] at HWW hc2
          have hofl := HOFL.out (q + 1)
          have HL3 := Lib.hid (show off fm r q + wn ≤ ys.length by have h1 := hstep.1; have h2 := HLL.out; rw [hwnn] at h1; omega)
          have HOP := Lib.hid (show opnd fm ys i = (ys.drop (off fm r q)).take wn by unfold opnd; rw [hstep.2, hwnn])
          have HO1 := Lib.hid (show off fm r (q + 1) = off fm r q + wn by rw [hstep.1, hwnn])
          have hlen : (opnd fm ys i).length = wn := by rw [HOP.out, List.length_take, List.length_drop]; have := HL3.out; omega
          have HVI := Lib.hid (show valI fm ys i = leL (opnd fm ys i) from rfl)
          have HFB := Lib.hid (show ∀ z ∈ opnd fm ys i, 0 ≤ z ∧ z ≤ 255 from fun z hz => by
            rw [HOP.out] at hz
            exact bounds_u8 (HF.out z (List.mem_of_mem_drop (List.mem_of_mem_take hz))))
          obtain ⟨bs, hbs⟩ : ∃ bs, opnd fm ys i = bs := ⟨_, rfl⟩
          rw [hbs] at HOP HVI HFB hlen
          have HI3 := Lib.hid (HI2.out.congr (f' := fun j => if j = i then (leL (bs.take 0) : Nat) else if dn r n q j = true then (valI fm ys j : Nat) else 0) (fun j hj => by
            by_cases e : j = i
            · subst e; rw [if_pos rfl, hdi]; rfl
            · rw [if_neg e]))
          have HX1 := Lib.hid hx
          clear hord hstep hlt1 hwn hx hwnn hofl hbs hdi HI2 hii hqf
          go_upto_region 14 with (go_at_call 24; refine (HWW.out _).mono ?_; rintro e w1 ⟨rfl, hw1⟩; obtain rfl := hw1.symm)
          go_loopw [44] (fun s44 wi => ∃ k, k ≤ wn ∧ s44 = .int .i64 (k : Nat) ∧ Hid (Ints wi G n (fun _ => True) (fun j => if j = i then (leL (bs.take k) : Nat) else if dn r n q j = true then (valI fm ys j : Nat) else 0)) ∧ Hid (Below G W1 wi)) (fun s44 _ => wn - (intOf s44).toNat)
          case atStart => exact ⟨0, Nat.zero_le _, rfl, HI3, HB2⟩
          case round =>
            obtain ⟨k, hk, rfl, HIk, HBk⟩ := hrel
            by_cases hkl : k < wn
            · have j1 : (k : Int) < (wn : Int) := by omega
              have hk1 : k ≤ 1 := by omega
              obtain ⟨bk, o, rfl, hl2, HC⟩ : ∃ bk o, a2 = some ⟨bk, o, none⟩ ∧ k < l2 ∧ Hid (W1.cell? ⟨bk, o + k, none⟩ = some (.int .u8 ((ys.drop (off fm r q))[k]?.getD 0))) := by
                have hll : k < (ys.drop (off fm r q)).length := by rw [List.length_drop]; have := HL3.out; omega
                rcases HR2.out with ⟨a', c', e, e0, _⟩ | ⟨bk, o, c', e, h0, h1, h2, h3⟩
                · rw [e0] at hll; simp at hll
                · injection e with e1 e2 e3
                  subst e1 e2 e3
                  exact ⟨bk, o, rfl, hll, Lib.hid (h3 k hll)⟩
              have hbG : bk < G := by rw [← hG]; exact World.block_lt_of_cell? W1 _ HC.out
              have hys : (ys.drop (off fm r q))[k]?.getD 0 = bs[k]?.getD 0 := by rw [HOP.out, List.getElem?_take_of_lt hkl]
              have c2 := (HBk.out.cell (p := ⟨bk, o + k, none⟩) hbG).trans HC.out
              rw [hys] at c2
              have hkb : k < bs.length := by rw [hlen]; exact hkl
              obtain ⟨hT1, hT2⟩ := leL_take bs k hkb hk1 HFB.out
              have hyb := HFB.out _ (getD_mem hkb)
              obtain ⟨y, hy⟩ := Int.eq_ofNat_of_zero_le hyb.1
              have hy2 : y < 256 := by omega
              rw [hy] at c2 hT1
              rw [Int.toNat_natCast] at hT1
              have c3 := HIk.out.2.2 i hil trivial
              dsimp only at c3
              rw [if_pos rfl] at c3
              have f3 := HIk.out.2.1 i
              obtain ⟨A, hA⟩ : ∃ A, leL (bs.take k) = A := ⟨_, rfl⟩
              rw [hA] at c3 hT1 hT2
              have j2 : (i : Int) < (n : Int) := by omega
              have j3 : (k : Int) < (l2 : Int) := by omega
              have HIN := Lib.hid (fun (v : Int) (hv : v = ((leL (bs.take (k + 1)) : Nat) : Int)) => HIk.out.upd (f' := fun j => if j = i then (leL (bs.take (k + 1)) : Nat) else if dn r n q j = true then (valI fm ys j : Nat) else 0) i hil v (by show v = (if i = i then _ else _); rw [if_pos rfl]; exact hv) (fun j hj hne => by show (if j = i then _ else _) = (if j = i then _ else _); rw [if_neg hne, if_neg hne]))
              have HBN := Lib.hid (fun (v : Value) => HBk.out.setCell (p := ⟨G, i, none⟩) (Nat.le_refl G) v)
              have HT1 := Lib.hid hT1
              have or1 := or_bytes A y k hk1 hT2 hy2
              clear hys hyb hy hA hT1 HC
              have i3 : IntKind.i64.wrap ((k : Int) + 1) = ((k + 1 : Nat) : Int) := by rw [IntWalk.i64_in _ (by omega)]; rfl
              obtain rfl | rfl : k = 0 ∨ k = 1 := by omega
              · rw [Nat.add_zero] at c2
                simp only [Nat.pow_zero, Int.pow_zero, Int.mul_one, Nat.mul_one] at or1 hT2
                go_upto_region 16 with fail
                go_region
                all_goals
                  go_wp2_with fail
                  go_roundw
                all_goals first
                  | exact ⟨1, by omega, by go_num, Lib.hid (show Ints (World.drew _) _ _ _ _ from HIN.out ((A : Int) + (y : Int)) (by rw [HT1.out]; push_cast; simp)), Lib.hid ((HBN.out _).drew)⟩
                  | (simp [intOf]; omega)
              · simp only [Nat.pow_one, Int.pow_one] at or1 hT2
                go_upto_region 16 with fail
                go_region
                all_goals
                  go_wp2_with fail
                  go_roundw
                all_goals first
                  | exact ⟨2, by omega, by go_num, Lib.hid (show Ints (World.drew _) _ _ _ _ from HIN.out ((A : Int) + (y : Int) * 256) (by rw [HT1.out]; push_cast; simp)), Lib.hid ((HBN.out _).drew)⟩
                  | (simp [intOf]; omega)
            · obtain rfl : k = wn := by omega
              have j1 : ¬ (k : Int) < (k : Int) := by omega
              have hl2 := row_len HR2.out
              have hcap := row_cap HR2.out
              have j4 : (k : Int) ≤ (l2 : Int) := by rw [hl2, List.length_drop]; have := HL3.out; omega
              have j5 : k ≤ l2 := by omega
              have HRD := Lib.hid (row_drop HR2.out k (by rw [← hl2]; exact j5))
              rw [List.drop_drop, ← HO1.out] at HRD
              have HIN := Lib.hid (HIk.out.congr (f' := fun j => if dn r n (q + 1) j = true then (valI fm ys j : Nat) else 0) (fun j hj => by
                have hd := HDN.out j hj
                by_cases e : j = i
                · subst e
                  rw [if_pos rfl, if_pos (hd.2 (.inl rfl)), HVI.out, List.take_of_length_le (by rw [hlen]; exact Nat.le_refl _)]
                · rw [if_neg e]
                  by_cases e2 : dn r n q j = true
                  · rw [if_pos e2, if_pos (hd.2 (.inr e2))]
                  · rw [if_neg e2, if_neg (fun h => (hd.1 h).elim e e2)]))
              have i3 : IntKind.i64.wrap ((q : Int) + 1) = ((q + 1 : Nat) : Int) := by rw [IntWalk.i64_in _ (by omega)]; rfl
              clear hl2 HR2 HIk
              go_wp2_with fail
              refine ⟨⟨q + 1, _, _, _, by omega, by go_num, rfl, Lib.hid ?_, HIN, HBk⟩, ?_⟩
              · have h := HRD.out
                simp only [Nat.mul_one] at h
                exact h
              · simp [intOf]; omega
        · have i1 : ¬ (q : Int) < (n : Int) := by omega
          obtain rfl : q = n := by omega
          go_wp2_with fail
          go_ret
          have HFI := HI2.out.congr (f' := fun i => (valI fm ys i : Nat)) (fun j hj => by
            rw [if_pos (by unfold dn; split <;> simp only [decide_eq_true_eq] <;> omega)])
          have hbg : B0 ≤ G := by rw [← hG]; exact HG.out
          exact ⟨G, rfl, hbg, HFI, HB.out.trans (HB2.out.mono hbg)⟩
end Go.Proofs.YteabjninmaceaaaGreatDoor
