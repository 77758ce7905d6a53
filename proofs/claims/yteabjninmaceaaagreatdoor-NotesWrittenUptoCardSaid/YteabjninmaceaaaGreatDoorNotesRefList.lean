/- Bytes line by line: the document's List (printed by gen_reflist.py). -/
import Derived.Test.YteabjninmaceaaaGreatDoorProg
import Derived.Test.YteabjninmaceaaaGreatDoorNotesList
import Derived.Test.YteabjninmaceaaaGreatDoorNotesRefTexts
import Derived.Deep.RegionHeld3
import Derived.Deep.AppendLies
namespace Go.Proofs.YteabjninmaceaaaGreatDoor
open Go.RowKit
set_option linter.unusedVariables false
set_option linter.unusedSimpArgs false

set_option maxRecDepth 100000 in
set_option maxHeartbeats 4000000 in
theorem refList_walk (v : Value) (at' : Nat) (hat : at' < 65536) (xs : List Int) (hlen : xs.length ≤ 1048576) (w : World) (hr : Row .u8 w v xs) (hf : Fits .u8 xs) :
    Calls Tryz.prog 9 #[v, .int .u16 at'] w fun e w' => ∃ v' L, e = .returned v' ∧ AllX xs at' L ∧ w'.ownsRow w.heap.size 9 1 v' L.length (L.map (fun t => Value.string (bytesB t))) ∧ Below w.heap.size w w' := by
  obtain ⟨i0, hi, hz0, hz1, hz2⟩ := info_parts Tryz.infoStr
  have hi' := Lib.hid hi
  have hz0' := Lib.hid hz0
  have hz1' := Lib.hid hz1
  have hz2' := Lib.hid hz2
  clear hi hz0 hz1 hz2
  obtain ⟨ad, l, c, rfl⟩ : ∃ ad l c, v = .slice ad l c := by
    rcases hr with ⟨a, c, rfl, _⟩ | ⟨b, o, c, rfl, _⟩
    · exact ⟨_, _, _, rfl⟩
    · exact ⟨_, _, _, rfl⟩
  obtain ⟨B0, hB0⟩ : ∃ B0, w.heap.size = B0 := ⟨_, rfl⟩
  have hb0 : ∀ W, Below B0 w W → B0 ≤ W.heap.size := fun W h => by have := h.size; omega
  have HLX := Lib.hid (row_len hr)
  have hcap := row_cap hr
  have hl1 : l ≤ 1048576 := by rw [HLX.out]; exact hlen
  have HR := Lib.hid hr
  have HF := Lib.hid hf
  have HTX := Lib.hid (fun v a ys W (h1 : Row .u8 W v ys) (h2 : Fits .u8 ys) => refText_walk v a ys W h1 h2)
  clear hr hf
  have hmx : Tryz.prog.follows .mixedOrders = true := by kernel_rfl
  go_enter Tryz.func9, Tryz.ntmps9
  go_upto_region 3 with fail
  go_loopw [5, 6] (fun s5 s6 wr => ∃ (t p : Nat) (lv : Value), p ≤ l ∧ s6 = .int .i64 (p : Nat) ∧ lv = s5 ∧ t ≤ 1048576 ∧ Hid (p = (stX xs at' t).2) ∧ Hid (∀ s, s < t → fewX (xs.drop (stX xs at' s).2) = false) ∧ Hid (wr.ownsRow B0 9 1 lv t ((stX xs at' t).1.map (fun t => Value.string (bytesB t)))) ∧ Hid (Below B0 w wr)) (fun _ s6 _ => l - (intOf s6).toNat)
  case atStart =>
    exact ⟨0, 0, .slice none 0 0, Nat.zero_le _, rfl, rfl, by omega, Lib.hid rfl, Lib.hid (fun s hs => absurd hs (Nat.not_lt_zero _)), Lib.hid ⟨rfl, .inl ⟨rfl, rfl⟩⟩, Lib.hid (by rw [← hB0]; exact Below.refl _ _)⟩
  case round =>
    obtain ⟨t, p, lv, hp, rfl, rfl, ht, HP, HNF, HO, HB⟩ := hrel
    by_cases hl0 : p < l
    · have b1 : (p : Int) < (l : Int) := by omega
      have b2 : (p : Int) ≤ (l : Int) := by omega
      have b3 : (0 : Int) ≤ (p : Int) := by omega
      have HFD := Lib.hid (show Fits .u8 (xs.drop p) from fun z hz => HF.out z (List.mem_of_mem_drop hz))
      obtain ⟨a, ha0⟩ : ∃ a, (at' + p) % 65536 = a := ⟨_, rfl⟩
      have ha : a < 65536 := by omega
      have j0 : IntKind.u16.wrap ((at' : Int) + IntKind.u16.wrap (p : Int)) = (a : Int) := by rw [← ha0]; simp [IntKind.wrap, IntKind.bits, IntKind.signed]
      have hpc : ¬ c = p := by omega
      have HRW := Lib.hid (show Row .u8 wr (.slice (ad.map (·.add p)) (l - p) (c - p)) (xs.drop p) by
        have h := row_drop (HR.out.below' HB.out (Nat.le_of_eq hB0)) p (by rw [← HLX.out]; exact hp)
        rw [if_neg hpc] at h
        simp only [Nat.mul_one] at h
        exact h)
      have HT := Lib.hid (HTX.out (.slice (ad.map (·.add p)) (l - p) (c - p)) a (xs.drop p) wr HRW.out HFD.out)
      have HA := Lib.hid ha0
      clear ha0
      by_cases hfew : fewX (xs.drop p) = true
      · have e1 : ansX (xs.drop p) a = .tuple #[.string ⟨#[]⟩, .int .i64 0, .int .i64 5] := by unfold ansX; rw [if_pos hfew]
        rw [e1] at HT
        have HST := Lib.hid (show StopX xs at' t from ⟨by rw [← HP.out]; exact hfew, HNF.out⟩)
        clear e1 hfew
        go_upto_region 6 with (go_at_call 5; refine HT.out.mono ?_; rintro e w5 ⟨rfl, hb5⟩)
        have HB5 := Lib.hid (HB.out.trans (hb5.mono (hb0 _ HB.out)))
        have HO5 := Lib.hid (ownsRow_behind HO.out hb5)
        clear hb5 HT HO HB HRW j0 hpc HA
        go_loopw [5, 6] (fun s5 s6 wi => ∃ (i : Nat) (lu : Value), p + i ≤ l ∧ s6 = .int .i64 ((p + i : Nat) : Int) ∧ lu = s5 ∧ Hid (wi.ownsRow B0 9 1 lu (t + i) (((stX xs at' t).1 ++ leftsX xs at' p i).map (fun t => Value.string (bytesB t)))) ∧ Hid (Below B0 w wi)) (fun _ s6 _ => l - (intOf s6).toNat)
        case atStart => exact ⟨0, lv, hp, rfl, rfl, Lib.hid (by rw [leftsX, List.append_nil]; exact HO5.out), HB5⟩
        case round =>
          obtain ⟨i, lu, hi, rfl, rfl, HOi, HBi⟩ := hrel
          obtain ⟨wi, hwi⟩ : ∃ wi, wr = wi := ⟨_, rfl⟩
          rw [hwi] at HOi HBi ⊢
          clear hwi
          obtain ⟨q, hq⟩ : ∃ q, p + i = q := ⟨_, rfl⟩
          rw [hq] at hi ⊢
          by_cases hlt : q < l
          · obtain ⟨bk, o, rfl, hlx, HXC⟩ := row_at HR.out (by rw [← HLX.out]; omega)
            have hqx : q < xs.length := by rw [← HLX.out]; exact hlt
            have hyb := bounds_u8 (HF.out _ (getD_mem hqx))
            obtain ⟨y, hy⟩ := Int.eq_ofNat_of_zero_le hyb.1
            have hy2 : y < 256 := by omega
            have HCW := Lib.hid (fun W (h : Below B0 w W) => show W.cell? ⟨bk, o + q, none⟩ = some (.int .u8 (y : Int)) from by
              have h1 := HXC.out q hqx
              rw [hy] at h1
              exact (h.cell (p := ⟨bk, o + q, none⟩) (by rw [← hB0]; exact World.block_lt_of_cell? w _ h1)).trans h1)
            have j1 : (q : Int) < (l : Int) := by omega
            have j2 : IntKind.i64.wrap ((q : Int) + 1) = ((q + 1 : Nat) : Int) := by rw [IntWalk.i64_in _ (by omega)]; rfl
            obtain ⟨a2, ha2⟩ : ∃ a2, (at' + q) % 65536 = a2 := ⟨_, rfl⟩
            have j3 : IntKind.u16.wrap ((at' : Int) + IntKind.u16.wrap (q : Int)) = (a2 : Int) := by rw [← ha2]; simp [IntKind.wrap, IntKind.bits, IntKind.signed]
            have j4 : IntKind.i64.wrap (a2 : Int) = (a2 : Int) := IntWalk.i64_in _ (by omega)
            have j5 : IntKind.i64.wrap (y : Int) = (y : Int) := IntWalk.i64_in _ (by omega)
            have HLF := Lib.hid (show leftsX xs at' p (i + 1) = leftsX xs at' p i ++ [hexL true a2 4 ++ [32, 63, 32] ++ hexL true y 2] by rw [leftsX, leftX, hq, ha2, hy, Int.toNat_natCast])
            have HH4 := Lib.hid (fun W => refHex_walk a2 4 (by omega) (by omega) W)
            have HH2 := Lib.hid (fun W => refHex_walk y 2 (by omega) (by omega) W)
            have z4 := hexL_size true a2 4
            have z2 := hexL_size true y 2
            obtain ⟨H4, hH4⟩ : ∃ x, bytesB (hexL true a2 4) = x := ⟨_, rfl⟩
            obtain ⟨H2, hH2⟩ : ∃ x, bytesB (hexL true y 2) = x := ⟨_, rfl⟩
            have HE := Lib.hid (show (H4 ++ (⟨#[32, 63, 32]⟩ : ByteArray)) ++ H2 = bytesB (hexL true a2 4 ++ [32, 63, 32] ++ hexL true y 2) by
              rw [← hH4, ← hH2, show (⟨#[32, 63, 32]⟩ : ByteArray) = bytesB [32, 63, 32] from rfl, bytesB_append, bytesB_append])
            rw [hH4] at HH4 z4
            rw [hH2] at HH2 z2
            have hq1 : ¬ 9223372036854775807 < H4.size + 3 := by omega
            have hq2 : ¬ 9223372036854775807 < H4.size + 3 + H2.size := by omega
            clear hlx HXC hqx hyb hy ha2 hH4 hH2 HO5 HB5 HR HLX HF HTX HFD HP HNF HST hlen b1 b2 b3
            go_upto_region 7 with fail
            focus
              refine wp_region_held_drew (S := fun W => Below B0 w W) (by kernel_rfl) HBi.out.drew (fun hHeld => ?_)
              obtain ⟨Z, hZ⟩ : ∃ Z, wi.drew = Z := ⟨_, rfl⟩
              rw [hZ] at hHeld ⊢
              have HOZ := Lib.hid (show Z.ownsRow B0 9 1 lu (t + i) (((stX xs at' t).1 ++ leftsX xs at' p i).map (fun t => Value.string (bytesB t))) by rw [← hZ]; exact HOi.out.drew)
              clear hZ HOi HBi
              refine wpAnyH_take (i := 0) (v := ?_) rfl (by kernel_rfl) (by kernel_rfl) (by kernel_rfl) (fun _ _ _ h => h) (Or.inl ⟨by rfl, ?_⟩) (by assumption) ?_
              rotate_left
              focus
                intro wq hSw
                go_simp
                try with_reducible rfl
              try simp only [Act.put, List.setIfInBounds_toArray, List.set_cons_zero, List.set_cons_succ]
              refine wpAnyH_take (i := 1) (v := ?_) rfl (by kernel_rfl) (by kernel_rfl) (by kernel_rfl) (fun _ _ _ h => h) (Or.inl ⟨by rfl, ?_⟩) (by assumption) ?_
              rotate_left
              focus
                intro wq hSw
                go_simp
                try with_reducible rfl
              try simp only [Act.put, List.setIfInBounds_toArray, List.set_cons_zero, List.set_cons_succ]
              refine wpAnyH_take (i := 2) (v := ?_) rfl (by kernel_rfl) (by kernel_rfl) (by kernel_rfl) (fun _ _ _ h => h) (Or.inl ⟨by rfl, ?_⟩) (by assumption) ?_
              rotate_left
              focus
                intro wq hSw
                go_simp
                try with_reducible rfl
              try simp only [Act.put, List.setIfInBounds_toArray, List.set_cons_zero, List.set_cons_succ]
              refine wpAnyH_take (i := 3) (v := ?_) rfl (by kernel_rfl) (by kernel_rfl) (by kernel_rfl) (fun _ _ _ h => h) (Or.inl ⟨by rfl, ?_⟩) (by assumption) ?_
              rotate_left
              focus
                intro wq hSw
                go_simp
                try with_reducible rfl
              try simp only [Act.put, List.setIfInBounds_toArray, List.set_cons_zero, List.set_cons_succ]
              refine wpAnyH_take (i := 4) (v := ?_) rfl (by kernel_rfl) (by kernel_rfl) (by kernel_rfl) (fun _ _ _ h => h) (Or.inl ⟨by rfl, ?_⟩) (by assumption) ?_
              rotate_left
              focus
                intro wq hSw
                go_simp
                try with_reducible rfl
              try simp only [Act.put, List.setIfInBounds_toArray, List.set_cons_zero, List.set_cons_succ]
              refine wpAnyH_take (i := 5) (v := ?_) rfl (by kernel_rfl) (by kernel_rfl) (by kernel_rfl) (fun _ _ _ h => h) (Or.inl ⟨by rfl, ?_⟩) (by assumption) ?_
              rotate_left
              focus
                intro wq hSw
                go_simp
                try with_reducible rfl
              try simp only [Act.put, List.setIfInBounds_toArray, List.set_cons_zero, List.set_cons_succ]
              refine wpAnyH_take (i := 8) (v := ?_) rfl (by kernel_rfl) (by kernel_rfl) (by kernel_rfl) (fun _ _ _ h => h) (Or.inl ⟨by rfl, ?_⟩) (by assumption) ?_
              rotate_left
              focus
                intro wq hSw
                go_simp
                try with_reducible rfl
              try simp only [Act.put, List.setIfInBounds_toArray, List.set_cons_zero, List.set_cons_succ]
              refine wpAnyH_take (i := 9) (v := ?_) rfl (by kernel_rfl) (by kernel_rfl) (by kernel_rfl) (fun _ _ _ h => h) (Or.inl ⟨by rfl, ?_⟩) (by assumption) ?_
              rotate_left
              focus
                intro wq hSw
                go_simp
                try with_reducible rfl
              try simp only [Act.put, List.setIfInBounds_toArray, List.set_cons_zero, List.set_cons_succ]
              refine wpAnyH_take (i := 10) (v := ?_) rfl (by kernel_rfl) (by kernel_rfl) (by kernel_rfl) (fun _ _ _ h => h) (Or.inl ⟨by rfl, ?_⟩) (by assumption) ?_
              rotate_left
              focus
                intro wq hSw
                go_simp
                try with_reducible rfl
              try simp only [Act.put, List.setIfInBounds_toArray, List.set_cons_zero, List.set_cons_succ]
              refine wpAnyH_take (i := 11) (v := ?_) rfl (by kernel_rfl) (by kernel_rfl) (by kernel_rfl) (fun _ _ _ h => h) (Or.inl ⟨by rfl, ?_⟩) (by assumption) ?_
              rotate_left
              focus
                intro wq hSw
                have hcw := HCW.out wq hSw
                go_simp
                try with_reducible rfl
              try simp only [Act.put, List.setIfInBounds_toArray, List.set_cons_zero, List.set_cons_succ]
              refine wpAnyH_take (i := 12) (v := ?_) rfl (by kernel_rfl) (by kernel_rfl) (by kernel_rfl) (fun _ _ _ h => h) (Or.inl ⟨by rfl, ?_⟩) (by assumption) ?_
              rotate_left
              focus
                intro wq hSw
                go_simp
                try with_reducible rfl
              try simp only [Act.put, List.setIfInBounds_toArray, List.set_cons_zero, List.set_cons_succ]
              refine wpAnyH_ready (rs := [6]) (by kernel_rfl) (by simp) ?_
              refine AllReadyH.cons rfl (fun K hK => ?_) AllReadyH.nil
              go_simp
              refine (HH4.out _).mono ?_
              rintro e w9 ⟨rfl, hw9⟩
              obtain rfl := hw9.symm
              dsimp only
              refine hK.out _ _ ?s1 (fun hHeld2 => ?_)
              case s1 => exact hHeld
              clear hK K hHeld2
              try simp only [Act.put, List.setIfInBounds_toArray, List.set_cons_zero, List.set_cons_succ]
              refine wpAnyH_take (i := 7) (v := ?_) rfl (by kernel_rfl) (by kernel_rfl) (by kernel_rfl) (fun _ _ _ h => h) (Or.inl ⟨by rfl, ?_⟩) (by assumption) ?_
              rotate_left
              focus
                intro wq hSw
                go_simp
                try with_reducible rfl
              try simp only [Act.put, List.setIfInBounds_toArray, List.set_cons_zero, List.set_cons_succ]
              refine wpAnyH_ready (rs := [13]) (by kernel_rfl) (by simp) ?_
              refine AllReadyH.cons rfl (fun K hK => ?_) AllReadyH.nil
              go_simp
              refine (HH2.out _).mono ?_
              rintro e w9 ⟨rfl, hw9⟩
              obtain rfl := hw9.symm
              dsimp only
              refine hK.out _ _ ?s2 (fun hHeld2 => ?_)
              case s2 => exact hHeld
              clear hK K hHeld2
              try simp only [Act.put, List.setIfInBounds_toArray, List.set_cons_zero, List.set_cons_succ]
              refine wpAnyH_take (i := 14) (v := ?_) rfl (by kernel_rfl) (by kernel_rfl) (by kernel_rfl) (fun _ _ _ h => h) (Or.inl ⟨by rfl, ?_⟩) (by assumption) ?_
              rotate_left
              focus
                intro wq hSw
                go_simp
                try with_reducible rfl
              try simp only [Act.put, List.setIfInBounds_toArray, List.set_cons_zero, List.set_cons_succ]
              refine wpAnyH_ready (rs := [15]) (by kernel_rfl) (by simp) ?_
              refine AllReadyH.cons rfl (fun K hK => ?_) AllReadyH.nil
              go_simp
              refine hK.out _ _ ?s3 (fun hHeld2 => ?_)
              case s3 => exact hHeld.alloc (hb0 _ hHeld) _
              clear hK K hHeld2
              try simp only [Act.put, List.setIfInBounds_toArray, List.set_cons_zero, List.set_cons_succ]
              refine wpAnyH_ready (rs := [16]) (by kernel_rfl) (by simp) ?_
              refine AllReadyH.cons rfl (fun K hK => ?_) AllReadyH.nil
              refine step_append_lies _ (by rfl) _ _ _ (by rfl) B0 9 i0 (.string ⟨#[]⟩) 1 16 Tryz.underlying28 hi'.out hz0'.out hz1'.out hz2'.out (by rfl) (by decide) lu (t + i) _ (by rfl) (ownsRow_behind HOZ.out (Below.alloc1 _)) ⟨Z.heap.size, 0, none⟩ 1 1 [.string ((H4 ++ (⟨#[32, 63, 32]⟩ : ByteArray)) ++ H2)] (by rfl) (by rfl) ?d1 ?d2 (by decide) ?d3 ?d4 ?d5 _ rfl ?_
              case d1 =>
                intro j u hj
                rcases j with _ | j
                · have : u = .string ((H4 ++ (⟨#[32, 63, 32]⟩ : ByteArray)) ++ H2) := by simpa using hj.symm
                  rw [this, show (⟨Z.heap.size, 0, none⟩ : Addr).add 0 = ⟨Z.heap.size, 0, none⟩ from rfl]
                  simp [go_sem]
                · simp at hj
              case d2 => intro u hu; rw [List.mem_singleton.1 hu]; rfl
              case d3 => unfold maxLen; omega
              case d4 => omega
              case d5 => have := hb0 _ hHeld; simp; omega
              intro g7 cap7 w8 hown8 hgrow8 hat7 hlt7
              have hB8 := (hHeld.alloc (hb0 _ hHeld) (.cells #[.string ((H4 ++ (⟨#[32, 63, 32]⟩ : ByteArray)) ++ H2)] 9)).grown hgrow8 (by have := hb0 _ hHeld; simp; omega) (fun j e => ownsRow_ge HOZ.out e)
              have HO8 := Lib.hid (show w8.ownsRow B0 9 1 (.slice (some ⟨g7, 0, none⟩) (t + i + 1) cap7) (t + (i + 1)) (((stX xs at' t).1 ++ leftsX xs at' p (i + 1)).map (fun t => Value.string (bytesB t))) by
                rw [HLF.out, ← List.append_assoc, List.map_append, List.map_cons, ← HE.out, ← Nat.add_assoc, List.map_append, List.append_assoc]
                rw [List.map_append, List.append_assoc] at hown8
                exact hown8)
              refine hK.out _ _ ?s4 (fun hHeld2 => ?_)
              case s4 => exact hB8
              clear hK K hHeld2 hown8 hgrow8 hat7 hlt7
              try simp only [Act.put, List.setIfInBounds_toArray, List.set_cons_zero, List.set_cons_succ]
              refine wpAnyH_ready (rs := [17]) (by kernel_rfl) (by simp) ?_
              refine AllReadyH.cons rfl (fun K hK => ?_) AllReadyH.nil
              go_simp
              refine hK.out _ _ ?s5 (fun hHeld2 => ?_)
              case s5 => exact hB8
              clear hK K hHeld2
              try simp only [Act.put, List.setIfInBounds_toArray, List.set_cons_zero, List.set_cons_succ]
              refine wpAnyH_done (by kernel_rfl) ?_ _
              have HB8 := Lib.hid hB8
              clear hB8
              go_wp2_with fail
              go_roundw
              case rel => exact ⟨i + 1, by omega, by omega, Lib.hid (by rw [← List.map_append]; exact HO8.out)⟩
              case measure => simp [intOf]; omega
          · obtain rfl : q = l := by omega
            have i1 : ¬ (q : Int) < (q : Int) := by omega
            have HAL := Lib.hid (show AllX xs at' ((stX xs at' t).1 ++ leftsX xs at' p i) from ⟨t, HST.out, by
              rw [← HP.out, ← HLX.out, ← hq, Nat.add_sub_cancel_left]⟩)
            go_wp2_with fail
            go_ret
            exact ⟨lu, rfl, _, HAL.out, by rw [List.length_append, stX_length, leftsX_length]; exact HOi.out, HBi.out⟩
      · have hfew := Bool.eq_false_iff.2 hfew
        have e1 : ansX (xs.drop p) a = .tuple #[.string (bytesB (insX (xs.drop p) a)), .int .i64 (sizeN (codeX (xs.drop p)) : Nat), .int .i64 0] := by unfold ansX; rw [if_neg (by rw [hfew]; decide)]
        rw [e1] at HT
        obtain ⟨hsz, hs1⟩ := few_false hfew
        obtain ⟨sz, hszz⟩ : ∃ sz, sizeN (codeX (xs.drop p)) = sz := ⟨_, rfl⟩
        rw [hszz] at HT hsz hs1
        rw [List.length_drop] at hsz
        have hsl : p + sz ≤ l := by rw [HLX.out]; have := HLX.out; omega
        have HNF2 := Lib.hid (show ∀ s, s < t + 1 → fewX (xs.drop (stX xs at' s).2) = false from fun s hs => by
          rcases Nat.lt_or_ge s t with h | h
          · exact HNF.out s h
          · rw [show s = t by omega, ← HP.out]; exact hfew)
        have ht1 : t + 1 ≤ 1048576 := by
          have h1 := stX_le xs at' (t + 1) HNF2.out
          omega
        have HP2 := Lib.hid (show p + sz = (stX xs at' (t + 1)).2 by rw [stX, ← HP.out, hszz])
        have HHX := Lib.hid (fun W => refHex_walk a 4 (by omega) (by omega) W)
        have HST1 := Lib.hid (show (stX xs at' (t + 1)).1 = (stX xs at' t).1 ++ [hexL true a 4 ++ 32 :: insX (xs.drop p) a] by rw [stX, lineX, ← HP.out, HA.out])
        have hins : (bytesB (insX (xs.drop p) a)).size ≤ 1000 := by
          have hk := codeX_lt HFD.out
          have h1 := opsX_length (codeX (xs.drop p)) (nextX (xs.drop p) a) (restX (xs.drop p)) (formT (codeX (xs.drop p))).size
          have h2 := (note_ok _ hk).2.2.2.2.2.2.2.1
          have h4 := (note_ok _ hk).2.2.2.2.2.2.2.2.2.1
          have h3 : (formT (codeX (xs.drop p))).data.toList.length = (formT (codeX (xs.drop p))).size := by simp
          rw [bytesB_size, insX, List.length_append]; omega
        have z4 := hexL_size true a 4
        obtain ⟨H4, hH4⟩ : ∃ x, bytesB (hexL true a 4) = x := ⟨_, rfl⟩
        obtain ⟨I, hI⟩ : ∃ x, bytesB (insX (xs.drop p) a) = x := ⟨_, rfl⟩
        have HE := Lib.hid (show (H4 ++ (⟨#[32]⟩ : ByteArray)) ++ I = bytesB (hexL true a 4 ++ 32 :: insX (xs.drop p) a) by
          rw [← hH4, ← hI, show (⟨#[32]⟩ : ByteArray) = bytesB [32] from rfl, bytesB_append, bytesB_append, List.append_assoc]; rfl)
        rw [hH4] at HHX z4
        rw [hI] at HT hins
        clear e1 hfew hsz hH4 hI hszz HRW HFD
        have j3 : IntKind.i64.wrap (a : Int) = (a : Int) := IntWalk.i64_in _ (by omega)
        have j4 : IntKind.i64.wrap ((p : Int) + (sz : Int)) = ((p + sz : Nat) : Int) := by rw [IntWalk.i64_in _ (by omega)]; rfl
        go_upto_region 10 with (go_at_call 5; refine HT.out.mono ?_; rintro e w5 ⟨rfl, hb5⟩)
        have HB5 := Lib.hid (HB.out.trans (hb5.mono (hb0 _ HB.out)))
        have HO5 := Lib.hid (ownsRow_behind HO.out hb5)
        clear hb5 HT HO HB
        go_wp2_with fail
        go_at_call 21
        refine (HHX.out _).mono ?_
        rintro e w6 ⟨rfl, hw6⟩
        obtain rfl := hw6.symm
        go_wp2_with (at_builtin; refine wpList_append_own _ rfl _ _ 28 rfl B0 9 i0 (.string ⟨#[]⟩) 1 16 Tryz.underlying28 hi'.out hz0'.out hz1'.out hz2'.out rfl (by decide) lv t _ rfl (ownsRow_behind HO5.out (Below.alloc1 _)) ⟨w5.heap.size, 0, none⟩ 1 1 [.string ((H4 ++ (⟨#[32]⟩ : ByteArray)) ++ I)] rfl rfl ?c1 ?c2 ?c3 ?c4 ?c5 ?_)
        case c1 =>
          intro j u hj
          rcases j with _ | j
          · have : u = .string ((H4 ++ (⟨#[32]⟩ : ByteArray)) ++ I) := by simpa using hj.symm
            rw [this]; simp [go_sem]
          · simp at hj
        case c2 => simp [Value.oneCell']
        case c3 => unfold maxLen; omega
        case c4 => omega
        case c5 => have := hb0 _ HB5.out; simp; omega
        intro v' w7 hown7 hgrow7 _
        have HB7 := Lib.hid ((HB5.out.alloc (hb0 _ HB5.out) _).grown hgrow7 (by have := hb0 _ HB5.out; simp; omega) (fun j e => ownsRow_ge HO5.out e))
        have HO7 := Lib.hid (show w7.ownsRow B0 9 1 v' (t + 1) ((stX xs at' (t + 1)).1.map (fun t => Value.string (bytesB t))) by
          rw [HST1.out, List.map_append, List.map_cons, ← HE.out]; exact hown7)
        clear hown7 hgrow7 HO5 HB5
        go_wp2_with fail
        refine ⟨⟨t + 1, p + sz, v', hsl, by go_num, rfl, ht1, HP2, HNF2, HO7, HB7⟩, ?_⟩
        simp [intOf]; omega
    · obtain rfl : p = l := by omega
      have b1 : ¬ (p : Int) < (p : Int) := by omega
      have hdl : (xs.drop p).length = 0 := by rw [List.length_drop, ← HLX.out]; omega
      have HST := Lib.hid (show StopX xs at' t from ⟨by rw [← HP.out]; unfold fewX; rw [hdl]; simp, HNF.out⟩)
      have HAL := Lib.hid (show AllX xs at' (stX xs at' t).1 from ⟨t, HST.out, by
        rw [← HP.out, ← HLX.out, Nat.sub_self]; simp [leftsX]⟩)
      clear hdl
      go_wp2_with fail
      go_ret
      exact ⟨lv, rfl, _, HAL.out, by rw [stX_length]; exact HO.out, HB.out⟩
end Go.Proofs.YteabjninmaceaaaGreatDoor
