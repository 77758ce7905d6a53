/- Bytes line by line: the program's List. -/
import Derived.Test.YteabjninmaceaaaGreatDoorProg
import Derived.Test.YteabjninmaceaaaGreatDoorNotesLines
import Derived.Test.YteabjninmaceaaaGreatDoorNotesHex
import Derived.Test.YteabjninmaceaaaGreatDoorNotesText
namespace Go.Proofs.YteabjninmaceaaaGreatDoor
open Go.RowKit
set_option linter.unusedVariables false
set_option linter.unusedSimpArgs false

/-- The length of a slice. -/
def lenOf : Value → Nat
  | .slice _ l _ => l
  | _ => 0
theorem leftX_size (xs : List Int) (at' p : Nat) : (leftX xs at' p).length = 9 := by simp [leftX, hexL_length]
set_option maxRecDepth 100000 in
set_option maxHeartbeats 4000000 in
theorem list_walk (v : Value) (at' : Nat) (hat : at' < 65536) (xs : List Int) (hlen : xs.length ≤ 1048576) (w : World) (hr : Row .u8 w v xs) (hf : Fits .u8 xs) (hL : Laid w) :
    Calls Tryz.prog 8 #[v, .int .u16 at'] w fun e w' => ∃ v' L, e = .returned v' ∧ AllX xs at' L ∧ w'.ownsRow w.heap.size 9 1 v' L.length (L.map (fun t => Value.string (bytesB t))) ∧ Below w.heap.size w w' := by
  obtain ⟨i0, hi, hz0, hz1, hz2⟩ := info_parts Tryz.infoStr
  have hi' := Lib.hid hi
  have hz0' := Lib.hid hz0
  have hz1' := Lib.hid hz1
  have hz2' := Lib.hid hz2
  clear hi hz0 hz1 hz2
  obtain ⟨ad, l, c, rfl⟩ : ∃ ad l c, v = .slice ad l c := by
    rcases hr with ⟨a, c, rfl, _⟩ | ⟨b, o, c, rfl, _⟩
    · exact ⟨_, _, _, rfl⟩
    · exact ⟨_, _, _, rfl⟩
  obtain ⟨B0, hB0⟩ : ∃ B0, w.heap.size = B0 := ⟨_, rfl⟩
  have hb0 : ∀ W, Below B0 w W → B0 ≤ W.heap.size := fun W h => by have := h.size; omega
  have HR := Lib.hid hr
  have HF := Lib.hid hf
  have HL := Lib.hid hL
  have HTX := Lib.hid (fun v a ys W (h1 : Row .u8 W v ys) (h2 : Fits .u8 ys) (h3 : Laid W) => text_walk v a ys W h1 h2 h3)
  clear hr hf hL
  go_enter Tryz.func8, Tryz.ntmps8
  go_upto_region 2 with fail
  go_loopw [0, 1, 5] (fun s0 s1 s5 wr => ∃ (t p a l : Nat) (ad : Option Addr) (c : Nat) (lv : Value), s0 = .slice ad l c ∧ s1 = .int .u16 (a : Nat) ∧ lv = s5 ∧ a < 65536 ∧ l ≤ 1048576 ∧ t ≤ 1048576 ∧ Hid (p = (stX xs at' t).2) ∧ Hid (a = (at' + p) % 65536) ∧ Hid (∀ s, s < t → fewX (xs.drop (stX xs at' s).2) = false) ∧ Hid (Row .u8 w (.slice ad l c) (xs.drop p)) ∧ Hid (wr.ownsRow B0 9 1 lv t ((stX xs at' t).1.map (fun t => Value.string (bytesB t)))) ∧ Hid (Below B0 w wr)) (fun s0 _ _ _ => lenOf s0)
  case atStart =>
    refine ⟨0, 0, at', l, ad, c, .slice none 0 0, rfl, rfl, rfl, hat, by rw [row_len HR.out]; exact hlen, by omega, Lib.hid rfl, Lib.hid (by rw [Nat.add_zero, Nat.mod_eq_of_lt hat]), Lib.hid (fun s hs => absurd hs (Nat.not_lt_zero _)), Lib.hid HR.out, Lib.hid ⟨rfl, .inl ⟨rfl, rfl⟩⟩, Lib.hid (by rw [← hB0]; exact Below.refl _ _)⟩
  case round =>
    obtain ⟨t, p, a, l, ad, c, lv, rfl, rfl, rfl, ha, hl, ht, HP, HA, HNF, HRW, HO, HB⟩ := hrel
    have HLEN := Lib.hid (row_len HRW.out)
    by_cases hl0 : 0 < l
    · have b1 : (0 : Int) < (l : Int) := by omega
      have HFD := Lib.hid (show Fits .u8 (xs.drop p) from fun z hz => HF.out z (List.mem_of_mem_drop hz))
      have HT := Lib.hid (HTX.out (.slice ad l c) a (xs.drop p) wr (HRW.out.below' HB.out (Nat.le_of_eq hB0)) HFD.out (HL.out.below (by rw [hB0]; exact HB.out)))
      by_cases hfew : fewX (xs.drop p) = true
      · have e1 : ansX (xs.drop p) a = .tuple #[.string ⟨#[]⟩, .int .i64 0, .int .i64 5] := by unfold ansX; rw [if_pos hfew]
        rw [e1] at HT
        have HST := Lib.hid (show StopX xs at' t from ⟨by rw [← HP.out]; exact hfew, HNF.out⟩)
        clear e1 hfew
        go_upto_region 6 with (go_at_call 7; refine HT.out.mono ?_; rintro e w5 ⟨rfl, hb5⟩)
        have HB5 := Lib.hid (HB.out.trans (hb5.mono (hb0 _ HB.out)))
        have HO5 := Lib.hid (ownsRow_behind HO.out hb5)
        clear hb5 HT HO HB
        go_loopw [5, 25] (fun s5 s25 wi => ∃ (i : Nat) (lu : Value), i ≤ l ∧ s25 = .int .i64 i ∧ lu = s5 ∧ Hid (wi.ownsRow B0 9 1 lu (t + i) (((stX xs at' t).1 ++ leftsX xs at' p i).map (fun t => Value.string (bytesB t)))) ∧ Hid (Below B0 w wi)) (fun _ s25 _ => l - (intOf s25).toNat)
        case atStart => exact ⟨0, lv, Nat.zero_le _, rfl, rfl, Lib.hid (by rw [leftsX, List.append_nil]; exact HO5.out), HB5⟩
        case round =>
          obtain ⟨i, lu, hi, rfl, rfl, HOi, HBi⟩ := hrel
          by_cases hlt : i < l
          · obtain ⟨bk, o, rfl, hcl⟩ : ∃ bk o, ad = some ⟨bk, o, none⟩ ∧ Hid (w.cell? ⟨bk, o + i, none⟩ = some (.int .u8 ((xs.drop p)[i]?.getD 0))) := by
              have hll : i < (xs.drop p).length := by rw [← HLEN.out]; exact hlt
              rcases HRW.out with ⟨a', c', e, e0, _⟩ | ⟨bk, o, c', e, h0, h1, h2, h3⟩
              · rw [e0] at hll; simp at hll
              · injection e with e1 e2 e3
                exact ⟨bk, o, e1, Lib.hid (h3 i hll)⟩
            have hcw := (HBi.out.cell (p := ⟨bk, o + i, none⟩) (by rw [← hB0]; exact World.block_lt_of_cell? w _ hcl.out)).trans hcl.out
            have hyb := bounds_u8 (HFD.out _ (getD_mem (show i < (xs.drop p).length by rw [← HLEN.out]; exact hlt)))
            obtain ⟨y, hy⟩ := Int.eq_ofNat_of_zero_le hyb.1
            have hy2 : y < 256 := by omega
            have hyx : xs[p + i]?.getD 0 = (y : Int) := by rw [← hy, List.getElem?_drop]
            rw [hy] at hcw
            have j1 : (i : Int) < (l : Int) := by omega
            have j2 : IntKind.i64.wrap ((i : Int) + 1) = ((i + 1 : Nat) : Int) := by rw [IntWalk.i64_in _ (by omega)]; rfl
            obtain ⟨a2, ha2⟩ : ∃ a2, (a + i) % 65536 = a2 := ⟨_, rfl⟩
            have j3 : IntKind.u16.wrap ((a : Int) + IntKind.u16.wrap (i : Int)) = (a2 : Int) := by rw [← ha2]; simp [IntKind.wrap, IntKind.bits, IntKind.signed]
            have ha3 : a2 < 65536 := by omega
            have j4 : IntKind.i64.wrap (a2 : Int) = (a2 : Int) := IntWalk.i64_in _ (by omega)
            have j5 : IntKind.i64.wrap (y : Int) = (y : Int) := IntWalk.i64_in _ (by omega)
            have HA2 := Lib.hid (show (at' + (p + i)) % 65536 = a2 by rw [← ha2, HA.out]; omega)
            have HLF := Lib.hid (show leftsX xs at' p (i + 1) = leftsX xs at' p i ++ [hexL true a2 4 ++ [32, 63, 32] ++ hexL true y 2] by rw [leftsX, leftX, HA2.out, hyx, Int.toNat_natCast])
            have HH4 := Lib.hid (fun W (hl : Laid W) => hex_walk a2 4 (by omega) (by omega) (by omega) W hl)
            have HH2 := Lib.hid (fun W (hl : Laid W) => hex_walk y 2 (by omega) (by omega) (by omega) W hl)
            have z4 := hexL_size true a2 4
            have z2 := hexL_size true y 2
            obtain ⟨H4, hH4⟩ : ∃ x, bytesB (hexL true a2 4) = x := ⟨_, rfl⟩
            obtain ⟨H2, hH2⟩ : ∃ x, bytesB (hexL true y 2) = x := ⟨_, rfl⟩
            have HE := Lib.hid (show (H4 ++ (⟨#[32, 63, 32]⟩ : ByteArray)) ++ H2 = bytesB (hexL true a2 4 ++ [32, 63, 32] ++ hexL true y 2) by
              rw [← hH4, ← hH2, show (⟨#[32, 63, 32]⟩ : ByteArray) = bytesB [32, 63, 32] from rfl, bytesB_append, bytesB_append])
            rw [hH4] at HH4 z4
            rw [hH2] at HH2 z2
            have HLi := Lib.hid (HL.out.below (by rw [hB0]; exact HBi.out))
            clear hcl hyb hy hyx ha2 hH4 hH2
            go_wp2_with fail
            go_at_call 20
            refine (HH4.out _ HLi.out).mono ?_
            rintro e w6 ⟨rfl, hb6⟩
            have HL6 := Lib.hid (HLi.out.below hb6)
            clear HH4
            go_wp2_with fail
            go_at_call 20
            refine (HH2.out _ HL6.out).mono ?_
            rintro e w7 ⟨rfl, hb7⟩
            clear HH2
            go_wp2_with (at_builtin; refine wpList_append_own _ rfl _ _ 28 rfl B0 9 i0 (.string ⟨#[]⟩) 1 16 Tryz.underlying28 hi'.out hz0'.out hz1'.out hz2'.out rfl (by decide) lu (t + i) _ rfl (ownsRow_behind (ownsRow_behind (ownsRow_behind HOi.out hb6) hb7) (Below.alloc1 _)) ⟨w7.heap.size, 0, none⟩ 1 1 [.string ((H4 ++ (⟨#[32, 63, 32]⟩ : ByteArray)) ++ H2)] rfl rfl ?c1 ?c2 ?c3 ?c4 ?c5 ?_)
            case c1 =>
              intro j u hj
              rcases j with _ | j
              · have : u = .string ((H4 ++ (⟨#[32, 63, 32]⟩ : ByteArray)) ++ H2) := by simpa using hj.symm
                rw [this]; simp [go_sem]
              · simp at hj
            case c2 => simp [Value.oneCell']
            case c3 => unfold maxLen; omega
            case c4 => omega
            case c5 => have := hb0 _ HBi.out; have := hb6.size; have := hb7.size; simp; omega
            intro v' w8 hown8 hgrow8 _
            have HB6 := HBi.out.trans (hb6.mono (hb0 _ HBi.out))
            have HB7 := HB6.trans (hb7.mono (hb0 _ HB6))
            have HB8 := Lib.hid ((HB7.alloc (hb0 _ HB7) _).grown hgrow8 (by have := hb0 _ HB7; simp; omega) (fun j e => ownsRow_ge HOi.out e))
            have HO8 := Lib.hid (show w8.ownsRow B0 9 1 v' (t + (i + 1)) (((stX xs at' t).1 ++ leftsX xs at' p (i + 1)).map (fun t => Value.string (bytesB t))) by
              rw [HLF.out, ← List.append_assoc, List.map_append, List.map_cons, ← HE.out, ← Nat.add_assoc, List.map_append, List.append_assoc]; exact hown8)
            clear hown8 hgrow8 HB6 HB7 hb6 hb7 HOi HBi HLi HL6
            go_wp2_with fail
            go_roundw
            case rel => exact ⟨i + 1, v', by omega, by go_num, rfl, HO8, HB8⟩
            case measure => simp [intOf]; omega
          · obtain rfl : i = l := by omega
            have i1 : ¬ (i : Int) < (i : Int) := by omega
            have HAL := Lib.hid (show AllX xs at' ((stX xs at' t).1 ++ leftsX xs at' p i) from ⟨t, HST.out, by
              have h := HLEN.out
              rw [List.length_drop] at h
              rw [← HP.out, ← h]⟩)
            go_wp2_with fail
            go_ret
            exact ⟨lu, rfl, _, HAL.out, by rw [List.length_append, stX_length, leftsX_length]; exact HOi.out, HBi.out⟩
      · have hfew := Bool.eq_false_iff.2 hfew
        have e1 : ansX (xs.drop p) a = .tuple #[.string (bytesB (insX (xs.drop p) a)), .int .i64 (sizeN (codeX (xs.drop p)) : Nat), .int .i64 0] := by unfold ansX; rw [if_neg (by rw [hfew]; decide)]
        rw [e1] at HT
        obtain ⟨hsz, hs1⟩ := few_false hfew
        obtain ⟨sz, hszz⟩ : ∃ sz, sizeN (codeX (xs.drop p)) = sz := ⟨_, rfl⟩
        rw [hszz] at HT hsz hs1
        have hsl : sz ≤ l := by rw [HLEN.out]; exact hsz
        have HNF2 := Lib.hid (show ∀ s, s < t + 1 → fewX (xs.drop (stX xs at' s).2) = false from fun s hs => by
          rcases Nat.lt_or_ge s t with h | h
          · exact HNF.out s h
          · rw [show s = t by omega, ← HP.out]; exact hfew)
        have ht1 : t + 1 ≤ 1048576 := by
          have h1 := stX_le xs at' (t + 1) HNF2.out
          omega
        have HP2 := Lib.hid (show p + sz = (stX xs at' (t + 1)).2 by rw [stX, ← HP.out, hszz])
        have HHX := Lib.hid (fun W (hl : Laid W) => hex_walk a 4 (by omega) (by omega) (by omega) W hl)
        have HST1 := Lib.hid (show (stX xs at' (t + 1)).1 = (stX xs at' t).1 ++ [hexL true a 4 ++ 32 :: insX (xs.drop p) a] by rw [stX, lineX, ← HP.out, ← HA.out])
        have hins : (bytesB (insX (xs.drop p) a)).size ≤ 1000 := by
          have hk := codeX_lt HFD.out
          have h1 := opsX_length (codeX (xs.drop p)) (nextX (xs.drop p) a) (restX (xs.drop p)) (formT (codeX (xs.drop p))).size
          have h2 := (note_ok _ hk).2.2.2.2.2.2.2.1
          have h4 := (note_ok _ hk).2.2.2.2.2.2.2.2.2.1
          have h3 : (formT (codeX (xs.drop p))).data.toList.length = (formT (codeX (xs.drop p))).size := by simp
          rw [bytesB_size, insX, List.length_append]; omega
        have z4 := hexL_size true a 4
        obtain ⟨H4, hH4⟩ : ∃ x, bytesB (hexL true a 4) = x := ⟨_, rfl⟩
        obtain ⟨I, hI⟩ : ∃ x, bytesB (insX (xs.drop p) a) = x := ⟨_, rfl⟩
        have HE := Lib.hid (show (H4 ++ (⟨#[32]⟩ : ByteArray)) ++ I = bytesB (hexL true a 4 ++ 32 :: insX (xs.drop p) a) by
          rw [← hH4, ← hI, show (⟨#[32]⟩ : ByteArray) = bytesB [32] from rfl, bytesB_append, bytesB_append, List.append_assoc]; rfl)
        rw [hH4] at HHX z4
        rw [hI] at HT hins
        have HRD := Lib.hid (row_drop HRW.out sz hsz)
        rw [List.drop_drop] at HRD
        have HWZ := Lib.hid (show (a + sz) % 65536 = (at' + (p + sz)) % 65536 by rw [HA.out]; omega)
        clear e1 hfew hsz hH4 hI hszz
        have j1 : (sz : Int) ≤ (l : Int) := by omega
        have j2 : (0 : Int) ≤ (sz : Int) := by omega
        have hs3 : sz ≤ 1048576 := by omega
        have j3 : IntKind.i64.wrap (a : Int) = (a : Int) := IntWalk.i64_in _ (by omega)
        go_upto_region 11 with (go_at_call 7; refine HT.out.mono ?_; rintro e w5 ⟨rfl, hb5⟩)
        have HB5 := Lib.hid (HB.out.trans (hb5.mono (hb0 _ HB.out)))
        have HO5 := Lib.hid (ownsRow_behind HO.out hb5)
        have HL5 := Lib.hid (HL.out.below (by rw [hB0]; exact HB5.out))
        clear hb5 HT HO HB
        go_wp2_with (first | (go_at_call 20; refine (HHX.out _ HL5.out).mono ?_; rintro e w6 ⟨rfl, hb6⟩) | (at_builtin; refine wpList_append_own _ rfl _ _ 28 rfl B0 9 i0 (.string ⟨#[]⟩) 1 16 Tryz.underlying28 hi'.out hz0'.out hz1'.out hz2'.out rfl (by decide) lv t _ rfl (ownsRow_behind (ownsRow_behind HO5.out hb6) (Below.alloc1 _)) ⟨w6.heap.size, 0, none⟩ 1 1 [.string ((H4 ++ (⟨#[32]⟩ : ByteArray)) ++ I)] rfl rfl ?c1 ?c2 ?c3 ?c4 ?c5 ?_))
        case c1 =>
          intro j u hj
          rcases j with _ | j
          · have : u = .string ((H4 ++ (⟨#[32]⟩ : ByteArray)) ++ I) := by simpa using hj.symm
            rw [this]; simp [go_sem]
          · simp at hj
        case c2 => simp [Value.oneCell']
        case c3 => unfold maxLen; omega
        case c4 => omega
        case c5 => have := hb0 _ HB5.out; have := hb6.size; simp; omega
        intro v' w7 hown7 hgrow7 _
        have HB6 := HB5.out.trans (hb6.mono (hb0 _ HB5.out))
        have HB7 := Lib.hid ((HB6.alloc (hb0 _ HB6) _).grown hgrow7 (by have := hb0 _ HB6; simp; omega) (fun j e => ownsRow_ge HO5.out e))
        have HO7 := Lib.hid (show w7.ownsRow B0 9 1 v' (t + 1) ((stX xs at' (t + 1)).1.map (fun t => Value.string (bytesB t))) by
          rw [HST1.out, List.map_append, List.map_cons, ← HE.out]; exact hown7)
        clear hown7 hgrow7 HB6 hb6 HO5 HB5 HL5
        go_wp2_with fail
        refine ⟨⟨t + 1, p + sz, (a + sz) % 65536, l - sz, _, c - sz, v', rfl, ?_, rfl, Nat.mod_lt _ (by decide), by omega, ht1, HP2, HWZ, HNF2, Lib.hid ?_, HO7, HB7⟩, ?_⟩
        · simp [IntKind.wrap, IntKind.bits, IntKind.signed]
        · have h := HRD.out
          simp only [Nat.mul_one] at h
          exact h
        · show l - sz < l
          omega
    · obtain rfl : l = 0 := by omega
      have b1 : ¬ (0 : Int) < ((0 : Nat) : Int) := by omega
      have HST := Lib.hid (show StopX xs at' t from ⟨by rw [← HP.out]; unfold fewX; rw [← HLEN.out]; simp, HNF.out⟩)
      have HAL := Lib.hid (show AllX xs at' (stX xs at' t).1 from ⟨t, HST.out, by
        have h := HLEN.out
        rw [List.length_drop, HP.out] at h
        rw [← h]; simp [leftsX]⟩)
      go_wp2_with fail
      go_ret
      exact ⟨lv, rfl, _, HAL.out, by rw [stX_length]; exact HO.out, HB.out⟩
end Go.Proofs.YteabjninmaceaaaGreatDoor
