/- The walk of Pack: samples as blocks. -/
import Derived.Test.YtpmmnjmlnjdkjaaPackLem
import Derived.Test.YtpmmnjmlnjdkjaaEncP
namespace Go.Proofs.Ytpmmnjmlnjdkjaa
open Go.RowKit
set_option linter.unusedVariables false

theorem PackAt.asRow {w : World} {g : Nat} {bs : List Int} {a : Int} (h : PackAt w g bs a) : Row .u8 w (.slice (some ⟨g, 0, none⟩) 9 9) bs := by
  have hl := h.len
  have h2 : Row .u8 w (.slice (some ⟨g, 0, none⟩) bs.length 9) bs := .inr ⟨g, 0, 9, rfl, by omega, by omega, by decide, fun i hi => by rw [Nat.zero_add]; exact h.c i (by omega)⟩
  rwa [hl] at h2

set_option maxRecDepth 100000 in
set_option maxHeartbeats 4000000 in
theorem pack_walk (v : Value) (s : List Int) (w : World) (hr : Row .i16 w v s) (hf : Fits .i16 s) (hl : s.length ≤ 400) :
    Calls Try.prog 24 #[v] w fun e w' => ∃ r, e = .returned r ∧ w'.ownsRow w.heap.size 5 1 r (9 * nBlk s.length) ((packN s (nBlk s.length) (nBlk s.length)).map (Value.int .u8)) ∧ Below w.heap.size w w' := by
  obtain ⟨i0, hi, hz0, hz1, hz2⟩ := info_parts Try.infoI16
  have hi' := Lib.hid hi
  have hz0' := Lib.hid hz0
  have hz1' := Lib.hid hz1
  have hz2' := Lib.hid hz2
  clear hi hz0 hz1 hz2
  obtain ⟨t1, ji, jz0, jz1, jz2⟩ := info_parts Try.infoU8
  have ji' := Lib.hid ji
  have jz0' := Lib.hid jz0
  have jz1' := Lib.hid jz1
  have jz2' := Lib.hid jz2
  clear ji jz0 jz1 jz2
  obtain ⟨a, cap, rfl⟩ := hr.shape
  have HR := Lib.hid hr
  have HF := Lib.hid hf
  obtain ⟨L, hL⟩ : ∃ L : Nat, s.length = L := ⟨_, rfl⟩
  have HL := Lib.hid hL
  obtain ⟨n, hn⟩ : ∃ n : Nat, nBlk L = n := ⟨_, rfl⟩
  have n1 : 1 ≤ n := by rw [← hn]; exact nBlk_pos L
  have n2 : L ≤ 16 * n := by rw [← hn]; exact nBlk_ge L
  have n3 : n ≤ 25 := by rw [← hn]; unfold nBlk; omega
  have n4 : max 1 (((L : Int) + 15) / 16) = (n : Int) := by rw [← hn]; unfold nBlk; omega
  rw [hL] at hl ⊢
  rw [hn]
  have HN := Lib.hid hn
  have N4 := Lib.hid n4
  clear hr hf hL hn n4
  go_enter Try.func24, Try.ntmps24
  go_upto_region 1 with fail
  go_cut [3] (fun s3 wx => s3 = .int .i64 (n : Int) ∧ w = wx)
  case first =>
    go_wp2_with fail
    all_goals
      go_meet
      refine ⟨?_, rfl⟩
      have h := N4.out
      congr 1
      omega
  case rest =>
    obtain ⟨rfl, rfl⟩ := hcut
    have hmk : i0.bytes * (16 * n) ≤ 281474976710656 := by rw [hz2'.out]; omega
    have HMK := Lib.hid hmk
    have hmade : (madeCells (Value.int .i16 0).cells (16 * n * 1)).toList = (List.replicate (16 * n) (0 : Int)).map (Value.int .i16) := by
      rw [Nat.mul_one, show (Value.int IntKind.i16 0).cells = #[Value.int .i16 0] from rfl, toList_madeCells_one]; simp
    have HM := Lib.hid hmade
    have e16 : (n : Int) * 16 = ((16 * n : Nat) : Int) := by omega
    have w16 : IntKind.i64.wrap ((n : Int) * 16) = ((16 * n : Nat) : Int) := by rw [IntWalk.i64_in _ (by omega)]; exact e16
    clear hmk hmade
    go_upto_region 3 with (refine wpList_make_full _ rfl _ _ _ rfl w.heap.size 23 i0 (.int .i16 0) 1 Try.underlying27 hi'.out hz0'.out hz1'.out .i64 .i64 _ _ (16 * n) rfl rfl (by omega) (by omega) HMK.out (by unfold maxLen; omega) (Nat.le_refl _) ?_; intro w1 hown hgrow)
    rw [HM.out] at hown
    have hblk := block_of_full hown
    have hb1 : Below w.heap.size w w1 := (Below.refl _ _).grown hgrow (Nat.le_refl _) (fun k h => by cases h)
    have hg1 : w.heap.size < w1.heap.size := (Array.getElem?_eq_some_iff.1 hblk).1
    have HBLK := Lib.hid hblk
    have HB1 := Lib.hid hb1
    have hcpos : 0 < (s.map (Value.int .i16)).length → ∃ ad, a = some ad ∧ ∀ j v, (s.map (Value.int .i16))[j]? = some v → w1.cell? (ad.add j) = some v := by
      intro h
      obtain ⟨b, o, c, e, hx⟩ := (HR.out.below HB1.out).reads (by simpa using h)
      simp only [Value.slice.injEq] at e
      exact ⟨⟨b, o, none⟩, e.1, hx⟩
    have HCP := Lib.hid hcpos
    clear hown hgrow hcpos hblk hb1
    go_wp2_with (refine wpList_copy_splice (o := ⟨some 23, _, _, _, _, _⟩) rfl (.tmp 21) (.tmp 22) 27 27 rfl 23 Try.underlying27 (by kernel_rfl) (some ⟨w.heap.size, 0, none⟩) a (16 * n) (16 * n) L cap rfl rfl w.heap.size 0 ((List.replicate (16 * n) (0 : Int)).map (Value.int .i16)) 23 HBLK.out (s.map (Value.int .i16)) ?c1 (fun h => ⟨rfl, HCP.out h⟩) ?c2 ?c3 w.heap.size w HB1.out (Nat.le_refl _) ?_)
    case c1 => rw [List.length_map, HL.out]; exact (Nat.min_eq_left n2).symm
    case c2 => rw [List.length_map, List.length_map, List.length_replicate, HL.out]; omega
    case c3 => simp [Value.oneCell']
    intro w2 HG2 hb2
    have hg2 := HG2.out
    rw [splice_all s (16 * n) (by rw [HL.out]; exact n2)] at hg2
    have hall : s ++ List.replicate (16 * n - s.length) 0 = allN s := by unfold allN; rw [HL.out, HN.out]
    have hlen : (allN s).length = 16 * n := by rw [allN_length, HL.out, HN.out]
    rw [hall] at hg2
    have hra := row_of_block hg2 (by rw [hlen]; unfold maxLen; omega)
    rw [hlen] at hra
    have HA := Lib.hid hra
    have HB2 := Lib.hid hb2
    clear hg2 hall hra hb2 HG2 HCP HBLK HB1
    have HLA := Lib.hid hlen
    clear hlen
    go_wp2_with fail
    go_loopg [5, 6, 25] n (fun gk v5 v6 v25 wr => ∃ (k : Nat) (B D : Value), k + gk = n ∧ v25 = .int .i64 k ∧ B = v5 ∧ D = v6 ∧
      Hid (wr.ownsRow w2.heap.size 5 1 B (9 * k) ((packN s n k).map (Value.int .u8))) ∧ Hid (Row .i16 wr D (lastB s k)) ∧ Below w2.heap.size w2 wr)
    case atStart => exact ⟨0, _, _, by omega, rfl, rfl, rfl, World.ownsRow_nil _ _ _ _, Row.nil _ _, Below.refl _ _⟩
    case round =>
      obtain ⟨k, B, D, hk, rfl, rfl, rfl, hO, hD, hbr⟩ := hrel
      have HK := Lib.hid hk
      clear hk
      by_cases hlt : k < n
      · obtain ⟨da, dc, rfl⟩ := hD.out.shape
        obtain ⟨ld, hld⟩ : ∃ ld, (lastB s k).length = ld := ⟨_, rfl⟩
        have hra := HA.out.below hbr
        obtain ⟨b2, o2, c2, e2, -, -, hcx⟩ := hra.cells (by rw [HLA.out]; omega)
        rw [HLA.out] at e2 hcx
        simp only [Value.slice.injEq, Option.some.injEq, Addr.mk.injEq, and_true, true_and] at e2
        obtain ⟨⟨rfl, rfl⟩, rfl⟩ := e2
        have hpart : Row .i16 wr (.slice (some ⟨w.heap.size, 0 + 16 * k, none⟩) 16 (16 * n - 16 * k)) (blkN s k) :=
          Row.part (by rw [HLA.out]; exact hcx) (16 * k) 16 (16 * n - 16 * k) (by omega) (by omega) (by unfold maxLen; omega) (by rw [HLA.out]; omega)
        rw [Nat.zero_add] at hpart
        have HPART := Lib.hid hpart
        have HBF := Lib.hid (blkN_fits s HF.out k)
        have HBL := Lib.hid (blkN_length s k (by rw [HL.out, HN.out]; exact hlt))
        have hst := stP_bounds s k
        have HBH := Lib.hid (fun W2 (h : Row .i16 W2 (.slice da (lastB s k).length dc) (lastB s k)) => behind_any _ _ W2 h)
        rw [behind_lastB] at HBH
        obtain ⟨P, hP⟩ : ∃ P, (stP s k).1 = P := ⟨_, rfl⟩
        obtain ⟨Q, hQ⟩ : ∃ Q, (stP s k).2 = Q := ⟨_, rfl⟩
        have HCN : Hid (codeN s k = encodeN (blkN s k) P Q) := by show _ = _; unfold codeN; rw [hP, hQ]
        have HSN : Hid (samN s k = samplesN (codeN s k) P Q 16) := by show _ = _; unfold samN; rw [hP, hQ]
        rw [hP, hQ] at hst HBH
        rw [hld] at HBH hD ⊢
        clear hra hcx hpart hP hQ hld
        have i1 : (k : Int) < (n : Int) := by omega
        have i2 : 0 ≤ (k : Int) := by omega
        have j1 : ((k : Int) * 16).toNat = 16 * k := by omega
        have j2 : (((k : Int) + 1) * 16).toNat = 16 * k + 16 := by omega
        have j3 : ¬ 16 * n = 16 * k := by omega
        have j4 : IntKind.i64.wrap ((k : Int) * 16) = (k : Int) * 16 := IntWalk.i64_in _ (by omega)
        have j5 : IntKind.i64.wrap ((k : Int) + 1) = (k : Int) + 1 := IntWalk.i64_in _ (by omega)
        have j6 : IntKind.i64.wrap (((k : Int) + 1) * 16) = ((k : Int) + 1) * 16 := IntWalk.i64_in _ (by omega)
        go_wp2_with fail
        go_at_call 36
        refine (HBH.out _ hD.out).mono ?_
        rintro e w3 ⟨rfl, n3, rfl⟩
        have HB3 := Lib.hid (below_drewN (Below.refl wr.heap.size wr) n3)
        generalize wr.drewN n3 = w3 at HB3 ⊢
        go_wp2_with fail
        go_at_call 19
        refine (encode_walk _ (blkN s k) P Q _ (HPART.out.below HB3.out) HBF.out HBL.out (by omega) (by omega) (by omega) (by omega)).mono ?_
        rintro e w4 ⟨g9, rfl, hge, ⟨ap, hpk⟩, hb4⟩
        rw [← HCN.out] at hpk
        have hb34 := below_step HB3.out HB3.out.size hb4
        have hge2 : wr.heap.size ≤ g9 := Nat.le_trans HB3.out.size hge
        have HPK := Lib.hid hpk
        have HB4 := Lib.hid hb34
        have HH := Lib.hid (head_facts (blkN s k) P Q)
        rw [← HCN.out] at HH
        clear hpk hb34 hb4 hge
        go_upto_region 11 with fail
        rcases Nat.decEq (k + 1) n with hend | hend
        rotate_left
        · have hx0 := HPK.out.c 0 (by omega)
          have hf0 := HPK.out.fz 0
          have hh := HH.out
          have hor : bits BinOp.or IntKind.u8 ((codeN s k)[0]?.getD 0) 1 = (codeN s k)[0]?.getD 0 + 1 := or_end _ (by omega) (by omega) hh.2.2
          have HFIN : Hid (PackAt (w4.setCell ⟨g9, 0, none⟩ (.int .u8 ((codeN s k)[0]?.getD 0 + 1))) g9 (endN (codeN s k) (decide (k + 1 = n))) ap) := by
            rw [decide_eq_true hend]
            exact HPK.out.setByte 0 (by omega) _
          have HFB : Hid (Below wr.heap.size wr (w4.setCell ⟨g9, 0, none⟩ (.int .u8 ((codeN s k)[0]?.getD 0 + 1)))) := HB4.out.setCell (p := ⟨g9, 0, none⟩) hge2 _
          obtain ⟨x, hx⟩ : ∃ x, (codeN s k)[0]?.getD 0 = x := ⟨_, rfl⟩
          rw [hx] at hx0 hor HFIN HFB hh
          have e1 : (k : Int) = (n : Int) - 1 := by omega
          clear hx
          go_upto_region 13 with fail
          generalize (w4.setCell ⟨g9, 0, none⟩ (.int .u8 (x + 1))) = w5 at HFIN HFB ⊢
          clear hx0 hf0 hh hor e1 HPK HB4
          have HE : Hid (Fits .u8 (endN (codeN s k) (decide (k + 1 = n)))) := by rw [HCN.out]; exact endN_fits _ _ _ _
          have HEL : Hid ((endN (codeN s k) (decide (k + 1 = n))).length = 9) := by show _ = _; rw [endN_length, codeN_length]
          have HES : Hid (samplesN (endN (codeN s k) (decide (k + 1 = n))) P Q 16 = samN s k) := by show _ = _; rw [HSN.out, HCN.out, end_samples]
          have HPS : Hid (packN s n (k + 1) = packN s n k ++ endN (codeN s k) (decide (k + 1 = n))) := rfl
          obtain ⟨X, hX⟩ : ∃ X, endN (codeN s k) (decide (k + 1 = n)) = X := ⟨_, rfl⟩
          rw [hX] at HE HEL HES HFIN HPS
          clear hX
          go_wp2_with fail
          go_at_call 13
          refine (decode_nine _ X P Q _ HFIN.out.asRow HE.out HEL.out (by omega) (by omega) (by omega) (by omega)).mono ?_
          rintro e w6 ⟨r6, rfl, ho6, hb6⟩
          rw [HES.out] at ho6
          obtain ⟨b6, o6, c6, rfl, -⟩ := (Row.owned ho6).1.reads (by rw [samN_length]; omega)
          rw [samN_length] at ho6 ⊢
          obtain ⟨b9, o9, c9, e9, hx9⟩ := (HFIN.out.asRow.below hb6).reads (by rw [HEL.out]; omega)
          simp only [Value.slice.injEq, Option.some.injEq, Addr.mk.injEq, and_true] at e9
          obtain ⟨⟨rfl, rfl⟩, -⟩ := e9
          have HX9 := Lib.hid hx9
          have HO6 := Lib.hid ho6
          have hb56 := below_step HFB.out HFB.out.size hb6
          have HB6 := Lib.hid hb56
          have HBO := Lib.hid (ownsRow_below hO.out hb56)
          have HSZ := Lib.hid (HFB.out.size)
          clear hx9 ho6 hb6 hb56
          go_wp2_with (at_builtin; refine wpList_append_own _ rfl _ _ 22 rfl w2.heap.size 5 t1 (.int .u8 0) 1 1 Try.underlying22 ji'.out jz0'.out jz1'.out jz2'.out rfl (by decide) _ _ _ rfl HBO.out ⟨g9, 0, none⟩ 9 9 (X.map (Value.int .u8)) rfl ?c0 HX9.out ?c2 ?c3 ?c4 ?c5 ?_)
          case c0 => rw [List.length_map, HEL.out]
          case c2 => simp [Value.oneCell']
          case c3 => unfold maxLen; omega
          case c4 => omega
          case c5 => have := HB6.out.size; have := hbr.size; omega
          intro v7 w7 hown' hgrow _
          have hb7 : Below w2.heap.size w2 w7 := (below_step hbr hbr.size HB6.out).grown hgrow (by have := HB6.out.size; have := hbr.size; omega) (fun j e => (HBO.out.lt j e).1)
          have HO7 : Hid (w7.ownsRow w2.heap.size 5 1 v7 (9 * (k + 1)) ((packN s n (k + 1)).map (Value.int .u8))) := by
            rw [HPS.out, List.map_append]; exact hown'
          have HD7 : Hid (Row .i16 w7 (.slice (some ⟨b6, o6, none⟩) 16 c6) (lastB s (k + 1))) := by
            refine (Row.owned (HO6.out.kept hgrow ?_)).1
            refine .inr fun e => ?_
            obtain ⟨j, hj⟩ : ∃ j, (Value.slice (some ⟨b6, o6, none⟩) 16 c6).ownBlock = some j := ⟨b6, rfl⟩
            have h1 := (HO6.out.lt j hj).1
            have h2 := (hO.out.lt j (by rw [← e]; exact hj)).2
            have := HSZ.out
            omega
          clear hown' hgrow
          go_wp2_with fail
          go_roundg (n - (k + 1))
          case measure => have := HK.out; omega
          case rel => exact ⟨k + 1, _, _, by have := HK.out; omega, by go_num, rfl, rfl, HO7, HD7, hb7⟩
        · have HFIN : Hid (PackAt w4 g9 (endN (codeN s k) (decide (k + 1 = n))) ap) := by
            rw [decide_eq_false hend]
            exact HPK.out
          have HFB := HB4
          have e1 : ¬ (k : Int) = (n : Int) - 1 := by omega
          go_upto_region 13 with fail
          have HE : Hid (Fits .u8 (endN (codeN s k) (decide (k + 1 = n)))) := by rw [HCN.out]; exact endN_fits _ _ _ _
          have HEL : Hid ((endN (codeN s k) (decide (k + 1 = n))).length = 9) := by show _ = _; rw [endN_length, codeN_length]
          have HES : Hid (samplesN (endN (codeN s k) (decide (k + 1 = n))) P Q 16 = samN s k) := by show _ = _; rw [HSN.out, HCN.out, end_samples]
          have HPS : Hid (packN s n (k + 1) = packN s n k ++ endN (codeN s k) (decide (k + 1 = n))) := rfl
          obtain ⟨X, hX⟩ : ∃ X, endN (codeN s k) (decide (k + 1 = n)) = X := ⟨_, rfl⟩
          rw [hX] at HE HEL HES HFIN HPS
          clear hX
          go_wp2_with fail
          go_at_call 13
          refine (decode_nine _ X P Q _ HFIN.out.asRow HE.out HEL.out (by omega) (by omega) (by omega) (by omega)).mono ?_
          rintro e w6 ⟨r6, rfl, ho6, hb6⟩
          rw [HES.out] at ho6
          obtain ⟨b6, o6, c6, rfl, -⟩ := (Row.owned ho6).1.reads (by rw [samN_length]; omega)
          rw [samN_length] at ho6 ⊢
          obtain ⟨b9, o9, c9, e9, hx9⟩ := (HFIN.out.asRow.below hb6).reads (by rw [HEL.out]; omega)
          simp only [Value.slice.injEq, Option.some.injEq, Addr.mk.injEq, and_true] at e9
          obtain ⟨⟨rfl, rfl⟩, -⟩ := e9
          have HX9 := Lib.hid hx9
          have HO6 := Lib.hid ho6
          have hb56 := below_step HFB.out HFB.out.size hb6
          have HB6 := Lib.hid hb56
          have HBO := Lib.hid (ownsRow_below hO.out hb56)
          have HSZ := Lib.hid (HFB.out.size)
          clear hx9 ho6 hb6 hb56
          go_wp2_with (at_builtin; refine wpList_append_own _ rfl _ _ 22 rfl w2.heap.size 5 t1 (.int .u8 0) 1 1 Try.underlying22 ji'.out jz0'.out jz1'.out jz2'.out rfl (by decide) _ _ _ rfl HBO.out ⟨g9, 0, none⟩ 9 9 (X.map (Value.int .u8)) rfl ?c0 HX9.out ?c2 ?c3 ?c4 ?c5 ?_)
          case c0 => rw [List.length_map, HEL.out]
          case c2 => simp [Value.oneCell']
          case c3 => unfold maxLen; omega
          case c4 => omega
          case c5 => have := HB6.out.size; have := hbr.size; omega
          intro v7 w7 hown' hgrow _
          have hb7 : Below w2.heap.size w2 w7 := (below_step hbr hbr.size HB6.out).grown hgrow (by have := HB6.out.size; have := hbr.size; omega) (fun j e => (HBO.out.lt j e).1)
          have HO7 : Hid (w7.ownsRow w2.heap.size 5 1 v7 (9 * (k + 1)) ((packN s n (k + 1)).map (Value.int .u8))) := by
            rw [HPS.out, List.map_append]; exact hown'
          have HD7 : Hid (Row .i16 w7 (.slice (some ⟨b6, o6, none⟩) 16 c6) (lastB s (k + 1))) := by
            refine (Row.owned (HO6.out.kept hgrow ?_)).1
            refine .inr fun e => ?_
            obtain ⟨j, hj⟩ : ∃ j, (Value.slice (some ⟨b6, o6, none⟩) 16 c6).ownBlock = some j := ⟨b6, rfl⟩
            have h1 := (HO6.out.lt j hj).1
            have h2 := (hO.out.lt j (by rw [← e]; exact hj)).2
            have := HSZ.out
            omega
          clear hown' hgrow
          go_wp2_with fail
          go_roundg (n - (k + 1))
          case measure => have := HK.out; omega
          case rel => exact ⟨k + 1, _, _, by have := HK.out; omega, by go_num, rfl, rfl, HO7, HD7, hb7⟩
      · obtain rfl : k = n := by have := HK.out; omega
        have HBF := Lib.hid (below_step HB2.out HB2.out.size hbr)
        have HOF := Lib.hid (ownsRow_base hO.out HB2.out.size)
        clear hO hbr hD
        go_wp2_with fail
        go_ret
        exact ⟨_, rfl, HOF.out, HBF.out⟩
end Go.Proofs.Ytpmmnjmlnjdkjaa
