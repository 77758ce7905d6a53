/- The walk of the document's Pack. -/
import Derived.Test.YtpmmnjmlnjdkjaaPackLem
import Derived.Test.YtpmmnjmlnjdkjaaRefAll
import Derived.Test.YtpmmnjmlnjdkjaaRefEnc
namespace Go.Proofs.Ytpmmnjmlnjdkjaa
open Go.RowKit
set_option linter.unusedVariables false

/-- Two owned rows of unlike elements lie in two blocks. -/
theorem rows_apart {w : World} {b1 b2 : Nat} {e1 e2 : TypeId} {s1 s2 n1 n2 : Nat} {v1 v2 : Value} {x1 x2 : List Value} (h : w.ownsRow b1 e1 s1 v1 n1 x1) (k : w.ownsRow b2 e2 s2 v2 n2 x2) (hne : e1 ≠ e2) :
    v1.ownBlock = none ∨ v1.ownBlock ≠ v2.ownBlock := by
  rcases h.2 with ⟨rfl, _⟩ | ⟨g, cap, cur, rfl, _, hg, _⟩
  · exact .inl rfl
  · refine .inr fun e => ?_
    rcases k.2 with ⟨rfl, _⟩ | ⟨g2, cap2, cur2, rfl, _, hg2, _⟩
    · simp [Value.ownBlock] at e
    · obtain rfl : g = g2 := by simpa [Value.ownBlock] using e
      rw [hg] at hg2
      simp only [Option.some.injEq, Obj.cells.injEq] at hg2
      exact hne hg2.2.1
theorem ownsRow_shape {w : World} {b e n : Nat} {v : Value} {xs : List Value} (h : w.ownsRow b e 1 v n xs) (h0 : 0 < n) : ∃ g cap, v = .slice (some ⟨g, 0, none⟩) n cap := by
  rcases h.2 with ⟨_, h1⟩ | ⟨g, cap, cur, rfl, _⟩
  · omega
  · exact ⟨g, cap, rfl⟩
theorem ownsRow_shape0 {w : World} {b e n : Nat} {v : Value} {xs : List Value} (h : w.ownsRow b e 1 v n xs) : ∃ a cap, v = .slice a n cap := by
  rcases h.2 with ⟨rfl, h1⟩ | ⟨g, cap, cur, rfl, _⟩
  · exact ⟨_, _, by rw [h1]⟩
  · exact ⟨_, cap, rfl⟩

set_option maxRecDepth 100000 in
set_option maxHeartbeats 4000000 in
theorem refPack_walk (v : Value) (s : List Int) (w : World) (hr : Row .i16 w v s) (hf : Fits .i16 s) (hl : s.length ≤ 400) :
    Calls Try.prog 25 #[v] w fun e w' => ∃ r, e = .returned r ∧ w'.ownsRow w.heap.size 5 1 r (9 * nBlk s.length) ((packN s (nBlk s.length) (nBlk s.length)).map (Value.int .u8)) ∧ Below w.heap.size w w' := by
  obtain ⟨i0, hi, hz0, hz1, hz2⟩ := info_parts Try.infoI16
  have hi' := Lib.hid hi
  have hz0' := Lib.hid hz0
  have hz1' := Lib.hid hz1
  have hz2' := Lib.hid hz2
  clear hi hz0 hz1 hz2
  obtain ⟨t1, ji, jz0, jz1, jz2⟩ := info_parts Try.infoU8
  have ji' := Lib.hid ji
  have jz0' := Lib.hid jz0
  have jz1' := Lib.hid jz1
  have jz2' := Lib.hid jz2
  clear ji jz0 jz1 jz2
  obtain ⟨a, cap, rfl⟩ := hr.shape
  have HR := Lib.hid hr
  have HF := Lib.hid hf
  obtain ⟨L, hL⟩ : ∃ L : Nat, s.length = L := ⟨_, rfl⟩
  have HL := Lib.hid hL
  obtain ⟨n, hn⟩ : ∃ n : Nat, nBlk L = n := ⟨_, rfl⟩
  have n1 : 1 ≤ n := by rw [← hn]; exact nBlk_pos L
  have n2 : L ≤ 16 * n := by rw [← hn]; exact nBlk_ge L
  have n3 : n ≤ 25 := by rw [← hn]; unfold nBlk; omega
  have n4 : 16 * n < L + 16 ∨ (L = 0 ∧ n = 1) := by rw [← hn]; unfold nBlk; omega
  rw [hL] at hl ⊢
  rw [hn]
  have HN := Lib.hid hn
  clear hr hf hL hn
  go_enter Try.func25, Try.ntmps25
  go_upto_region 2 with fail
  go_cut [3] (fun s3 wx => ∃ V, V = s3 ∧ Hid (wx.ownsRow w.heap.size 23 1 V L (s.map (Value.int .i16))) ∧ Below w.heap.size w wx)
  case first =>
    cases a with
    | none =>
      have h0 : s = [] := by
        rcases HR.out with ⟨_, _, e, h, _⟩ | ⟨_, _, _, e, _⟩
        · exact h
        · cases e
      have h1 : L = 0 := by rw [← HL.out, h0]; rfl
      have HO : Hid (w.ownsRow w.heap.size 23 1 (.slice none 0 0) L (s.map (Value.int .i16))) := by rw [h0, h1]; exact World.ownsRow_nil _ _ _ _
      clear h0
      subst h1
      go_wp2_with fail
      go_meet
      exact ⟨_, rfl, HO, Below.refl _ _⟩
    | some ad =>
      have hx : ∀ (j : Nat) (u : Value), (s.map (Value.int .i16))[j]? = some u → w.cell? (ad.add j) = some u := by
        by_cases h0 : 0 < s.length
        · obtain ⟨b, o, c, e, h⟩ := HR.out.reads h0
          simp only [Value.slice.injEq, Option.some.injEq] at e
          rw [e.1]; exact h
        · intro j u hu
          have e0 : s = [] := List.eq_nil_of_length_eq_zero (by omega)
          rw [e0] at hu; cases hu
      have HX := Lib.hid hx
      clear hx
      have hown0 : w.ownsRow w.heap.size 23 1 (.slice none 0 0) 0 [] := World.ownsRow_nil _ _ _ _
      have HO0 := Lib.hid hown0
      clear hown0
      go_wp2_with (at_builtin; refine wpList_append_own _ rfl _ _ 27 rfl w.heap.size 23 i0 (.int .i16 0) 1 2 Try.underlying27 hi'.out hz0'.out hz1'.out hz2'.out rfl (by decide) _ _ _ rfl HO0.out ad L cap (s.map (Value.int .i16)) rfl ?pp0 HX.out ?pp2 ?pp3 ?pp4 ?pp5 ?_)
      case pp0 => rw [List.length_map, HL.out, Nat.mul_one]
      case pp2 => simp [Value.oneCell']
      case pp3 => unfold maxLen; omega
      case pp4 => omega
      case pp5 => exact Nat.le_refl _
      intro v1 w1 hown' hgrow _
      have HB1 : Hid (Below w.heap.size w w1) := (Below.refl _ _).grown hgrow (Nat.le_refl _) (fun j e => by simp [Value.ownBlock] at e)
      have HO1 : Hid (w1.ownsRow w.heap.size 23 1 v1 L (s.map (Value.int .i16))) := by show World.ownsRow _ _ _ _ _ _ _; simpa using hown'
      clear hown' hgrow
      go_wp2_with fail
      go_meet
      exact ⟨_, rfl, HO1, HB1.out⟩
  case rest =>
    obtain ⟨V0, rfl, HO0, hb0⟩ := hcut
    go_wp2_with fail
    go_loopg [3] (16 * n - L) (fun gk v3 wr => ∃ (k : Nat) (V : Value), k + gk = 16 * n - L ∧ V = v3 ∧
      Hid (wr.ownsRow w.heap.size 23 1 V (L + k) ((s ++ List.replicate k 0).map (Value.int .i16))) ∧ Below w.heap.size w wr)
    case atStart => exact ⟨0, _, by omega, rfl, by show World.ownsRow _ _ _ _ _ _ _; rw [List.replicate_zero, List.append_nil]; exact HO0.out, hb0⟩
    case round =>
      obtain ⟨k, V, hk, rfl, HO, hbr⟩ := hrel
      obtain ⟨va, vc, rfl⟩ := ownsRow_shape0 HO.out
      by_cases hlt : L + k < 16 * n
      · obtain ⟨M, hM⟩ : ∃ M, L + k = M := ⟨_, rfl⟩
        have HM := Lib.hid hM
        rw [hM] at HO hlt ⊢
        have HK := Lib.hid hk
        have hmod : M = 0 ∨ M % 16 ≠ 0 := by omega
        clear hM hk
        obtain ⟨X, hX⟩ : ∃ X, (s ++ List.replicate k 0).map (Value.int .i16) = X := ⟨_, rfl⟩
        rw [hX] at HO
        have hAp : ∀ (v' : Value) (w' : World), w'.ownsRow w.heap.size 23 1 v' (M + 1) (X ++ [.int .i16 0]) → w'.ownsRow w.heap.size 23 1 v' (L + (k + 1)) ((s ++ List.replicate (k + 1) 0).map (Value.int .i16)) := fun v' w' h => by
          rw [List.replicate_succ', ← List.append_assoc, List.map_append (l₂ := [0]), ← Nat.add_assoc, HM.out, hX]; exact h
        have HAP := Lib.hid hAp
        clear hAp hX
        rcases Nat.decEq M 0 with h0 | h0
        · have hm16 : M % 16 ≠ 0 := by omega
          have c0 : (M : Int) ≠ 0 := by omega
          have c1 : ((M : Int) % 16 != 0) = true := by rw [bne_iff_ne]; omega
          go_wp2_with (at_builtin; refine wpList_append_own _ rfl _ _ 27 rfl w.heap.size 23 i0 (.int .i16 0) 1 2 Try.underlying27 hi'.out hz0'.out hz1'.out hz2'.out rfl (by decide) _ _ _ rfl (HO.out.alloc _) ⟨wr.heap.size, 0, none⟩ 1 1 [.int .i16 0] rfl rfl ?qq1 ?qq2 ?qq3 ?qq4 ?qq5 ?_)
          case qq1 => exact cell_one_new _ _ _
          case qq2 => simp [Value.oneCell']
          case qq3 => unfold maxLen; omega
          case qq4 => omega
          case qq5 => have := hbr.size; simp; omega
          intro v' w3 hown' hgrow _
          have hb3 : Below w.heap.size w w3 := (hbr.alloc hbr.size _).grown hgrow (by have := hbr.size; simp; omega) (fun j e => (HO.out.lt j e).1)
          have HO3 := Lib.hid (HAP.out _ _ hown')
          clear hown' hgrow
          go_wp2_with fail
          go_roundg (16 * n - L - (k + 1))
          case measure => have := HK.out; have := HM.out; omega
          case rel => exact ⟨k + 1, _, by have := HK.out; have := HM.out; omega, rfl, HO3, hb3⟩
        · subst h0
          go_wp2_with (at_builtin; refine wpList_append_own _ rfl _ _ 27 rfl w.heap.size 23 i0 (.int .i16 0) 1 2 Try.underlying27 hi'.out hz0'.out hz1'.out hz2'.out rfl (by decide) _ _ _ rfl (HO.out.alloc _) ⟨wr.heap.size, 0, none⟩ 1 1 [.int .i16 0] rfl rfl ?rr1 ?rr2 ?rr3 ?rr4 ?rr5 ?_)
          case rr2 => simp [Value.oneCell']
          case rr3 => unfold maxLen; omega
          case rr5 => have := hbr.size; simp; omega
          intro v' w3 hown' hgrow _
          have hb3 : Below w.heap.size w w3 := (hbr.alloc hbr.size _).grown hgrow (by have := hbr.size; simp; omega) (fun j e => (HO.out.lt j e).1)
          have HO3 := Lib.hid (HAP.out _ _ hown')
          clear hown' hgrow
          go_wp2_with fail
          go_roundg (16 * n - L - (k + 1))
          case measure => have := HK.out; have := HM.out; omega
          case rel => exact ⟨k + 1, _, by have := HK.out; have := HM.out; omega, rfl, HO3, hb3⟩
      · have ek : L + k = 16 * n := by omega
        have HOA : Hid (wr.ownsRow w.heap.size 23 1 (.slice va (16 * n) vc) (16 * n) ((allN s).map (Value.int .i16))) := by
          have h := HO.out
          rw [show List.replicate k (0 : Int) = List.replicate (16 * nBlk s.length - s.length) 0 from by rw [HL.out, HN.out]; congr 1; omega, ek] at h
          exact h
        rw [ek]
        have HBR := Lib.hid hbr
        have HLA : Hid ((allN s).length = 16 * n) := by show _ = _; rw [allN_length, HL.out, HN.out]
        clear hk HO hbr ek hlt
        obtain ⟨wa, rfl⟩ : ∃ wa, wa = wr := ⟨_, rfl⟩
        have c0 : (16 * n : Nat) ≠ 0 := by omega
        have c1 : ((16 * n : Nat) : Int) % 16 = 0 := by omega
        have c2 : ((16 * n : Nat) : Int) = 16 * (n : Int) := by omega
        have c3 : (16 * (n : Int)) % 16 = 0 := by omega
        have c4 : ((16 * (n : Int)) == 0) = false := by rw [beq_eq_false_iff_ne]; omega
        go_wp2_with fail
        go_loopg [4, 5, 6] n (fun gk v4 v5 v6 wr => ∃ (k : Nat) (B D : Value), k + gk = n ∧ v6 = .int .i64 (16 * (k : Int)) ∧ B = v4 ∧ D = v5 ∧
          Hid (wr.ownsRow wa.heap.size 5 1 B (9 * k) ((packN s n k).map (Value.int .u8))) ∧ Hid (wr.ownsRow wa.heap.size 23 1 D (16 * k) ((doneN s k).map (Value.int .i16))) ∧ Below wa.heap.size wa wr)
        case atStart => exact ⟨0, _, _, by omega, rfl, rfl, rfl, World.ownsRow_nil _ _ _ _, World.ownsRow_nil _ _ _ _, Below.refl _ _⟩
        case round =>
          obtain ⟨k, B, D, hk, rfl, rfl, rfl, hO, hD, hbq⟩ := hrel
          have HK := Lib.hid hk
          clear hk
          by_cases hlt : k < n
          · obtain ⟨da, dc, rfl⟩ := ownsRow_shape0 hD.out
            have hra := (Row.owned HOA.out).1.below hbq
            obtain ⟨b2, o2, c2', e2, -, hcm, hcx⟩ := hra.cells (by rw [HLA.out]; omega)
            have hcc : 16 * n ≤ vc := by
              rcases hra with ⟨_, _, e, h, _⟩ | ⟨_, _, _, e, _, h, _⟩
              · have := HLA.out; rw [h] at this; simp at this; omega
              · simp only [Value.slice.injEq] at e; rw [HLA.out] at h; omega
            rw [HLA.out] at e2 hcx
            simp only [Value.slice.injEq, true_and] at e2
            obtain ⟨rfl, rfl⟩ := e2
            have hpart : Row .i16 wr (.slice (some ⟨b2, o2 + 16 * k, none⟩) 16 (vc - 16 * k)) (blkN s k) :=
              Row.part (by rw [HLA.out]; exact hcx) (16 * k) 16 (vc - 16 * k) (by omega) (by omega) (by omega) (by rw [HLA.out]; omega)
            have HPART := Lib.hid hpart
            have HBF := Lib.hid (blkN_fits s HF.out k)
            have HBL := Lib.hid (blkN_length s k (by rw [HL.out, HN.out]; exact hlt))
            have hst := stP_bounds s k
            have hla := last_doneN s k
            obtain ⟨P, hP⟩ : ∃ P, (stP s k).1 = P := ⟨_, rfl⟩
            obtain ⟨Q, hQ⟩ : ∃ Q, (stP s k).2 = Q := ⟨_, rfl⟩
            have HCN : Hid (codeN s k = encodeN (blkN s k) P Q) := by show _ = _; unfold codeN; rw [hP, hQ]
            have HSN : Hid (samN s k = samplesN (codeN s k) P Q 16) := by show _ = _; unfold samN; rw [hP, hQ]
            rw [hP, hQ] at hst hla
            have HRD : Hid (Row .i16 wr (.slice da (16 * k) dc) (doneN s k)) := (Row.owned hD.out).1
            have HC1 : Hid (∀ W, Row .i16 W (.slice da (16 * k) dc) (doneN s k) → Calls Try.prog 34 #[.slice da (16 * k) dc, .int .i64 1] W fun e w' => e = .returned (.int .i16 P) ∧ W = w') := fun W h => by
              have h2 := ahead_int _ _ 1 W h (by decide) (by decide)
              rw [show lastN (doneN s k) (1 : Int).toNat = P from hla.1] at h2
              exact h2
            have HC2 : Hid (∀ W, Row .i16 W (.slice da (16 * k) dc) (doneN s k) → Calls Try.prog 34 #[.slice da (16 * k) dc, .int .i64 2] W fun e w' => e = .returned (.int .i16 Q) ∧ W = w') := fun W h => by
              have h2 := ahead_int _ _ 2 W h (by decide) (by decide)
              rw [show lastN (doneN s k) (2 : Int).toNat = Q from hla.2] at h2
              exact h2
            clear hra hcx hpart hP hQ hla
            have i1 : 16 * (k : Int) < ((16 * n : Nat) : Int) := by omega
            have i4 : 16 * (k : Int) < 16 * (n : Int) := by omega
            have i2 : 0 ≤ 16 * (k : Int) := by omega
            have j1 : (16 * (k : Int)).toNat = 16 * k := by omega
            have j2 : (16 * (k : Int) + 16).toNat = 16 * k + 16 := by omega
            have j3 : ¬ vc = 16 * k := by omega
            have j4 : IntKind.i64.wrap (16 * (k : Int) + 16) = 16 * (k : Int) + 16 := IntWalk.i64_in _ (by omega)
            have j5 : 16 * (k : Int) + 16 ≤ (vc : Int) := by omega
            go_wp2_with fail
            go_at_call 34
            refine (HC1.out _ HRD.out).mono ?_
            rintro e w3 ⟨rfl, rfl⟩
            go_wp2_with fail
            go_at_call 34
            refine (HC2.out _ HRD.out).mono ?_
            rintro e w3 ⟨rfl, rfl⟩
            go_wp2_with fail
            go_at_call 18
            refine (refEncode_walk _ (blkN s k) P Q _ HPART.out HBF.out HBL.out (by omega) (by omega) (by omega) (by omega)).mono ?_
            rintro e w3 ⟨r3, rfl, ho3, hb3⟩
            rw [← HCN.out] at ho3
            obtain ⟨g3, c3, rfl⟩ := ownsRow_shape ho3 (by decide)
            have HF3 : Hid (Fits .u8 (codeN s k)) := by rw [HCN.out]; exact encode_fits _ _ _
            have HO3 := Lib.hid ho3
            have HB3 := Lib.hid hb3
            have HBO3 := Lib.hid (ownsRow_below hO.out hb3)
            have HDO3 := Lib.hid (ownsRow_below hD.out hb3)
            have HBL' := Lib.hid (fun j => hO.out.lt j)
            clear ho3 hb3
            go_wp2_with fail
            go_at_call 12
            refine (refDecode9 _ (codeN s k) P Q _ (Row.owned HO3.out).1 HF3.out (codeN_length s k) (by omega) (by omega) (by omega) (by omega)).mono ?_
            rintro e w4 ⟨b4, o4, c4', rfl, HX4, hb4⟩
            rw [← HSN.out] at HX4
            have HB4 := Lib.hid (below_step HB3.out HB3.out.size hb4)
            have HO4 := Lib.hid (ownsRow_below HO3.out hb4)
            have HBO4 := Lib.hid (ownsRow_below HBO3.out hb4)
            have HDO4 := Lib.hid (ownsRow_below HDO3.out hb4)
            have HDS : Hid (doneN s (k + 1) = doneN s k ++ samN s k) := rfl
            have HSL := Lib.hid (samN_length s k)
            clear hb4 HO3 HBO3 HDO3
            go_wp2_with (at_builtin; refine wpList_append_own _ rfl _ _ 27 rfl wa.heap.size 23 i0 (.int .i16 0) 1 2 Try.underlying27 hi'.out hz0'.out hz1'.out hz2'.out rfl (by decide) _ _ _ rfl HDO4.out ⟨b4, o4, none⟩ 16 c4' ((samN s k).map (Value.int .i16)) rfl ?ss0 HX4.out ?ss2 ?ss3 ?ss4 ?ss5 ?_)
            case ss0 => rw [List.length_map, HSL.out]
            case ss2 => simp [Value.oneCell']
            case ss3 => unfold maxLen; omega
            case ss4 => omega
            case ss5 => have := HB4.out.size; have := hbq.size; omega
            intro v5 w5 hown' hgrow _
            have hb5 : Below wa.heap.size wa w5 := (below_step hbq hbq.size HB4.out).grown hgrow (by have := HB4.out.size; have := hbq.size; omega) (fun j e => (HDO4.out.lt j e).1)
            have HD5 : Hid (w5.ownsRow wa.heap.size 23 1 v5 (16 * (k + 1)) ((doneN s (k + 1)).map (Value.int .i16))) := by
              rw [HDS.out, List.map_append]; exact hown'
            have HO5 := Lib.hid (HO4.out.kept hgrow (rows_apart HO4.out HDO4.out (by decide)))
            have HBO5 := Lib.hid (HBO4.out.kept hgrow (rows_apart HBO4.out HDO4.out (by decide)))
            have HBW5 := Lib.hid hb5
            clear hown' hgrow hb5 HO4 HBO4 HDO4
            have hx0 : w5.cell? ⟨g3, 0, none⟩ = some (.int .u8 ((codeN s k)[0]?.getD 0)) := by
              have h := HO5.out.cellAt 0 (by decide)
              rw [h, List.getElem?_map, List.getElem?_eq_getElem (by rw [codeN_length]; decide)]
              rfl
            have hf0 : w5.frozen? ⟨g3, 0, none⟩ = false := HO5.out.frozenAt 0
            have hh := head_facts (blkN s k) P Q
            rw [← HCN.out] at hh
            rcases Nat.decEq (k + 1) n with hend | hend
            rotate_left
            · have hst2 := HO5.out.stored 0 (.int .u8 ((codeN s k)[0]?.getD 0 + 1))
              have HR6 : Hid ((w5.setCell ⟨g3, 0, none⟩ (.int .u8 ((codeN s k)[0]?.getD 0 + 1))).ownsRow wr.heap.size 5 1 (.slice (some ⟨g3, 0, none⟩) 9 c3) 9 ((endN (codeN s k) (decide (k + 1 = n))).map (Value.int .u8))) := by
                rw [decide_eq_true hend]
                have h := hst2.1
                rw [← List.map_set] at h
                exact h
              have HBk := Lib.hid (HBO5.out.kept hst2.2 (by
                cases hB : B.ownBlock with
                | none => exact .inl rfl
                | some j =>
                  refine .inr fun e => ?_
                  have h1 := (HBL'.out j hB).2
                  have h2 := (HO5.out.lt g3 rfl).1
                  cases e
                  omega))
              have HDk := Lib.hid (HD5.out.kept hst2.2 (rows_apart HD5.out HO5.out (by decide)))
              have HBW : Hid (Below wa.heap.size wa (w5.setCell ⟨g3, 0, none⟩ (.int .u8 ((codeN s k)[0]?.getD 0 + 1)))) := HBW5.out.setCell (p := ⟨g3, 0, none⟩) (by have := (HO5.out.lt g3 rfl).1; have := hbq.size; show _ ≤ g3; omega) _
              obtain ⟨x, hx⟩ : ∃ x, (codeN s k)[0]?.getD 0 = x := ⟨_, rfl⟩
              rw [hx] at hx0 HR6 HBk HDk HBW hh
              clear hx hst2
              have e1 : 16 * (k : Int) + 16 = 16 * (n : Int) := by omega
              have e3 : (x + 1) % 256 = x + 1 := by omega
              go_upto_region 17 with fail
              generalize (w5.setCell ⟨g3, 0, none⟩ (.int .u8 (x + 1))) = w6 at HR6 HBk HDk HBW ⊢
              clear hx0 hf0 hh e1 e3 HO5 HBO5 HD5 HBW5
              have HPS : Hid (packN s n (k + 1) = packN s n k ++ endN (codeN s k) (decide (k + 1 = n))) := rfl
              have HEL : Hid ((endN (codeN s k) (decide (k + 1 = n))).length = 9) := by show _ = _; rw [endN_length, codeN_length]
              obtain ⟨X, hX⟩ : ∃ X, endN (codeN s k) (decide (k + 1 = n)) = X := ⟨_, rfl⟩
              rw [hX] at HEL HR6 HPS
              clear hX
              obtain ⟨b9, o9, c9, e9, hx9⟩ := (Row.owned HR6.out).1.reads (by rw [HEL.out]; omega)
              simp only [Value.slice.injEq, Option.some.injEq, Addr.mk.injEq, and_true] at e9
              obtain ⟨⟨rfl, rfl⟩, -⟩ := e9
              have HX9 := Lib.hid hx9
              clear hx9
              go_wp2_with (at_builtin; refine wpList_append_own _ rfl _ _ 22 rfl wa.heap.size 5 t1 (.int .u8 0) 1 1 Try.underlying22 ji'.out jz0'.out jz1'.out jz2'.out rfl (by decide) _ _ _ rfl HBk.out ⟨g3, 0, none⟩ 9 c3 (X.map (Value.int .u8)) rfl ?tt0 HX9.out ?tt2 ?tt3 ?tt4 ?tt5 ?_)
              case tt0 => rw [List.length_map, HEL.out]
              case tt2 => simp [Value.oneCell']
              case tt3 => unfold maxLen; omega
              case tt4 => omega
              case tt5 => exact HBW.out.size
              intro v7 w7 hown' hgrow _
              have hb7 : Below wa.heap.size wa w7 := HBW.out.grown hgrow HBW.out.size (fun j e => (HBk.out.lt j e).1)
              have HO7 : Hid (w7.ownsRow wa.heap.size 5 1 v7 (9 * (k + 1)) ((packN s n (k + 1)).map (Value.int .u8))) := by
                rw [HPS.out, List.map_append]; exact hown'
              have HD7 := Lib.hid (HDk.out.kept hgrow (rows_apart HDk.out HBk.out (by decide)))
              clear hown' hgrow
              go_wp2_with fail
              go_roundg (n - (k + 1))
              case measure => have := HK.out; omega
              case rel => exact ⟨k + 1, _, _, by have := HK.out; omega, by go_num, rfl, rfl, HO7, HD7, hb7⟩
            · have HR6 : Hid (w5.ownsRow wr.heap.size 5 1 (.slice (some ⟨g3, 0, none⟩) 9 c3) 9 ((endN (codeN s k) (decide (k + 1 = n))).map (Value.int .u8))) := by
                rw [decide_eq_false hend]
                exact HO5.out
              have HBk := HBO5
              have HDk := HD5
              have HBW := HBW5
              have e1 : ¬ 16 * (k : Int) + 16 = 16 * (n : Int) := by omega
              go_upto_region 17 with fail
              have HPS : Hid (packN s n (k + 1) = packN s n k ++ endN (codeN s k) (decide (k + 1 = n))) := rfl
              have HEL : Hid ((endN (codeN s k) (decide (k + 1 = n))).length = 9) := by show _ = _; rw [endN_length, codeN_length]
              obtain ⟨X, hX⟩ : ∃ X, endN (codeN s k) (decide (k + 1 = n)) = X := ⟨_, rfl⟩
              rw [hX] at HEL HR6 HPS
              clear hX
              obtain ⟨b9, o9, c9, e9, hx9⟩ := (Row.owned HR6.out).1.reads (by rw [HEL.out]; omega)
              simp only [Value.slice.injEq, Option.some.injEq, Addr.mk.injEq, and_true] at e9
              obtain ⟨⟨rfl, rfl⟩, -⟩ := e9
              have HX9 := Lib.hid hx9
              clear hx9
              go_wp2_with (at_builtin; refine wpList_append_own _ rfl _ _ 22 rfl wa.heap.size 5 t1 (.int .u8 0) 1 1 Try.underlying22 ji'.out jz0'.out jz1'.out jz2'.out rfl (by decide) _ _ _ rfl HBk.out ⟨g3, 0, none⟩ 9 c3 (X.map (Value.int .u8)) rfl ?uu0 HX9.out ?uu2 ?uu3 ?uu4 ?uu5 ?_)
              case uu0 => rw [List.length_map, HEL.out]
              case uu2 => simp [Value.oneCell']
              case uu3 => unfold maxLen; omega
              case uu4 => omega
              case uu5 => exact HBW.out.size
              intro v7 w7 hown' hgrow _
              have hb7 : Below wa.heap.size wa w7 := HBW.out.grown hgrow HBW.out.size (fun j e => (HBk.out.lt j e).1)
              have HO7 : Hid (w7.ownsRow wa.heap.size 5 1 v7 (9 * (k + 1)) ((packN s n (k + 1)).map (Value.int .u8))) := by
                rw [HPS.out, List.map_append]; exact hown'
              have HD7 := Lib.hid (HDk.out.kept hgrow (rows_apart HDk.out HBk.out (by decide)))
              clear hown' hgrow
              go_wp2_with fail
              go_roundg (n - (k + 1))
              case measure => have := HK.out; omega
              case rel => exact ⟨k + 1, _, _, by have := HK.out; omega, by go_num, rfl, rfl, HO7, HD7, hb7⟩
          · obtain rfl : k = n := by have := HK.out; omega
            have HBF := Lib.hid (below_step HBR.out HBR.out.size hbq)
            have HOF := Lib.hid (ownsRow_base hO.out HBR.out.size)
            clear hO hbq hD
            go_wp2_with fail
            go_ret
            exact ⟨_, rfl, HOF.out, HBF.out⟩
end Go.Proofs.Ytpmmnjmlnjdkjaa
