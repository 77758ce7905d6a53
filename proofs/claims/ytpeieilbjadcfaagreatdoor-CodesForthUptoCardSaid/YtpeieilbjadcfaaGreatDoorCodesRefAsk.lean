/- The bytes of a text: the document's Bytes. -/
import Derived.Test.YtpeieilbjadcfaaGreatDoorProg
import Derived.Test.YtpeieilbjadcfaaGreatDoorCodesAsk
import Derived.Test.YtpeieilbjadcfaaGreatDoorCodesTry
import Derived.Test.YtpeieilbjadcfaaGreatDoorCodesRefText
namespace Go.Proofs.YtpeieilbjadcfaaGreatDoor
open Go.RowKit Go.Shelf
set_option linter.unusedVariables false
set_option linter.unusedSimpArgs false

theorem part_first (s : ByteArray) : ∀ d i, i + d = (Lib.cut s.data.toList [32]).1.length → partG s 32 (s.size + 1 - i) 0 0 i = s.extract 0 (i + d) := by
  have hsz : s.size = s.data.toList.length := by simp
  have hex : (∀ j, j < (Lib.cut s.data.toList [32]).1.length → byteN s j ≠ 32) ∧ ((Lib.cut s.data.toList [32]).1.length = s.size ∨ byteN s (Lib.cut s.data.toList [32]).1.length = 32) ∧ (Lib.cut s.data.toList [32]).1.length ≤ s.size := by
    rcases first_cut 32 s.data.toList with h | ⟨a, b, e, h⟩
    · rw [cut_none 32 _ h]
      refine ⟨fun j hj => ?_, .inl hsz.symm, by rw [hsz]; exact Nat.le_refl _⟩
      unfold byteN
      rw [List.getElem?_eq_getElem hj, Option.getD_some]
      exact h _ (List.getElem_mem _)
    · rw [e, cut_hit 32 _ _ h]
      refine ⟨fun j hj => ?_, .inr ?_, ?_⟩
      · unfold byteN
        have hj' : j < a.length := hj
        rw [e, List.getElem?_append_left hj', List.getElem?_eq_getElem hj', Option.getD_some]
        exact h _ (List.getElem_mem _)
      · unfold byteN
        rw [e, List.getElem?_append_right (Nat.le_refl _), Nat.sub_self]; rfl
      · rw [hsz, e, List.length_append]; exact Nat.le_add_right _ _
  intro d
  induction d with
  | zero =>
    intro i hi
    rw [Nat.add_zero] at hi
    rw [partG_at s 32 0 0 i (by rw [hi]; exact hex.2.2), if_pos (by rw [hi]; exact hex.2.1), if_pos rfl, Nat.add_zero]
  | succ d ih =>
    intro i hi
    have h1 := hex.2.2
    rw [partG_at s 32 0 0 i (by omega), if_neg (by
      rintro (h | h)
      · omega
      · exact hex.1 i (by omega) h), ih (i + 1) (by omega)]
    congr 1
    omega
theorem part_name (s : ByteArray) : partB s 0 32 = nameOf s := by
  have h := part_first s (Lib.cut s.data.toList [32]).1.length 0 (by omega)
  rw [Nat.sub_zero, Nat.zero_add] at h
  unfold partB
  rw [h]
  unfold nameOf
  apply ByteArray.ext
  apply Array.ext'
  rw [ByteArray.data_extract, Array.toList_extract, List.extract_eq_take_drop, List.drop_zero, Nat.sub_zero]
  rcases first_cut 32 s.data.toList with hn | ⟨a, b, e, hn⟩
  · rw [cut_none 32 _ hn]; exact List.take_length
  · rw [e, cut_hit 32 _ _ hn]; simp
theorem no_txtR (k pc p : Nat) (s : ByteArray) (hk : k < 256) (hpc : pc < 65536) (ht : ¬ textB k (leN (refO k s pc p)).toNat (opK k p) pc = s) : ¬ ∃ o, TxtO k o pc p s := by
  rintro ⟨o, ho⟩
  have h := (told_back k pc p o s hk hpc ho).2
  rw [h] at ht
  exact ht ho.2.2
set_option maxRecDepth 100000 in
set_option maxHeartbeats 4000000 in
theorem refAsk_walk (s : ByteArray) (hs : s.size ≤ 1048576) (pc p : Nat) (hpc : pc < 65536) (hp : p < 256) (w : World) :
    Calls Tryz.prog 6 #[.string s, .int .u16 pc, .int .u8 p] w fun E w' => ∃ v bs e, E = .returned (.tuple #[v, .int .i64 (e : Nat)]) ∧ AnsR s pc p bs e ∧ Row .u8 w' v bs ∧ Fits .u8 bs ∧ Below w.heap.size w w' := by
  have HPART := Lib.hid (fun W => part_walk s 0 32 W (by omega) (by omega))
  rw [part_name] at HPART
  have HNAM := Lib.hid (fun W => refNamed_walk (nameOf s) W)
  have HCO := Lib.hid (show namedL (nameOf s) (firstC 256 (Nat.le_refl _)) = codesOf s from rfl)
  rw [HCO.out] at HNAM
  have hN256 := codes_length s
  have HNM3 := Lib.hid (fun (k : Nat) (hk : k < 256) (e : nameB k = nameOf s) => tgt_same s (by rw [← e]; exact (tab_lim ⟨k, hk⟩).1))
  obtain ⟨nm, hnm⟩ : ∃ nm, nameOf s = nm := ⟨_, rfl⟩
  rw [hnm] at HPART HNAM
  have HCN := Lib.hid (fun j hj => codes_nat s j hj)
  obtain ⟨L, hL⟩ : ∃ L, codesOf s = L := ⟨_, rfl⟩
  rw [hL] at HNAM hN256 HCN
  have HL := Lib.hid hL
  obtain ⟨N, hN⟩ : ∃ N, L.length = N := ⟨_, rfl⟩
  have HN := Lib.hid hN
  have HTG := Lib.hid (fun W => target_walk s W)
  have HBY := Lib.hid (fun k hk W => try_walk k p pc hk hpc s (by omega) W)
  have HTX := Lib.hid (fun k (hk : k < 256) (o : List Int) (ho : o.length = opK k p) (hf : Fits .u8 o) v W hr => refText_walk v ((k : Int) :: o) pc p hpc hp W hr (fits_cons k hk o hf))
  have hpw : IntKind.i64.wrap (pc : Int) = (pc : Int) := by rw [IntWalk.i64_in _ (by omega)]
  rw [hN] at hN256
  clear hnm hL
  go_enter Tryz.func6, Tryz.ntmps6
  go_upto_region 2 with (first | (go_at_call 14; refine (HPART.out _).mono ?_; rintro e w1 ⟨rfl, hw1⟩; rw [hw1]; clear hw1 w1) | (go_at_call 13; refine (HNAM.out _).mono ?_; rintro e w2 ⟨v, rfl, hown, hb2⟩))
  have HB2 := Lib.hid hb2
  rw [hN] at hown
  obtain ⟨la, lc, rfl⟩ : ∃ la lc, v = .slice la N lc := by
    rcases hown.2 with ⟨rfl, h0⟩ | ⟨g, cap, cur, rfl, _⟩
    · exact ⟨none, 0, by rw [h0]⟩
    · exact ⟨_, _, rfl⟩
  by_cases h0 : N = 0
  · have e0 : ((N : Int) == 0) = true := by rw [h0]; rfl
    have HA := Lib.hid (show AnsR s pc p [] 60 from .inl ⟨by rw [HL.out]; exact List.eq_nil_of_length_eq_zero (by rw [HN.out, h0]), rfl, rfl⟩)
    clear h0 hown hb2
    go_wp2_with fail
    go_ret2
    exact ⟨_, [], 60, rfl, HA.out, Row.nil _ _, (by intro x hx; cases hx), HB2.out⟩
  · have e0 : ((N : Int) == 0) = false := by rw [beq_eq_false_iff_ne]; omega
    have HROW := Lib.hid (show ∀ i, i < N → ∃ b o, la = some ⟨b, o, none⟩ ∧ w2.cell? ⟨b, o + i, none⟩ = some (.int .u8 (L[i]?.getD 0)) from fun i hi => by
      rcases (Row.owned hown).1 with ⟨a, cap, e, h1, _⟩ | ⟨b, o, cap, e, h1, h2, h3, h4⟩
      · exfalso; rw [h1] at hN; simp at hN; omega
      · refine ⟨b, o, by injection e, h4 i (by omega)⟩)
    obtain ⟨gb, go, hla, _⟩ := HROW.out 0 (by omega)
    subst hla
    have HCELL := Lib.hid (show ∀ i, i < N → w2.cell? ⟨gb, go + i, none⟩ = some (.int .u8 (L[i]?.getD 0)) from fun i hi => by
      obtain ⟨b, o, e, h⟩ := HROW.out i hi
      injection e with e
      injection e with e1 e2 e3
      subst e1 e2
      exact h)
    obtain ⟨tg, htg⟩ : ∃ t, tgtS s = t := ⟨_, rfl⟩
    rw [htg] at HTG HNM3
    clear HROW h0 hown hb2 hN htg
    go_upto_region 6 with fail
    go_loopw [9, 10] (fun s9 s10 wr => ∃ (i E : Nat), i ≤ N ∧ s9 = .int .i64 (E : Nat) ∧ s10 = .int .i64 i ∧ Hid (∀ j : Nat, (j : Int) ∈ L.take i → ¬ ∃ o, TxtO j o pc p s) ∧ Hid (E = errE (L.take i) tg) ∧ Hid (Below w.heap.size w wr ∧ Below w2.heap.size w2 wr)) (fun _ s10 _ => N - (intOf s10).toNat)
    case atStart => exact ⟨0, 61, Nat.zero_le _, rfl, rfl, Lib.hid (fun j hj => by simp at hj), Lib.hid rfl, Lib.hid ⟨HB2.out, Below.refl _ _⟩⟩
    case round =>
      obtain ⟨i, E, hi, rfl, rfl, HNO, HER, HB⟩ := hrel
      by_cases hlt : i < N
      · have i1 : (i : Int) < (N : Int) := by omega
        have i2 : (0 : Int) ≤ (i : Int) := by omega
        have i3 : IntKind.i64.wrap ((i : Int) + 1) = ((i + 1 : Nat) : Int) := by rw [IntWalk.i64_in _ (by omega)]; rfl
        have hcell := HCELL.out i hlt
        have hil : i < L.length := by have := HN.out; omega
        rw [List.getElem?_eq_getElem hil, Option.getD_some] at hcell
        obtain ⟨k, hk, hkL, hkn⟩ := HCN.out (L[i]'hil) (List.getElem_mem _)
        rw [hkL] at hcell
        have hc1 : wr.cell? ⟨gb, go + i, none⟩ = some (.int .u8 (k : Int)) := (HB.out.2.cell (World.block_lt_of_cell? w2 _ hcell)).trans hcell
        have HNS := Lib.hid (fun hq => none_snoc L i hil k hkL (fun j => ∃ o, TxtO j o pc p s) HNO.out hq)
        have HES := Lib.hid (errE_step L i hil k hkL tg)
        have HMID := Lib.hid (show L = L.take i ++ (k : Int) :: L.drop (i + 1) by rw [← hkL, ← List.drop_eq_getElem_cons hil, List.take_append_drop])
        have HOF := Lib.hid (fun W => refOf_walk k hk W)
        have HV := Lib.hid (show codeV k = .agg #[.int .u8 k, .string (nameB k), .int .u8 (modeN k), .int .u8 (useN k), .int .u8 (widthN k)] from rfl)
        have HBYk := Lib.hid (fun W => HBY.out k hk W)
        have HOPk := Lib.hid (fun W => refOperand_walk (k : Int) (nameB k) (modeN k) (useN k) (widthN k) p (mode_lim k hk) hp W)
        have HOE := Lib.hid (show opN (modeN k) (widthN k) p = opK k p from rfl)
        rw [HOE.out] at HOPk
        have HOL := Lib.hid (refO_length k s pc p)
        have HOFI := Lib.hid (refO_fits k s pc p)
        have HTXk := Lib.hid (fun v W hr => HTX.out k hk (refO k s pc p) HOL.out HOFI.out v W hr)
        have HTV := Lib.hid (text_of k pc p hk _ HOL.out)
        rw [HTV.out] at HTXk
        rw [HV.out] at HOF HBYk
        have HK := Lib.hid hk
        obtain ⟨T, hT⟩ : ∃ T, textB k (leN (refO k s pc p)).toNat (opK k p) pc = T := ⟨_, rfl⟩
        rw [hT] at HTXk
        have HT := Lib.hid hT
        obtain ⟨n, hn⟩ : ∃ n, opK k p = n := ⟨_, rfl⟩
        have HLEN1 := Lib.hid (show ((k : Int) :: refO k s pc p).length = n + 1 by rw [List.length_cons, HOL.out, hn])
        rw [hn] at HBYk HTXk HOPk
        have hn3 : n ≤ 3 := by rw [← hn]; exact opN_le _ _ _
        obtain ⟨u, hu⟩ : ∃ m, useN k = m := ⟨_, rfl⟩
        obtain ⟨wd, hwd⟩ : ∃ m, widthN k = m := ⟨_, rfl⟩
        obtain ⟨mm, hmm⟩ : ∃ m, modeN k = m := ⟨_, rfl⟩
        obtain ⟨nk, hnk⟩ : ∃ m, nameB k = m := ⟨_, rfl⟩
        rw [hmm] at HES
        rw [hu, hwd, hmm, hnk] at HOF HBYk HOPk
        clear hkL hkn hcell hT hn hu hwd hmm hnk hil HV HTV HOE
        go_upto_region 9 with (go_at_call 15; refine (HOF.out _).mono ?_; rintro e w3 ⟨rfl, hb3⟩)
        obtain ⟨X, hX⟩ : ∃ X, w3.alloc (.cells #[.int .u8 k, .string nk, .int .u8 mm, .int .u8 u, .int .u8 wd] 38) = X := ⟨_, rfl⟩
        obtain ⟨K, hK⟩ : ∃ K, w3.heap.size = K := ⟨_, rfl⟩
        have HX := Lib.hid (show TextS wr K (.int .u8 k) (.string nk) (.int .u8 mm) (.int .u8 u) (.int .u8 wd) X from ⟨by rw [← hX, ← hK]; refine ⟨?_, ?_, ?_, ?_, ?_, fun i => ?_⟩ <;> simp [go_sem], by rw [← hX]; exact hb3.alloc hb3.size _, by rw [← hX, ← hK]; simp⟩)
        rw [hX, hK]
        clear hX hK hb3
        obtain ⟨g0, g1, g2, g3, g4, gf⟩ := HX.out.1
        clear gf
        have HOPS := Lib.hid (fun W (hW : TextS wr K (.int .u8 k) (.string nk) (.int .u8 mm) (.int .u8 u) (.int .u8 wd) W) =>
          show Calls Tryz.prog 17 #[.agg #[.int .u8 k, .string nk, .int .u8 mm, .int .u8 u, .int .u8 wd], .int .u8 p] W fun e w' => e = .returned (.int .i64 (n : Nat)) ∧ TextS wr K (.int .u8 k) (.string nk) (.int .u8 mm) (.int .u8 u) (.int .u8 wd) w' from
          (HOPk.out W).mono fun e w' h => ⟨h.1, hW.below h.2⟩)
        have HTRS := Lib.hid (fun W (hW : TextS wr K (.int .u8 k) (.string nk) (.int .u8 mm) (.int .u8 u) (.int .u8 wd) W) =>
          show Calls Tryz.prog 16 #[.agg #[.int .u8 k, .string nk, .int .u8 mm, .int .u8 u, .int .u8 wd], .string s, .int .i64 pc, .int .i64 (n : Nat)] W fun e w' => ∃ v, e = .returned v ∧ (Row .u8 w' v ((k : Int) :: refO k s pc p) ∧ (∃ g' cap', v = .slice (some ⟨g', 0, none⟩) (n + 1) cap' ∧ n + 1 ≤ cap')) ∧ TextS wr K (.int .u8 k) (.string nk) (.int .u8 mm) (.int .u8 u) (.int .u8 wd) w' from
          (HBYk.out W).mono fun e w' h => by
            obtain ⟨v, he, hown, hb⟩ := h
            refine ⟨v, he, ⟨(Row.owned hown).1, ?_⟩, hW.below hb⟩
            rcases hown.2 with ⟨e2, e3⟩ | ⟨g, c, cur, e2, h1, h2, h3, _⟩
            · omega
            · exact ⟨g, c, by rw [e2, Nat.add_comm], by omega⟩)
        have KD := Lib.hid (show TextS wr K (.int .u8 k) (.string nk) (.int .u8 mm) (.int .u8 u) (.int .u8 wd) X.drew from HX.out.below (Below.refl _ _).drew)
        have d0 : X.drew.cell? ⟨K, 0, none⟩ = some (.int .u8 k) := g0
        have d1 : X.drew.cell? ⟨K, 1, none⟩ = some (.string nk) := g1
        have d2 : X.drew.cell? ⟨K, 2, none⟩ = some (.int .u8 mm) := g2
        have d3 : X.drew.cell? ⟨K, 3, none⟩ = some (.int .u8 u) := g3
        have d4 : X.drew.cell? ⟨K, 4, none⟩ = some (.int .u8 wd) := g4
        go_region_held3 (fun w' => w'.cell? ⟨K, 0, none⟩ = some (.int .u8 k) ∧ w'.cell? ⟨K, 1, none⟩ = some (.string nk) ∧ w'.cell? ⟨K, 2, none⟩ = some (.int .u8 mm) ∧ w'.cell? ⟨K, 3, none⟩ = some (.int .u8 u) ∧ w'.cell? ⟨K, 4, none⟩ = some (.int .u8 wd)) (first | (with_reducible exact ⟨g0, g1, g2, g3, g4⟩) | (with_reducible exact ⟨d0, d1, d2, d3, d4⟩) | (with_reducible exact ⟨c0, c1, c2, c3, c4⟩) | go_keep) (first | (go_at_call 17; refine Calls.mono (HOPS.out _ (by with_reducible exact KD.out)) ?_; rintro e w4 ⟨rfl, Q⟩; have c0 := Q.1.1; have c1 := Q.1.2.1; have c2 := Q.1.2.2.1; have c3 := Q.1.2.2.2.1; have c4 := Q.1.2.2.2.2.1) | (go_at_call 16; refine Calls.mono (HTRS.out _ (by with_reducible exact Q)) ?_; rintro e w5 ⟨v4, rfl, P, Q2⟩; have c0 := Q2.1.1; have c1 := Q2.1.2.1; have c2 := Q2.1.2.2.1; have c3 := Q2.1.2.2.2.1; have c4 := Q2.1.2.2.2.2.1))
        obtain ⟨hR4, g', cap', rfl, hcap⟩ := P
        have HX4 := Lib.hid Q2
        have HR4 := Lib.hid hR4
        clear hR4 hcap Q Q2 KD c0 c1 c2 c3 c4 d0 d1 d2 d3 d4 g0 g1 g2 g3 g4 HX HOPS HTRS
        go_upto_region 11 with (go_at_call 18; refine (HTXk.out _ _ HR4.out).mono ?_; rintro e w6 ⟨rfl, hb5⟩)
        have HX5 := Lib.hid (HX4.out.below hb5)
        have HR5 := Lib.hid (HR4.out.below hb5)
        have HB5 := Lib.hid (show Below w.heap.size w w6 ∧ Below w2.heap.size w2 w6 from ⟨HB.out.1.trans (HX5.out.2.1.mono HB.out.1.size), HB.out.2.trans (HX5.out.2.1.mono HB.out.2.size)⟩)
        clear HX4 HR4 hb5
        by_cases hTs : T = s
        · have e1 := strEq_true hTs
          have HA := Lib.hid (show AnsR s pc p ((k : Int) :: refO k s pc p) 0 from .inr (.inl ⟨L.take i, k, L.drop (i + 1), _, by rw [HL.out]; exact HMID.out, HNO.out, txt_of k pc p _ s HOL.out HOFI.out (HT.out.trans hTs), rfl, rfl⟩))
          clear hTs
          go_wp2_with fail
          go_ret2
          exact ⟨_, _, 0, rfl, HA.out, HR5.out, fits_cons k HK.out _ HOFI.out, HB5.out.1⟩
        · have e1 := strEq_false hTs
          have HNN := Lib.hid (HNS.out (no_txtR k pc p s HK.out hpc (by rw [HT.out]; exact hTs)))
          obtain ⟨g0, g1, g2, g3, g4, gf⟩ := HX5.out.1
          clear hTs gf g0 g1 g3 g4
          by_cases hm3 : mm = 3
          · have b3 : ((mm : Int) == 3) = true := by rw [hm3]; rfl
            cases tg with
            | true =>
              have HEN := Lib.hid (show (62 : Nat) = errE (L.take (i + 1)) true by rw [HES.out, decide_eq_true hm3]; rfl)
              clear hm3
              go_wp2_with (go_at_call 19; refine (HTG.out _).mono ?_; rintro e w7 ⟨rfl, hw7⟩; rw [hw7]; clear hw7 w7)
              go_roundw
              case rel => exact ⟨i + 1, 62, hlt, rfl, rfl, HNN, HEN, HB5⟩
              case measure => simp [intOf]; omega
            | false =>
              have HEN := Lib.hid (show E = errE (L.take (i + 1)) false by rw [HES.out, Bool.and_false, HER.out]; rfl)
              clear hm3
              go_wp2_with (go_at_call 19; refine (HTG.out _).mono ?_; rintro e w7 ⟨rfl, hw7⟩; rw [hw7]; clear hw7 w7)
              go_roundw
              case rel => exact ⟨i + 1, E, hlt, rfl, rfl, HNN, HEN, HB5⟩
              case measure => simp [intOf]; omega
          · have b3 : ((mm : Int) == 3) = false := by rw [beq_eq_false_iff_ne]; omega
            have HEN := Lib.hid (show E = errE (L.take (i + 1)) tg by rw [HES.out, decide_eq_false hm3, Bool.false_and, HER.out]; rfl)
            clear hm3
            go_wp2_with fail
            go_roundw
            case rel => exact ⟨i + 1, E, hlt, rfl, rfl, HNN, HEN, HB5⟩
            case measure => simp [intOf]; omega
      · obtain rfl : i = N := by omega
        have i1 : ¬ (i : Int) < (i : Int) := by omega
        have HALL := Lib.hid (show L.take i = L from List.take_of_length_le (by have := HN.out; omega))
        have hNE : codesOf s ≠ [] := by
          rw [HL.out]; intro e; rw [e] at HN; have := HN.out; simp at this; simp [← this] at e0
        have HTG2 := Lib.hid (show tg = isTgt (restOf s) by
          obtain ⟨j, t, ej⟩ : ∃ j t, codesOf s = j :: t := by
            cases h : codesOf s with
            | nil => exact absurd h hNE
            | cons j t => exact ⟨j, t, rfl⟩
          obtain ⟨k, hk, _, hkn⟩ := codes_nat s j (by rw [ej]; exact List.mem_cons_self)
          exact HNM3.out k hk hkn)
        have HA := Lib.hid (show AnsR s pc p [] E from .inr (.inr ⟨hNE, fun j hj => HNO.out j (by rw [HALL.out, ← HL.out]; exact hj), rfl, by rw [HER.out, HALL.out, ← HL.out, HTG2.out]⟩))
        clear hNE
        go_wp2_with fail
        go_ret2
        exact ⟨_, [], E, rfl, HA.out, Row.nil _ _, (by intro x hx; cases hx), HB.out.1⟩
end Go.Proofs.YtpeieilbjadcfaaGreatDoor
