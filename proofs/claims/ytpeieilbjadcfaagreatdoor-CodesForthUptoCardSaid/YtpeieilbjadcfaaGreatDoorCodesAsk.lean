/- The bytes of a text: the program's Bytes. -/
import Derived.Test.YtpeieilbjadcfaaGreatDoorProg
import Derived.Test.YtpeieilbjadcfaaGreatDoorCodesPut
import Derived.Test.YtpeieilbjadcfaaGreatDoorCodesTgt
import Derived.Test.YtpeieilbjadcfaaGreatDoorCodesRefNamed
namespace Go.Proofs.YtpeieilbjadcfaaGreatDoor
open Go.RowKit Go.Shelf
set_option linter.unusedVariables false
set_option linter.unusedSimpArgs false

theorem rest_size (s : ByteArray) : (restOf s).length ≤ s.size := by
  have hsz : s.size = s.data.toList.length := by simp
  unfold restOf
  rcases first_cut 32 s.data.toList with h | ⟨a, b, e, h⟩
  · rw [cut_none 32 _ h]; exact Nat.zero_le _
  · rw [hsz, e, cut_hit 32 _ _ h]; simp; omega
theorem codes_length (s : ByteArray) : (codesOf s).length ≤ 256 := by
  have := namedL_le (nameOf s) (firstC 256 (Nat.le_refl _))
  rw [firstC_length] at this
  exact this
/-- What is told of a code's operand. -/
theorem text_of (k pc p : Nat) (hk : k < 256) (o : List Int) (ho : o.length = opK k p) : textV ((k : Int) :: o) pc p = .tuple #[.string (textB k (leN o).toNat (opK k p) pc), .int .i64 ((1 + opK k p : Nat) : Int), .bool true] := by
  have e0 : (((k : Int) :: o)[0]?.getD 0).toNat = k := by simp
  rw [textV_some _ _ _ (by rw [e0, List.length_cons]; omega), e0, List.drop_succ_cons, List.drop_zero, List.take_of_length_le (by omega)]
theorem txt_of (k pc p : Nat) (o : List Int) (s : ByteArray) (ho : o.length = opK k p) (hf : Fits .u8 o) (ht : textB k (leN o).toNat (opK k p) pc = s) : TxtO k o pc p s := ⟨ho, hf, ht⟩
theorem no_txt (k pc p : Nat) (s : ByteArray) (hk : k < 256) (hpc : pc < 65536) (ht : ¬ textB k (leN (progO k (restOf s) pc p)).toNat (opK k p) pc = s) : ¬ ∃ o, TxtO k o pc p s := by
  rintro ⟨o, ho⟩
  have h := (told_back k pc p o s hk hpc ho).1
  rw [h] at ht
  exact ht ho.2.2
theorem none_snoc (l : List Int) (i : Nat) (hi : i < l.length) (k : Nat) (hk : l[i] = (k : Int)) (Q : Nat → Prop) (h : ∀ j : Nat, (j : Int) ∈ l.take i → ¬ Q j) (hq : ¬ Q k) : ∀ j : Nat, (j : Int) ∈ l.take (i + 1) → ¬ Q j := by
  intro j hj
  rw [List.take_add_one, List.getElem?_eq_getElem hi] at hj
  rcases List.mem_append.1 hj with h1 | h1
  · exact h j h1
  · have h2 : (j : Int) = l[i] := by simpa using h1
    rw [hk] at h2
    obtain rfl : j = k := by omega
    exact hq
theorem errE_step (l : List Int) (i : Nat) (hi : i < l.length) (k : Nat) (hk : l[i] = (k : Int)) (t : Bool) : errE (l.take (i + 1)) t = if decide (modeN k = 3) && t then 62 else errE (l.take i) t := by
  have e : l.take (i + 1) = l.take i ++ [l[i]] := by rw [List.take_add_one, List.getElem?_eq_getElem hi]; rfl
  rw [e, errE_snoc, hk, Int.toNat_natCast]
set_option maxRecDepth 100000 in
set_option maxHeartbeats 1000000 in
/-- slices.Clip. -/
theorem clip_walk (b o n cap : Nat) (w : World) (h : n ≤ cap) :
    Calls Tryz.prog 24 #[.slice (some ⟨b, o, none⟩) n cap] w fun e w' => e = .returned (.slice (some ⟨b, o, none⟩) n n) ∧ w' = w := by
  have h1 : (n : Int) ≤ (cap : Int) := by omega
  have h2 : (0 : Int) ≤ (n : Int) := by omega
  go_enter Tryz.func24, Tryz.ntmps24
  go_wp2_with fail
  all_goals go_returns
  all_goals exact ⟨rfl, rfl⟩
theorem row_clip {w : World} {g m c : Nat} {xs : List Int} (h : Row .u8 w (.slice (some ⟨g, 0, none⟩) m c) xs) (hl : xs.length = m) : Row .u8 w (.slice (some ⟨g, 0, none⟩) m m) xs := by
  rcases h with ⟨a, cap, e, h1, h2⟩ | ⟨b, o, cap, e, h1, h2, h3, h4⟩
  · injection e with e1 e2 e3
    subst e2
    exact .inl ⟨_, 0, rfl, h1, Nat.zero_le _⟩
  · injection e with e1 e2 e3
    injection e1 with e1
    injection e1 with e4 e5 e6
    subst e4 e5
    exact .inr ⟨g, 0, m, by rw [hl], h1, by omega, by omega, h4⟩
theorem fits_cons (k : Nat) (hk : k < 256) (o : List Int) (h : Fits .u8 o) : Fits .u8 ((k : Int) :: o) := by
  intro y hy
  rcases List.mem_cons.1 hy with rfl | hy
  · exact WalkArith.wf_u8 (by omega)
  · exact h y hy
set_option maxRecDepth 100000 in
set_option maxHeartbeats 4000000 in
theorem ask_walk (s : ByteArray) (hs : s.size ≤ 1048576) (pc p : Nat) (hpc : pc < 65536) (hp : p < 256) (w : World) (hE : LaidE w) :
    Calls Tryz.prog 7 #[.string s, .int .u16 pc, .int .u8 p] w fun E w' => ∃ v bs e, E = .returned (.tuple #[v, .int .i64 (e : Nat)]) ∧ AnsR s pc p bs e ∧ Row .u8 w' v bs ∧ Fits .u8 bs ∧ Below w.heap.size w w' := by
  obtain ⟨km, hkm⟩ := hE.1.1
  have HLE := Lib.hid hE
  have HCUT := Lib.hid (strings_Cut s ⟨#[32]⟩ km w (by omega) hkm)
  obtain ⟨fnd, hfnd⟩ : ∃ b, (Lib.cut s.data.toList (⟨#[32]⟩ : ByteArray).data.toList).2.2 = b := ⟨_, rfl⟩
  have hname : (⟨(Lib.cut s.data.toList (⟨#[32]⟩ : ByteArray).data.toList).1.toArray⟩ : ByteArray) = nameOf s := rfl
  obtain ⟨R, hR⟩ : ∃ R : ByteArray, (⟨(Lib.cut s.data.toList (⟨#[32]⟩ : ByteArray).data.toList).2.1.toArray⟩ : ByteArray) = R := ⟨_, rfl⟩
  have hRl : R.data.toList = restOf s := by rw [← hR]; rfl
  have hRs : R.size ≤ 1048576 := by
    have h1 := rest_size s
    have h2 : R.size = R.data.toList.length := by simp
    rw [h2, hRl]; omega
  rw [hfnd, hname, hR] at HCUT
  have HNAM := Lib.hid (fun W => named_walk (nameOf s) W)
  have HCO := Lib.hid (show namedL (nameOf s) (firstC 256 (Nat.le_refl _)) = codesOf s from rfl)
  rw [HCO.out] at HNAM
  have hN256 := codes_length s
  obtain ⟨nm, hnm⟩ : ∃ nm, nameOf s = nm := ⟨_, rfl⟩
  rw [hnm] at HCUT HNAM
  have HCN := Lib.hid (fun j hj => codes_nat s j hj)
  obtain ⟨L, hL⟩ : ∃ L, codesOf s = L := ⟨_, rfl⟩
  rw [hL] at HNAM hN256 HCN
  have HL := Lib.hid hL
  obtain ⟨N, hN⟩ : ∃ N, L.length = N := ⟨_, rfl⟩
  have HN := Lib.hid hN
  have HTG := Lib.hid (fun W => isTarget_walk R W)
  rw [hRl] at HTG
  obtain ⟨tg, htg⟩ : ∃ t, isTgt (restOf s) = t := ⟨_, rfl⟩
  rw [htg] at HTG
  have HTGE := Lib.hid htg
  have HRL := Lib.hid hRl
  have HBY := Lib.hid (fun k hk W hW => bytes_walk k p pc hk hp hpc R hRs W hW)
  have HTX := Lib.hid (fun k (hk : k < 256) (o : List Int) (ho : o.length = opK k p) (hf : Fits .u8 o) v W hr hl => text_walk v ((k : Int) :: o) pc p hpc hp W hr (fits_cons k hk o hf) hl)
  rw [hN] at hN256
  clear hfnd hname hR hRl hRs hnm hL htg hkm hE
  go_enter Tryz.func7, Tryz.ntmps7
  go_upto_region 2 with (go_at_call 20; refine HCUT.out.mono ?_; rintro e w1 ⟨rfl, n1, rfl⟩)
  have HB1 := Lib.hid (below_drewN (Below.refl w.heap.size w) n1)
  go_upto_region 3 with (go_at_call 21; refine (HNAM.out _).mono ?_; rintro e w2 ⟨v, rfl, hown, hb2⟩)
  have HB2 := Lib.hid (HB1.out.trans hb2)
  rw [hN] at hown
  obtain ⟨la, lc, rfl⟩ : ∃ la lc, v = .slice la N lc := by
    rcases hown.2 with ⟨rfl, h0⟩ | ⟨g, cap, cur, rfl, _⟩
    · exact ⟨none, 0, by rw [h0]⟩
    · exact ⟨_, _, rfl⟩
  by_cases h0 : N = 0
  · have e0 : ((N : Int) == 0) = true := by rw [h0]; rfl
    have HA := Lib.hid (show AnsR s pc p [] 60 from .inl ⟨by rw [HL.out]; exact List.eq_nil_of_length_eq_zero (by rw [HN.out, h0]), rfl, rfl⟩)
    clear h0 hown hb2
    go_wp2_with fail
    go_ret2
    exact ⟨_, [], 60, rfl, HA.out, Row.nil _ _, (by intro x hx; cases hx), HB2.out⟩
  · have e0 : ((N : Int) == 0) = false := by rw [beq_eq_false_iff_ne]; omega
    have HROW := Lib.hid (show ∀ i, i < N → ∃ b o, la = some ⟨b, o, none⟩ ∧ w2.cell? ⟨b, o + i, none⟩ = some (.int .u8 (L[i]?.getD 0)) from fun i hi => by
      rcases (Row.owned hown).1 with ⟨a, cap, e, h1, _⟩ | ⟨b, o, cap, e, h1, h2, h3, h4⟩
      · exfalso; rw [h1] at hN; simp at hN; omega
      · refine ⟨b, o, by injection e, h4 i (by omega)⟩)
    obtain ⟨gb, go, hla, _⟩ := HROW.out 0 (by omega)
    subst hla
    have HCELL := Lib.hid (show ∀ i, i < N → w2.cell? ⟨gb, go + i, none⟩ = some (.int .u8 (L[i]?.getD 0)) from fun i hi => by
      obtain ⟨b, o, e, h⟩ := HROW.out i hi
      injection e with e
      injection e with e1 e2 e3
      subst e1 e2
      exact h)
    clear HROW h0 hown hb2 hN
    go_upto_region 7 with fail
    have HG2 := Lib.hid (show ∀ i, i < N → gb < w2.heap.size from fun i hi => World.block_lt_of_cell? w2 _ (HCELL.out i hi))
    go_loopw [12, 33] (fun s12 s33 wr => ∃ (i E : Nat), i ≤ N ∧ s12 = .int .i64 (E : Nat) ∧ s33 = .int .i64 i ∧ Hid (∀ j : Nat, (j : Int) ∈ L.take i → ¬ ∃ o, TxtO j o pc p s) ∧ Hid (E = errE (L.take i) tg) ∧ Hid (Below w.heap.size w wr ∧ Below w2.heap.size w2 wr)) (fun _ s33 _ => N - (intOf s33).toNat)
    case atStart => exact ⟨0, 61, Nat.zero_le _, rfl, rfl, Lib.hid (fun j hj => by simp at hj), Lib.hid rfl, Lib.hid ⟨HB2.out, Below.refl _ _⟩⟩
    case round =>
      obtain ⟨i, E, hi, rfl, rfl, HNO, HER, HB⟩ := hrel
      by_cases hlt : i < N
      · have i1 : (i : Int) < (N : Int) := by omega
        have i2 : (0 : Int) ≤ (i : Int) := by omega
        have i3 : IntKind.i64.wrap ((i : Int) + 1) = ((i + 1 : Nat) : Int) := by rw [IntWalk.i64_in _ (by omega)]; rfl
        have hcell := HCELL.out i hlt
        have hil : i < L.length := by have := HN.out; omega
        rw [List.getElem?_eq_getElem hil, Option.getD_some] at hcell
        obtain ⟨k, hk, hkL, hkn⟩ := HCN.out (L[i]'hil) (List.getElem_mem _)
        rw [hkL] at hcell
        have hc1 : wr.cell? ⟨gb, go + i, none⟩ = some (.int .u8 (k : Int)) := (HB.out.2.cell (World.block_lt_of_cell? w2 _ hcell)).trans hcell
        have HNS := Lib.hid (fun hq => none_snoc L i hil k hkL (fun j => ∃ o, TxtO j o pc p s) HNO.out hq)
        have HES := Lib.hid (errE_step L i hil k hkL tg)
        have HMID := Lib.hid (show L = L.take i ++ (k : Int) :: L.drop (i + 1) by rw [← hkL, ← List.drop_eq_getElem_cons hil, List.take_append_drop])
        have HOF := Lib.hid (fun W => of_walk k hk W)
        have HV := Lib.hid (show codeV k = .agg #[.int .u8 k, .string (nameB k), .int .u8 (modeN k), .int .u8 (useN k), .int .u8 (widthN k)] from rfl)
        have HBYk := Lib.hid (fun W hW => HBY.out k hk W hW)
        have HOL := Lib.hid (progO_length k (restOf s) pc p)
        have HOFI := Lib.hid (progO_fits k (restOf s) pc p)
        have HTXk := Lib.hid (fun v W hr hl => HTX.out k hk (progO k (restOf s) pc p) HOL.out HOFI.out v W hr hl)
        rw [HRL.out] at HBYk
        have HTV := Lib.hid (text_of k pc p hk _ HOL.out)
        rw [HTV.out] at HTXk
        rw [HV.out] at HOF HBYk
        have HK := Lib.hid hk
        obtain ⟨T, hT⟩ : ∃ T, textB k (leN (progO k (restOf s) pc p)).toNat (opK k p) pc = T := ⟨_, rfl⟩
        rw [hT] at HTXk
        have HT := Lib.hid hT
        obtain ⟨n, hn⟩ : ∃ n, opK k p = n := ⟨_, rfl⟩
        rw [hn] at HBYk HTXk
        have HLEN1 := Lib.hid (show ((k : Int) :: progO k (restOf s) pc p).length = n + 1 by rw [List.length_cons, HOL.out, hn])
        have HLEr := Lib.hid (HLE.out.below HB.out.1)
        have hn3 : n ≤ 3 := by rw [← hn]; exact opN_le _ _ _
        obtain ⟨u, hu⟩ : ∃ m, useN k = m := ⟨_, rfl⟩
        obtain ⟨wd, hwd⟩ : ∃ m, widthN k = m := ⟨_, rfl⟩
        obtain ⟨mm, hmm⟩ : ∃ m, modeN k = m := ⟨_, rfl⟩
        obtain ⟨nk, hnk⟩ : ∃ m, nameB k = m := ⟨_, rfl⟩
        rw [hmm] at HES
        rw [hu, hwd, hmm, hnk] at HOF HBYk
        clear hkL hkn hcell hT hn hu hwd hmm hnk hil HV HTV
        go_upto_region 10 with (go_at_call 22; refine (HOF.out _).mono ?_; rintro e w3 ⟨rfl, hb3⟩)
        obtain ⟨X, hX⟩ : ∃ X, w3.alloc (.cells #[.int .u8 k, .string nk, .int .u8 mm, .int .u8 u, .int .u8 wd] 38) = X := ⟨_, rfl⟩
        obtain ⟨K, hK⟩ : ∃ K, w3.heap.size = K := ⟨_, rfl⟩
        have HX := Lib.hid (show TextS wr K (.int .u8 k) (.string nk) (.int .u8 mm) (.int .u8 u) (.int .u8 wd) X from ⟨by rw [← hX, ← hK]; refine ⟨?_, ?_, ?_, ?_, ?_, fun i => ?_⟩ <;> simp [go_sem], by rw [← hX]; exact hb3.alloc hb3.size _, by rw [← hX, ← hK]; simp⟩)
        rw [hX, hK]
        clear hX hK hb3
        obtain ⟨g0, g1, g2, g3, g4, gf⟩ := HX.out.1
        clear gf
        go_upto_region 11 with (go_at_call 23; refine (HBYk.out _ (HLEr.out.below HX.out.2.1)).mono ?_; rintro e w4 ⟨v4, rfl, hown4, hb4⟩)
        have HX4 := Lib.hid (HX.out.below hb4)
        have HR4 := Lib.hid (Row.owned hown4).1
        obtain ⟨g', cap', rfl⟩ : ∃ g' cap', v4 = .slice (some ⟨g', 0, none⟩) (n + 1) cap' := by
          rw [Nat.add_comm] at hown4
          exact ownsRow_succ hown4
        have hcap : n + 1 ≤ cap' ∧ cap' ≤ maxLen := by
          rcases hown4.2 with ⟨e2, _⟩ | ⟨g, c, cur, e2, h1, h2, h3, h4, _⟩
          · injection e2 with e2; cases e2
          · injection e2 with e2 e3 e4
            subst e4
            exact ⟨by omega, h4⟩
        clear hown4 g0 g1 g2 g3 g4 HX hb4
        go_upto_region 12 with (go_at_call 10; refine (HTXk.out _ _ HR4.out (HLEr.out.below HX4.out.2.1).1).mono ?_; rintro e w5 ⟨rfl, hb5⟩)
        have HX5 := Lib.hid (HX4.out.below hb5)
        have HR5 := Lib.hid (HR4.out.below hb5)
        have HB5 := Lib.hid (show Below w.heap.size w w5 ∧ Below w2.heap.size w2 w5 from ⟨HB.out.1.trans (HX5.out.2.1.mono HB.out.1.size), HB.out.2.trans (HX5.out.2.1.mono HB.out.2.size)⟩)
        clear HX4 HR4 hb5
        by_cases hTs : T = s
        · have e1 := strEq_true hTs
          have HA := Lib.hid (show AnsR s pc p ((k : Int) :: progO k (restOf s) pc p) 0 from .inr (.inl ⟨L.take i, k, L.drop (i + 1), _, by rw [HL.out]; exact HMID.out, HNO.out, txt_of k pc p _ s HOL.out HOFI.out (HT.out.trans hTs), rfl, rfl⟩))
          have HCL := Lib.hid (fun W => clip_walk g' 0 (n + 1) cap' W hcap.1)
          clear hTs
          go_wp2_with (go_at_call 24; refine (HCL.out _).mono ?_; rintro e w6 ⟨rfl, rfl⟩)
          go_ret2
          exact ⟨_, _, 0, rfl, HA.out, row_clip HR5.out HLEN1.out, fits_cons k HK.out _ HOFI.out, HB5.out.1⟩
        · have e1 := strEq_false hTs
          have HNN := Lib.hid (HNS.out (no_txt k pc p s HK.out hpc (by rw [HT.out]; exact hTs)))
          obtain ⟨g0, g1, g2, g3, g4, gf⟩ := HX5.out.1
          clear hTs gf g0 g1 g3 g4
          by_cases hm3 : mm = 3
          · have b3 : ((mm : Int) == 3) = true := by rw [hm3]; rfl
            cases tg with
            | true =>
              have HEN := Lib.hid (show (62 : Nat) = errE (L.take (i + 1)) true by rw [HES.out, decide_eq_true hm3]; rfl)
              clear hm3
              go_wp2_with (go_at_call 25; refine (HTG.out _).mono ?_; rintro e w6 ⟨rfl, hb6⟩)
              go_roundw
              case rel => exact ⟨i + 1, 62, hlt, rfl, rfl, HNN, HEN, Lib.hid ⟨HB5.out.1.trans (hb6.mono HB5.out.1.size), HB5.out.2.trans (hb6.mono HB5.out.2.size)⟩⟩
              case measure => simp [intOf]; omega
            | false =>
              have HEN := Lib.hid (show E = errE (L.take (i + 1)) false by rw [HES.out, Bool.and_false, HER.out]; rfl)
              clear hm3
              go_wp2_with (go_at_call 25; refine (HTG.out _).mono ?_; rintro e w6 ⟨rfl, hb6⟩)
              go_roundw
              case rel => exact ⟨i + 1, E, hlt, rfl, rfl, HNN, HEN, Lib.hid ⟨HB5.out.1.trans (hb6.mono HB5.out.1.size), HB5.out.2.trans (hb6.mono HB5.out.2.size)⟩⟩
              case measure => simp [intOf]; omega
          · have b3 : ((mm : Int) == 3) = false := by rw [beq_eq_false_iff_ne]; omega
            have HEN := Lib.hid (show E = errE (L.take (i + 1)) tg by rw [HES.out, decide_eq_false hm3, Bool.false_and, HER.out]; rfl)
            clear hm3
            go_wp2_with fail
            go_roundw
            case rel => exact ⟨i + 1, E, hlt, rfl, rfl, HNN, HEN, HB5⟩
            case measure => simp [intOf]; omega
      · obtain rfl : i = N := by omega
        have i1 : ¬ (i : Int) < (i : Int) := by omega
        have HALL := Lib.hid (show L.take i = L from List.take_of_length_le (by have := HN.out; omega))
        have HA := Lib.hid (show AnsR s pc p [] E from .inr (.inr ⟨by rw [HL.out]; intro e; rw [e] at HN; have := HN.out; simp at this; simp [← this] at e0, fun j hj => HNO.out j (by rw [HALL.out, ← HL.out]; exact hj), rfl, by rw [HER.out, HALL.out, ← HL.out, HTGE.out]⟩))
        go_wp2_with fail
        go_ret2
        exact ⟨_, [], E, rfl, HA.out, Row.nil _ _, (by intro x hx; cases hx), HB.out.1⟩
end Go.Proofs.YtpeieilbjadcfaaGreatDoor
