/- The document's answer: what is made. -/
import Derived.Test.YtjaeglllijafkaaProg
import Derived.Test.YtjaeglllijafkaaCartPlain
import Derived.Test.YtjaeglllijafkaaCartRefMay
import Derived.Test.YtjaeglllijafkaaCartMakeB
namespace Go.Proofs.Ytjaeglllijafkaa
open Go.RowKit
set_option linter.unusedVariables false
set_option linter.unusedSimpArgs false

/-- The world in the midst of making: the row, the box. -/
structure RK (w : World) (G n : Nat) (l ch : Int) (rv : Value) (ram : Int) (ti : ByteArray) (rs : Int) (fa : Bool) (sg : Value) (wx : World) (row : List Int) : Prop where
  own : wx.ownsRow w.heap.size 5 1 (.slice (some ⟨G, 0, none⟩) n n) n (row.map (Value.int .u8))
  bel : Below w.heap.size w wx
  cart : CartAt wx w.heap.size l ch rv ram ti rs fa sg
  pg : w.heap.size < G
section
variable {w : World} {G n : Nat} {l ch : Int} {rv : Value} {ram : Int} {ti : ByteArray} {rs : Int} {fa : Bool} {sg : Value} {wx : World} {row : List Int}
theorem RK.set (h : RK w G n l ch rv ram ti rs fa sg wx row) (j : Nat) (v : Int) : RK w G n l ch rv ram ti rs fa sg (wx.setCell ⟨G, j, none⟩ (.int .u8 v)) (row.set j v) := by
  have hb := (Below.refl G wx).setCell (p := ⟨G, j, none⟩) (Nat.le_refl _) (.int .u8 v)
  refine ⟨?_, h.bel.trans (hb.mono (Nat.le_of_lt h.pg)), h.cart.keep hb h.pg, h.pg⟩
  have h1 := (h.own.stored j (.int .u8 v)).1
  rwa [← List.map_set] at h1
theorem RK.drew (h : RK w G n l ch rv ram ti rs fa sg wx row) : RK w G n l ch rv ram ti rs fa sg wx.drew row := ⟨h.own, h.bel.drew, ⟨h.cart.c0, h.cart.c1, h.cart.c2, h.cart.c3, h.cart.c4, h.cart.c5, h.cart.c6, h.cart.c7⟩, h.pg⟩
theorem RK.len (h : RK w G n l ch rv ram ti rs fa sg wx row) : row.length = n := by have := h.own.1; simpa using this
theorem RK.cell (h : RK w G n l ch rv ram ti rs fa sg wx row) (j : Nat) (hj : j < n) : wx.cell? ⟨G, j, none⟩ = some (.int .u8 (row[j]?.getD 0)) := owns_cell h.own j hj
theorem RK.froz (h : RK w G n l ch rv ram ti rs fa sg wx row) (j : Nat) : wx.frozen? ⟨G, j, none⟩ = false := h.own.frozenAt j
theorem RK.src (h : RK w G n l ch rv ram ti rs fa sg wx row) {rb o : Nat} {v : Value} (hc : w.cell? ⟨rb, o, none⟩ = some v) : wx.cell? ⟨rb, o, none⟩ = some v := (h.bel.cell (World.block_lt_of_cell? w _ hc)).trans hc
end
theorem seal_comm (xs : List Int) (A : Nat) (s : Int) : (((xs.set (A + 30) (s % 256)).set (A + 31) (s / 256)).set (A + 28) ((65535 - s) % 256)).set (A + 29) ((65535 - s) / 256) = sealN xs A s := by
  unfold sealN
  rw [List.set_comm (i := A + 31) (j := A + 28) _ _ (by omega), List.set_comm (i := A + 30) (j := A + 28) _ _ (by omega), List.set_comm (i := A + 31) (j := A + 29) _ _ (by omega), List.set_comm (i := A + 30) (j := A + 29) _ _ (by omega)]
theorem padN_snoc (t : ByteArray) (k : Nat) (h : t.size ≤ 21) (hk : k < 21) : (padN t).take (k + 1) = (padN t).take k ++ [(padN t)[k]?.getD 0] := by
  have hl := padN_length t h
  rw [List.take_succ_eq_append_getElem (by omega), List.getElem?_eq_getElem (by omega)]; rfl
theorem modeN_fits (l : Int) (fa : Bool) : 0 ≤ modeN l fa ∧ modeN l fa ≤ 255 := by
  have mb : 0 ≤ m0N l ∧ m0N l ≤ 37 := by unfold m0N; split <;> (try split) <;> (try split) <;> omega
  unfold modeN; split <;> omega
theorem kindS_fits {xs : List Int} (h : Fits .u8 xs) (A : Nat) (ch : Int) : Fits .u8 (kindS xs A ch) := by
  unfold kindS
  split
  · exact fits_set h _ (by omega) (by omega)
  · split
    · exact fits_set h _ (by omega) (by omega)
    · exact h
theorem b6N_fits {xs : List Int} (h : Fits .u8 xs) (A : Nat) (ti : ByteArray) (l : Int) (fa : Bool) (ch ram rs : Int) (r0 : 0 ≤ rs) (r1 : rs ≤ 65535) : Fits .u8 (b6N xs A ti l fa ch ram rs) := by
  unfold b6N b3N b1N
  have hm := modeN_fits l fa
  have hz := sizeR_le ram
  refine fits_set (fits_set (fits_set (kindS_fits (fits_set (putsL_fits ?_ _ (putsL_fits (padN_fits ti) _ h)) _ hm.1 hm.2) _ _) _ ?_ ?_) _ ?_ ?_) _ ?_ ?_ <;> first | omega | exact zeros_u8 _
theorem div_u16 (x : Int) (h0 : 0 ≤ x) (h1 : x ≤ 65535) : IntKind.u16.wrap (x.tdiv 256) % 256 = x / 256 := by
  rw [Int.tdiv_eq_ediv_of_nonneg h0, wrapU16]; omega
theorem div_u8 (x : Int) (h0 : 0 ≤ x) (h1 : x ≤ 65535) : x.tdiv 256 % 256 = x / 256 := by
  rw [Int.tdiv_eq_ediv_of_nonneg h0]; omega
theorem set_twice (xs : List Int) (j : Nat) (u v : Int) : (xs.set j u).set j v = xs.set j v := List.set_set ..

set_option maxRecDepth 100000 in
set_option maxHeartbeats 16000000 in
theorem refMake_yes (l ch : Int) (ra : Option Addr) (n rc : Nat) (ram : Int) (ti : ByteArray) (rs : Int) (fa : Bool) (sg : Value) (w : World) (hs : ti.size ≤ 9223372036854775807) (e0 : mayA l ch ram rs = false) (e1 : mayB l n = false) (e2 : mayC ti = true) (l0 : 0 ≤ l) (rs0 : 0 ≤ rs) (rs1 : rs ≤ 65535) (xs : List Int) (hr : Row .u8 w (.slice ra n rc) xs) (hn : xs.length = n) (hfx : Fits .u8 xs) :
    Calls Try.prog 7 #[.agg #[.int .u8 l, .int .u8 ch, .slice ra n rc, .int .i64 ram, .string ti, .int .u16 rs, .bool fa, sg]] w fun e w' => ∃ r, e = .returned (.tuple #[r, .int .i64 0]) ∧ w'.ownsRow w.heap.size 5 1 r n ((madeN xs (placeN l).toNat ti l fa ch ram rs).map (Value.int .u8)) ∧ Below w.heap.size w w' := by
  have g0 : ¬ atN l < 0 ∧ ¬ 2 < ch ∧ ¬ sizeR ram = 255 ∧ ¬ rs < 32768 := by have := of_decide_eq_false e0; omega
  have g1 : 32768 ≤ n ∧ n ≤ 8388608 ∧ atN l + 64 ≤ n := by have := of_decide_eq_false e1; omega
  have g2 : ti.size ≤ 21 := by
    unfold mayC at e2
    simp only [Bool.and_eq_true, decide_eq_true_eq] at e2
    exact e2.1
  have g3 : l = 1 ∨ l = 2 ∨ l = 3 := by
    have h := g0.1
    unfold atN at h
    split at h
    · exact .inl ‹_›
    · split at h
      · exact .inr (.inl ‹_›)
      · split at h
        · exact .inr (.inr ‹_›)
        · omega
  have g4 : placeN l = atN l := by unfold placeN; rw [if_pos (by omega)]
  obtain ⟨A, hA⟩ : ∃ A : Nat, atN l = A := ⟨(atN l).toNat, by omega⟩
  have HFX := Lib.hid (b6N_fits hfx A ti l fa ch ram rs rs0 rs1)
  clear hfx
  have HPA := Lib.hid (show (placeN l).toNat = A by rw [g4, hA]; omega)
  have HSZ := Lib.hid g0.2.2.1
  have a64 : A + 64 ≤ n := by omega
  have n1 : n ≤ 8388608 := g1.2.1
  have n0 : 32768 ≤ n := g1.1
  obtain ⟨rb, ro, rcap, hra, -, -, hrc⟩ := hr.cells (by omega)
  injection hra with hr1 hr2 hr3
  subst hr1
  have HRC := Lib.hid hrc
  have HAA := Lib.hid hA
  have HN := Lib.hid hn
  have HL := Lib.hid g3
  have HM := Lib.hid (show (!(mayA l ch ram rs) && (!(mayB l n) && mayC ti)) = true by rw [e0, e1, e2]; rfl)
  obtain ⟨i0, hi, hz0, hz1, hz2⟩ := info_parts Try.infoU8b
  have hi' := Lib.hid hi
  have hz0' := Lib.hid hz0
  have hz1' := Lib.hid hz1
  have hz2' := Lib.hid hz2
  have HMK := Lib.hid (show i0.bytes * n ≤ 281474976710656 by rw [hz2]; omega)
  have HMD := Lib.hid (show (madeCells (Value.int .u8 0).cells (n * 1)).toList = (partly xs 0).map (Value.int .u8) by
    rw [partly_zero, hn, Nat.mul_one, show (Value.int IntKind.u8 0).cells = #[Value.int .u8 0] from rfl, toList_madeCells_one]; simp)
  clear hi hz0 hz1 hz2 hrc hr2 hr3 hA hr hn e0 e1 e2 g0 g1 g3 g4
  go_enter Try.func7, Try.ntmps7
  go_upto_region 1 with fail
  obtain ⟨wB, hwB⟩ : ∃ wB, w.alloc (.cells #[.int .u8 l, .int .u8 ch, .slice (some ⟨rb, ro, none⟩) n rc, .int .i64 ram, .string ti, .int .u16 rs, .bool fa, sg] 30) = wB := ⟨_, rfl⟩
  have hC : CartAt wB w.heap.size l ch (.slice (some ⟨rb, ro, none⟩) n rc) ram ti rs fa sg := by
    rw [← hwB]
    exact ⟨by simp [go_sem], by simp [go_sem], by simp [go_sem], by simp [go_sem], by simp [go_sem], by simp [go_sem], by simp [go_sem], by simp [go_sem]⟩
  have HB0 := Lib.hid (show Below w.heap.size w wB by rw [← hwB]; exact (Below.refl _ w).alloc (Nat.le_refl _) _)
  have HZ := Lib.hid (show w.heap.size < wB.heap.size by rw [← hwB]; simp)
  have c0 := hC.c0
  have c1 := hC.c1
  have c2 := hC.c2
  have c3 := hC.c3
  have c4 := hC.c4
  have c5 := hC.c5
  have c6 := hC.c6
  have c7 := hC.c7
  have HC := Lib.hid hC
  rw [hwB]
  clear hwB hC
  go_upto_region 3 with (go_at_call 13; refine (refMay_walk l ch (some ⟨rb, ro, none⟩) n rc ram ti rs fa sg wB hs (by omega)).mono ?_; rintro e w2 ⟨rfl, hb⟩; rw [HM.out])
  have HC2 := Lib.hid (HC.out.keep hb HZ.out)
  have HB2 := Lib.hid (HB0.out.trans (hb.mono (Nat.le_of_lt HZ.out)))
  have HZ2 := Lib.hid (Nat.lt_of_lt_of_le HZ.out hb.size)
  clear c0 c1 c2 c3 c4 c5 c6 c7 hb HC HB0 HZ
  have c0 := HC2.out.c0
  have c2 := HC2.out.c2
  go_upto_region 4 with (go_at_call 14; refine (at_walk _ _).mono ?_; rintro e w3 ⟨rfl, rfl⟩; rw [HAA.out])
  obtain ⟨G, hG⟩ : ∃ G, w3.heap.size = G := ⟨_, rfl⟩
  have HG := Lib.hid hG
  clear hG c0
  go_upto_region 5 with (refine wpList_make_full _ rfl _ _ _ rfl w3.heap.size 5 i0 (.int .u8 0) 1 Try.underlying27 hi'.out hz0'.out hz1'.out .i64 .i64 _ _ n rfl rfl (by omega) (by omega) HMK.out (by unfold maxLen; omega) (Nat.le_refl _) ?_; intro w4 hown hgrow; rw [HMD.out] at hown)
  rw [HG.out] at hown ⊢
  have HK := Lib.hid (show RK w G n l ch (.slice (some ⟨rb, ro, none⟩) n rc) ram ti rs fa sg w4 (partly xs 0) from by
    have hz := HZ2.out
    have hgg := HG.out
    have hb1 : Below G w3 w4 := by have h := (Below.refl w3.heap.size w3).grown hgrow (Nat.le_refl _) (fun k h => by cases h); rw [hgg] at h; exact h
    have hwG : w.heap.size < G := by rw [hgg] at hz; exact hz
    refine ⟨?_, HB2.out.trans (hb1.mono (Nat.le_of_lt hwG)), HC2.out.keep hb1 hwG, hwG⟩
    exact ⟨hown.1, hown.2.elim Or.inl (fun ⟨g, cap, cu, h1, h2, r⟩ => Or.inr ⟨g, cap, cu, h1, by omega, r⟩)⟩)
  clear hown hgrow c2 HC2 HB2 HZ2 HG
  go_upto_region 6 with fail
  go_loopw [6] (fun s6 wr => ∃ k : Nat, k ≤ n ∧ s6 = .int .i64 k ∧ Hid (RK w G n l ch (.slice (some ⟨rb, ro, none⟩) n rc) ram ti rs fa sg wr (partly xs k))) (fun s6 _ => n - (intOf s6).toNat)
  case atStart => exact ⟨0, Nat.zero_le _, rfl, HK⟩
  case round =>
    obtain ⟨k, hk, rfl, hK⟩ := hrel
    by_cases hlt : k < n
    · have c1 := hK.out.src (HRC.out k (by rw [HN.out]; exact hlt))
      obtain ⟨x, hxk⟩ : ∃ x, xs[k]?.getD 0 = x := ⟨_, rfl⟩
      rw [hxk] at c1
      have EX := Lib.hid hxk
      have c2 := hK.out.cart.c2
      have cc := hK.out.cell k hlt
      have cf := hK.out.froz k
      have hst := Lib.hid (hK.out.set k x)
      have i1 : (k : Int) < (n : Int) := by omega
      have i2 : 0 ≤ (k : Int) := by omega
      obtain ⟨y, hy⟩ : ∃ y, (partly xs k)[k]?.getD 0 = y := ⟨_, rfl⟩
      rw [hy] at cc
      clear hxk hy
      go_wp2
      go_roundw
      case rel =>
        refine ⟨k + 1, by omega, by go_num, ?_⟩
        have h := hst.out
        rw [← EX.out, partly_set xs k (by rw [HN.out]; exact hlt)] at h
        rw [← EX.out]; exact Lib.hid h
      case measure => simp [intOf]; omega
    · obtain rfl : n = k := by omega
      have HK1 := Lib.hid (by have h := hK.out; rw [show partly xs n = xs by have e := partly_all xs; rwa [HN.out] at e] at h; exact h : RK w G n l ch (.slice (some ⟨rb, ro, none⟩) n rc) ram ti rs fa sg wr xs)
      obtain ⟨wa, rfl⟩ : ∃ wa, wa = wr := ⟨_, rfl⟩
      have i1 : ¬ (n : Int) < (n : Int) := by omega
      have HPL := Lib.hid (padN_length ti g2)
      clear hK HK
      go_upto_region 10 with fail
      clear i1
      go_loopw [7] (fun s7 wr => ∃ k : Nat, k ≤ 21 ∧ s7 = .int .i64 k ∧ Hid (RK w G n l ch (.slice (some ⟨rb, ro, none⟩) n rc) ram ti rs fa sg wr (putsL xs A ((padN ti).take k)))) (fun s7 _ => 21 - (intOf s7).toNat)
      case atStart => exact ⟨0, Nat.zero_le _, rfl, HK1⟩
      case round =>
        obtain ⟨k, hk, rfl, hK⟩ := hrel
        by_cases hlt : k < 21
        · have c4 := hK.out.cart.c4
          have cc := hK.out.cell (A + k) (by omega)
          have cf := hK.out.froz (A + k)
          have hst := Lib.hid (hK.out.set (A + k) 32)
          have i1 : (k : Int) < 21 := by omega
          have i2 : 0 ≤ (k : Int) := by omega
          have i3 : ((A : Int) + (k : Int)).toNat = A + k := by omega
          have i4 : (A : Int) + (k : Int) < (n : Int) := by omega
          obtain ⟨y, hy⟩ : ∃ y, (putsL xs A ((padN ti).take k))[A + k]?.getD 0 = y := ⟨_, rfl⟩
          rw [hy] at cc
          have hsn := Lib.hid (show putsL xs A ((padN ti).take (k + 1)) = (putsL xs A ((padN ti).take k)).set (A + k) ((padN ti)[k]?.getD 0) by
            rw [padN_snoc ti k g2 hlt, putsL_snoc, List.length_take, HPL.out, Nat.min_eq_left (by omega)])
          have hpg := Lib.hid (padN_get ti k g2 hlt)
          have hss := Lib.hid (fun v => set_twice (putsL xs A ((padN ti).take k)) (A + k) 32 v)
          clear hy c4
          go_upto_region 13 with fail
          clear cc cf
          have h1 := hst.out
          obtain ⟨W1, hW1⟩ : ∃ W1, wr.setCell ⟨G, A + k, none⟩ (.int .u8 32) = W1 := ⟨_, rfl⟩
          rw [hW1] at h1 ⊢
          obtain ⟨r1, hr1⟩ : ∃ r1, (putsL xs A ((padN ti).take k)).set (A + k) 32 = r1 := ⟨_, rfl⟩
          rw [hr1] at h1
          have HR1 := Lib.hid hr1
          have c4 := h1.cart.c4
          have cc := h1.cell (A + k) (by omega)
          have cf := h1.froz (A + k)
          obtain ⟨y2, hy2⟩ : ∃ y2, r1[A + k]?.getD 0 = y2 := ⟨_, rfl⟩
          rw [hy2] at cc
          have H1 := Lib.hid h1
          clear hW1 hr1 hy2 h1 hst
          by_cases ht : k < ti.size
          · have j1 : (k : Int) < (ti.size : Int) := by omega
            have HV := Lib.hid (show (padN ti)[k]?.getD 0 = (ti[k].toNat : Int) by rw [hpg.out, dif_pos ht])
            have hst := Lib.hid (H1.out.set (A + k) (ti[k].toNat : Int))
            go_wp2
            go_roundw
            case rel =>
              refine ⟨k + 1, by omega, by go_num, ?_⟩
              have h := hst.out
              rw [← HR1.out, hss.out, ← HV.out, ← hsn.out] at h
              rw [HV.out] at h
              exact Lib.hid h
            case measure => simp [intOf]; omega
          · have j1 : ¬ (k : Int) < (ti.size : Int) := by omega
            have HV := Lib.hid (show (padN ti)[k]?.getD 0 = 32 by rw [hpg.out, dif_neg ht])
            clear ht
            go_wp2
            go_roundw
            case rel =>
              refine ⟨k + 1, by omega, by go_num, ?_⟩
              have h := H1.out
              rw [← HR1.out, ← HV.out, ← hsn.out] at h
              exact Lib.hid h
            case measure => simp [intOf]; omega
        · obtain rfl : 21 = k := by omega
          have HK2 := Lib.hid (by have h := hK.out; rw [List.take_of_length_le (by rw [HPL.out]; exact Nat.le_refl _)] at h; exact h : RK w G n l ch (.slice (some ⟨rb, ro, none⟩) n rc) ram ti rs fa sg wr (putsL xs A (padN ti)))
          obtain ⟨wb, rfl⟩ : ∃ wb, wb = wr := ⟨_, rfl⟩
          clear hK HK1
          go_upto_region 16 with fail
          go_loopw [8] (fun s8 wr => ∃ k : Nat, 21 ≤ k ∧ k ≤ 32 ∧ s8 = .int .i64 k ∧ Hid (RK w G n l ch (.slice (some ⟨rb, ro, none⟩) n rc) ram ti rs fa sg wr (putsL (putsL xs A (padN ti)) (A + 21) (List.replicate (k - 21) 0)))) (fun s8 _ => 32 - (intOf s8).toNat)
          case atStart => exact ⟨21, by omega, by omega, rfl, HK2⟩
          case round =>
            obtain ⟨k, hk0, hk, rfl, hK⟩ := hrel
            by_cases hlt : k < 32
            · have cc := hK.out.cell (A + k) (by omega)
              have cf := hK.out.froz (A + k)
              have hst := Lib.hid (hK.out.set (A + k) 0)
              have i1 : (k : Int) < 32 := by omega
              have i2 : 0 ≤ (k : Int) := by omega
              have i3 : ((A : Int) + (k : Int)).toNat = A + k := by omega
              have i4 : (A : Int) + (k : Int) < (n : Int) := by omega
              obtain ⟨y, hy⟩ : ∃ y, (putsL (putsL xs A (padN ti)) (A + 21) (List.replicate (k - 21) 0))[A + k]?.getD 0 = y := ⟨_, rfl⟩
              rw [hy] at cc
              have hsn := Lib.hid (show putsL (putsL xs A (padN ti)) (A + 21) (List.replicate (k + 1 - 21) 0) = (putsL (putsL xs A (padN ti)) (A + 21) (List.replicate (k - 21) 0)).set (A + k) 0 by
                rw [show k + 1 - 21 = (k - 21) + 1 from by omega, List.replicate_succ', putsL_snoc, List.length_replicate, show A + 21 + (k - 21) = A + k from by omega])
              clear hy
              go_wp2
              go_roundw
              case rel =>
                refine ⟨k + 1, by omega, by omega, by go_num, ?_⟩
                rw [hsn.out]
                exact hst
              case measure => simp [intOf]; omega
            · obtain rfl : 32 = k := by omega
              have HK3 := Lib.hid (show RK w G n l ch (.slice (some ⟨rb, ro, none⟩) n rc) ram ti rs fa sg wr (b1N xs A ti) from hK.out)
              obtain ⟨wc1, rfl⟩ : ∃ wc1, wc1 = wr := ⟨_, rfl⟩
              clear hK HK2
              have c0 := HK3.out.cart.c0
              have c6 := HK3.out.cart.c6
              go_upto_if 70 with fail
              go_cut [9] (fun s9 wx => s9 = .int .u8 (if l = 2 then 33 else 32) ∧ wc1 = wx)
              case first =>
                by_cases h : l = 2
                · subst h
                  go_wp2_with fail
                  go_meet
                  exact ⟨rfl, rfl⟩
                · have e : (l == 2) = false := by simpa using h
                  have H := Lib.hid h
                  clear h
                  go_wp2_with fail
                  go_meet
                  exact ⟨by rw [if_neg H.out], rfl⟩
              case rest =>
                obtain ⟨rfl, rfl⟩ := hcut
                have HMO := Lib.hid (show (if l = 3 then 37 else (if l = 2 then 33 else 32)) = m0N l by
                  rcases HL.out with h | h | h <;> subst h <;> rfl)
                obtain ⟨z, hz⟩ : ∃ z : Int, (if l = 2 then 33 else 32) = z := ⟨_, rfl⟩
                rw [hz] at HMO ⊢
                clear hz
                go_upto_if 73 with fail
                go_cut [9] (fun s9 wx => s9 = .int .u8 (m0N l) ∧ wc1 = wx)
                case first =>
                  by_cases h : l = 3
                  · subst h
                    go_wp2_with fail
                    go_meet
                    exact ⟨rfl, rfl⟩
                  · have e : (l == 3) = false := by simpa using h
                    have H := Lib.hid h
                    clear h
                    go_wp2_with fail
                    go_meet
                    exact ⟨by rw [← HMO.out, if_neg H.out], rfl⟩
                case rest =>
                  obtain ⟨rfl, rfl⟩ := hcut
                  have HMF := Lib.hid (show modeN l fa = if fa = true then m0N l + 16 else m0N l from rfl)
                  have mb : 0 ≤ m0N l ∧ m0N l ≤ 37 := by unfold m0N; split <;> (try split) <;> (try split) <;> omega
                  obtain ⟨m0, hm0⟩ : ∃ m0, m0N l = m0 := ⟨_, rfl⟩
                  rw [hm0] at HMF mb ⊢
                  clear hm0 HMO c0
                  go_upto_if 75 with fail
                  go_cut [9] (fun s9 wx => s9 = .int .u8 (modeN l fa) ∧ wc1 = wx)
                  case first =>
                    cases fa
                    · go_wp2_with fail
                      go_meet
                      exact ⟨by rw [HMF.out]; rfl, rfl⟩
                    · go_wp2_with fail
                      go_meet
                      exact ⟨by rw [HMF.out]; rfl, rfl⟩
                  case rest =>
                    obtain ⟨rfl, rfl⟩ := hcut
                    have hst := HK3.out.set (A + 21) (modeN l fa)
                    obtain ⟨md, hmd⟩ : ∃ md, modeN l fa = md := ⟨_, rfl⟩
                    have HK4 := Lib.hid (show RK w G n l ch (.slice (some ⟨rb, ro, none⟩) n rc) ram ti rs fa sg (wc1.setCell ⟨G, A + 21, none⟩ (.int .u8 (modeN l fa))) (b3N xs A ti l fa) from hst)
                    rw [hmd] at HK4 ⊢
                    have cc := HK3.out.cell (A + 21) (by omega)
                    have cf := HK3.out.froz (A + 21)
                    clear hmd hst HMF c6
                    go_upto_region 27 with fail
                    obtain ⟨W2, hW2⟩ : ∃ W2, wc1.setCell ⟨G, A + 21, none⟩ (.int .u8 md) = W2 := ⟨_, rfl⟩
                    rw [hW2] at HK4 ⊢
                    clear hW2 HK3 cc cf
                    have c1 := HK4.out.cart.c1
                    have cc := HK4.out.cell (A + 22) (by omega)
                    have cf := HK4.out.froz (A + 22)
                    go_upto_if 85 with fail
                    go_cut [85] (fun s85 wx => Hid (RK w G n l ch (.slice (some ⟨rb, ro, none⟩) n rc) ram ti rs fa sg wx (if ch = 1 then (b3N xs A ti l fa).set (A + 22) 3 else b3N xs A ti l fa)))
                    case first =>
                      by_cases h : ch = 1
                      · subst h
                        have hst := Lib.hid (HK4.out.set (A + 22) 3)
                        go_wp2_with fail
                        go_meet
                        exact hst
                      · have e : (ch == 1) = false := by simpa using h
                        have H := Lib.hid h
                        clear h
                        go_wp2_with fail
                        go_meet
                        have h := HK4.out
                        show RK w G n l ch (.slice (some ⟨rb, ro, none⟩) n rc) ram ti rs fa sg _ _
                        rw [if_neg H.out]
                        exact h
                    case rest =>
                      have hk5 := hcut.out
                      clear hcut c1 cc cf HK4
                      have c1 := hk5.cart.c1
                      have cc := hk5.cell (A + 22) (by omega)
                      have cf := hk5.froz (A + 22)
                      obtain ⟨r5, hr5⟩ : ∃ r5, (if ch = 1 then (b3N xs A ti l fa).set (A + 22) 3 else b3N xs A ti l fa) = r5 := ⟨_, rfl⟩
                      rw [hr5] at hk5 cc
                      have HK5 := Lib.hid hk5
                      have HKS1 := Lib.hid (show ch = 2 → r5.set (A + 22) 51 = kindS (b3N xs A ti l fa) A ch from fun h => by
                        rw [← hr5]; subst h; rw [if_neg (by decide)]; unfold kindS; rw [if_neg (by decide), if_pos rfl])
                      have HKS2 := Lib.hid (show ¬ ch = 2 → r5 = kindS (b3N xs A ti l fa) A ch from fun h => by
                        rw [← hr5]; unfold kindS; rw [if_neg h])
                      clear hr5 hk5
                      obtain ⟨y5, hy5⟩ : ∃ y5, r5[A + 22]?.getD 0 = y5 := ⟨_, rfl⟩
                      rw [hy5] at cc
                      clear hy5
                      go_upto_if 92 with fail
                      go_cut [92] (fun s92 wx => Hid (RK w G n l ch (.slice (some ⟨rb, ro, none⟩) n rc) ram ti rs fa sg wx (kindS (b3N xs A ti l fa) A ch)))
                      case first =>
                        by_cases h : ch = 2
                        · have hst := Lib.hid (show RK w G n l ch (.slice (some ⟨rb, ro, none⟩) n rc) ram ti rs fa sg (wc.setCell ⟨G, A + 22, none⟩ (.int .u8 51)) (kindS (b3N xs A ti l fa) A ch) by
                            rw [← HKS1.out h]; exact HK5.out.set (A + 22) 51)
                          have e : (ch == 2) = true := by simpa using h
                          have H := Lib.hid h
                          clear h
                          go_wp2_with fail
                          go_meet
                          exact hst
                        · have e : (ch == 2) = false := by simpa using h
                          have H := Lib.hid h
                          clear h
                          go_wp2_with fail
                          go_meet
                          have h := HK5.out
                          show RK w G n l ch (.slice (some ⟨rb, ro, none⟩) n rc) ram ti rs fa sg _ _
                          rw [← HKS2.out H.out]
                          exact h
                      case rest =>
                        have HK6 := Lib.hid hcut.out
                        clear hcut c1 cc cf HK5 HKS1 HKS2
                        have c3 := HK6.out.cart.c3
                        have cc := HK6.out.cell (A + 24) (by omega)
                        have cf := HK6.out.froz (A + 24)
                        obtain ⟨r6, hr6⟩ : ∃ r6, kindS (b3N xs A ti l fa) A ch = r6 := ⟨_, rfl⟩
                        rw [hr6] at HK6 cc
                        have HR6 := Lib.hid hr6
                        clear hr6
                        obtain ⟨y6, hy6⟩ : ∃ y6, r6[A + 24]?.getD 0 = y6 := ⟨_, rfl⟩
                        rw [hy6] at cc
                        clear hy6
                        go_upto_region 32 with (go_at_call 15; refine (size_walk _ _).mono ?_; rintro e w7 ⟨rfl, rfl⟩)
                        have hk7 := HK6.out.set (A + 24) (sizeR ram)
                        obtain ⟨W7, hW7⟩ : ∃ W7, w7.setCell ⟨G, A + 24, none⟩ (.int .u8 (sizeR ram)) = W7 := ⟨_, rfl⟩
                        rw [hW7] at hk7 ⊢
                        obtain ⟨r7, hr7⟩ : ∃ r7, r6.set (A + 24) (sizeR ram) = r7 := ⟨_, rfl⟩
                        rw [hr7] at hk7
                        have HR7 := Lib.hid hr7
                        clear hW7 hr7 c3 cc cf HK6
                        have c5 := hk7.cart.c5
                        have cc := hk7.cell (A + 60) (by omega)
                        have cf := hk7.froz (A + 60)
                        obtain ⟨y7, hy7⟩ : ∃ y7, r7[A + 60]?.getD 0 = y7 := ⟨_, rfl⟩
                        rw [hy7] at cc
                        have HK7 := Lib.hid hk7
                        clear hy7 hk7
                        have b0 : 0 ≤ rs % 256 := by omega
                        have b1 : rs % 256 ≤ 255 := by omega
                        have b2 : 0 ≤ rs / 256 := by omega
                        have b3 : rs / 256 ≤ 255 := by omega
                        have b4 : IntKind.u8.wrap (rs % 256) = rs % 256 := by simp [IntKind.wrap, IntKind.signed, IntKind.bits]
                        have b5 : IntKind.u8.wrap (rs / 256) = rs / 256 := by simp [IntKind.wrap, IntKind.signed, IntKind.bits]; omega
                        go_upto_region 33 with fail
                        have hk := HK7.out.set (A + 60) (rs % 256)
                        obtain ⟨W7', hW⟩ : ∃ W', W7.setCell ⟨G, A + 60, none⟩ (.int .u8 (rs % 256)) = W' := ⟨_, rfl⟩
                        rw [hW] at hk ⊢
                        obtain ⟨r8, hr⟩ : ∃ r, r7.set (A + 60) (rs % 256) = r := ⟨_, rfl⟩
                        rw [hr] at hk
                        have Hr8 := Lib.hid hr
                        have HK8 := Lib.hid hk
                        clear hW hr hk cc cf HK7
                        clear c5
                        have c5 := HK8.out.cart.c5
                        have cc := HK8.out.cell (A + 61) (by omega)
                        have cf := HK8.out.froz (A + 61)
                        obtain ⟨y, hy⟩ : ∃ y, r8[A + 61]?.getD 0 = y := ⟨_, rfl⟩
                        rw [hy] at cc
                        clear hy
                        go_upto_region 34 with fail
                        rw [div_u16 rs rs0 rs1]
                        have hk := HK8.out.set (A + 61) (rs / 256)
                        obtain ⟨W9, hW⟩ : ∃ W', W7'.setCell ⟨G, A + 61, none⟩ (.int .u8 (rs / 256)) = W' := ⟨_, rfl⟩
                        rw [hW] at hk ⊢
                        obtain ⟨r9, hr⟩ : ∃ r, r8.set (A + 61) (rs / 256) = r := ⟨_, rfl⟩
                        rw [hr] at hk
                        have Hr9 := Lib.hid hr
                        have HK9 := Lib.hid hk
                        clear hW hr hk cc cf HK8
                        clear b0 b1 b2 b3 b4 b5 c5
                        have HB6 := Lib.hid (show b6N xs A ti l fa ch ram rs = r9 by rw [← Hr9.out, ← Hr8.out, ← HR7.out, ← HR6.out]; rfl)
                        have HL9 := Lib.hid HK9.out.len
                        have HF9 := Lib.hid (show ∀ k, k < r9.length → 0 ≤ r9[k]?.getD 0 ∧ r9[k]?.getD 0 ≤ 255 from fun k hk => by
                          have h := HFX.out
                          rw [HB6.out] at h
                          exact h.u8 hk)
                        clear HR6 HR7 Hr8 Hr9
                        go_upto_region 36 with fail
                        go_loopw [10, 11] (fun s10 s11 wr => ∃ k : Nat, k ≤ n ∧ s11 = .int .i64 k ∧ s10 = .int .i64 (sumK r9 k) ∧ W9 = wr) (fun _ s11 _ => n - (intOf s11).toNat)
                        case atStart => exact ⟨0, Nat.zero_le _, rfl, rfl, rfl⟩
                        case round =>
                          obtain ⟨k, hk, rfl, rfl, rfl⟩ := hrel
                          by_cases hlt : k < n
                          · have i1 : (k : Int) < (n : Int) := by omega
                            have i2 : 0 ≤ (k : Int) := by omega
                            have cc := HK9.out.cell k hlt
                            have hsk := Lib.hid (show sumK r9 (k + 1) = (sumK r9 k + r9[k]?.getD 0) % 65536 from rfl)
                            have hfit := HF9.out k (by rw [HL9.out]; exact hlt)
                            have hsb := sumK_bounds r9 k
                            obtain ⟨x, hx⟩ : ∃ x, r9[k]?.getD 0 = x := ⟨_, rfl⟩
                            rw [hx] at cc hsk hfit
                            obtain ⟨s, hs2⟩ : ∃ s, sumK r9 k = s := ⟨_, rfl⟩
                            rw [hs2] at hsk hsb ⊢
                            obtain ⟨f0, f1⟩ := hfit
                            obtain ⟨f2, f3⟩ := hsb
                            clear hx hs2
                            go_wp2
                            go_roundw
                            case rel => exact ⟨k + 1, by omega, by go_num, congrArg (Value.int .i64) hsk.out.symm, trivial⟩
                            case measure => simp [intOf]; omega
                          · obtain rfl : n = k := by omega
                            have i1 : ¬ (n : Int) < (n : Int) := by omega
                            have hb := sumK_bounds r9 n
                            obtain ⟨s, hs2⟩ : ∃ s, sumK r9 n = s := ⟨_, rfl⟩
                            rw [hs2] at hb ⊢
                            have HS2 := Lib.hid hs2
                            clear hs2
                            obtain ⟨b0, b1⟩ := hb
                            have a0 : 0 ≤ s % 256 := by omega
                            have a1 : s % 256 ≤ 255 := by omega
                            have a2 : 0 ≤ s / 256 := by omega
                            have a3 : s / 256 ≤ 255 := by omega
                            have a4 : 0 ≤ (65535 - s) % 256 := by omega
                            have a5 : (65535 - s) % 256 ≤ 255 := by omega
                            have a6 : 0 ≤ (65535 - s) / 256 := by omega
                            have a7 : (65535 - s) / 256 ≤ 255 := by omega
                            have e1 : IntKind.u8.wrap (s % 256) = s % 256 := by simp [IntKind.wrap, IntKind.signed, IntKind.bits]
                            have e2 : IntKind.u8.wrap (s / 256) = s / 256 := by simp [IntKind.wrap, IntKind.signed, IntKind.bits]; omega
                            have e3 : IntKind.u8.wrap ((65535 - s) % 256) = (65535 - s) % 256 := by simp [IntKind.wrap, IntKind.signed, IntKind.bits]
                            have e4 : IntKind.u8.wrap ((65535 - s) / 256) = (65535 - s) / 256 := by simp [IntKind.wrap, IntKind.signed, IntKind.bits]; omega
                            have cc := HK9.out.cell (A + 30) (by omega)
                            have cf := HK9.out.froz (A + 30)
                            obtain ⟨y, hy⟩ : ∃ y, r9[A + 30]?.getD 0 = y := ⟨_, rfl⟩
                            rw [hy] at cc
                            clear hy
                            go_upto_region 40 with fail
                            have hk := HK9.out.set (A + 30) (s % 256)
                            obtain ⟨Wa, hW⟩ : ∃ W', W9.setCell ⟨G, A + 30, none⟩ (.int .u8 (s % 256)) = W' := ⟨_, rfl⟩
                            rw [hW] at hk ⊢
                            obtain ⟨ra, hr⟩ : ∃ r, r9.set (A + 30) (s % 256) = r := ⟨_, rfl⟩
                            rw [hr] at hk
                            have Hra := Lib.hid hr
                            have HKa := Lib.hid hk
                            clear hW hr hk cc cf HK9
                            have cc := HKa.out.cell (A + 31) (by omega)
                            have cf := HKa.out.froz (A + 31)
                            obtain ⟨y, hy⟩ : ∃ y, ra[A + 31]?.getD 0 = y := ⟨_, rfl⟩
                            rw [hy] at cc
                            clear hy
                            go_upto_region 41 with fail
                            have hk := HKa.out.set (A + 31) (s / 256)
                            obtain ⟨Wb, hW⟩ : ∃ W', Wa.setCell ⟨G, A + 31, none⟩ (.int .u8 (s / 256)) = W' := ⟨_, rfl⟩
                            rw [hW] at hk ⊢
                            obtain ⟨rb1, hr⟩ : ∃ r, ra.set (A + 31) (s / 256) = r := ⟨_, rfl⟩
                            rw [hr] at hk
                            have Hrb1 := Lib.hid hr
                            have HKb := Lib.hid hk
                            clear hW hr hk cc cf HKa
                            have cc := HKb.out.cell (A + 28) (by omega)
                            have cf := HKb.out.froz (A + 28)
                            obtain ⟨y, hy⟩ : ∃ y, rb1[A + 28]?.getD 0 = y := ⟨_, rfl⟩
                            rw [hy] at cc
                            clear hy
                            go_upto_region 42 with fail
                            have hk := HKb.out.set (A + 28) ((65535 - s) % 256)
                            obtain ⟨Wc, hW⟩ : ∃ W', Wb.setCell ⟨G, A + 28, none⟩ (.int .u8 ((65535 - s) % 256)) = W' := ⟨_, rfl⟩
                            rw [hW] at hk ⊢
                            obtain ⟨rc1, hr⟩ : ∃ r, rb1.set (A + 28) ((65535 - s) % 256) = r := ⟨_, rfl⟩
                            rw [hr] at hk
                            have Hrc1 := Lib.hid hr
                            have HKc := Lib.hid hk
                            clear hW hr hk cc cf HKb
                            have cc := HKc.out.cell (A + 29) (by omega)
                            have cf := HKc.out.froz (A + 29)
                            obtain ⟨y, hy⟩ : ∃ y, rc1[A + 29]?.getD 0 = y := ⟨_, rfl⟩
                            rw [hy] at cc
                            clear hy
                            go_upto_region 43 with fail
                            have hk := HKc.out.set (A + 29) ((65535 - s) / 256)
                            obtain ⟨Wd, hW⟩ : ∃ W', Wc.setCell ⟨G, A + 29, none⟩ (.int .u8 ((65535 - s) / 256)) = W' := ⟨_, rfl⟩
                            rw [hW] at hk ⊢
                            obtain ⟨rd1, hr⟩ : ∃ r, rc1.set (A + 29) ((65535 - s) / 256) = r := ⟨_, rfl⟩
                            rw [hr] at hk
                            have Hrd1 := Lib.hid hr
                            have HKd := Lib.hid hk
                            clear hW hr hk cc cf HKc
                            have HSL := Lib.hid (show rd1 = sealN r9 A s by rw [← Hrd1.out, ← Hrc1.out, ← Hrb1.out, ← Hra.out]; exact seal_comm r9 A s)
                            clear e1 e2 e3 e4 a0 a1 a2 a3 a4 a5 a6 a7 Hra Hrb1 Hrc1 Hrd1
                            go_wp2_with fail
                            go_returns
                            refine ⟨_, rfl, ?_, HKd.out.bel⟩
                            have h := HKd.out.own
                            unfold madeN
                            rw [HPA.out, HB6.out, HL9.out, HS2.out, ← HSL.out]
                            exact h
end Go.Proofs.Ytjaeglllijafkaa
