/- The walk of the law BrrNearest. -/
import Derived.Test.YtpmmnjmlnjdkjaaKnown
import Derived.Test.YtpmmnjmlnjdkjaaEncodesLaw
import Derived.Test.YtpmmnjmlnjdkjaaShorts
import Derived.Deep.LoopGhost
namespace Go.Proofs.Ytpmmnjmlnjdkjaa
open Go.RowKit
set_option linter.unusedVariables false

theorem Row.shape {k : IntKind} {w : World} {v : Value} {xs : List Int} (h : Row k w v xs) : ∃ a cap, v = .slice a xs.length cap := by
  rcases h with ⟨a, cap, rfl, rfl, _⟩ | ⟨b, o, cap, rfl, _⟩ <;> exact ⟨_, _, rfl⟩

set_option maxRecDepth 100000 in
set_option maxHeartbeats 1000000 in
theorem nearest_no (v vn : Value) (s nb : List Int) (p q sh : Int) (w : World) (hr : Row .i16 w v s) (hn : Row .u8 w vn nb) (s0 : 0 ≤ sh) (s1 : sh ≤ 255)
    (h : s.length ≠ 16 ∨ nb.length ≠ 8 ∨ 12 < sh) :
    Calls Try.prog 7 #[v, .agg #[.int .i16 p, .int .i16 q], .agg #[.int .u8 sh, vn]] w fun e w' => e = .returned (.bool true) ∧ Below w.heap.size w w' := by
  obtain ⟨a, cap, rfl⟩ := hr.shape
  obtain ⟨an, capn, rfl⟩ := hn.shape
  clear hr hn
  have HB := Lib.hid (((Below.refl w.heap.size w).alloc (Nat.le_refl _) (.cells #[.int .i16 p, .int .i16 q] 25)).alloc (by simp) (.cells #[.int .u8 sh, .slice an nb.length capn] 45))
  obtain ⟨n, hl⟩ : ∃ n : Int, (s.length : Int) = n := ⟨_, rfl⟩
  obtain ⟨m, hm⟩ : ∃ m : Int, (nb.length : Int) = m := ⟨_, rfl⟩
  have h' : n ≠ 16 ∨ m ≠ 8 ∨ 12 < sh := by omega
  clear h
  have HBO := HB.out.size
  go_enter Try.func7, Try.ntmps7
  go_wp2_with fail
  go_quiet (fail)
  generalize hW : (((w.alloc (Obj.cells #[Value.int IntKind.i16 p, Value.int IntKind.i16 q] 25)).alloc (Obj.cells #[Value.int IntKind.u8 sh, Value.slice an nb.length capn] 45)).drewN nq) = W2
  have HB2 : Hid (Below w.heap.size w W2) := by rw [← hW]; exact below_drewN HB.out nq
  clear hW HB HBO
  go_upto_region 2 with fail
  go_cut [41] (fun s41 wx => s41 = .bool true ∧ Below w.heap.size w wx)
  case first =>
    go_wp2_with (go_at_call 22; refine (known_any _).mono ?_; rintro e w3 ⟨rfl, hb3⟩)
    all_goals
      go_meet
      exact ⟨by simp <;> omega, below_step HB2.out HB2.out.size hb3⟩
  case rest =>
    obtain ⟨rfl, hbc⟩ := hcut
    go_wp2_with (go_at_call 22; refine (known_any _).mono ?_; rintro e w3 ⟨rfl, hb3⟩)
    go_ret
    exact ⟨rfl, below_step hbc hbc.size hb3⟩
theorem encode16 (v : Value) (s : List Int) (p q : Int) (w : World) (hr : Row .i16 w v s) (hf : Fits .i16 s) (hl : s.length = 16) (p0 : -32768 ≤ p) (p1 : p ≤ 32767) (q0 : -32768 ≤ q) (q1 : q ≤ 32767) :
    Calls Try.prog 19 #[v, .int .i16 p, .int .i16 q] w fun e w' => ∃ r, e = .returned (.tuple #[r, .int .i64 0]) ∧ Row .u8 w' r (encodeN s p q) ∧ Below w.heap.size w w' := by
  have h := encode_any v s p q w hr hf p0 p1 q0 q1
  unfold errE encodedN at h
  rw [if_pos hl, if_pos hl] at h
  exact h
theorem encode_fits (s : List Int) (p q : Int) : Fits .u8 (encodeN s p q) := fun x hx => by
  have h := candB_mem s p q (bestC s p q 51) (by have := bestC_le s p q 51; omega) x hx
  exact WalkArith.wf_u8 h
theorem decode9 (v : Value) (xs : List Int) (p q : Int) (w : World) (hr : Row .u8 w v xs) (hf : Fits .u8 xs) (hl : xs.length = 9)
    (p0 : -32768 ≤ p) (p1 : p ≤ 32767) (q0 : -32768 ≤ q) (q1 : q ≤ 32767) :
    Calls Try.prog 13 #[v, .int .i16 p, .int .i16 q] w fun e w' => ∃ a cap, e = .returned (.tuple #[.slice a 16 cap, .int .i64 0]) ∧ Row .i16 w' (.slice a 16 cap) (samplesN xs p q 16) ∧ Below w.heap.size w w' := by
  refine (decode_nine v xs p q w hr hf hl p0 p1 q0 q1).mono ?_
  rintro e w' ⟨r, rfl, ho, hb⟩
  have h := (Row.owned ho).1
  obtain ⟨a, cap, rfl⟩ := h.shape
  rw [samplesN_length] at h ⊢
  exact ⟨a, cap, rfl, h, hb⟩

theorem addr_add (b o i : Nat) : (⟨b, o, none⟩ : Addr).add i = ⟨b, o + i, none⟩ := by unfold Addr.add; split <;> simp_all
theorem ownsRow_fresh1 (w : World) (T : TypeId) (x : Value) : (w.alloc (.cells #[x] T)).ownsRow w.heap.size T 1 (.slice (some ⟨w.heap.size, 0, none⟩) 1 1) 1 [x] :=
  ⟨rfl, .inr ⟨_, 1, #[x], rfl, Nat.le_refl _, (by unfold World.alloc; exact Array.getElem?_push_size), Nat.le_refl _, by decide, rfl, rfl⟩⟩
theorem cell_stays {w w' : World} {ad : Addr} {x : Value} (hc : w.cell? ad = some x) (hb : Below w.heap.size w w') : w'.cell? ad = some x :=
  (hb.cell (World.block_lt_of_cell? w _ hc)).trans hc

set_option maxRecDepth 100000 in
set_option maxHeartbeats 4000000 in
theorem nearest_yes (v vn : Value) (s nb : List Int) (p q sh : Int) (w : World) (hr : Row .i16 w v s) (hn : Row .u8 w vn nb) (s0 : 0 ≤ sh) (s1 : sh ≤ 12)
    (hl : s.length = 16) (hm : nb.length = 8) (hf : Fits .i16 s) (hfn : Fits .u8 nb)
    (p0 : -32768 ≤ p) (p1 : p ≤ 32767) (q0 : -32768 ≤ q) (q1 : q ≤ 32767) :
    Calls Try.prog 7 #[v, .agg #[.int .i16 p, .int .i16 q], .agg #[.int .u8 sh, vn]] w fun e w' => e = .returned (.bool true) ∧ Below w.heap.size w w' := by
  obtain ⟨a, cap, rfl⟩ := hr.shape
  obtain ⟨bn, on, capn, rfl, -, -, hnc⟩ := hn.cells (by omega)
  have HL := Lib.hid hl
  have HM := Lib.hid hm
  rw [hl] at hr ⊢
  rw [hm] at hnc ⊢
  have HR := Lib.hid hr
  have HF := Lib.hid hf
  have HFN := Lib.hid hfn
  have HNC := Lib.hid hnc
  have hbn : bn < w.heap.size := World.block_lt_of_cell? w _ (hnc 0 (by omega))
  clear hr hn hf hfn hnc hl hm
  obtain ⟨i0, hi0, hz0, hz1, hz2⟩ : ∃ i, Try.prog.info? 5 = some i ∧ i.zero = some (.int .u8 0) ∧ i.size = 1 ∧ i.bytes = 1 := by
    have h := Try.infoU8
    cases h5 : Try.prog.info? 5 with
    | none => rw [h5] at h; cases h
    | some i => rw [h5] at h; simp at h; exact ⟨i, rfl, h⟩
  have hi' := Lib.hid hi0
  have hz0' := Lib.hid hz0
  have hz1' := Lib.hid hz1
  have hz2' := Lib.hid hz2
  clear hi0 hz0 hz1 hz2
  have HB := Lib.hid (((Below.refl w.heap.size w).alloc (Nat.le_refl _) (.cells #[.int .i16 p, .int .i16 q] 25)).alloc (by simp) (.cells #[.int .u8 sh, .slice (some ⟨bn, on, none⟩) 8 capn] 45))
  have hk0 : (((w.alloc (Obj.cells #[Value.int IntKind.i16 p, Value.int IntKind.i16 q] 25)).alloc (Obj.cells #[Value.int IntKind.u8 sh, Value.slice (some ⟨bn, on, none⟩) 8 capn] 45))).cell? ⟨w.heap.size, 0, none⟩ = some (.int .i16 p) := by simp
  have hk1 : (((w.alloc (Obj.cells #[Value.int IntKind.i16 p, Value.int IntKind.i16 q] 25)).alloc (Obj.cells #[Value.int IntKind.u8 sh, Value.slice (some ⟨bn, on, none⟩) 8 capn] 45))).cell? ⟨w.heap.size, 1, none⟩ = some (.int .i16 q) := by simp
  have HK0 := Lib.hid hk0
  have HK1 := Lib.hid hk1
  have hsz2 : (((w.alloc (Obj.cells #[Value.int IntKind.i16 p, Value.int IntKind.i16 q] 25)).alloc (Obj.cells #[Value.int IntKind.u8 sh, Value.slice (some ⟨bn, on, none⟩) 8 capn] 45))).heap.size = w.heap.size + 2 := by simp
  have HSZ := Lib.hid hsz2
  clear hk0 hk1 hsz2
  go_enter Try.func7, Try.ntmps7
  go_wp2_with fail
  go_quiet (fail)
  generalize hW : (((w.alloc (Obj.cells #[Value.int IntKind.i16 p, Value.int IntKind.i16 q] 25)).alloc (Obj.cells #[Value.int IntKind.u8 sh, Value.slice (some ⟨bn, on, none⟩) 8 capn] 45)).drewN nq) = W2
  have HB2 : Hid (Below w.heap.size w W2) := by rw [← hW]; exact below_drewN HB.out nq
  have HK02 : Hid (W2.cell? ⟨w.heap.size, 0, none⟩ = some (.int .i16 p)) := by rw [← hW]; exact HK0.out
  have HK12 : Hid (W2.cell? ⟨w.heap.size, 1, none⟩ = some (.int .i16 q)) := by rw [← hW]; exact HK1.out
  have hsz : w.heap.size < W2.heap.size := by rw [← hW]; have := HSZ.out; simp; omega
  have HSZ2 := Lib.hid hsz
  clear hW HB HK0 HK1 HSZ hsz
  go_upto_region 4 with (go_at_call 22; refine (known_any _).mono ?_; rintro e w3 ⟨rfl, hb3⟩)
  have k0 := cell_stays HK02.out hb3
  have k1 := cell_stays HK12.out hb3
  have T3 := Lib.hid (below_step HB2.out HB2.out.size hb3)
  have K0 := Lib.hid k0
  have K1 := Lib.hid k1
  clear HK02 HK12 HB2 hb3 HSZ2
  go_wp2_with fail
  go_at_call 19
  refine (encode16 _ s p q _ (HR.out.below T3.out) HF.out HL.out p0 p1 q0 q1).mono ?_
  rintro e w4 ⟨r1, rfl, h1, hb4⟩
  have H1 := Lib.hid h1
  clear h1 k0 k1
  have k0 := cell_stays K0.out hb4
  have k1 := cell_stays K1.out hb4
  have T4 := Lib.hid (below_step T3.out T3.out.size hb4)
  have K0 := Lib.hid k0
  have K1 := Lib.hid k1
  clear hb4
  go_wp2_with fail
  go_at_call 13
  refine (decode9 _ _ p q _ H1.out (encode_fits s p q) (encodeN_length s p q) p0 p1 q0 q1).mono ?_
  rintro e w5 ⟨a1, cap1, rfl, h2, hb5⟩
  have H2 := Lib.hid h2
  clear h2 k0 k1
  have k0 := cell_stays K0.out hb5
  have k1 := cell_stays K1.out hb5
  have T5 := Lib.hid (below_step T4.out T4.out.size hb5)
  have K0 := Lib.hid k0
  have K1 := Lib.hid k1
  clear hb5 k0 k1
  go_upto_region 9 with fail
  have HO : Hid ((w5.alloc (Obj.cells #[Value.int IntKind.u8 (sh * 16)] 5)).ownsRow w5.heap.size 5 1 (.slice (some ⟨w5.heap.size, 0, none⟩) 1 1) 1 ([sh * 16].map (Value.int .u8))) :=
    ownsRow_fresh1 w5 5 (.int .u8 (sh * 16))
  have HB5 := Lib.hid ((Below.refl w5.heap.size w5).alloc (Nat.le_refl _) (Obj.cells #[Value.int IntKind.u8 (sh * 16)] 5))
  have HN5 : Hid (∀ (j : Nat) (u : Value), (nb.map (Value.int .u8))[j]? = some u → (w5.alloc (Obj.cells #[Value.int IntKind.u8 (sh * 16)] 5)).cell? ((⟨bn, on, none⟩ : Addr).add j) = some u) := fun j u hu => by
    rw [List.getElem?_map] at hu
    have hj : j < 8 := by
      rcases Nat.lt_or_ge j 8 with h | h
      · exact h
      · rw [List.getElem?_eq_none (by rw [HM.out]; omega)] at hu; cases hu
    obtain ⟨x, hx, rfl⟩ := Option.map_eq_some_iff.1 hu
    have hc := cell_stays (cell_stays (HNC.out j hj) T5.out) HB5.out
    rw [hx] at hc
    rw [addr_add]
    exact hc
  go_wp2_with (at_builtin; refine wpList_append_own _ rfl _ _ 22 rfl w5.heap.size 5 i0 (.int .u8 0) 1 1 Try.underlying22 hi'.out hz0'.out hz1'.out hz2'.out rfl (by decide) _ _ _ rfl HO.out ⟨bn, on, none⟩ 8 capn (nb.map (Value.int .u8)) rfl ?c0 HN5.out ?c2 ?c3 ?c4 ?c5 ?_)
  case c0 => rw [List.length_map, HM.out]
  case c2 => simp [Value.oneCell']
  case c3 => decide
  case c4 => decide
  case c5 => exact HB5.out.size
  intro v6 w6 hown' hgrow _
  have hb6 : Below w5.heap.size w5 w6 := HB5.out.grown hgrow (by have := HB5.out.size; simp) (fun j e => (HO.out.lt j e).1)
  have H6 : Hid (Row .u8 w6 v6 (sh * 16 :: nb)) := (Row.owned (k := .u8) (xs := sh * 16 :: nb) hown').1
  have HF6 : Hid (Fits .u8 (sh * 16 :: nb)) := fun x hx => by
    rcases List.mem_cons.1 hx with rfl | hx
    · exact WalkArith.wf_u8 (by omega)
    · exact HFN.out x hx
  have HL6 : Hid ((sh * 16 :: nb).length = 9) := by show _ = _; rw [List.length_cons, HM.out]
  clear hown' hgrow
  have k0 := cell_stays K0.out hb6
  have k1 := cell_stays K1.out hb6
  have T6 := Lib.hid (below_step T5.out T5.out.size hb6)
  have H26 := Lib.hid (H2.out.below hb6)
  have K0 := Lib.hid k0
  have K1 := Lib.hid k1
  clear hb6
  go_wp2_with fail
  go_at_call 13
  refine (decode9 _ _ p q _ H6.out HF6.out HL6.out p0 p1 q0 q1).mono ?_
  rintro e w7 ⟨a2, cap2, rfl, h7, hb7⟩
  have H7 := Lib.hid h7
  clear h7 k0 k1
  have k0 := cell_stays K0.out hb7
  have k1 := cell_stays K1.out hb7
  have T7 := Lib.hid (below_step T6.out T6.out.size hb7)
  have H27 := Lib.hid (H26.out.below hb7)
  have K0 := Lib.hid k0
  have K1 := Lib.hid k1
  clear hb7 k0 k1
  have HNL := Lib.hid (near_le (sh * 16 :: nb) s p q sh rfl s0 s1 HF6.out)
  have HNA := Lib.hid (near_again (sh * 16 :: nb) p q sh rfl s0 s1 HF6.out)
  have FL := Lib.hid (samples_fits (encodeN s p q) p q p0 p1 q0 q1 16)
  have FX := Lib.hid (samples_fits (sh * 16 :: nb) p q p0 p1 q0 q1 16)
  obtain ⟨L, hL⟩ : ∃ L, samplesN (encodeN s p q) p q 16 = L := ⟨_, rfl⟩
  obtain ⟨X, hX⟩ : ∃ X, samplesN (sh * 16 :: nb) p q 16 = X := ⟨_, rfl⟩
  have LL : Hid (L.length = 16) := by show _ = _; rw [← hL, samplesN_length]
  have LX : Hid (X.length = 16) := by show _ = _; rw [← hX, samplesN_length]
  rw [hL] at H27 HNL FL
  rw [hX] at H7 HNL HNA FX
  clear hL hX H2 H26 H6 HF6 HL6 HO HB5 HN5
  go_wp2_with fail
  obtain ⟨b1, o1, c1, e1, -, -, hcL⟩ := H27.out.cells (by rw [LL.out]; omega)
  obtain ⟨b2, o2, c2, e2, -, -, hcX⟩ := H7.out.cells (by rw [LX.out]; omega)
  have hRs := HR.out.below T7.out
  obtain ⟨b3, o3, c3, e3, -, -, hcS⟩ := hRs.cells (by rw [HL.out]; omega)
  rw [LL.out] at e1 hcL
  rw [LX.out] at e2 hcX
  rw [HL.out] at e3 hcS
  simp only [Value.slice.injEq, true_and] at e1 e2 e3
  obtain ⟨rfl, rfl⟩ := e1
  obtain ⟨rfl, rfl⟩ := e2
  obtain ⟨rfl, rfl⟩ := e3
  have CL := Lib.hid hcL
  have CX := Lib.hid hcX
  have CS := Lib.hid hcS
  have HRS := Lib.hid hRs
  clear hcL hcX hcS hRs
  go_loopg [16, 17, 18] 16 (fun gk v16 v17 v18 wr => ∃ (k : Nat), k + gk = 16 ∧ v18 = .int .i64 k ∧ v17 = .int .i64 (sumD L s k) ∧ v16 = .int .i64 (sumD X s k) ∧ Hid (∃ m, wr = w7.drewN m))
  case atStart => exact ⟨0, rfl, rfl, rfl, rfl, ⟨0, rfl⟩⟩
  case round =>
    obtain ⟨k, hk, rfl, rfl, rfl, HWR⟩ := hrel
    have HK := Lib.hid hk
    clear hk
    by_cases hlt : k < 16
    · have x1 : wr.cell? ⟨b1, o1 + k, none⟩ = some (.int .i16 (L[k]?.getD 0)) := by obtain ⟨m, hm⟩ := HWR.out; rw [hm]; exact CL.out k hlt
      have x2 : wr.cell? ⟨b2, o2 + k, none⟩ = some (.int .i16 (X[k]?.getD 0)) := by obtain ⟨m, hm⟩ := HWR.out; rw [hm]; exact CX.out k hlt
      have x3 : wr.cell? ⟨b3, o3 + k, none⟩ = some (.int .i16 (s[k]?.getD 0)) := by obtain ⟨m, hm⟩ := HWR.out; rw [hm]; exact CS.out k hlt
      have g1 := fits_at FL.out k
      have g2 := fits_at FX.out k
      have g3 := fits_at HF.out k
      have n1 := sumD_nonneg L s k
      have n2 := sumD_nonneg X s k
      have u1 := sumD_bound L s (fits_at FL.out) (fits_at HF.out) k
      have u2 := sumD_bound X s (fits_at FX.out) (fits_at HF.out) k
      have hs1 : sumD L s (k + 1) = sumD L s k + (L[k]?.getD 0 - s[k]?.getD 0) * (L[k]?.getD 0 - s[k]?.getD 0) := rfl
      have hs2 : sumD X s (k + 1) = sumD X s k + (X[k]?.getD 0 - s[k]?.getD 0) * (X[k]?.getD 0 - s[k]?.getD 0) := rfl
      obtain ⟨A1, hA1⟩ : ∃ A, L[k]?.getD 0 = A := ⟨_, rfl⟩
      obtain ⟨A2, hA2⟩ : ∃ A, X[k]?.getD 0 = A := ⟨_, rfl⟩
      obtain ⟨A3, hA3⟩ : ∃ A, s[k]?.getD 0 = A := ⟨_, rfl⟩
      obtain ⟨N, hN⟩ : ∃ N, sumD L s k = N := ⟨_, rfl⟩
      obtain ⟨F, hF⟩ : ∃ F, sumD X s k = F := ⟨_, rfl⟩
      rw [hA1] at x1 g1 hs1
      rw [hA2] at x2 g2 hs2
      rw [hA3] at x3 g3 hs1 hs2
      rw [hN] at n1 u1 hs1 ⊢
      rw [hF] at n2 u2 hs2 ⊢
      have q1' := sq_nonneg (A1 - A3)
      have q2' := sq_le (A1 - A3) 65536 (by omega) (by omega)
      have q3' := sq_nonneg (A2 - A3)
      have q4' := sq_le (A2 - A3) 65536 (by omega) (by omega)
      have C1 := Lib.hid (fun W => square_any A1 A3 (by omega) (by omega) (by omega) (by omega) W)
      have C2 := Lib.hid (fun W => square_any A2 A3 (by omega) (by omega) (by omega) (by omega) W)
      obtain ⟨D1, hD1⟩ : ∃ D, (A1 - A3) * (A1 - A3) = D := ⟨_, rfl⟩
      obtain ⟨D2, hD2⟩ : ∃ D, (A2 - A3) * (A2 - A3) = D := ⟨_, rfl⟩
      rw [hD1] at q1' q2' C1 hs1
      rw [hD2] at q3' q4' C2 hs2
      have HS1 := Lib.hid hs1
      have HS2 := Lib.hid hs2
      have w1 : IntKind.i64.wrap (N + D1) = N + D1 := IntWalk.i64_in _ (by omega)
      have w2 : IntKind.i64.wrap (F + D2) = F + D2 := IntWalk.i64_in _ (by omega)
      clear hA1 hA2 hA3 hN hF hD1 hD2 hs1 hs2 u1 u2
      have i1 : (k : Int) < 16 := by omega
      have i2 : 0 ≤ (k : Int) := by omega
      go_wp2_with fail
      go_quiet ((go_at_call 23; exact quiet_left (C1.out _)))
      have HWR2 : Hid (∃ m, wr.drewN nq = w7.drewN m) := by obtain ⟨m, hm⟩ := HWR.out; exact ⟨m + nq, by rw [hm, World.drewN_drewN]⟩
      have x2 : (wr.drewN nq).cell? ⟨b2, o2 + k, none⟩ = some (.int .i16 A2) := x2
      have x3 : (wr.drewN nq).cell? ⟨b3, o3 + k, none⟩ = some (.int .i16 A3) := x3
      generalize wr.drewN nq = wq at HWR2 x2 x3 ⊢
      go_wp2_with fail
      go_quiet ((go_at_call 23; exact quiet_left (C2.out _)))
      have HWR3 : Hid (∃ m, wq.drewN nq = w7.drewN m) := by obtain ⟨m, hm⟩ := HWR2.out; exact ⟨m + nq, by rw [hm, World.drewN_drewN]⟩
      generalize wq.drewN nq = wz at HWR3 ⊢
      go_wp2_with fail
      go_roundg (15 - k)
      case measure => have := HK.out; omega
      case rel => exact ⟨k + 1, by have := HK.out; omega, by go_num, by rw [HS1.out], by rw [HS2.out], HWR3⟩
    · obtain ⟨m, rfl⟩ := HWR.out
      obtain rfl : k = 16 := by have := HK.out; omega
      have hnl := HNL.out
      obtain ⟨N, hN⟩ : ∃ N, sumD L s 16 = N := ⟨_, rfl⟩
      obtain ⟨F, hF⟩ : ∃ F, sumD X s 16 = F := ⟨_, rfl⟩
      rw [hN, hF] at hnl ⊢
      clear hN hF HNL
      have TD := Lib.hid (below_drewN (Below.refl w7.heap.size w7) m)
      have k0 := cell_stays K0.out TD.out
      have k1 := cell_stays K1.out TD.out
      have HX1 := Lib.hid (H7.out.below TD.out)
      have T8 := Lib.hid (below_drewN T7.out m)
      generalize w7.drewN m = w8 at k0 k1 HX1 T8 ⊢
      have K0 := Lib.hid k0
      have K1 := Lib.hid k1
      go_wp2_with fail
      go_at_call 19
      refine (encode16 _ X p q _ HX1.out FX.out LX.out p0 p1 q0 q1).mono ?_
      rintro e w9 ⟨r9, rfl, h9, hb9⟩
      have H9 := Lib.hid h9
      clear h9 k0 k1
      have k0 := cell_stays K0.out hb9
      have k1 := cell_stays K1.out hb9
      have T9 := Lib.hid (below_step T8.out T8.out.size hb9)
      have HX9 := Lib.hid (HX1.out.below hb9)
      clear hb9
      go_wp2_with fail
      go_at_call 13
      refine (decode9 _ _ p q _ H9.out (encode_fits X p q) (encodeN_length X p q) p0 p1 q0 q1).mono ?_
      rintro e w10 ⟨a10, cap10, rfl, h10, hb10⟩
      have H10 := Lib.hid h10
      have HX10 := Lib.hid (HX9.out.below hb10)
      have T10 := Lib.hid (below_step T9.out T9.out.size hb10)
      clear h10 hb10 k0 k1
      go_wp2_with fail
      go_at_call 14
      refine (shorts_any _ _ _ _ _ H10.out HX10.out).mono ?_
      rintro e w11 ⟨rfl, n, rfl⟩
      rw [HNA.out]
      go_wp2_with fail
      go_ret
      exact ⟨rfl, below_drewN T10.out n⟩

theorem walk_nearest (a0 : Option Addr) (len0 cap0 : Nat) (z0 : List Int) (p q sh : Int) (a2 : Option Addr) (len2 cap2 : Nat) (z2 : List Int) (w : World) (w0 : IsRow .i16 w a0 len0 cap0 z0) (_s0 : cap0 * 2 ≤ 140737488351232)
    (wp : (Lit.int .i16 p).wf = true) (wq : (Lit.int .i16 q).wf = true) (ws : (Lit.int .u8 sh).wf = true) (w2 : IsRow .u8 w a2 len2 cap2 z2) :
    Calls Try.prog 7 #[.slice a0 len0 cap0, .agg #[.int .i16 p, .int .i16 q], .agg #[.int .u8 sh, .slice a2 len2 cap2]] w fun e w' => e = .returned (.bool true) ∧ Below w.heap.size w w' := by
  obtain ⟨hr, hf, hl, -⟩ := Row.came w0
  obtain ⟨hn, hfn, hm, -⟩ := Row.came w2
  have bp := bounds_i16 wp
  have bq := bounds_i16 wq
  have bs := bounds_u8 ws
  by_cases h : (z0.take len0).length ≠ 16 ∨ (z2.take len2).length ≠ 8 ∨ 12 < sh
  · exact nearest_no _ _ _ _ p q sh w hr hn (by omega) (by omega) h
  · exact nearest_yes _ _ _ _ p q sh w hr hn (by omega) (by omega) (by omega) (by omega) hf hfn (by omega) (by omega) (by omega) (by omega)
end Go.Proofs.Ytpmmnjmlnjdkjaa
