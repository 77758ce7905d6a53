/- NotesAll, walked: all notes are told, rising, as far as they are gone through. (Numbers of chapter 10's seat D.) -/
import Derived.Sort.CutIn
import Derived.Test.YteabjninmaceaaaDoorNotesFind
import Derived.Test.YteabjninmaceaaaDoorNotesRefOf
namespace Go.Proofs.YteabjninmaceaaaDoor
open Go.RowKit Go.Shelf
set_option linter.unusedVariables false
set_option linter.unusedSimpArgs false
attribute [local go_sem] Oper.semAt_some

/-- The codes rise from nought. -/
def RiseC (pre : List (Fin 256)) : Prop := ∀ i (x : Fin 256), pre[i]? = some x → x.1 = i
theorem riseC_nil : RiseC [] := fun i x h => by simp at h
theorem riseC_snoc {pre : List (Fin 256)} (h : RiseC pre) {x : Fin 256} (hx : x.1 = pre.length) : RiseC (pre ++ [x]) := by
  intro i y hy
  rcases Nat.lt_or_ge i pre.length with hi | hi
  · rw [List.getElem?_append_left hi] at hy; exact h i y hy
  · rw [List.getElem?_append_right hi] at hy
    rcases Nat.eq_zero_or_pos (i - pre.length) with h0 | h0
    · rw [h0] at hy
      have : y = x := by simpa using hy.symm
      rw [this, hx]; omega
    · rw [List.getElem?_eq_none (by simp; omega)] at hy; cases hy
theorem riseC_first (k : Nat) (h : k ≤ 256) : RiseC (firstC k h) := by
  induction k with
  | zero => exact riseC_nil
  | succ k ih => exact riseC_snoc (ih (by omega)) (firstC_length _ _).symm
/-- What lies between two rounds of the going. -/
def GoI (w : World) (stop : Int) (pre : List (Fin 256)) (W : World) : Prop :=
  (RiseC pre ∧ Boxed W w.heap.size 3 (.int .i64 stop) ∧ (∃ r, Boxed W (w.heap.size + 1) 4 (.bool r)) ∧ Boxed W (w.heap.size + 1 + 1) 3 (.int .i64 (pre.length : Nat))) ∧ Below w.heap.size w W
theorem goI_own (w : World) (stop : Int) (B : Nat) (hB : w.heap.size ≤ B) : OwnFrom B (GoI w stop) := by
  refine OwnFrom.and (Own.from ?_ _) (ownFrom_below (Nat.le_refl _) hB)
  rintro pre X Y row ⟨h0, h1, ⟨r, h2⟩, h3⟩ hg hr
  exact ⟨h0, boxed_kept h1 hg hr, ⟨r, boxed_kept h2 hg hr⟩, boxed_kept h3 hg hr⟩
/-- What lies behind a round that leaves: the going stopped where it was to, or a code came out of turn. -/
def GoX (w : World) (stop : Int) (d : Code) (pre : List (Fin 256)) (W : World) : Prop :=
  (d = .exit 0 ∧ (pre.length : Int) = stop ∧ GoI w stop pre W) ∨ (d = .ret ∧ ¬ RiseC pre)
theorem goX_own (w : World) (stop : Int) (d : Code) (B : Nat) (hB : w.heap.size ≤ B) : OwnFrom B (GoX w stop d) := by
  rintro pre X Y row (⟨h0, h1, h2⟩ | h) hg hr
  · exact .inl ⟨h0, h1, goI_own w stop B hB pre X Y row h2 hg hr⟩
  · exact .inr h
/-- A round's frame. -/
def GoA (w : World) (stop : Int) (x : Fin 256) (a : Act) (W : World) : Prop :=
  ∃ B, a = { tmps := #[Value.int .i64 stop, .pointer (some ⟨w.heap.size, 0, none⟩), .pointer (some ⟨w.heap.size + 1, 0, none⟩), .func (.func 12) #[] #[], .pointer (some ⟨w.heap.size + 1 + 1, 0, none⟩), .pointer (some ⟨B, 0, none⟩), .func (.func 12) #[] #[], .func (.func 12) #[] #[], .bool false, .func (.func 12) #[] #[], .agg #[.int .u8 (x.1 : Nat), .string (nameT x.1), .string (formT x.1), .int .i64 (1 + sumW (formT x.1).data.toList : Nat), .int .i64 (cycT x.1)], undef, undef, undef, undef, undef, undef, undef, undef, undef, undef, undef, undef, undef, undef, undef, undef, undef, undef, undef, undef, undef], defers := [] } ∧ NoteBox W B x.1
theorem goA_own (w : World) (stop : Int) (x : Fin 256) (a : Act) (B : Nat) : OwnFrom B (fun (_ : Unit) W => GoA w stop x a W) := by
  intro _ X Y row hs hg hr
  obtain ⟨K, e, h⟩ := hs
  exact ⟨K, e, h.kept hg (fun r e => (hr r e).2)⟩
set_option maxRecDepth 100000 in
set_option maxHeartbeats 4000000 in
theorem all_law (stop : Int) (w : World) (hs0 : -9223372036854775808 ≤ stop) (hs1 : stop ≤ 9223372036854775807) (hL : LaidM w) :
    Calls Tryd.prog 3 #[.int .i64 stop] w fun e w' => e = .returned (.bool true) ∧ Below w.heap.size w w' := by
  have hnf : ∀ W, (binOp BinOp.eql 23 (.func (.func 12) #[] #[]) .nilFunc).run Tryd.prog W = .ok (.bool false) W := fun W => by kernel_rfl
  refine (callsIn_wide (n := 5)).1 ?_
  refine callsIn_of_wp_marks Tryd.func3 rfl trivial ?_ rfl
  simp only [Tryd.ntmps3, List.size_toArray, List.length_cons, List.length_nil, Nat.reduceAdd, Nat.reduceSub, Array.replicate_succ, Array.replicate_zero, List.push_toArray, List.append_toArray, List.nil_append, List.cons_append]
  gi_wp2_with (refine ⟨trivial, ?_⟩; gi_at_call 5; refine (all_in _ _).mono ?_; rintro e w' ⟨rfl, rfl⟩)
  obtain ⟨W0, hW0⟩ : ∃ W0, (((w.alloc (.cells #[.int .i64 stop] 3)).alloc (.cells #[.bool false] 4)).alloc (.cells #[.int .i64 0] 3)) = W0 := ⟨_, rfl⟩
  have hsz : W0.heap.size = w.heap.size + 1 + 1 + 1 := by rw [← hW0]; simp
  have hLW : LaidM W0 := by
    rw [← hW0]
    exact hL.below ((((Below.refl _ w).alloc (Nat.le_refl _) _).alloc (by simp) _).alloc (by simp; omega) _)
  have hI0 : Hid (GoI w stop [] W0) := by
    rw [← hW0]
    have t1 := Boxed.new w 3 (.int .i64 stop)
    have t2 := Boxed.new (w.alloc (.cells #[.int .i64 stop] 3)) 4 (.bool false)
    have t3 := Boxed.new ((w.alloc (.cells #[.int .i64 stop] 3)).alloc (.cells #[.bool false] 4)) 3 (.int .i64 0)
    simp only [World.size_alloc] at t2 t3
    exact ⟨⟨riseC_nil, (t1.alloc _).alloc _, ⟨_, t2.alloc _⟩, t3⟩, (((Below.refl _ w).alloc (Nat.le_refl _) _).alloc (by simp) _).alloc (by simp; omega) _⟩
  rw [hW0]
  clear hW0
  rename_i Q' K hKK
  have HREST : ∀ (D k : Nat) (W : World), k ≤ 256 → (k = 256 ∨ (k : Int) = stop) → W0.heap.size ≤ D → Boxed W w.heap.size 3 (.int .i64 stop) → (∃ r, Boxed W (w.heap.size + 1) 4 (.bool r)) → Boxed W (w.heap.size + 1 + 1) 3 (.int .i64 (k : Nat)) → Below w.heap.size w W → W.heap[D]? = some (.deferred (some [])) →
      K { tmps := #[Value.int .i64 stop, .pointer (some ⟨w.heap.size, 0, none⟩), .pointer (some ⟨w.heap.size + 1, 0, none⟩), .func (.func 12) #[] #[], .pointer (some ⟨w.heap.size + 1 + 1, 0, none⟩), undef, .func (.func 12) #[] #[], .func (.func 12) #[] #[], .bool false, .func (.func 12) #[] #[], undef, undef, undef, undef, undef, undef, undef, undef, undef, undef, undef, undef, undef, undef, undef, undef, undef, undef, undef, undef, undef, undef], defers := [{ target := .collected D, args := #[] }] } W := by
    intro D k W hk hkk hD hb0 hb1 hb2 hB hdf
    obtain ⟨r1, hb1⟩ := hb1
    have k0 := hb0.cell
    have k2 := hb2.cell
    have f1 := hb1.frozen
    have g1 := hb1.cell
    have HB1 := Lib.hid hb1
    have HB := Lib.hid hB
    have HD := Lib.hid hdf
    clear hb0 hb1 hb2 hB hdf
    refine hKK _ _ ?_
    by_cases h256 : k = 256
    · have e1 : ((k : Int) == 256) = true := by rw [h256]; rfl
      clear h256 hkk
      gi_wp2_with fail
      have hr3 := HB1.out.set (.bool true)
      have hd := (KeepsOthers.setCell W ⟨w.heap.size + 1, 0, none⟩ (.bool true)).same D _ HD.out rfl
      have hz := HB.out.setCell (p := ⟨w.heap.size + 1, 0, none⟩) (by simp) (.bool true)
      generalize (W.setCell ⟨w.heap.size + 1, 0, none⟩ (.bool true)) = X5 at hr3 hd hz ⊢
      have h5 := (boxed_kept hr3 (grownBy_putObj' X5 D (.deferred none)) (fun r e => by cases e; exact ⟨_, hd, rfl⟩)).cell
      refine ⟨by simp, .inl ⟨_, _, rfl, run_takeDeferred hd, ?_⟩⟩
      refine ⟨.bool true, ?_, ⟨rfl, hz.grown (grownBy_putObj' X5 D (.deferred none)) hz.size (fun k e => by cases e; omega)⟩⟩
      simp [results, Tryd.results3, go_sem, h5]
    · have hks : (k : Int) = stop := hkk.resolve_left h256
      have e1 : ((k : Int) == 256) = false := by rw [beq_eq_false_iff_ne]; omega
      have e2 : ((k : Int) == stop) = true := by rw [hks]; exact beq_self_eq_true _
      clear h256 hks hkk
      gi_wp2_with fail
      have hr3 := HB1.out.set (.bool true)
      have hd := (KeepsOthers.setCell W ⟨w.heap.size + 1, 0, none⟩ (.bool true)).same D _ HD.out rfl
      have hz := HB.out.setCell (p := ⟨w.heap.size + 1, 0, none⟩) (by simp) (.bool true)
      generalize (W.setCell ⟨w.heap.size + 1, 0, none⟩ (.bool true)) = X5 at hr3 hd hz ⊢
      have h5 := (boxed_kept hr3 (grownBy_putObj' X5 D (.deferred none)) (fun r e => by cases e; exact ⟨_, hd, rfl⟩)).cell
      refine ⟨by simp, .inl ⟨_, _, rfl, run_takeDeferred hd, ?_⟩⟩
      refine ⟨.bool true, ?_, ⟨rfl, hz.grown (grownBy_putObj' X5 D (.deferred none)) hz.size (fun k e => by cases e; omega)⟩⟩
      simp [results, Tryd.results3, go_sem, h5]
  refine wpIn_rangeFunc_ownH (n := 5) rfl (by decide) (gf := 12) (lb := #[]) rfl trivial (enters_of Tryd.func12 (by kernel_rfl) rfl)
    (all1_stops (5 - 1) (by decide) W0 hLW) keepM_t (fun W l o o' hB hl ho hw => keepM_b W l o o' hB hl ho hw) (Below.refl _ _) (fun _ => rfl)
    (GoI w stop) (GoX w stop) (goI_own w stop _ (by omega)) (fun c => goX_own w stop c _ (by omega)) hI0.out (GoA w stop) (fun x a => goA_own w stop x a _) ?assign ?body ?done ?stop
  case assign =>
    intro l pre x W K hI hK
    unfold encC noteV
    gi_wp2
    exact hK _ _ ((KeepsOthers.alloc W _).from _) (keepM_below ((Below.refl _ W).alloc (Nat.le_refl _) _)) ((goI_own w stop _ (Nat.le_refl _)).alloc _ hI) ⟨_, rfl, World.alloc_heap_new W _⟩
  case body =>
    rintro l pre x a' W hl hlr ⟨⟨hri, hb0, ⟨rv, hb1⟩, hb2⟩, hB⟩ ⟨B, rfl, hbox⟩ hlt
    have hmx : Tryd.prog.follows .mixedOrders = true := by kernel_rfl
    obtain ⟨d0, d1, d2, d3, d4⟩ := hbox.cells
    have k2 := hb2.cell
    have i1 : ¬ (255 : Int) < ((pre.length : Nat) : Int) := by omega
    have i2 : IntKind.u8.wrap ((pre.length : Nat) : Int) = ((pre.length : Nat) : Int) := wrap8 _ (by omega) (by omega)
    have HOF := Lib.hid (fun W => refOf_walk pre.length hlt W)
    obtain ⟨N, hN⟩ : ∃ N, pre.length = N := ⟨_, rfl⟩
    rw [hN] at i1 i2 k2 HOF
    have HN := Lib.hid hN
    have HV := Lib.hid (show noteV N = .agg #[.int .u8 N, .string (nameT N), .string (formT N), .int .i64 (1 + sumW (formT N).data.toList : Nat), .int .i64 (cycT N)] from rfl)
    rw [HV.out] at HOF
    have HRI := Lib.hid hri
    have HB0 := Lib.hid hb0
    have HB1 := Lib.hid hb1
    have HB2 := Lib.hid hb2
    have HBS := Lib.hid hB
    have hBlt : B < W.heap.size := (Array.getElem?_eq_some_iff.1 (show W.heap[B]? = _ from hbox)).1
    have hNlt : w.heap.size + 1 + 1 < W.heap.size := HB2.out.lt
    clear hN hri hb0 hb1 hb2 hB hbox HV
    obtain ⟨ss, hss⟩ : ∃ ss : Nat → Nat, (fun n => 1 + sumW (formT n).data.toList) = ss := ⟨_, rfl⟩
    have hssN := congrFun hss N
    have hssx := congrFun hss x.1
    try dsimp only at hssN hssx
    rw [hssN] at HOF
    rw [hssx] at d3 ⊢
    clear hss hssN hssx
    by_cases hx : x.1 = N
    · have HRN := Lib.hid (riseC_snoc HRI.out (show x.1 = pre.length by rw [HN.out]; exact hx))
      rw [hx] at d0 d1 d2 d3 d4
      gi_wp2_with fail
      gi_region_with_o (refine ⟨trivial, ?_⟩; gi_at_call 6; refine (CallsIn.inRound l (callsIn_wide.2 (HOF.out _))).mono ?_; rintro e w1 ⟨rfl, hbb⟩; have p0 := (hbb.cell (p := ⟨B, 0, none⟩) hBlt).trans d0; have p1 := (hbb.cell (p := ⟨B, 1, none⟩) hBlt).trans d1; have p2 := (hbb.cell (p := ⟨B, 2, none⟩) hBlt).trans d2; have p3 := (hbb.cell (p := ⟨B, 3, none⟩) hBlt).trans d3; have p4 := (hbb.cell (p := ⟨B, 4, none⟩) hBlt).trans d4; have p5 := (hbb.cell (p := ⟨w.heap.size + 1 + 1, 0, none⟩) hNlt).trans k2)
      all_goals
        have hbb2 : Below W.heap.size W w1 := by first | exact (Below.refl _ W).drew.trans hbb | exact (below_drewN (Below.refl _ W) _).trans hbb
        have q0 := boxed_below HB0.out hbb2 HB0.out.lt
        have q1 := boxed_below HB1.out hbb2 HB1.out.lt
        have q2 := boxed_below HB2.out hbb2 HB2.out.lt
        have i3 : IntKind.i64.wrap ((N : Int) + 1) = ((N + 1 : Nat) : Int) := by rw [IntWalk.i64_in _ (by omega)]; rfl
        have g0 := q0.cell
        have f2 := q2.frozen
        have HFIN := Lib.hid (show KeepsFrom W0.heap.size W (w1.setCell ⟨w.heap.size + 1 + 1, 0, none⟩ (.int .i64 (N + 1 : Nat))) ∧ KeepM W (w1.setCell ⟨w.heap.size + 1 + 1, 0, none⟩ (.int .i64 (N + 1 : Nat))) ∧ GoI w stop (pre ++ [x]) (w1.setCell ⟨w.heap.size + 1 + 1, 0, none⟩ (.int .i64 (N + 1 : Nat))) by
          refine ⟨((keeps_below hbb2).trans (KeepsOthers.setCell _ _ _)).from _, keepM_t (keepM_below hbb2) (keepM_set _ (by omega)), ⟨HRN.out, q0.other (by omega) _, ⟨rv, q1.other (by omega) _⟩, ?_⟩, (below_step HBS.out HBS.out.size hbb2).setCell (p := ⟨w.heap.size + 1 + 1, 0, none⟩) (by simp; omega) _⟩
          rw [List.length_append, List.length_singleton, HN.out]
          exact q2.set _)
        have HLN := Lib.hid (show ((pre ++ [x]).length : Int) = ((N + 1 : Nat) : Int) by rw [List.length_append, List.length_singleton, HN.out])
        clear q0 q1 q2 hbb hbb2 p0 p1 p2 p3 p4 d0 d1 d2 d3 d4
        by_cases hst : ((N + 1 : Nat) : Int) = stop
        · have b1 : (((N + 1 : Nat) : Int) == stop) = true := by rw [hst]; exact beq_self_eq_true _
          have HST := Lib.hid hst
          clear hst
          gi_wp2_with fail
          exact ⟨HFIN.out.1, .inl ⟨rfl, HLN.out.trans HST.out, HFIN.out.2.2⟩⟩
        · have b1 : (((N + 1 : Nat) : Int) == stop) = false := by rw [beq_eq_false_iff_ne]; exact hst
          clear hst
          gi_wp2_with fail
          exact HFIN.out
    · have HNR := Lib.hid (show ¬ RiseC (pre ++ [x]) from fun h => hx (by rw [← HN.out]; exact h pre.length x (by simp)))
      have e1 : (((x.1 : Nat) : Int) == (N : Int)) = false := by rw [beq_eq_false_iff_ne]; omega
      clear hx
      gi_wp2_with fail
      gi_region_with_o (refine ⟨trivial, ?_⟩; gi_at_call 6; refine (CallsIn.inRound l (callsIn_wide.2 (HOF.out _))).mono ?_; rintro e w1 ⟨rfl, hbb⟩; have p0 := (hbb.cell (p := ⟨B, 0, none⟩) hBlt).trans d0; have p1 := (hbb.cell (p := ⟨B, 1, none⟩) hBlt).trans d1; have p2 := (hbb.cell (p := ⟨B, 2, none⟩) hBlt).trans d2; have p3 := (hbb.cell (p := ⟨B, 3, none⟩) hBlt).trans d3; have p4 := (hbb.cell (p := ⟨B, 4, none⟩) hBlt).trans d4; have p5 := (hbb.cell (p := ⟨w.heap.size + 1 + 1, 0, none⟩) hNlt).trans k2)
      all_goals
        have hbb2 : Below W.heap.size W w1 := by first | exact (Below.refl _ W).drew.trans hbb | exact (below_drewN (Below.refl _ W) _).trans hbb
        have q1 := boxed_below HB1.out hbb2 HB1.out.lt
        have f1 := q1.frozen
        have g1 := q1.cell
        have HFIN := Lib.hid (show KeepsFrom W0.heap.size W (w1.setCell ⟨w.heap.size + 1, 0, none⟩ (.bool false)) from ((keeps_below hbb2).trans (KeepsOthers.setCell _ _ _)).from _)
        clear q1 hbb hbb2 p0 p1 p2 p3 p4 d0 d1 d2 d3 d4
        gi_wp2_with fail
        exact ⟨HFIN.out, .inr ⟨rfl, HNR.out⟩⟩
  case done =>
    rintro D ys W hD rfl ⟨⟨h0, h1, h2, h3⟩, h4⟩ hK
    exact HREST D 256 W (Nat.le_refl _) (.inl rfl) hD h1 h2 (by rw [firstC_length] at h3; exact h3) h4 hK
  case stop =>
    rintro D c pre W hD ⟨k, hk, rfl⟩ (⟨rfl, hst, hI⟩ | ⟨rfl, hn⟩) hK
    · obtain ⟨⟨h0, h1, h2, h3⟩, h4⟩ := hI
      rw [firstC_length] at hst h3
      gi_wp2
      exact HREST D k W hk (.inr hst) hD h1 h2 h3 h4 hK
    · exact absurd (riseC_first k hk) hn
theorem all_any (stop : Int) (W : World) (ws : (Lit.int .i64 stop).wf = true) (hL : LaidM W) :
    Calls Tryd.prog 3 #[.int .i64 stop] W fun e w' => e = .returned (.bool true) ∧ Below W.heap.size W w' := by
  have h := bounds_i64 ws
  exact all_law stop W (by omega) (by omega) hL
end Go.Proofs.YteabjninmaceaaaDoor
