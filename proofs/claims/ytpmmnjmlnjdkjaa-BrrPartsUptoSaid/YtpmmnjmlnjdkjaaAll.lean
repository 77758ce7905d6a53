/- The walk of All: a loop over the iterator over whole blocks. -/
import Derived.Test.YtpmmnjmlnjdkjaaBlocks
import Derived.Test.YtpmmnjmlnjdkjaaDecP
import Derived.Test.YtpmmnjmlnjdkjaaNearLaw
namespace Go.Proofs.Ytpmmnjmlnjdkjaa
open Go.RowKit Go.Shelf
set_option linter.unusedVariables false
attribute [local go_sem] Oper.semAt_some

/-- The samples of some blocks, each behind the last two. -/
def doneL (b : List Int) (pre : List (BlkOf b)) : List Int := pre.foldl (fun l x => l ++ samplesN (blkB b x.1) (behindN l).1 (behindN l).2 16) []
theorem doneL_snoc (b : List Int) (pre : List (BlkOf b)) (x : BlkOf b) : doneL b (pre ++ [x]) = doneL b pre ++ samplesN (blkB b x.1) (behindN (doneL b pre)).1 (behindN (doneL b pre)).2 16 := by
  simp [doneL]
theorem doneL_first (b : List Int) (k : Nat) (h : 9 * k ≤ b.length) : doneL b (firstB b k h) = doneB b k := by
  induction k with
  | zero => rfl
  | succ k ih => simp only [firstB]; rw [doneL_snoc, ih, doneB_succ]
theorem list_snoc {α : Type} (P : List α → Prop) (h0 : P []) (hs : ∀ pre x, P pre → P (pre ++ [x])) (l : List α) : P l := by
  have h : ∀ r : List α, P r.reverse := fun r => by
    induction r with
    | nil => exact h0
    | cons x r ih => rw [List.reverse_cons]; exact hs _ _ ih
  have := h l.reverse
  rwa [List.reverse_reverse] at this
theorem doneL_length (b : List Int) (pre : List (BlkOf b)) : (doneL b pre).length = 16 * pre.length :=
  list_snoc (fun pre => (doneL b pre).length = 16 * pre.length) rfl (fun pre x h => by rw [doneL_snoc, List.length_append, samplesN_length, h, List.length_append]; simp; omega) pre
theorem doneL_fits (b : List Int) (pre : List (BlkOf b)) : Fits .i16 (doneL b pre) :=
  list_snoc (fun pre => Fits .i16 (doneL b pre)) (fun x hx => by cases hx) (fun pre x ih => by
    rw [doneL_snoc]
    intro y hy
    rcases List.mem_append.1 hy with h | h
    · exact ih y h
    · have hb := behind_fits ih
      exact samples_fits (blkB b x.1) _ _ hb.1 hb.2.1 hb.2.2.1 hb.2.2.2 16 y h) pre

theorem keeps_below {W W' : World} (h : Below W.heap.size W W') : KeepsOthers W W' := ⟨h.size, fun i o hi _ => (h.block i (Array.getElem?_eq_some_iff.1 hi).1).trans hi⟩
theorem boxed_below {W W' : World} {B n : Nat} {t : TypeId} {v : Value} (h : Boxed W B t v) (hb : Below n W W') (hB : B < n) : Boxed W' B t v := (hb.block B hB).trans h

/-- What lies between two rounds. -/
def AllI (w : World) (b : List Int) (S : Value) (pre : List (BlkOf b)) (W : World) : Prop :=
  ((∀ x ∈ pre, headB b x.1 % 2 ≠ 1) ∧ (∃ v, Boxed W (w.heap.size + 1 + 1 + 1 + 1) 27 v ∧ W.ownsRow w.heap.size 23 1 v (16 * pre.length) ((doneL b pre).map (Value.int .i16)) ∧ True) ∧
    Boxed W w.heap.size 27 (.slice none 0 0) ∧ Boxed W (w.heap.size + 1) 3 (.int .i64 0) ∧ Boxed W (w.heap.size + 1 + 1) 4 (.bool false) ∧ Boxed W (w.heap.size + 1 + 1 + 1) 28 (.int .i64 0) ∧ Boxed W (w.heap.size + 1 + 1 + 1 + 1 + 1) 22 S) ∧ Below w.heap.size w W
/-- What lies behind a round that returns. -/
def AllX (w : World) (b : List Int) (c : Code) (pre : List (BlkOf b)) (W : World) : Prop :=
  ((c = .ret ∧ ∃ ini last, pre = ini ++ [last] ∧ (∀ x ∈ ini, headB b x.1 % 2 ≠ 1) ∧ headB b last.1 % 2 = 1 ∧
    (∃ v, Boxed W w.heap.size 27 v ∧ W.ownsRow w.heap.size 23 1 v (16 * pre.length) ((doneL b pre).map (Value.int .i16)) ∧ True) ∧
    Boxed W (w.heap.size + 1) 3 (.int .i64 (9 * (last.1 : Int) + 9)) ∧ Boxed W (w.heap.size + 1 + 1) 4 (.bool (decide (headB b last.1 / 2 % 2 = 1))) ∧ Boxed W (w.heap.size + 1 + 1 + 1) 28 (.int .i64 0))) ∧ Below w.heap.size w W

theorem boxed_kept {W W' : World} {row : Option Nat} {B : Nat} {t : TypeId} {v : Value} (h : Boxed W B t v) (hg : W.grownBy W' row) (hr : ∀ r, row = some r → ∃ o : Obj, W.heap[r]? = some o ∧ o.isCells = false) : Boxed W' B t v :=
  h.kept hg (fun e' => by obtain ⟨o, ho, hc⟩ := hr B e'.symm; rw [show W.heap[B]? = _ from h] at ho; cases ho; cases hc)
theorem allI_own (w : World) (b : List Int) (S : Value) (B : Nat) (hB : w.heap.size ≤ B) : OwnFrom B (AllI w b S) := by
  refine OwnFrom.and (Own.from ?_ _) (ownFrom_below (Nat.le_refl _) hB)
  intro pre X Y row hs hg hr
  obtain ⟨h1, h2, h3, h4, h5, h6, h7⟩ := hs
  exact ⟨h1, holdsRow_own w.heap.size (w.heap.size + 1 + 1 + 1 + 1) 27 23 1 (fun pre : List (BlkOf b) => 16 * pre.length) (fun pre => (doneL b pre).map (Value.int .i16)) (fun _ _ => True) pre X Y row h2 hg hr,
    boxed_kept h3 hg hr, boxed_kept h4 hg hr, boxed_kept h5 hg hr, boxed_kept h6 hg hr, boxed_kept h7 hg hr⟩
theorem allX_own (w : World) (b : List Int) (c : Code) (B : Nat) (hB : w.heap.size ≤ B) : OwnFrom B (AllX w b c) := by
  refine OwnFrom.and (Own.from ?_ _) (ownFrom_below (Nat.le_refl _) hB)
  intro pre X Y row hs hg hr
  obtain ⟨h0, ini, last, h1, h2, h3, h4, h5, h6, h7⟩ := hs
  exact ⟨h0, ini, last, h1, h2, h3, holdsRow_own w.heap.size w.heap.size 27 23 1 (fun pre : List (BlkOf b) => 16 * pre.length) (fun pre => (doneL b pre).map (Value.int .i16)) (fun _ _ => True) pre X Y row h4 hg hr,
    boxed_kept h5 hg hr, boxed_kept h6 hg hr, boxed_kept h7 hg hr⟩

set_option maxRecDepth 100000 in
set_option maxHeartbeats 4000000 in
theorem all_walk (v : Value) (b : List Int) (w : World) (hr : Row .u8 w v b) (hf : Fits .u8 b) (hl : b.length ≤ 1048576) :
    Calls Try.prog 21 #[v] w fun e w' => (∃ r n, AllIs b n ∧ e = .returned (.tuple #[r, .int .i64 (9 * (n : Int)), .bool (decide (headB b (n - 1) / 2 % 2 = 1)), .int .i64 0]) ∧ Row .i16 w' r (doneB b n) ∧ Below w.heap.size w w') ∨
      (NoEnd b ∧ e = .returned (.tuple #[.slice none 0 0, .int .i64 0, .bool false, .int .i64 140]) ∧ Below w.heap.size w w') := by
  obtain ⟨i0, hi, hz0, hz1, hz2⟩ := info_parts Try.infoI16
  have hi' := Lib.hid hi
  have hz0' := Lib.hid hz0
  have hz1' := Lib.hid hz1
  have hz2' := Lib.hid hz2
  clear hi hz0 hz1 hz2
  obtain ⟨a, cap, rfl⟩ := hr.shape
  have HR := Lib.hid hr
  have HF := Lib.hid hf
  clear hr hf
  refine (callsIn_wide (n := 5)).1 ?_
  refine callsIn_of_wp_marks Try.func21 rfl trivial ?_ rfl
  simp only [Try.ntmps21, List.size_toArray, List.length_cons, List.length_nil, Nat.reduceAdd, Nat.reduceSub, Array.replicate_succ, Array.replicate_zero, List.push_toArray, List.append_toArray, List.nil_append, List.cons_append]
  gi_wp2_with (refine ⟨trivial, ?_⟩; gi_at_call 35; refine (blocks_in Fence.wide _ trivial rfl _ _ _ _).mono ?_; rintro e w' ⟨rfl, rfl⟩)
  obtain ⟨W0, hW0⟩ : ∃ W0, ((((((w.alloc (Obj.cells #[Value.slice none 0 0] 27)).alloc (Obj.cells #[Value.int IntKind.i64 0] 3)).alloc (Obj.cells #[Value.bool false] 4)).alloc
            (Obj.cells #[Value.int IntKind.i64 0] 28)).alloc (Obj.cells #[Value.slice none 0 0] 27)).alloc (Obj.cells #[Value.slice a b.length cap] 22)) = W0 := ⟨_, rfl⟩
  have hsz : W0.heap.size = w.heap.size + 1 + 1 + 1 + 1 + 1 + 1 := by rw [← hW0]; simp
  have hI0 : Hid (AllI w b (.slice a b.length cap) [] W0) := by
    rw [← hW0]
    have t1 := Boxed.new w 27 (.slice none 0 0)
    have t2 := Boxed.new (w.alloc (Obj.cells #[Value.slice none 0 0] 27)) 3 (.int .i64 0)
    have t3 := Boxed.new ((w.alloc (Obj.cells #[Value.slice none 0 0] 27)).alloc (Obj.cells #[Value.int IntKind.i64 0] 3)) 4 (.bool false)
    have t4 := Boxed.new (((w.alloc (Obj.cells #[Value.slice none 0 0] 27)).alloc (Obj.cells #[Value.int IntKind.i64 0] 3)).alloc (Obj.cells #[Value.bool false] 4)) 28 (.int .i64 0)
    have t5 := Boxed.new ((((w.alloc (Obj.cells #[Value.slice none 0 0] 27)).alloc (Obj.cells #[Value.int IntKind.i64 0] 3)).alloc (Obj.cells #[Value.bool false] 4)).alloc (Obj.cells #[Value.int IntKind.i64 0] 28)) 27 (.slice none 0 0)
    have t6 := Boxed.new (((((w.alloc (Obj.cells #[Value.slice none 0 0] 27)).alloc (Obj.cells #[Value.int IntKind.i64 0] 3)).alloc (Obj.cells #[Value.bool false] 4)).alloc (Obj.cells #[Value.int IntKind.i64 0] 28)).alloc (Obj.cells #[Value.slice none 0 0] 27)) 22 (.slice a b.length cap)
    simp only [World.size_alloc] at t2 t3 t4 t5 t6
    refine ⟨⟨(fun x hx => by cases hx), ⟨_, t5.alloc _, World.ownsRow_nil _ _ _ _, trivial⟩, ((((t1.alloc _).alloc _).alloc _).alloc _).alloc _, (((t2.alloc _).alloc _).alloc _).alloc _, ((t3.alloc _).alloc _).alloc _, (t4.alloc _).alloc _, t6⟩, ?_⟩
    exact (((((((Below.refl _ w).alloc (Nat.le_refl _) _).alloc (by simp) _).alloc (by simp; omega) _).alloc (by simp; omega) _).alloc (by simp; omega) _).alloc (by simp; omega) _)
  obtain ⟨bk, o, ha⟩ : ∃ bk o, 9 ≤ b.length → a = some ⟨bk, o, none⟩ := by
    by_cases h : 0 < b.length
    · obtain ⟨bk, o, c, e, -, -, -⟩ := HR.out.cells h
      simp only [Value.slice.injEq] at e
      exact ⟨bk, o, fun _ => e.1⟩
    · exact ⟨0, 0, fun h2 => absurd h2 (by omega)⟩
  have hcap : b.length ≤ cap := by
    rcases HR.out with ⟨a2, c2, e, e2, _⟩ | ⟨b2, o2, c2, e, _, h1, _⟩
    · rw [e2]; exact Nat.zero_le _
    · simp only [Value.slice.injEq] at e; omega
  have hcm : cap ≤ maxLen := by
    rcases HR.out with ⟨a2, c2, e, e2, h1⟩ | ⟨b2, o2, c2, e, _, _, h1, _⟩
    · simp only [Value.slice.injEq] at e; omega
    · simp only [Value.slice.injEq] at e; omega
  rw [hW0]
  have HSZ := Lib.hid hsz
  clear hW0
  refine wpIn_rangeFunc_ownG (n := 5) rfl (by decide) (gf := 45) (lb := #[.pointer (some ⟨w.heap.size + 1 + 1 + 1 + 1 + 1, 0, none⟩)]) rfl trivial (enters_of Try.func45 (by kernel_rfl) rfl)
    (blocks_stops Fence.wide (5 - 1) trivial rfl (by decide) (w.heap.size + 1 + 1 + 1 + 1 + 1) bk o cap a b ha (by omega) hcap W0 (by omega) (hI0.out.1.2.2.2.2.2.2.cell)) keepBox_t (fun W l o o' _ h1 h2 _ => keepBox_b W l o o' h1 h2) (Below.refl _ _) (fun _ => rfl)
    (AllI w b (.slice a b.length cap)) (AllX w b) (allI_own w b _ _ (by omega)) (fun c => allX_own w b c _ (by omega)) hI0.out
    (fun x => { tmps := #[Value.slice a b.length cap, undef, Value.pointer (some { block := w.heap.size, off := 0 }),
                Value.pointer (some { block := w.heap.size + 1, off := 0 }),
                Value.pointer (some { block := w.heap.size + 1 + 1, off := 0 }),
                Value.pointer (some { block := w.heap.size + 1 + 1 + 1, off := 0 }),
                Value.pointer (some { block := w.heap.size + 1 + 1 + 1 + 1, off := 0 }), .int .i64 (9 * (x.1 : Int)), .slice (some ⟨bk, o + 9 * x.1, none⟩) 9 (cap - 9 * x.1), undef, undef,
                undef, undef, undef, Value.slice a b.length cap, .func (.func 45) #[] #[.pointer (some ⟨w.heap.size + 1 + 1 + 1 + 1 + 1, 0, none⟩)], .int .i64 (9 * (x.1 : Int)), .slice (some ⟨bk, o + 9 * x.1, none⟩) 9 (cap - 9 * x.1), undef, undef, undef, undef,
                undef, undef, undef, undef, undef, undef, undef, undef, undef, undef, undef, undef, undef, undef, undef,
                undef, undef, undef, undef, undef, undef, undef], defers := [] }) ?assign ?body ?done ?stop
  case assign =>
    intro l x W K hK
    unfold encB
    gi_wp2
    exact hK
  case body =>
    rintro l pre x W ⟨⟨hne, ⟨v, hv, hrow, -⟩, hb0, hb1, hb2, hb3, hb5⟩, hB⟩ hlt
    have HNE := Lib.hid hne
    have HRl : Hid (Row .i16 W v (doneL b pre)) := (Row.owned hrow).1
    have HB0 := Lib.hid hb0
    have HB1 := Lib.hid hb1
    have HB2 := Lib.hid hb2
    have HB3 := Lib.hid hb3
    have HB5 := Lib.hid hb5
    have HV := Lib.hid hv
    have HW := Lib.hid hrow
    have c4 := hv.cell
    have hx9 : 9 ≤ b.length := by have := x.2; omega
    obtain rfl := ha hx9
    obtain ⟨bk2, o2, cap2, e1, -, -, hcx⟩ := HR.out.cells (by omega)
    simp only [Value.slice.injEq, Option.some.injEq, Addr.mk.injEq, and_true, true_and] at e1
    obtain ⟨⟨rfl, rfl⟩, rfl⟩ := e1
    have HX9 : Hid (Row .u8 w (.slice (some ⟨bk, o + 9 * x.1, none⟩) 9 (cap - 9 * x.1)) (blkB b x.1)) :=
      Row.part hcx (9 * x.1) 9 (cap - 9 * x.1) (by omega) (by have := x.2; omega) (by omega) (by have := x.2; omega)
    have hc0 := hcx (9 * x.1) (by have := x.2; omega)
    rw [show b[9 * x.1]?.getD 0 = headB b x.1 from rfl] at hc0
    have hh := headB_fits b HF.out x.1 x.2
    obtain ⟨H, hH⟩ : ∃ H, headB b x.1 = H := ⟨_, rfl⟩
    rw [hH] at hc0 hh
    have HH := Lib.hid hH
    have HC0 := Lib.hid hc0
    have HB9 := Lib.hid (blkB_fits b HF.out x.1)
    have HL9 := Lib.hid (blkB_length b x.1 x.2)
    have hbh := behind_fits (doneL_fits b pre)
    have HS := Lib.hid (doneL_snoc b pre x)
    have HBH := Lib.hid (fun W2 (h : Row .i16 W2 v (doneL b pre)) => behind_any v (doneL b pre) W2 h)
    obtain ⟨P, hP⟩ : ∃ P, (behindN (doneL b pre)).1 = P := ⟨_, rfl⟩
    obtain ⟨Q, hQ⟩ : ∃ Q, (behindN (doneL b pre)).2 = Q := ⟨_, rfl⟩
    rw [hP, hQ] at hbh HS HBH
    have HBS := Lib.hid hB
    obtain ⟨la, lc, rfl⟩ := HRl.out.shape
    rw [doneL_length] at HRl HV HW c4 HBH
    have HPL : Hid (pre.length < b.length) := hlt
    obtain ⟨N, hN⟩ : ∃ N, 16 * pre.length = N := ⟨_, rfl⟩
    rw [hN] at HRl HV HW c4 HBH
    have HN := Lib.hid hN
    have hNb : N ≤ 16 * 1048576 := by omega
    clear hne hrow hb0 hb1 hb2 hb3 hb5 hv hH hc0 hcx hP hQ hlt hN hB
    gi_wp2_with fail
    refine ⟨trivial, ?_⟩
    gi_at_call 36
    refine (CallsIn.inRound l (callsIn_wide.2 (HBH.out _ HRl.out))).mono ?_
    rintro e w1 ⟨rfl, n1, rfl⟩
    have KO1 := Lib.hid (below_drewN (Below.refl W.heap.size W) n1)
    generalize W.drewN n1 = W1 at KO1 ⊢
    gi_wp2_with fail
    refine ⟨trivial, ?_⟩
    gi_at_call 13
    refine (CallsIn.inRound l (callsIn_wide.2 (decode9 _ _ P Q _ ((HX9.out.below HBS.out).below KO1.out) HB9.out HL9.out (by omega) (by omega) (by omega) (by omega)))).mono ?_
    rintro e w2 ⟨sa, scap, rfl, hr2, hb2⟩
    have KO2 := Lib.hid (below_step KO1.out KO1.out.size hb2)
    have HR2 := Lib.hid hr2
    clear hr2 hb2 c4
    have hv2 := boxed_below HV.out KO2.out HV.out.lt
    have c4 := hv2.cell
    obtain ⟨b2, o2, c2, e2, hadd⟩ := HR2.out.reads (by rw [samplesN_length]; omega)
    rw [samplesN_length] at e2
    simp only [Value.slice.injEq, true_and] at e2
    obtain ⟨rfl, rfl⟩ := e2
    have HADD := Lib.hid hadd
    have HV2 := Lib.hid hv2
    have HW2 := Lib.hid (ownsRow_below HW.out KO2.out)
    clear hadd hv2
    gi_wp2_with (gi_at_builtin; refine wpListIn_append_own _ rfl _ _ 27 rfl w.heap.size 23 i0 (.int .i16 0) 1 2 Try.underlying27 hi'.out hz0'.out hz1'.out hz2'.out rfl (by decide) _ _ _ rfl HW2.out ⟨b2, o2, none⟩ 16 scap ((samplesN (blkB b x.1) P Q 16).map (Value.int .i16)) rfl ?c0 HADD.out ?c2 ?c3 ?c4 ?c5 ?_)
    case c0 => rw [List.length_map, samplesN_length]
    case c2 => simp [Value.oneCell']
    case c3 => unfold maxLen; omega
    case c4 => omega
    case c5 => have := KO2.out.size; have := HBS.out.size; omega
    intro v' w3 hown' hgrow _
    obtain ⟨g', cap', rfl⟩ : ∃ g' cap', v' = .slice (some ⟨g', 0, none⟩) (N + 16) cap' := ownsRow_succ (k := N + 15) hown'
    have hown : w3.ownsRow w.heap.size 23 1 (.slice (some ⟨g', 0, none⟩) (N + 16) cap') (N + 16) ((doneL b (pre ++ [x])).map (Value.int .i16)) := by
      rw [HS.out, List.map_append]; exact hown'
    have hnr : ∀ j, some j = (Value.slice la N lc).ownBlock → w.heap.size ≤ j ∧ ∃ o : Obj, w2.heap[j]? = some o ∧ o.isCells = true := fun j e => by
      rcases HW2.out.2 with ⟨e2, _⟩ | ⟨g, c, cur, e2, h1, h2, _⟩
      · rw [e2] at e; simp [Value.ownBlock] at e
      · rw [e2] at e
        obtain rfl : j = g := by simpa [Value.ownBlock] using e
        exact ⟨h1, _, h2, rfl⟩
    have keep : ∀ {B : Nat} {t : TypeId} {u : Value}, t ≠ 23 → Boxed w2 B t u → Boxed w3 B t u := fun ht h => h.kept hgrow (h.not_row ht HW2.out)
    have hv3 := keep (by decide) HV2.out
    have k0 := keep (by decide) (boxed_below HB0.out KO2.out HB0.out.lt)
    have k1 := keep (by decide) (boxed_below HB1.out KO2.out HB1.out.lt)
    have k2 := keep (by decide) (boxed_below HB2.out KO2.out HB2.out.lt)
    have k3 := keep (by decide) (boxed_below HB3.out KO2.out HB3.out.lt)
    have k5 := keep (by decide) (boxed_below HB5.out KO2.out HB5.out.lt)
    have hk3 : KeepsOthers W w3 := (keeps_below KO2.out).trans (KeepsOthers.of_grownBy hgrow (fun j o e ho => by obtain ⟨_, o2, h1, h2⟩ := hnr j e.symm; rw [h1] at ho; cases ho; exact h2))
    have hb3 : Below w.heap.size w w3 := (below_step HBS.out HBS.out.size KO2.out).grown hgrow (by have := KO2.out.size; have := HBS.out.size; omega) (fun j e => (hnr j e.symm).1)
    have hrow4 : Hid ((w3.setCell ⟨w.heap.size + 1 + 1 + 1 + 1, 0, none⟩ (.slice (some ⟨g', 0, none⟩) (N + 16) cap')).ownsRow w.heap.size 23 1 (.slice (some ⟨g', 0, none⟩) (N + 16) cap') (N + 16) ((doneL b (pre ++ [x])).map (Value.int .i16))) := by
      exact hown.kept (grownBy_setCell' w3 _ _) (.inr (hv3.not_row (by decide) hown).symm)
    have hv4 := hv3.set (.slice (some ⟨g', 0, none⟩) (N + 16) cap')
    have k04 := k0.other (B' := w.heap.size + 1 + 1 + 1 + 1) (by omega) (.slice (some ⟨g', 0, none⟩) (N + 16) cap')
    have k14 := k1.other (B' := w.heap.size + 1 + 1 + 1 + 1) (by omega) (.slice (some ⟨g', 0, none⟩) (N + 16) cap')
    have k24 := k2.other (B' := w.heap.size + 1 + 1 + 1 + 1) (by omega) (.slice (some ⟨g', 0, none⟩) (N + 16) cap')
    have k34 := k3.other (B' := w.heap.size + 1 + 1 + 1 + 1) (by omega) (.slice (some ⟨g', 0, none⟩) (N + 16) cap')
    have k54 := k5.other (B' := w.heap.size + 1 + 1 + 1 + 1) (by omega) (.slice (some ⟨g', 0, none⟩) (N + 16) cap')
    have hk4 := hk3.trans (KeepsOthers.setCell w3 ⟨w.heap.size + 1 + 1 + 1 + 1, 0, none⟩ (.slice (some ⟨g', 0, none⟩) (N + 16) cap'))
    have hb4 : Below w.heap.size w (w3.setCell ⟨w.heap.size + 1 + 1 + 1 + 1, 0, none⟩ (.slice (some ⟨g', 0, none⟩) (N + 16) cap')) := hb3.setCell (p := ⟨w.heap.size + 1 + 1 + 1 + 1, 0, none⟩) (by simp; omega) (.slice (some ⟨g', 0, none⟩) (N + 16) cap')
    have hc04 : (w3.setCell ⟨w.heap.size + 1 + 1 + 1 + 1, 0, none⟩ (.slice (some ⟨g', 0, none⟩) (N + 16) cap')).cell? ⟨bk, o + 9 * x.1, none⟩ = some (.int .u8 H) := cell_stays HC0.out hb4
    have c3 := hv3.cell
    have f3 := hv3.frozen
    have HV4 := Lib.hid hv4
    have K0 := Lib.hid k04
    have K1 := Lib.hid k14
    have K2 := Lib.hid k24
    have K3 := Lib.hid k34
    have K5 := Lib.hid k54
    have HK4 := Lib.hid hk4
    have HBB := Lib.hid hb4
    have HC4 := Lib.hid hc04
    clear hown hown' hgrow hnr keep hv3 k0 k1 k2 k3 k5 hk3 hb3 hv4 k04 k14 k24 k34 k54 hk4 hb4 c4
    gi_wp2_with fail
    refine ⟨trivial, ?_⟩
    generalize (w3.setCell ⟨w.heap.size + 1 + 1 + 1 + 1, 0, none⟩ (.slice (some ⟨g', 0, none⟩) (N + 16) cap')) = W4 at hrow4 HV4 K0 K1 K2 K3 K5 HK4 HBB HC4 ⊢
    clear hc04 c3 f3
    gi_at_call 16
    by_cases hH2 : H % 2 = 1
    · have HRD := read_any H (by omega) (by omega) W4
      rw [decide_eq_true hH2] at HRD
      refine (CallsIn.inRound l (callsIn_wide.2 HRD)).mono ?_
      rintro e w5 ⟨rfl, hb5⟩
      have q0 := (boxed_below K0.out hb5 K0.out.lt).alloc (.cells #[.int .u8 (H / 16), .int .u8 (H / 4 % 4), .bool (decide (H / 2 % 2 = 1)), .bool true] 34)
      have q1 := (boxed_below K1.out hb5 K1.out.lt).alloc (.cells #[.int .u8 (H / 16), .int .u8 (H / 4 % 4), .bool (decide (H / 2 % 2 = 1)), .bool true] 34)
      have q2 := (boxed_below K2.out hb5 K2.out.lt).alloc (.cells #[.int .u8 (H / 16), .int .u8 (H / 4 % 4), .bool (decide (H / 2 % 2 = 1)), .bool true] 34)
      have q3 := (boxed_below K3.out hb5 K3.out.lt).alloc (.cells #[.int .u8 (H / 16), .int .u8 (H / 4 % 4), .bool (decide (H / 2 % 2 = 1)), .bool true] 34)
      have q4 := (boxed_below HV4.out hb5 HV4.out.lt).alloc (.cells #[.int .u8 (H / 16), .int .u8 (H / 4 % 4), .bool (decide (H / 2 % 2 = 1)), .bool true] 34)
      have hk6 := (HK4.out.trans (keeps_below hb5)).trans (KeepsOthers.alloc w5 (.cells #[.int .u8 (H / 16), .int .u8 (H / 4 % 4), .bool (decide (H / 2 % 2 = 1)), .bool true] 34))
      have hr6 := ownsRow_below hrow4.out (hb5.alloc hb5.size (.cells #[.int .u8 (H / 16), .int .u8 (H / 4 % 4), .bool (decide (H / 2 % 2 = 1)), .bool true] 34))
      have hb6 := below_step HBB.out HBB.out.size (hb5.alloc hb5.size (.cells #[.int .u8 (H / 16), .int .u8 (H / 4 % 4), .bool (decide (H / 2 % 2 = 1)), .bool true] 34))
      have hsz5 : w.heap.size + 1 + 1 + 1 + 1 < w5.heap.size := Nat.lt_of_lt_of_le HV4.out.lt hb5.size
      have hh2 : (w5.alloc (.cells #[.int .u8 (H / 16), .int .u8 (H / 4 % 4), .bool (decide (H / 2 % 2 = 1)), .bool true] 34)).cell? ⟨w5.heap.size, 2, none⟩ = some (.bool (decide (H / 2 % 2 = 1))) := by simp
      have n4 : IntKind.i64.wrap (9 * (x.1 : Int) + 9) = 9 * (x.1 : Int) + 9 := IntWalk.i64_in _ (by have := x.2; omega)
      gi_wp2_with fail
      generalize (w5.alloc (.cells #[.int .u8 (H / 16), .int .u8 (H / 4 % 4), .bool (decide (H / 2 % 2 = 1)), .bool true] 34)) = W6 at q0 q1 q2 q3 q4 hk6 hr6 hb6 hh2 ⊢
      obtain ⟨g, hg⟩ : ∃ g, w5.heap.size = g := ⟨_, rfl⟩
      rw [hg] at hh2 hsz5 ⊢
      have hmx : Try.prog.follows .mixedOrders = true := by kernel_rfl
      have c0 := q0.cell
      have c1 := q1.cell
      have c2 := q2.cell
      have c3 := q3.cell
      have c4 := q4.cell
      have f0 := q0.frozen
      have f1 := q1.frozen
      have f2 := q2.frozen
      have f3 := q3.frozen
      have Q0 := Lib.hid q0
      have Q1 := Lib.hid q1
      have Q2 := Lib.hid q2
      have Q3 := Lib.hid q3
      have Q4 := Lib.hid q4
      have HK6 := Lib.hid hk6
      have HR6 := Lib.hid hr6
      have HB6 := Lib.hid hb6
      clear q0 q1 q2 q3 q4 hk6 hr6 hb6 hb5 hg HRD
      have ne0 : ¬ w.heap.size = g := by omega
      have ne1 : ¬ w.heap.size + 1 = g := by omega
      have ne2 : ¬ w.heap.size + 1 + 1 = g := by omega
      have ne3 : ¬ w.heap.size + 1 + 1 + 1 = g := by omega
      have me0 : ¬ g = w.heap.size := by omega
      have me1 : ¬ g = w.heap.size + 1 := by omega
      have me2 : ¬ g = w.heap.size + 1 + 1 := by omega
      have me3 : ¬ g = w.heap.size + 1 + 1 + 1 := by omega
      have HFIN : Hid (KeepsFrom W0.heap.size W ((((W6.setCell ⟨w.heap.size, 0, none⟩ (.slice (some ⟨g', 0, none⟩) (N + 16) cap')).setCell ⟨w.heap.size + 1, 0, none⟩ (.int .i64 (9 * (x.1 : Int) + 9))).setCell ⟨w.heap.size + 1 + 1, 0, none⟩ (.bool (decide (H / 2 % 2 = 1)))).setCell ⟨w.heap.size + 1 + 1 + 1, 0, none⟩ (.int .i64 0)).drew ∧
          AllX w b .ret (pre ++ [x]) ((((W6.setCell ⟨w.heap.size, 0, none⟩ (.slice (some ⟨g', 0, none⟩) (N + 16) cap')).setCell ⟨w.heap.size + 1, 0, none⟩ (.int .i64 (9 * (x.1 : Int) + 9))).setCell ⟨w.heap.size + 1 + 1, 0, none⟩ (.bool (decide (H / 2 % 2 = 1)))).setCell ⟨w.heap.size + 1 + 1 + 1, 0, none⟩ (.int .i64 0)).drew) := by
        refine ⟨?_, ⟨rfl, pre, x, rfl, HNE.out, by rw [HH.out]; exact hH2, ⟨.slice (some ⟨g', 0, none⟩) (N + 16) cap', ?_, ?_, trivial⟩, ?_, ?_, ?_⟩, ?_⟩
        · exact (((((HK6.out.trans (KeepsOthers.setCell _ _ _)).trans (KeepsOthers.setCell _ _ _)).trans (KeepsOthers.setCell _ _ _)).trans (KeepsOthers.setCell _ _ _)).trans (KeepsOthers.drew _)).from _
        · exact (((Q0.out.set _).other (by omega) _).other (by omega) _).other (by omega) _
        · rw [List.length_append, List.length_singleton, show 16 * (pre.length + 1) = N + 16 from by have := HN.out; omega]
          have r1 := HR6.out.kept (grownBy_setCell' W6 w.heap.size (.slice (some ⟨g', 0, none⟩) (N + 16) cap')) (.inr (Q0.out.not_row (by decide) HR6.out).symm)
          have s1 := Q1.out.other (B' := w.heap.size) (by omega) (.slice (some ⟨g', 0, none⟩) (N + 16) cap')
          have s2 := Q2.out.other (B' := w.heap.size) (by omega) (.slice (some ⟨g', 0, none⟩) (N + 16) cap')
          have s3 := Q3.out.other (B' := w.heap.size) (by omega) (.slice (some ⟨g', 0, none⟩) (N + 16) cap')
          have r2 := r1.kept (grownBy_setCell' _ (w.heap.size + 1) (.int .i64 (9 * (x.1 : Int) + 9))) (.inr (s1.not_row (by decide) r1).symm)
          have s2 := s2.other (B' := w.heap.size + 1) (by omega) (.int .i64 (9 * (x.1 : Int) + 9))
          have s3 := s3.other (B' := w.heap.size + 1) (by omega) (.int .i64 (9 * (x.1 : Int) + 9))
          have r3 := r2.kept (grownBy_setCell' _ (w.heap.size + 1 + 1) (.bool (decide (H / 2 % 2 = 1)))) (.inr (s2.not_row (by decide) r2).symm)
          have s3 := s3.other (B' := w.heap.size + 1 + 1) (by omega) (.bool (decide (H / 2 % 2 = 1)))
          have r4 := r3.kept (grownBy_setCell' _ (w.heap.size + 1 + 1 + 1) (.int .i64 0)) (.inr (s3.not_row (by decide) r3).symm)
          exact r4
        · exact (((Q1.out.other (by omega) _).set _).other (by omega) _).other (by omega) _
        · rw [HH.out]
          exact (((Q2.out.other (by omega) _).other (by omega) _).set _).other (by omega) _
        · exact (((Q3.out.other (by omega) _).other (by omega) _).other (by omega) _).set _
        · exact ((((HB6.out.setCell (p := ⟨w.heap.size, 0, none⟩) (by simp) _).setCell (p := ⟨w.heap.size + 1, 0, none⟩) (by simp) _).setCell (p := ⟨w.heap.size + 1 + 1, 0, none⟩) (by simp; omega) _).setCell (p := ⟨w.heap.size + 1 + 1 + 1, 0, none⟩) (by simp; omega) _).drew
      clear Q0 Q1 Q2 Q3 Q4 HK6 HR6 HB6
      gi_region_with_o (fail)
      all_goals gi_wp2
      all_goals exact HFIN.out
    · have HRD := read_any H (by omega) (by omega) W4
      rw [decide_eq_false hH2] at HRD
      refine (CallsIn.inRound l (callsIn_wide.2 HRD)).mono ?_
      rintro e w5 ⟨rfl, hb5⟩
      have HB5' := Lib.hid hb5
      clear hb5
      gi_wp2_with fail
      have t6 := HB5'.out.alloc HB5'.out.size (.cells #[.int .u8 (H / 16), .int .u8 (H / 4 % 4), .bool (decide (H / 2 % 2 = 1)), .bool false] 34)
      refine ⟨?_, ?_, ⟨?_, ⟨_, (boxed_below HV4.out t6 HV4.out.lt), ?_, trivial⟩, boxed_below K0.out t6 K0.out.lt, boxed_below K1.out t6 K1.out.lt, boxed_below K2.out t6 K2.out.lt, boxed_below K3.out t6 K3.out.lt, boxed_below K5.out t6 K5.out.lt⟩, below_step HBB.out HBB.out.size t6⟩
      · exact (HK4.out.trans (keeps_below t6)).from _
      · exact fun _ => (boxed_below K5.out t6 K5.out.lt).cell
      · intro y hy
        rcases List.mem_append.1 hy with h | h
        · exact HNE.out y h
        · rw [List.mem_singleton.1 h, HH.out]; exact hH2
      · rw [List.length_append, List.length_singleton, show 16 * (pre.length + 1) = N + 16 from by have := HN.out; omega]
        exact ownsRow_below hrow4.out t6
  case done =>
    rintro D ys W hD ⟨k, hk, hlk, rfl⟩ ⟨⟨hne, ⟨v, hv, hrow, -⟩, hb0, hb1, hb2, hb3, hb5⟩, hB⟩ hK
    have HNO : Hid (NoEnd b) := fun j hj => hne ⟨j, hj⟩ ((firstB_mem b k hk ⟨j, hj⟩).2 (by show j < k; omega))
    have c0 := hb0.cell
    have c1 := hb1.cell
    have c2 := hb2.cell
    have c3 := hb3.cell
    have f0 := hb0.frozen
    have f1 := hb1.frozen
    have f2 := hb2.frozen
    have f3 := hb3.frozen
    have Q0 := Lib.hid hb0
    have Q1 := Lib.hid hb1
    have Q2 := Lib.hid hb2
    have Q3 := Lib.hid hb3
    have HBB := Lib.hid hB
    have HKK := Lib.hid hK
    clear hne hv hrow hb0 hb1 hb2 hb3 hb5 hB hK
    gi_wp2
    have r0 := (((Q0.out.set (.slice none 0 0)).other (B' := w.heap.size + 1) (by omega) (.int .i64 0)).other (B' := w.heap.size + 1 + 1) (by omega) (.bool false)).other (B' := w.heap.size + 1 + 1 + 1) (by omega) (.int .i64 140)
    have r1 := (((Q1.out.other (B' := w.heap.size) (by omega) (.slice none 0 0)).set (.int .i64 0)).other (B' := w.heap.size + 1 + 1) (by omega) (.bool false)).other (B' := w.heap.size + 1 + 1 + 1) (by omega) (.int .i64 140)
    have r2 := (((Q2.out.other (B' := w.heap.size) (by omega) (.slice none 0 0)).other (B' := w.heap.size + 1) (by omega) (.int .i64 0)).set (.bool false)).other (B' := w.heap.size + 1 + 1 + 1) (by omega) (.int .i64 140)
    have r3 := (((Q3.out.other (B' := w.heap.size) (by omega) (.slice none 0 0)).other (B' := w.heap.size + 1) (by omega) (.int .i64 0)).other (B' := w.heap.size + 1 + 1) (by omega) (.bool false)).set (.int .i64 140)
    have hb4 := ((((HBB.out.setCell (p := ⟨w.heap.size, 0, none⟩) (by simp) (.slice none 0 0)).setCell (p := ⟨w.heap.size + 1, 0, none⟩) (by simp) (.int .i64 0)).setCell (p := ⟨w.heap.size + 1 + 1, 0, none⟩) (by simp; omega) (.bool false)).setCell (p := ⟨w.heap.size + 1 + 1 + 1, 0, none⟩) (by simp; omega) (.int .i64 140))
    have hk4 := ((((KeepsOthers.setCell W ⟨w.heap.size, 0, none⟩ (.slice none 0 0)).trans (KeepsOthers.setCell _ ⟨w.heap.size + 1, 0, none⟩ (.int .i64 0))).trans (KeepsOthers.setCell _ ⟨w.heap.size + 1 + 1, 0, none⟩ (.bool false))).trans (KeepsOthers.setCell _ ⟨w.heap.size + 1 + 1 + 1, 0, none⟩ (.int .i64 140))).same D _ HKK.out rfl
    generalize ((((W.setCell ⟨w.heap.size, 0, none⟩ (.slice none 0 0)).setCell ⟨w.heap.size + 1, 0, none⟩ (.int .i64 0)).setCell ⟨w.heap.size + 1 + 1, 0, none⟩ (.bool false)).setCell ⟨w.heap.size + 1 + 1 + 1, 0, none⟩ (.int .i64 140)) = W4 at r0 r1 r2 r3 hb4 hk4 ⊢
    refine ⟨by simp, .inl ⟨_, _, rfl, run_takeDeferred hk4, ?_⟩⟩
    have hr : ∀ r, some D = some r → ∃ o : Obj, W4.heap[r]? = some o ∧ o.isCells = false := fun r e => by cases e; exact ⟨_, hk4, rfl⟩
    have d0 := (boxed_kept r0 (grownBy_putObj' W4 D (.deferred none)) hr).cell
    have d1 := (boxed_kept r1 (grownBy_putObj' W4 D (.deferred none)) hr).cell
    have d2 := (boxed_kept r2 (grownBy_putObj' W4 D (.deferred none)) hr).cell
    have d3 := (boxed_kept r3 (grownBy_putObj' W4 D (.deferred none)) hr).cell
    refine ⟨.tuple #[.slice none 0 0, .int .i64 0, .bool false, .int .i64 140], ?_, .inr ⟨HNO.out, rfl, ?_⟩⟩
    · simp [results, Try.f21, go_sem, d0, d1, d2, d3]
    · exact hb4.grown (grownBy_putObj' W4 D (.deferred none)) hb4.size (fun k e => by cases e; omega)
  case stop =>
    rintro D c pre W hD ⟨k, hk, rfl⟩ ⟨⟨rfl, ini, last, e1, h2, h3, ⟨v, hv, hrow, -⟩, hb1, hb2, hb3⟩, hB⟩ hK
    obtain ⟨k', rfl⟩ : ∃ k', k = k' + 1 := by
      cases k with
      | zero =>
        have := congrArg List.length e1
        simp [firstB] at this
      | succ k' => exact ⟨k', rfl⟩
    simp only [firstB] at e1
    obtain ⟨e5, e6⟩ := List.append_inj' e1 rfl
    have e7 : last.1 = k' := by simp only [List.cons.injEq, and_true] at e6; rw [← e6]
    have HIS : Hid (AllIs b (k' + 1)) := ⟨k', rfl, by omega, by rw [← e7]; exact h3, fun j hj => h2 ⟨j, by omega⟩ (by rw [← e5]; exact (firstB_mem b k' _ ⟨j, by omega⟩).2 hj)⟩
    rw [doneL_first, firstB_length] at hrow
    rw [e7] at hb1 hb2
    have HROW := Lib.hid hrow
    have HB4 := Lib.hid hB
    gi_wp2
    refine ⟨by simp, .inl ⟨_, _, rfl, run_takeDeferred hK, ?_⟩⟩
    have hr : ∀ r, some D = some r → ∃ o : Obj, W.heap[r]? = some o ∧ o.isCells = false := fun r e => by cases e; exact ⟨_, hK, rfl⟩
    have d0 := (boxed_kept hv (grownBy_putObj' W D (.deferred none)) hr).cell
    have d1 := (boxed_kept hb1 (grownBy_putObj' W D (.deferred none)) hr).cell
    have d2 := (boxed_kept hb2 (grownBy_putObj' W D (.deferred none)) hr).cell
    have d3 := (boxed_kept hb3 (grownBy_putObj' W D (.deferred none)) hr).cell
    have e9 : 9 * (k' : Int) + 9 = 9 * ((k' + 1 : Nat) : Int) := by omega
    rw [e9] at d1
    refine ⟨.tuple #[v, .int .i64 (9 * ((k' + 1 : Nat) : Int)), .bool (decide (headB b (k' + 1 - 1) / 2 % 2 = 1)), .int .i64 0], ?_, .inl ⟨v, k' + 1, HIS.out, rfl, ?_, ?_⟩⟩
    · simp [results, Try.f21, go_sem, d0, d1, d2, d3]
    · exact (Row.owned (ownsRow_putObj HROW.out _ hK rfl)).1
    · exact HB4.out.grown (grownBy_putObj' W D (.deferred none)) HB4.out.size (fun k e => by cases e; omega)
end Go.Proofs.Ytpmmnjmlnjdkjaa
