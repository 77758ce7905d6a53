/- The codes of a name: the program's Named, a loop over the iterator; the document's. -/
import Derived.Test.YtpeieilbjadcfaaGreatDoorCodesIter
import Derived.Test.YtpeieilbjadcfaaGreatDoorCodesPart
import Derived.Test.YtpeieilbjadcfaaGreatDoorCodesCopy
namespace Go.Proofs.YtpeieilbjadcfaaGreatDoor
open Go.RowKit Go.Shelf
set_option linter.unusedVariables false
set_option linter.unusedSimpArgs false
attribute [local go_sem] Oper.semAt_some

/-- The codes of a name among some. -/
def namedL (name : ByteArray) (pre : List (Fin 256)) : List Int := (pre.filter fun x => decide (nameB x.1 = name)).map fun x => ((x.1 : Nat) : Int)
theorem namedL_snoc (name : ByteArray) (pre : List (Fin 256)) (x : Fin 256) : namedL name (pre ++ [x]) = namedL name pre ++ (if nameB x.1 = name then [((x.1 : Nat) : Int)] else []) := by
  unfold namedL
  rw [List.filter_append, List.map_append]
  congr 1
  by_cases h : nameB x.1 = name
  · rw [if_pos h]; simp [h]
  · rw [if_neg h]; simp [h]
theorem namedL_le (name : ByteArray) (pre : List (Fin 256)) : (namedL name pre).length ≤ pre.length := by
  unfold namedL; rw [List.length_map]; exact List.length_filter_le _ _
theorem ownsRow_below {A B : World} {base : Nat} {e : TypeId} {size : Nat} {v : Value} {n : Nat} {xs : List Value} (h : A.ownsRow base e size v n xs) (hb : Below A.heap.size A B) : B.ownsRow base e size v n xs :=
  h.kept (row := none) (grown_of_below hb) (by cases v.ownBlock <;> simp)
theorem boxed_kept {W W' : World} {row : Option Nat} {B : Nat} {t : TypeId} {v : Value} (h : Boxed W B t v) (hg : W.grownBy W' row) (hr : ∀ r, row = some r → ∃ o : Obj, W.heap[r]? = some o ∧ o.isCells = false) : Boxed W' B t v :=
  h.kept hg (fun e' => by obtain ⟨o, ho, hc⟩ := hr B e'.symm; rw [show W.heap[B]? = _ from h] at ho; cases ho; cases hc)
/-- A code's box, whole. -/
def CodeBox (W : World) (B k : Nat) : Prop := W.heap[B]? = some (.cells #[.int .u8 k, .string (nameB k), .int .u8 (modeN k), .int .u8 (useN k), .int .u8 (widthN k)] 38 (0, 0))
theorem CodeBox.kept {W W' : World} {row : Option Nat} {B k : Nat} (h : CodeBox W B k) (hg : W.grownBy W' row) (hr : ∀ r, row = some r → ∃ o : Obj, W.heap[r]? = some o ∧ o.isCells = false) : CodeBox W' B k :=
  (hg.block B (Array.getElem?_eq_some_iff.1 h).1 (fun e' => by obtain ⟨o, ho, hc⟩ := hr B e'.symm; rw [show W.heap[B]? = _ from h] at ho; cases ho; cases hc)).trans h
theorem CodeBox.cells {W : World} {B k : Nat} (h : CodeBox W B k) : W.cell? ⟨B, 0, none⟩ = some (.int .u8 k) ∧ W.cell? ⟨B, 1, none⟩ = some (.string (nameB k)) := by
  constructor <;> simp [World.cell?, show W.heap[B]? = _ from h]
/-- What lies between two rounds of Named. -/
def NamedI (w : World) (name : ByteArray) (pre : List (Fin 256)) (W : World) : Prop :=
  ((∃ v, Boxed W (w.heap.size + 1) 23 v ∧ W.ownsRow w.heap.size 5 1 v (namedL name pre).length ((namedL name pre).map (Value.int .u8)) ∧ True) ∧ Boxed W w.heap.size 9 (.string name)) ∧ Below w.heap.size w W
theorem namedI_own (w : World) (name : ByteArray) (B : Nat) (hB : w.heap.size ≤ B) : OwnFrom B (NamedI w name) := by
  refine OwnFrom.and (Own.from ?_ _) (ownFrom_below (Nat.le_refl _) hB)
  intro pre X Y row hs hg hr
  exact ⟨holdsRow_own w.heap.size (w.heap.size + 1) 23 5 1 (fun pre : List (Fin 256) => (namedL name pre).length) (fun pre => (namedL name pre).map (Value.int .u8)) (fun _ _ => True) pre X Y row hs.1 hg hr, boxed_kept hs.2 hg hr⟩
/-- A round's frame: the code's box is laid. -/
def NamedA (w : World) (name : ByteArray) (x : Fin 256) (a : Act) (W : World) : Prop :=
  ∃ B, a = { tmps := #[Value.string name, .pointer (some ⟨w.heap.size, 0, none⟩), .slice none 0 0, .pointer (some ⟨w.heap.size + 1, 0, none⟩), .pointer (some ⟨B, 0, none⟩), .func (.func 52) #[] #[], .agg #[.int .u8 (x.1 : Nat), .string (nameB x.1), .int .u8 (modeN x.1), .int .u8 (useN x.1), .int .u8 (widthN x.1)], undef, undef, undef, undef, undef, undef, undef, undef, undef, undef], defers := [] } ∧ CodeBox W B x.1
theorem namedA_own (w : World) (name : ByteArray) (x : Fin 256) (a : Act) (B : Nat) : OwnFrom B (fun (_ : Unit) W => NamedA w name x a W) := by
  intro _ X Y row hs hg hr
  obtain ⟨K, e, h⟩ := hs
  exact ⟨K, e, h.kept hg (fun r e => (hr r e).2)⟩
set_option maxRecDepth 100000 in
set_option maxHeartbeats 4000000 in
theorem named_walk (name : ByteArray) (w : World) :
    Calls Tryz.prog 21 #[.string name] w fun e w' => ∃ v, e = .returned v ∧ w'.ownsRow w.heap.size 5 1 v (namedL name (firstC 256 (Nat.le_refl _))).length ((namedL name (firstC 256 (Nat.le_refl _))).map (Value.int .u8)) ∧ Below w.heap.size w w' := by
  obtain ⟨i0, hi, hz0, hz1, hz2⟩ := info_parts Tryz.infoU8
  have hi' := Lib.hid hi
  have hz0' := Lib.hid hz0
  have hz1' := Lib.hid hz1
  have hz2' := Lib.hid hz2
  clear hi hz0 hz1 hz2
  refine (callsIn_wide (n := 5)).1 ?_
  refine callsIn_of_wp_marks Tryz.func21 rfl trivial ?_ rfl
  simp only [Tryz.ntmps21, List.size_toArray, List.length_cons, List.length_nil, Nat.reduceAdd, Nat.reduceSub, Array.replicate_succ, Array.replicate_zero, List.push_toArray, List.append_toArray, List.nil_append, List.cons_append]
  gi_wp2_with (refine ⟨trivial, ?_⟩; gi_at_call 38; refine (all_in _ _).mono ?_; rintro e w' ⟨rfl, rfl⟩)
  obtain ⟨W0, hW0⟩ : ∃ W0, ((w.alloc (.cells #[.string name] 9)).alloc (.cells #[.slice none 0 0] 23)) = W0 := ⟨_, rfl⟩
  have hsz : W0.heap.size = w.heap.size + 1 + 1 := by rw [← hW0]; simp
  have hI0 : Hid (NamedI w name [] W0) := by
    rw [← hW0]
    have t1 := Boxed.new w 9 (.string name)
    have t2 := Boxed.new (w.alloc (.cells #[.string name] 9)) 23 (.slice none 0 0)
    simp only [World.size_alloc] at t2
    exact ⟨⟨⟨_, t2, World.ownsRow_nil _ _ _ _, trivial⟩, t1.alloc _⟩, ((Below.refl _ w).alloc (Nat.le_refl _) _).alloc (by simp) _⟩
  rw [hW0]
  clear hW0
  refine wpIn_rangeFunc_ownH (n := 5) rfl (by decide) (gf := 52) (lb := #[]) rfl trivial (enters_of Tryz.func52 (by kernel_rfl) rfl)
    (all1_stops (5 - 1) (by decide) W0) (fun _ _ => trivial) (fun _ _ _ _ _ _ _ _ => trivial) (Below.refl _ _) (fun _ => rfl)
    (NamedI w name) (fun _ _ _ => False) (namedI_own w name _ (by omega)) (fun _ _ _ _ _ h _ _ => h) hI0.out (NamedA w name) (fun x a => namedA_own w name x a _) ?assign ?body ?done ?stop
  case assign =>
    intro l pre x W K hI hK
    unfold encC codeV
    gi_wp2
    exact hK _ _ ((KeepsOthers.alloc W _).from _) trivial ((namedI_own w name _ (Nat.le_refl _)).alloc _ hI) ⟨_, rfl, World.alloc_heap_new W _⟩
  case body =>
    rintro l pre x a' W hl hlr ⟨⟨⟨v, hv, hrow, -⟩, hb0⟩, hB⟩ ⟨B, rfl, hbox⟩ hlt
    obtain ⟨N, hN⟩ : ∃ N, (namedL name pre).length = N := ⟨_, rfl⟩
    have hN256 : N < 256 := by have := namedL_le name pre; omega
    rw [hN] at hrow
    obtain ⟨la, lc, rfl⟩ : ∃ la lc, v = .slice la N lc := by
      rcases hrow.2 with ⟨rfl, h0⟩ | ⟨g, cap, cur, rfl, _⟩
      · exact ⟨none, 0, by rw [h0]⟩
      · exact ⟨_, _, rfl⟩
    have HSN := Lib.hid (namedL_snoc name pre x)
    have HV := Lib.hid hv
    have HR := Lib.hid hrow
    have HB0 := Lib.hid hb0
    have HBS := Lib.hid hB
    have HBX := Lib.hid hbox
    have c0 := hbox.cells.1
    have c1 := hbox.cells.2
    have c2 := hb0.cell
    have c3 := hv.cell
    have f3 := hv.frozen
    have HN := Lib.hid hN
    clear hv hrow hb0 hB hbox hN
    by_cases hn : nameB x.1 = name
    · have e1 := strEq_true hn
      have HNN := Lib.hid hn
      clear hn
      have HRA := Lib.hid (ownsRow_below HR.out ((Below.refl W.heap.size W).alloc (Nat.le_refl _) (.cells #[.int .u8 (x.1 : Nat)] 5)))
      gi_wp2_with (gi_at_builtin; refine wpListIn_append_own _ rfl _ _ 23 rfl w.heap.size 5 i0 (.int .u8 0) 1 1 Tryz.underlying23 hi'.out hz0'.out hz1'.out hz2'.out rfl (by decide) _ _ _ rfl HRA.out ⟨W.heap.size, 0, none⟩ 1 1 [.int .u8 (x.1 : Nat)] rfl rfl ?c1 ?c2 ?c3 ?c4 ?c5 ?_)
      case c1 =>
        intro j u hj
        rcases j with _ | j
        · have : u = .int .u8 (x.1 : Nat) := by simpa using hj.symm
          rw [this]; simp [go_sem]
        · simp at hj
      case c2 => simp [Value.oneCell']
      case c3 => unfold maxLen; omega
      case c4 => omega
      case c5 => have := HBS.out.size; simp; omega
      intro v' w3 hown' hgrow _
      obtain ⟨g', cap', rfl⟩ : ∃ g' cap', v' = .slice (some ⟨g', 0, none⟩) (N + 1) cap' := ownsRow_succ hown'
      have hnr : ∀ j, some j = (Value.slice la N lc).ownBlock → w.heap.size ≤ j ∧ ∃ o : Obj, (W.alloc (.cells #[.int .u8 (x.1 : Nat)] 5)).heap[j]? = some o ∧ o.isCells = true := fun j e => by
        rcases HRA.out.2 with ⟨e2, _⟩ | ⟨g, c, cur, e2, h1, h2, _⟩
        · rw [e2] at e; simp [Value.ownBlock] at e
        · rw [e2] at e
          obtain rfl : j = g := by simpa [Value.ownBlock] using e
          exact ⟨h1, _, h2, rfl⟩
      have hv3 := (HV.out.alloc (.cells #[.int .u8 (x.1 : Nat)] 5)).kept hgrow ((HV.out.alloc _).not_row (by decide) HRA.out)
      have hb03 := (HB0.out.alloc (.cells #[.int .u8 (x.1 : Nat)] 5)).kept hgrow ((HB0.out.alloc _).not_row (by decide) HRA.out)
      have hk3 : KeepsOthers W w3 := (KeepsOthers.alloc W (.cells #[.int .u8 (x.1 : Nat)] 5)).trans (KeepsOthers.of_grownBy hgrow (fun j o e ho => by obtain ⟨_, o2, h1, h2⟩ := hnr j e.symm; rw [h1] at ho; cases ho; exact h2))
      have hb3 : Below w.heap.size w w3 := (HBS.out.alloc HBS.out.size (.cells #[.int .u8 (x.1 : Nat)] 5)).grown hgrow (by have := HBS.out.size; simp; omega) (fun j e => (hnr j e.symm).1)
      have hrow4 : Hid ((w3.setCell ⟨w.heap.size + 1, 0, none⟩ (.slice (some ⟨g', 0, none⟩) (N + 1) cap')).ownsRow w.heap.size 5 1 (.slice (some ⟨g', 0, none⟩) (N + 1) cap') (N + 1) ((namedL name pre).map (Value.int .u8) ++ [.int .u8 (x.1 : Nat)])) :=
        hown'.kept (grownBy_setCell' w3 _ _) (.inr (hv3.not_row (by decide) hown').symm)
      have HFIN := Lib.hid (show KeepsFrom W0.heap.size W (w3.setCell ⟨w.heap.size + 1, 0, none⟩ (.slice (some ⟨g', 0, none⟩) (N + 1) cap')) ∧ True ∧ NamedI w name (pre ++ [x]) (w3.setCell ⟨w.heap.size + 1, 0, none⟩ (.slice (some ⟨g', 0, none⟩) (N + 1) cap')) by
        refine ⟨(hk3.trans (KeepsOthers.setCell _ _ _)).from _, trivial, ⟨⟨_, hv3.set _, ?_, trivial⟩, hb03.other (by omega) _⟩, hb3.setCell (p := ⟨w.heap.size + 1, 0, none⟩) (by simp) _⟩
        rw [HSN.out, if_pos HNN.out, List.map_append, List.length_append, HN.out]
        exact hrow4.out)
      have k3 := hv3.cell
      have g3 := hv3.frozen
      clear hown' hgrow hnr hv3 hb03 hk3 hb3 hrow4 c3 f3 c0 c1 c2
      gi_wp2
      exact HFIN.out
    · have e1 := strEq_false hn
      have HE := Lib.hid (show namedL name (pre ++ [x]) = namedL name pre by rw [HSN.out, if_neg hn, List.append_nil])
      clear hn
      gi_wp2_with fail
      exact ⟨KeepsFrom.refl _ _, trivial, ⟨⟨_, HV.out, by rw [HE.out, HN.out]; exact HR.out, trivial⟩, HB0.out⟩, HBS.out⟩
  case done =>
    rintro D ys W hD rfl ⟨⟨⟨v, hv, hrow, -⟩, hb0⟩, hB⟩ hK
    have c3 := hv.cell
    have HR := Lib.hid hrow
    have HBB := Lib.hid hB
    have HK := Lib.hid hK
    clear hv hrow hb0 hB hK
    gi_wp2
    refine ⟨by simp, .inl ⟨_, _, rfl, run_takeDeferred HK.out, ?_⟩⟩
    refine ⟨v, ?_, ⟨v, rfl, ownsRow_putObj HR.out _ HK.out rfl, HBB.out.grown (grownBy_putObj' W D (.deferred none)) HBB.out.size (fun k e => by cases e; omega)⟩⟩
    simp [results, Tryz.f19, go_sem]
  case stop =>
    rintro D c pre W hD _ h
    exact h.elim
end Go.Proofs.YtpeieilbjadcfaaGreatDoor
