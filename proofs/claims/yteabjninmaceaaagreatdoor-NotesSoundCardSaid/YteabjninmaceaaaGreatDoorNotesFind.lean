/- The code of a name and form: the program's Find, a loop over the iterator. (Numbers of chapter 10's seat D.) -/
import Derived.Test.YteabjninmaceaaaGreatDoorNotesIter
import Derived.Lib.Bytes
namespace Go.Proofs.YteabjninmaceaaaGreatDoor
open Go.RowKit Go.Shelf
set_option linter.unusedVariables false
set_option linter.unusedSimpArgs false
attribute [local go_sem] Oper.semAt_some

theorem strEq_true {a b : ByteArray} (h : a = b) : (a.toList == b.toList) = true := by rw [h]; exact beq_self_eq_true _
theorem strEq_false {a b : ByteArray} (h : ¬ a = b) : (a.toList == b.toList) = false := by
  rw [beq_eq_false_iff_ne, Lib.toList_data, Lib.toList_data]
  intro e
  exact h (ByteArray.ext (Array.toList_inj.1 e))
/-- The code k is of this name and form. -/
def IsN (name form : ByteArray) (k : Nat) : Prop := nameT k = name ∧ formT k = form
/-- What is found: the first code of a name and form. -/
def FoundAt (name form : ByteArray) (r : Int) (b : Bool) : Prop := (∃ k, k < 256 ∧ IsN name form k ∧ (∀ j, j < k → ¬ IsN name form j) ∧ r = (k : Int) ∧ b = true) ∨ ((∀ k, k < 256 → ¬ IsN name form k) ∧ r = 0 ∧ b = false)
theorem FoundAt.same {name form : ByteArray} {r r' : Int} {b b' : Bool} (h : FoundAt name form r b) (h' : FoundAt name form r' b') : r = r' ∧ b = b' := by
  rcases h with ⟨k, hk, hi, hl, rfl, rfl⟩ | ⟨hn, rfl, rfl⟩ <;> rcases h' with ⟨k', hk', hi', hl', rfl, rfl⟩ | ⟨hn', rfl, rfl⟩
  · have : k = k' := by
      rcases Nat.lt_trichotomy k k' with h | h | h
      · exact absurd hi (hl' k h)
      · exact h
      · exact absurd hi' (hl k' h)
    exact ⟨by rw [this], rfl⟩
  · exact absurd hi (hn' k hk)
  · exact absurd hi' (hn k' hk')
  · exact ⟨rfl, rfl⟩
theorem boxed_kept {W W' : World} {row : Option Nat} {B : Nat} {t : TypeId} {v : Value} (h : Boxed W B t v) (hg : W.grownBy W' row) (hr : ∀ r, row = some r → ∃ o : Obj, W.heap[r]? = some o ∧ o.isCells = false) : Boxed W' B t v :=
  h.kept hg (fun e' => by obtain ⟨o, ho, hc⟩ := hr B e'.symm; rw [show W.heap[B]? = _ from h] at ho; cases ho; cases hc)
theorem keeps_below {W W' : World} (h : Below W.heap.size W W') : KeepsOthers W W' := ⟨h.size, fun i o hi _ => (h.block i (Array.getElem?_eq_some_iff.1 hi).1).trans hi⟩
theorem boxed_below {W W' : World} {B n : Nat} {t : TypeId} {v : Value} (h : Boxed W B t v) (hb : Below n W W') (hB : B < n) : Boxed W' B t v := (hb.block B hB).trans h
/-- A note's box, whole. -/
def NoteBox (W : World) (B k : Nat) : Prop := W.heap[B]? = some (.cells #[.int .u8 k, .string (nameT k), .string (formT k), .int .i64 (1 + sumW (formT k).data.toList : Nat), .int .i64 (cycT k)] 33 (0, 0))
theorem NoteBox.kept {W W' : World} {row : Option Nat} {B k : Nat} (h : NoteBox W B k) (hg : W.grownBy W' row) (hr : ∀ r, row = some r → ∃ o : Obj, W.heap[r]? = some o ∧ o.isCells = false) : NoteBox W' B k :=
  (hg.block B (Array.getElem?_eq_some_iff.1 h).1 (fun e' => by obtain ⟨o, ho, hc⟩ := hr B e'.symm; rw [show W.heap[B]? = _ from h] at ho; cases ho; cases hc)).trans h
theorem NoteBox.cells {W : World} {B k : Nat} (h : NoteBox W B k) : W.cell? ⟨B, 0, none⟩ = some (.int .u8 k) ∧ W.cell? ⟨B, 1, none⟩ = some (.string (nameT k)) ∧ W.cell? ⟨B, 2, none⟩ = some (.string (formT k)) ∧ W.cell? ⟨B, 3, none⟩ = some (.int .i64 (1 + sumW (formT k).data.toList : Nat)) ∧ W.cell? ⟨B, 4, none⟩ = some (.int .i64 (cycT k)) := by
  refine ⟨?_, ?_, ?_, ?_, ?_⟩ <;> simp [World.cell?, show W.heap[B]? = _ from h]
theorem keepM_set {W : World} {B : Nat} (v : Value) (hB : 0 < B) : KeepM W (W.setCell ⟨B, 0, none⟩ v) := fun ⟨m, h⟩ => ⟨m, by
  rw [World.cell?_setCell_other _ _ _ _ (fun e => by injection e with e; omega)]; exact h⟩
theorem mem_firstC : ∀ (k : Nat) (h : k ≤ 256) (j : Fin 256), j.1 < k → j ∈ firstC k h
  | 0, _, _, hj => absurd hj (Nat.not_lt_zero _)
  | k + 1, h, j, hj => by
    unfold firstC
    rw [List.mem_append]
    rcases Nat.lt_or_ge j.1 k with h2 | h2
    · exact .inl (mem_firstC k _ j h2)
    · exact .inr (by rw [List.mem_singleton]; exact Fin.ext (by show j.1 = k; omega))
/-- What lies between two rounds of Find. -/
def FindI (w : World) (name form : ByteArray) (pre : List (Fin 256)) (W : World) : Prop :=
  ((∀ x, x ∈ pre → ¬ IsN name form x.1) ∧ Boxed W w.heap.size 9 (.string name) ∧ Boxed W (w.heap.size + 1) 9 (.string form) ∧ (∃ v, Boxed W (w.heap.size + 1 + 1) 5 v) ∧ (∃ v, Boxed W (w.heap.size + 1 + 1 + 1) 4 v)) ∧ Below w.heap.size w W
theorem findI_own (w : World) (name form : ByteArray) (B : Nat) (hB : w.heap.size ≤ B) : OwnFrom B (FindI w name form) := by
  refine OwnFrom.and (Own.from ?_ _) (ownFrom_below (Nat.le_refl _) hB)
  rintro pre X Y row ⟨h0, h1, h2, ⟨r, h3⟩, ⟨q, h4⟩⟩ hg hr
  exact ⟨h0, boxed_kept h1 hg hr, boxed_kept h2 hg hr, ⟨r, boxed_kept h3 hg hr⟩, ⟨q, boxed_kept h4 hg hr⟩⟩
/-- What lies behind the round that leaves. -/
def FindX (w : World) (name form : ByteArray) (d : Code) (pre : List (Fin 256)) (W : World) : Prop :=
  (d = .ret ∧ ∃ pre' x, pre = pre' ++ [x] ∧ (∀ y, y ∈ pre' → ¬ IsN name form y.1) ∧ IsN name form x.1 ∧ Boxed W (w.heap.size + 1 + 1) 5 (.int .u8 (x.1 : Nat)) ∧ Boxed W (w.heap.size + 1 + 1 + 1) 4 (.bool true)) ∧ Below w.heap.size w W
theorem findX_own (w : World) (name form : ByteArray) (d : Code) (B : Nat) (hB : w.heap.size ≤ B) : OwnFrom B (FindX w name form d) := by
  refine OwnFrom.and (Own.from ?_ _) (ownFrom_below (Nat.le_refl _) hB)
  rintro pre X Y row ⟨h0, p, x, h1, h2, h3, h4, h5⟩ hg hr
  exact ⟨h0, p, x, h1, h2, h3, boxed_kept h4 hg hr, boxed_kept h5 hg hr⟩
/-- A round's frame. -/
def FindA (w : World) (name form : ByteArray) (x : Fin 256) (a : Act) (W : World) : Prop :=
  ∃ B, a = { tmps := #[Value.string name, .string form, .pointer (some ⟨w.heap.size, 0, none⟩), .pointer (some ⟨w.heap.size + 1, 0, none⟩), .pointer (some ⟨w.heap.size + 1 + 1, 0, none⟩), .pointer (some ⟨w.heap.size + 1 + 1 + 1, 0, none⟩), .pointer (some ⟨B, 0, none⟩), .func (.func 51) #[] #[], .agg #[.int .u8 (x.1 : Nat), .string (nameT x.1), .string (formT x.1), .int .i64 (1 + sumW (formT x.1).data.toList : Nat), .int .i64 (cycT x.1)], undef, undef, undef, undef, undef, undef, undef, undef, undef, undef, undef, undef], defers := [] } ∧ NoteBox W B x.1
theorem findA_own (w : World) (name form : ByteArray) (x : Fin 256) (a : Act) (B : Nat) : OwnFrom B (fun (_ : Unit) W => FindA w name form x a W) := by
  intro _ X Y row hs hg hr
  obtain ⟨K, e, h⟩ := hs
  exact ⟨K, e, h.kept hg (fun r e => (hr r e).2)⟩
set_option maxRecDepth 100000 in
set_option maxHeartbeats 4000000 in
theorem find_walk (name form : ByteArray) (w : World) (hL : LaidM w) :
    Calls Tryz.prog 12 #[.string name, .string form] w fun e w' => ∃ r b, e = .returned (.tuple #[.int .u8 r, .bool b]) ∧ FoundAt name form r b ∧ Below w.heap.size w w' := by
  refine (callsIn_wide (n := 5)).1 ?_
  refine callsIn_of_wp_marks Tryz.func12 rfl trivial ?_ rfl
  simp only [Tryz.ntmps12, List.size_toArray, List.length_cons, List.length_nil, Nat.reduceAdd, Nat.reduceSub, Array.replicate_succ, Array.replicate_zero, List.push_toArray, List.append_toArray, List.nil_append, List.cons_append]
  gi_wp2_with (refine ⟨trivial, ?_⟩; gi_at_call 26; refine (all_in _ _).mono ?_; rintro e w' ⟨rfl, rfl⟩)
  obtain ⟨W0, hW0⟩ : ∃ W0, ((((w.alloc (.cells #[.string name] 9)).alloc (.cells #[.string form] 9)).alloc (.cells #[.int .u8 0] 5)).alloc (.cells #[.bool false] 4)) = W0 := ⟨_, rfl⟩
  have hsz : W0.heap.size = w.heap.size + 1 + 1 + 1 + 1 := by rw [← hW0]; simp
  have hw0 : 0 < w.heap.size := by obtain ⟨m, h⟩ := hL; exact World.block_lt_of_cell? w _ h
  have hLW : LaidM W0 := by
    rw [← hW0]
    exact hL.below (((((Below.refl _ w).alloc (Nat.le_refl _) _).alloc (by simp) _).alloc (by simp; omega) _).alloc (by simp; omega) _)
  have hI0 : Hid (FindI w name form [] W0) := by
    rw [← hW0]
    have t1 := Boxed.new w 9 (.string name)
    have t2 := Boxed.new (w.alloc (.cells #[.string name] 9)) 9 (.string form)
    have t3 := Boxed.new ((w.alloc (.cells #[.string name] 9)).alloc (.cells #[.string form] 9)) 5 (.int .u8 0)
    have t4 := Boxed.new (((w.alloc (.cells #[.string name] 9)).alloc (.cells #[.string form] 9)).alloc (.cells #[.int .u8 0] 5)) 4 (.bool false)
    simp only [World.size_alloc] at t2 t3 t4
    exact ⟨⟨fun x hx => absurd hx (by simp), ((t1.alloc _).alloc _).alloc _, (t2.alloc _).alloc _, ⟨_, t3.alloc _⟩, ⟨_, t4⟩⟩, ((((Below.refl _ w).alloc (Nat.le_refl _) _).alloc (by simp) _).alloc (by simp; omega) _).alloc (by simp; omega) _⟩
  rw [hW0]
  clear hW0
  refine wpIn_rangeFunc_ownH (n := 5) rfl (by decide) (gf := 51) (lb := #[]) rfl trivial (enters_of Tryz.func51 (by kernel_rfl) rfl)
    (all1_stops (5 - 1) (by decide) W0 hLW) keepM_t (fun W l o o' hB hl ho hw => keepM_b W l o o' hB hl ho hw) (Below.refl _ _) (fun _ => rfl)
    (FindI w name form) (FindX w name form) (findI_own w name form _ (by omega)) (fun c => findX_own w name form c _ (by omega)) hI0.out (FindA w name form) (fun x a => findA_own w name form x a _) ?assign ?body ?done ?stop
  case assign =>
    intro l pre x W K hI hK
    unfold encC noteV
    gi_wp2
    exact hK _ _ ((KeepsOthers.alloc W _).from _) (keepM_below ((Below.refl _ W).alloc (Nat.le_refl _) _)) ((findI_own w name form _ (Nat.le_refl _)).alloc _ hI) ⟨_, rfl, World.alloc_heap_new W _⟩
  case body =>
    rintro l pre x a' W hl hlr ⟨⟨hno, hb0, hb1, ⟨v3, hb3⟩, ⟨v4, hb4⟩⟩, hB⟩ ⟨B, rfl, hbox⟩ hlt
    obtain ⟨d0, d1, d2, -, -⟩ := hbox.cells
    have k0 := hb0.cell
    have k1 := hb1.cell
    have f3 := hb3.frozen
    have f4 := hb4.frozen
    have g3 := hb3.cell
    have g4 := hb4.cell
    have HGO := Lib.hid (show ¬ IsN name form x.1 → KeepsFrom W0.heap.size W W ∧ KeepM W W ∧ FindI w name form (pre ++ [x]) W from fun hx => ⟨KeepsFrom.refl _ _, fun h => h, ⟨fun y hy => by
      rcases List.mem_append.1 hy with h | h
      · exact hno y h
      · rw [List.mem_singleton.1 h]; exact hx, hb0, hb1, ⟨_, hb3⟩, ⟨_, hb4⟩⟩, hB⟩)
    have HEX := Lib.hid (show IsN name form x.1 → KeepsFrom W0.heap.size W ((W.setCell ⟨w.heap.size + 1 + 1, 0, none⟩ (.int .u8 (x.1 : Nat))).setCell ⟨w.heap.size + 1 + 1 + 1, 0, none⟩ (.bool true)) ∧ FindX w name form .ret (pre ++ [x]) ((W.setCell ⟨w.heap.size + 1 + 1, 0, none⟩ (.int .u8 (x.1 : Nat))).setCell ⟨w.heap.size + 1 + 1 + 1, 0, none⟩ (.bool true)) from fun hx =>
      ⟨((KeepsOthers.setCell _ _ _).trans (KeepsOthers.setCell _ _ _)).from _, ⟨rfl, pre, x, rfl, hno, hx, (hb3.set _).other (by omega) _, (hb4.other (by omega) _).set _⟩, (hB.setCell (p := ⟨w.heap.size + 1 + 1, 0, none⟩) (by simp; omega) _).setCell (p := ⟨w.heap.size + 1 + 1 + 1, 0, none⟩) (by simp; omega) _⟩)
    clear hno hb0 hb1 hb3 hb4 hB hbox
    by_cases hn : nameT x.1 = name
    · have e1 := strEq_true hn
      by_cases hf : formT x.1 = form
      · have e2 := strEq_true hf
        have HFIN := Lib.hid (HEX.out ⟨hn, hf⟩)
        clear hn hf HGO HEX
        gi_wp2_with fail
        exact HFIN.out
      · have e2 := strEq_false hf
        have HFIN := Lib.hid (HGO.out (fun h => hf h.2))
        clear hn hf HGO HEX
        gi_wp2_with fail
        exact HFIN.out
    · have e1 := strEq_false hn
      have HFIN := Lib.hid (HGO.out (fun h => hn h.1))
      clear hn HGO HEX
      gi_wp2_with fail
      exact HFIN.out
  case done =>
    rintro D ys W hD rfl ⟨⟨hno, hb0, hb1, ⟨v3, hb3⟩, ⟨v4, hb4⟩⟩, hB⟩ hK
    have HNO := Lib.hid (show FoundAt name form 0 false from .inr ⟨fun k hk => hno ⟨k, hk⟩ (mem_firstC 256 _ _ hk), rfl, rfl⟩)
    have f3 := hb3.frozen
    have f4 := hb4.frozen
    have g3 := hb3.cell
    have g4 := hb4.cell
    have HB := Lib.hid hB
    have HK := Lib.hid hK
    have HB3 := Lib.hid hb3
    have HB4 := Lib.hid hb4
    clear hno hb0 hb1 hb3 hb4 hB hK
    gi_wp2_with fail
    have hr3 := ((HB3.out.set (.int .u8 0)).other (B' := w.heap.size + 1 + 1 + 1) (by omega) (.bool false))
    have hr4 := ((HB4.out.other (B' := w.heap.size + 1 + 1) (by omega) (.int .u8 0)).set (.bool false))
    have hd := (KeepsOthers.setCell (W.setCell ⟨w.heap.size + 1 + 1, 0, none⟩ (.int .u8 0)) ⟨w.heap.size + 1 + 1 + 1, 0, none⟩ (.bool false)).same D _ ((KeepsOthers.setCell W ⟨w.heap.size + 1 + 1, 0, none⟩ (.int .u8 0)).same D _ HK.out rfl) rfl
    have hz := (HB.out.setCell (p := ⟨w.heap.size + 1 + 1, 0, none⟩) (by simp; omega) (.int .u8 0)).setCell (p := ⟨w.heap.size + 1 + 1 + 1, 0, none⟩) (by simp; omega) (.bool false)
    generalize ((W.setCell ⟨w.heap.size + 1 + 1, 0, none⟩ (.int .u8 0)).setCell ⟨w.heap.size + 1 + 1 + 1, 0, none⟩ (.bool false)) = X5 at hr3 hr4 hd hz ⊢
    have h5 := (boxed_kept hr3 (grownBy_putObj' X5 D (.deferred none)) (fun r e => by cases e; exact ⟨_, hd, rfl⟩)).cell
    have h6 := (boxed_kept hr4 (grownBy_putObj' X5 D (.deferred none)) (fun r e => by cases e; exact ⟨_, hd, rfl⟩)).cell
    refine ⟨by simp, .inl ⟨_, _, rfl, run_takeDeferred hd, ?_⟩⟩
    refine ⟨.tuple #[.int .u8 0, .bool false], ?_, ⟨0, false, rfl, HNO.out, hz.grown (grownBy_putObj' X5 D (.deferred none)) hz.size (fun k e => by cases e; omega)⟩⟩
    simp [results, Tryz.results12, go_sem, h5, h6]
  case stop =>
    rintro D c pre W hD ⟨k, hk, hpre⟩ ⟨⟨rfl, pre', x, hp, hno, hx, hb3, hb4⟩, hB⟩ hK
    have HNO := Lib.hid (show FoundAt name form ((x.1 : Nat) : Int) true from by
      rcases k with _ | k
      · unfold firstC at hpre; rw [hp] at hpre; simp at hpre
      · unfold firstC at hpre
        rw [hp] at hpre
        obtain ⟨h1, h2⟩ := List.append_inj' hpre rfl
        have h3 : x.1 = k := by have := List.head_eq_of_cons_eq h2; rw [this]
        refine .inl ⟨x.1, x.2, hx, fun j hj => ?_, rfl, rfl⟩
        exact hno ⟨j, by omega⟩ (by rw [h1]; exact mem_firstC k _ _ (by show j < k; omega)))
    have HB := Lib.hid hB
    have HK := Lib.hid hK
    have h5 := (boxed_kept hb3 (grownBy_putObj' W D (.deferred none)) (fun r e => by cases e; exact ⟨_, hK, rfl⟩)).cell
    have h6 := (boxed_kept hb4 (grownBy_putObj' W D (.deferred none)) (fun r e => by cases e; exact ⟨_, hK, rfl⟩)).cell
    clear hno hx hb3 hb4 hB hK hp hpre
    gi_wp2_with fail
    refine ⟨by simp, .inl ⟨_, _, rfl, run_takeDeferred HK.out, ?_⟩⟩
    refine ⟨.tuple #[.int .u8 (x.1 : Nat), .bool true], ?_, ⟨_, _, rfl, HNO.out, HB.out.grown (grownBy_putObj' W D (.deferred none)) HB.out.size (fun k e => by cases e; omega)⟩⟩
    simp [results, Tryz.results12, go_sem, h5, h6]
end Go.Proofs.YteabjninmaceaaaGreatDoor
