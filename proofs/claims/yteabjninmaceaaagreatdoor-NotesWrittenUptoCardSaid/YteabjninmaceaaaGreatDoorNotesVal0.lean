/- What the operands' bytes say: the program's values. -/
import Derived.Test.YteabjninmaceaaaGreatDoorProg
import Derived.Test.YteabjninmaceaaaGreatDoorNotesPlaces
import Derived.Test.YteabjninmaceaaaGreatDoorLib2
import Derived.Lib.IndexAny
import Derived.Lib.OthersKept
import Derived.RangeFuncBox
namespace Go.Proofs.YteabjninmaceaaaGreatDoor
open Go.RowKit
set_option linter.unusedVariables false
set_option linter.unusedSimpArgs false

/-- The order in which operands are read: their places in the form. -/
def ordL : Bool → Nat → List Int
  | _, 0 => []
  | true, n + 1 => ordL true n ++ [(n : Int)]
  | false, n + 1 => (n : Int) :: ordL false n
theorem ordL_length (r : Bool) (n : Nat) : (ordL r n).length = n := by
  induction n with
  | zero => cases r <;> rfl
  | succ n ih => cases r <;> simp [ordL, ih]
theorem contains_hasC (s : ByteArray) : decide (0 ≤ Lib.indexByte s.data.toList 114) = hasC s 114 0 := by
  rw [← Lib.contains_iff_indexByte]
  unfold hasC
  rw [List.drop_zero]
  generalize s.data.toList = l
  induction l with
  | nil => rfl
  | cons b l ih =>
    rw [List.contains_cons, List.any_cons, ih]
    congr 1
    have h : ∀ b : UInt8, (114 == b) = (b.toNat == 114) := by
      intro b
      rw [Bool.eq_iff_iff, beq_iff_eq, beq_iff_eq]
      constructor
      · intro h; rw [← h]; rfl
      · intro h; exact (UInt8.toNat_inj.1 (by rw [h]; rfl))
    exact h b
/-- Little-endian. -/
def leL : List Int → Nat
  | [] => 0
  | x :: r => x.toNat + 256 * leL r
/-- A form's letter. -/
def ltr (fm : ByteArray) (i : Nat) : UInt8 := fm.data.toList[i]?.getD 0
/-- The bytes of an operand, among those behind the code. -/
def opnd (fm : ByteArray) (ys : List Int) (i : Nat) : List Int := (ys.drop (plc fm i - 1)).take (widthC (ltr fm i))
/-- What an operand's bytes say. -/
def valI (fm : ByteArray) (ys : List Int) (i : Nat) : Nat := leL (opnd fm ys i)
/-- The place in the form that is read as the q-th. -/
def idx (r : Bool) (n q : Nat) : Nat := if r = true then q else n - 1 - q
/-- How many bytes have been read ahead of it. -/
def off (fm : ByteArray) (r : Bool) (q : Nat) : Nat := if r = true then sumW (fm.data.toList.take q) else sumW (fm.data.toList.drop (fm.size - q))
/-- Is a place read already? -/
def dn (r : Bool) (n q j : Nat) : Bool := if r = true then decide (j < q) else decide (n - q ≤ j)
theorem ordL_at (r : Bool) (n q : Nat) (h : q < n) : (ordL r n)[q]? = some ((idx r n q : Nat) : Int) := by
  cases r
  · induction n generalizing q with
    | zero => omega
    | succ n ih =>
      rcases q with _ | q
      · simp [ordL, idx]
      · rw [ordL, List.getElem?_cons_succ, ih q (by omega)]
        simp only [idx, Bool.false_eq_true, if_false]
        congr 2; omega
  · induction n generalizing q with
    | zero => omega
    | succ n ih =>
      rw [ordL]
      rcases Nat.lt_or_ge q n with h2 | h2
      · rw [List.getElem?_append_left (by rw [ordL_length]; exact h2), ih q h2]; rfl
      · obtain rfl : q = n := by omega
        rw [List.getElem?_append_right (by rw [ordL_length]; exact Nat.le_refl _), ordL_length, Nat.sub_self]; rfl
theorem idx_lt (r : Bool) (n q : Nat) (h : q < n) : idx r n q < n := by unfold idx; split <;> omega
theorem ltr_at (fm : ByteArray) (i : Nat) (h : i < fm.size) : ltr fm i = fm[i]'h := by
  unfold ltr
  rw [List.getElem?_eq_getElem (by simpa using h)]; rfl
theorem off_step (fm : ByteArray) (q : Nat) (h : q < fm.size) : off fm (hasC fm 114 0) (q + 1) = off fm (hasC fm 114 0) q + widthC (ltr fm (idx (hasC fm 114 0) fm.size q)) ∧ plc fm (idx (hasC fm 114 0) fm.size q) - 1 = off fm (hasC fm 114 0) q := by
  unfold off plc idx
  by_cases hr : hasC fm 114 0 = true
  · simp only [hr, if_true]
    refine ⟨?_, by omega⟩
    rw [ltr_at fm q h]; exact sumW_step fm q h
  · have hr := Bool.eq_false_iff.2 hr
    simp only [hr, Bool.false_eq_true, if_false]
    have e : fm.size - q = fm.size - 1 - q + 1 := by omega
    refine ⟨?_, by rw [e]; simp⟩
    rw [show fm.size - (q + 1) = fm.size - 1 - q by omega, ltr_at fm (fm.size - 1 - q) (by omega), e]
    exact sumW_drop fm _ (by omega)
theorem off_zero (fm : ByteArray) (r : Bool) : off fm r 0 = 0 := by
  unfold off
  split
  · rfl
  · rw [List.drop_of_length_le (by simp)]; rfl
theorem sumW_le_append (a b : List UInt8) : sumW a ≤ sumW (a ++ b) := by rw [sumW_append]; omega
theorem off_le (fm : ByteArray) (r : Bool) (q : Nat) : off fm r q ≤ sumW fm.data.toList := by
  unfold off
  split
  · conv => rhs; rw [← List.take_append_drop q fm.data.toList]
    exact sumW_le_append _ _
  · conv => rhs; rw [← List.take_append_drop (fm.size - q) fm.data.toList]
    rw [sumW_append]; omega
theorem dn_idx (r : Bool) (n q j : Nat) (h : q < n) (hj : j < n) : dn r n (q + 1) j = true ↔ j = idx r n q ∨ dn r n q j = true := by
  unfold dn idx
  split <;> simp only [decide_eq_true_eq] <;> omega
theorem dn_self (r : Bool) (n q : Nat) (h : q < n) : dn r n q (idx r n q) = false := by
  unfold dn idx
  split <;> simp only [decide_eq_false_iff_not] <;> omega
theorem leL_take (l : List Int) (k : Nat) (h : k < l.length) (hk : k ≤ 1) (hf : ∀ x ∈ l, 0 ≤ x ∧ x ≤ 255) : leL (l.take (k + 1)) = leL (l.take k) + (l[k]?.getD 0).toNat * 256 ^ k ∧ leL (l.take k) < 256 ^ k := by
  rcases l with _ | ⟨a, l⟩
  · simp at h
  · have ha := hf a List.mem_cons_self
    obtain rfl | rfl : k = 0 ∨ k = 1 := by omega
    · simp [leL]
    · rcases l with _ | ⟨b, l⟩
      · simp at h
      · simp [leL]; omega
theorem or_bytes (a y : Nat) (k : Nat) (hk : k ≤ 1) (ha : a < 256 ^ k) (hy : y < 256) : bits .or .i64 (a : Int) ((y : Int) * 256 ^ k) = ((a + y * 256 ^ k : Nat) : Int) := by
  have h2 : a ||| y * 256 ^ k = a + y * 256 ^ k := by
    have e : (256 : Nat) ^ k = 2 ^ (8 * k) := by rw [Nat.pow_mul]
    rw [e] at ha ⊢
    have := Nat.two_pow_add_eq_or_of_lt ha y
    rw [Nat.or_comm, Nat.mul_comm, ← this, Nat.add_comm]
  have h1 : a < 2 ^ 63 ∧ y * 256 ^ k < 2 ^ 63 := by
    obtain rfl | rfl : k = 0 ∨ k = 1 := by omega
    · simp at ha ⊢; omega
    · simp at ha ⊢; omega
  have h := (bits_nat .i64 63 (by decide) (fun n h₀ h₁ => IntWalk.i64_in _ (by omega)) a (y * 256 ^ k) h1.1 h1.2).2
  rw [h2] at h
  rw [← h]
  congr 1
theorem Ints.congr {w : World} {g n : Nat} {p : Nat → Prop} {f f' : Nat → Int} (h : Ints w g n p f) (hf : ∀ j, j < n → f j = f' j) : Ints w g n p f' :=
  ⟨h.1, h.2.1, fun j hj hp => by rw [← hf j hj]; exact h.2.2 j hj hp⟩
theorem Ints.upd {w : World} {g n : Nat} {f f' : Nat → Int} (h : Ints w g n (fun _ => True) f) (i : Nat) (hi : i < n) (x : Int) (hx : x = f' i) (hf : ∀ j, j < n → j ≠ i → f j = f' j) : Ints (w.setCell ⟨g, i, none⟩ (.int .i64 x)) g n (fun _ => True) f' := by
  have h2 : Ints w g n (fun j => j ≠ i) f' := ⟨h.1, h.2.1, fun j hj hp => by rw [← hf j hj hp]; exact h.2.2 j hj trivial⟩
  exact h2.set (q := fun _ => True) i hi x hx (fun j _ => Classical.em (j = i))
theorem row_drop {W : World} {a : Option Addr} {l c : Nat} {xs : List Int} (h : Row .u8 W (.slice a l c) xs) (n : Nat) (hn : n ≤ xs.length) : Row .u8 W (.slice (if c = n then a else a.map (·.add (n * 1))) (l - n) (c - n)) (xs.drop n) := by
  rcases h with ⟨a', c', e, rfl, hc⟩ | ⟨b, o, c', e, h0, h1, h2, h3⟩
  · injection e with e1 e2 e3
    subst e2
    obtain rfl : n = 0 := by simpa using hn
    exact .inl ⟨_, c - 0, by simp only [Nat.sub_zero]; rfl, by simp, by omega⟩
  · injection e with e1 e2 e3
    subst e1 e2 e3
    rcases Nat.lt_or_ge n xs.length with hlt | hge
    · refine .inr ⟨b, o + n, c - n, ?_, by rw [List.length_drop]; omega, by rw [List.length_drop]; omega, by omega, fun i hi => ?_⟩
      · rw [if_neg (by omega), List.length_drop]; simp [Addr.add]
      · rw [List.length_drop] at hi
        have := h3 (n + i) (by omega)
        rw [Nat.add_assoc, this, List.getElem?_drop]
    · exact .inl ⟨_, _, by rw [show xs.length - n = 0 by omega], List.drop_of_length_le hge, by omega⟩
theorem made_own (w : World) (n : Nat) (h : n ≤ 2) : (w.alloc (.cells (madeCells #[.int .i64 0] n) 3)).ownsRow w.heap.size 3 1 (.slice (some ⟨w.heap.size, 0, none⟩) 0 n) 0 [] := by
  refine ⟨rfl, .inr ⟨_, n, _, rfl, Nat.le_refl _, World.alloc_heap_new _ _, Nat.zero_le _, by unfold maxLen; omega, by rw [size_madeCells, Nat.mul_one], by simp⟩⟩
theorem grownBy_iterAt (w : World) (k : Nat) (s : ByteArray) (pos : Nat) : w.grownBy (w.iterAt k s pos) (some k) := grownBy_putObj' w k (.stringIter s pos)
theorem ownsRow_iter {w : World} {base : Nat} {e : TypeId} {v : Value} {n : Nat} {xs : List Value} (h : w.ownsRow base e 1 v n xs) {k : Nat} {s s' : ByteArray} {p p' : Nat} (hk : w.heap[k]? = some (.stringIter s p)) : (w.iterAt k s' p').ownsRow base e 1 v n xs :=
  ownsRow_putObj h (.stringIter s' p') hk rfl
theorem grows_below {W W' : World} (hb : Below W.heap.size W W') : W.grownBy W' none := ⟨hb.os, hb.tape, hb.output, hb.size, fun k hk _ => hb.block k hk⟩
theorem heap_iterAt {w : World} {k : Nat} {o : Obj} (hk : w.heap[k]? = some o) (s : ByteArray) (p : Nat) : (w.iterAt k s p).heap[k]? = some (.stringIter s p) := World.putObj_heap_same (Array.getElem?_eq_some_iff.1 hk).1
end Go.Proofs.YteabjninmaceaaaGreatDoor
