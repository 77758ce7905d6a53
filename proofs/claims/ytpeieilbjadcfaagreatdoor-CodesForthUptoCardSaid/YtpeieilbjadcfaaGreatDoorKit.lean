/- Small words that all walks of this seat share: a row of integers in memory, how it stays, how it is got from what a call owns or from what came in. -/
import Derived.WalkKit
import Derived.Handy
import Derived.OpenShut
import Derived.WalkLawsBesides
import Derived.WalkSpells
import Derived.Lib.Hide
import Derived.Deep.QuietTactic
import Derived.BigQuiet
import Derived.Deep.DeepCutAuto
namespace Go.Proofs.YtpeieilbjadcfaaGreatDoor
open Go.RowKit

theorem ret_int {k : IntKind} {a b : Int} (h : a = b) : Ending.returned (.int k a) = .returned (.int k b) := by rw [h]
theorem ret_bool {a b : Bool} (h : a = b) : Ending.returned (.bool a) = .returned (.bool b) := by rw [h]
theorem eq_of_iff {p q : Bool} (h : (p = true) ↔ (q = true)) : p = q := by cases p <;> cases q <;> simp_all

theorem quiet_left {P : Program} {f : FuncId} {args : Array Value} {w : World} {n : Nat} {v : Value}
    (h : Calls P f args (w.drewN n) fun e w' => e = .returned v ∧ w.drewN n = w') : Calls P f args (w.drewN n) fun e w'' => e = .returned v ∧ ∃ m, w'' = w.drewN m :=
  h.mono fun _ _ ⟨he, hm⟩ => ⟨he, n, hm.symm⟩
theorem quiet_add {P : Program} {f : FuncId} {args : Array Value} {w : World} {a n : Nat} {v : Value}
    (h : Calls P f args (w.drewN (a + n)) fun e w' => e = .returned v ∧ ∃ m, w' = (w.drewN (a + n)).drewN m) :
    Calls P f args (w.drewN (a + n)) fun e w'' => e = .returned v ∧ ∃ m, w'' = w.drewN (a + m) :=
  h.mono fun _ _ ⟨he, m, hm⟩ => ⟨he, n + m, by rw [hm, World.drewN_drewN, Nat.add_assoc]⟩
theorem quiet_add_left {P : Program} {f : FuncId} {args : Array Value} {w : World} {a n : Nat} {v : Value}
    (h : Calls P f args (w.drewN (a + n)) fun e w' => e = .returned v ∧ w.drewN (a + n) = w') :
    Calls P f args (w.drewN (a + n)) fun e w'' => e = .returned v ∧ ∃ m, w'' = w.drewN (a + m) :=
  h.mono fun _ _ ⟨he, hm⟩ => ⟨he, n, hm.symm⟩
theorem below_drewN {B : Nat} {a w : World} (h : Below B a w) (n : Nat) : Below B a (w.drewN n) := ⟨h.os, h.tape, h.output, h.size, h.block⟩
theorem below_step {B : Nat} {a b c : World} (h : Below B a b) (hB : B ≤ b.heap.size) (k : Below b.heap.size b c) : Below B a c := h.trans (k.mono hB)

/-- What the frame hands over of a slice of integers that came in. -/
def IsRow (k : IntKind) (w : World) (a : Option Addr) (len cap : Nat) (zs : List Int) : Prop :=
  (a = none ∧ len = 0 ∧ cap = 0 ∧ zs = []) ∨
  ∃ x, a = some x ∧ len ≤ cap ∧ cap ≤ maxLen ∧ zs.length = cap ∧ (∀ i, i < zs.length → w.cell? (x.add i) = some (.int k (zs.getD i 0))) ∧ ∀ n ∈ zs, (Lit.int k n).wf = true

/-- The value is a slice that reads as these integers: it has none, or it leads to a row of cells that hold them. -/
def Row (k : IntKind) (w : World) (v : Value) (xs : List Int) : Prop :=
  (∃ a cap, v = .slice a 0 cap ∧ xs = [] ∧ cap ≤ maxLen) ∨
  (∃ b o cap, v = .slice (some ⟨b, o, none⟩) xs.length cap ∧ 0 < xs.length ∧ xs.length ≤ cap ∧ cap ≤ maxLen ∧
    ∀ i, i < xs.length → w.cell? ⟨b, o + i, none⟩ = some (.int k (xs[i]?.getD 0)))
/-- Integers that fit their kind. -/
def Fits (k : IntKind) (xs : List Int) : Prop := ∀ x ∈ xs, (Lit.int k x).wf = true

theorem Row.nil (k : IntKind) (w : World) : Row k w (.slice none 0 0) [] := .inl ⟨none, 0, rfl, rfl, Nat.zero_le _⟩
theorem Row.len {k : IntKind} {w : World} {v : Value} {xs : List Int} (h : Row k w v xs) : xs.length ≤ maxLen := by
  rcases h with ⟨_, _, _, rfl, _⟩ | ⟨_, _, _, _, _, h1, h2, _⟩
  · exact Nat.zero_le _
  · omega
theorem Row.below {k : IntKind} {w w' : World} {v : Value} {xs : List Int} (h : Row k w v xs) (hb : Below w.heap.size w w') : Row k w' v xs := by
  rcases h with h | ⟨b, o, cap, h1, h2, h3, h4, h5⟩
  · exact .inl h
  · refine .inr ⟨b, o, cap, h1, h2, h3, h4, fun i hi => ?_⟩
    have hc := h5 i hi
    rw [hb.cell (World.block_lt_of_cell? w _ hc)]; exact hc
theorem Row.below' {k : IntKind} {w w' : World} {B : Nat} {v : Value} {xs : List Int} (h : Row k w v xs) (hb : Below B w w') (hB : w.heap.size ≤ B) : Row k w' v xs := h.below (hb.mono hB)
theorem getD_mem {xs : List Int} {i : Nat} (hi : i < xs.length) : xs[i]?.getD 0 ∈ xs := by
  rw [List.getElem?_eq_getElem hi]; exact List.getElem_mem hi
theorem Fits.u8 {xs : List Int} (h : Fits .u8 xs) {i : Nat} (hi : i < xs.length) : 0 ≤ xs[i]?.getD 0 ∧ xs[i]?.getD 0 ≤ 255 := bounds_u8 (h _ (getD_mem hi))
theorem Fits.i16 {xs : List Int} (h : Fits .i16 xs) {i : Nat} (hi : i < xs.length) : -32768 ≤ xs[i]?.getD 0 ∧ xs[i]?.getD 0 ≤ 32767 := bounds_i16 (h _ (getD_mem hi))

/-- What came in, up to its length. -/
theorem Row.came {k : IntKind} {w : World} {a : Option Addr} {len cap : Nat} {zs : List Int} (h : IsRow k w a len cap zs) :
    Row k w (.slice a len cap) (zs.take len) ∧ Fits k (zs.take len) ∧ (zs.take len).length = len ∧ len ≤ maxLen := by
  rcases h with ⟨rfl, rfl, rfl, rfl⟩ | ⟨x, rfl, hl, hm, hz, hcell, hwz⟩
  · exact ⟨Row.nil _ _, (by intro x hx; cases hx), rfl, Nat.zero_le _⟩
  · have hlen : (zs.take len).length = len := by rw [List.length_take]; omega
    refine ⟨?_, fun x hx => hwz x (List.mem_of_mem_take hx), hlen, by omega⟩
    by_cases h0 : len = 0
    · subst h0; exact .inl ⟨some x, cap, rfl, by simp, hm⟩
    · obtain ⟨b, off, spot⟩ := x
      have hc0 := hcell 0 (by omega)
      have hspot : spot = none := by simpa [Addr.add] using World.cell?_spot hc0
      subst hspot
      refine .inr ⟨b, off, cap, by rw [hlen], by omega, by omega, hm, fun i hi => ?_⟩
      have hc := hcell i (by omega)
      have hadd : (⟨b, off, none⟩ : Addr).add i = ⟨b, off + i, none⟩ := by unfold Addr.add; split <;> simp_all
      rw [hadd] at hc
      rw [hc, List.getElem?_take_of_lt (by omega)]; simp

/-- What the call owns, read as a row. -/
theorem Row.owned {k : IntKind} {w : World} {base : Nat} {e : TypeId} {v : Value} {n : Nat} {xs : List Int} (h : w.ownsRow base e 1 v n (xs.map (Value.int k))) : Row k w v xs ∧ xs.length = n := by
  have hn : xs.length = n := by simpa using h.1
  refine ⟨?_, hn⟩
  rcases h.2 with ⟨rfl, rfl⟩ | ⟨g, cap, cur, rfl, _, hg, hnc, hcm, hcs, htake⟩
  · obtain rfl : xs = [] := List.eq_nil_of_length_eq_zero hn
    exact Row.nil _ _
  · subst hn
    by_cases h0 : xs.length = 0
    · obtain rfl : xs = [] := List.eq_nil_of_length_eq_zero h0
      exact .inl ⟨_, cap, rfl, rfl, hcm⟩
    · refine .inr ⟨g, 0, cap, rfl, by omega, hnc, hcm, fun i hi => ?_⟩
      rw [Nat.zero_add, cell_of_row w g i cur e (0, 0) hg]
      have := congrArg (fun l : List Value => l[i]?) htake
      simp only [List.getElem?_take, List.getElem?_map, Nat.mul_one] at this
      rw [if_pos (by omega)] at this
      rw [List.getElem?_eq_getElem hi] at this ⊢
      simpa using this

/-- Are two lists of integers one? -/
def eqB (xs ys : List Int) : Bool := decide (xs = ys)
theorem eqB_refl (xs : List Int) : eqB xs xs = true := by simp [eqB]
theorem eqB_of_length {xs ys : List Int} (h : xs.length ≠ ys.length) : eqB xs ys = false := by
  simp only [eqB, decide_eq_false_iff_not]; intro e; exact h (by rw [e])
theorem eqB_of_all {xs ys : List Int} (hl : xs.length = ys.length) (h : ∀ j, j < xs.length → xs[j]?.getD 0 = ys[j]?.getD 0) : eqB xs ys = true := by
  simp only [eqB, decide_eq_true_eq]
  refine List.ext_getElem hl fun i h1 h2 => ?_
  have := h i h1
  rwa [List.getElem?_eq_getElem h1, List.getElem?_eq_getElem h2] at this
theorem eqB_of_one {xs ys : List Int} {j : Nat} (h : xs[j]?.getD 0 ≠ ys[j]?.getD 0) : eqB xs ys = false := by
  simp only [eqB, decide_eq_false_iff_not]; intro e; exact h (by rw [e])
theorem all_snoc {p : Nat → Prop} {k : Nat} (h : ∀ j, j < k → p j) (hk : p k) : ∀ j, j < k + 1 → p j := by
  intro j hj
  rcases Nat.lt_succ_iff_lt_or_eq.1 hj with h1 | rfl
  · exact h j h1
  · exact hk
end Go.Proofs.YtpeieilbjadcfaaGreatDoor
