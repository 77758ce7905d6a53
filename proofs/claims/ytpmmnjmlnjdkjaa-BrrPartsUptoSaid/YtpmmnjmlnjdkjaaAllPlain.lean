/- Blocks up to their end, in plain words: no program in sight. -/
import Derived.Test.YtpmmnjmlnjdkjaaBehind
import Derived.Test.YtpmmnjmlnjdkjaaKnown
namespace Go.Proofs.Ytpmmnjmlnjdkjaa
open Go.RowKit

/-- The k-th block's bytes. -/
def blkB (b : List Int) (k : Nat) : List Int := (b.drop (9 * k)).take 9
theorem blkB_length (b : List Int) (k : Nat) (hk : 9 * k + 9 ≤ b.length) : (blkB b k).length = 9 := by
  unfold blkB; rw [List.length_take, List.length_drop]; omega
theorem blkB_at (b : List Int) (k i : Nat) (hi : i < 9) : (blkB b k)[i]?.getD 0 = b[9 * k + i]?.getD 0 := by
  unfold blkB
  rw [List.getElem?_take_of_lt hi, List.getElem?_drop]
theorem blkB_fits (b : List Int) (hf : Fits .u8 b) (k : Nat) : Fits .u8 (blkB b k) := fun x hx => hf x (List.mem_of_mem_drop (List.mem_of_mem_take hx))

/-- All samples of the first k blocks. -/
def doneB (b : List Int) : Nat → List Int
  | 0 => []
  | k + 1 => doneB b k ++ samplesN (blkB b k) (behindN (doneB b k)).1 (behindN (doneB b k)).2 16
theorem doneB_succ (b : List Int) (k : Nat) : doneB b (k + 1) = doneB b k ++ samplesN (blkB b k) (behindN (doneB b k)).1 (behindN (doneB b k)).2 16 := rfl
theorem doneB_length (b : List Int) (k : Nat) : (doneB b k).length = 16 * k := by
  induction k with
  | zero => rfl
  | succ k ih => rw [doneB_succ, List.length_append, ih, samplesN_length]; omega
theorem behind_fits {l : List Int} (h : Fits .i16 l) : -32768 ≤ (behindN l).1 ∧ (behindN l).1 ≤ 32767 ∧ -32768 ≤ (behindN l).2 ∧ (behindN l).2 ≤ 32767 := by
  have h1 := fits_at h (l.length - 1)
  have h2 := fits_at h (l.length - 2)
  unfold behindN; split
  · exact ⟨by decide, by decide, by decide, by decide⟩
  · exact ⟨h1.1, h1.2, h2.1, h2.2⟩
theorem doneB_fits (b : List Int) (k : Nat) : Fits .i16 (doneB b k) := by
  induction k with
  | zero => intro x hx; cases hx
  | succ k ih =>
    rw [doneB_succ]
    intro x hx
    rcases List.mem_append.1 hx with h | h
    · exact ih x h
    · have hb := behind_fits ih
      exact samples_fits (blkB b k) _ _ hb.1 hb.2.1 hb.2.2.1 hb.2.2.2 16 x h
theorem lastN_behind (l : List Int) (hl : l.length ≠ 1) : lastN l 1 = (behindN l).1 ∧ lastN l 2 = (behindN l).2 := by
  unfold lastN behindN
  by_cases h : l.length < 2
  · have h0 : l.length < 1 := by omega
    rw [if_pos h, if_pos h0, if_pos h]; exact ⟨rfl, rfl⟩
  · have h0 : ¬ l.length < 1 := by omega
    rw [if_neg h, if_neg h0, if_neg h]; exact ⟨rfl, rfl⟩
theorem doneB_last (b : List Int) (k : Nat) : lastN (doneB b k) 1 = (behindN (doneB b k)).1 ∧ lastN (doneB b k) 2 = (behindN (doneB b k)).2 :=
  lastN_behind _ (by rw [doneB_length]; omega)

/-- The k-th block's head; whether it is an end, and goes round. -/
def headB (b : List Int) (k : Nat) : Int := b[9 * k]?.getD 0
theorem headB_fits (b : List Int) (hf : Fits .u8 b) (k : Nat) (hk : 9 * k + 9 ≤ b.length) : 0 ≤ headB b k ∧ headB b k ≤ 255 := hf.u8 (by omega)
theorem headB_blk (b : List Int) (k : Nat) : (blkB b k)[0]?.getD 0 = headB b k := by rw [blkB_at b k 0 (by omega)]; rfl

/-- What blocks up to the end come to: the first k that is an end, or none. -/
def AllIs (b : List Int) (n : Nat) : Prop := ∃ k, n = k + 1 ∧ 9 * k + 9 ≤ b.length ∧ headB b k % 2 = 1 ∧ ∀ j, j < k → headB b j % 2 ≠ 1
def NoEnd (b : List Int) : Prop := ∀ j, 9 * j + 9 ≤ b.length → headB b j % 2 ≠ 1
theorem AllIs.one {b : List Int} {n m : Nat} (h : AllIs b n) (k : AllIs b m) : n = m := by
  obtain ⟨i, rfl, h1, h2, h3⟩ := h
  obtain ⟨j, rfl, k1, k2, k3⟩ := k
  rcases Nat.lt_trichotomy i j with h | h | h
  · exact absurd h2 (k3 i h)
  · rw [h]
  · exact absurd k2 (h3 j h)
theorem AllIs.not {b : List Int} {n : Nat} (h : AllIs b n) (k : NoEnd b) : False := by
  obtain ⟨i, rfl, h1, h2, h3⟩ := h
  exact k i h1 h2

/-- A part of a row is a row. -/
theorem Row.part {k : IntKind} {w : World} {b o : Nat} {xs : List Int} (hx : ∀ i, i < xs.length → w.cell? ⟨b, o + i, none⟩ = some (.int k (xs[i]?.getD 0))) (lo n c : Nat) (h0 : 0 < n) (hc : n ≤ c) (hm : c ≤ maxLen) (hl : lo + n ≤ xs.length) :
    Row k w (.slice (some ⟨b, o + lo, none⟩) n c) ((xs.drop lo).take n) := by
  have hlen : ((xs.drop lo).take n).length = n := by rw [List.length_take, List.length_drop]; omega
  refine .inr ⟨b, o + lo, c, by rw [hlen], by omega, by omega, hm, fun i hi => ?_⟩
  rw [hlen] at hi
  rw [List.getElem?_take_of_lt hi, List.getElem?_drop, Nat.add_assoc]
  exact hx _ (by omega)
theorem Row.reads {k : IntKind} {w : World} {v : Value} {xs : List Int} (h : Row k w v xs) (h0 : 0 < xs.length) :
    ∃ b o cap, v = .slice (some ⟨b, o, none⟩) xs.length cap ∧ ∀ (j : Nat) (u : Value), (xs.map (Value.int k))[j]? = some u → w.cell? ((⟨b, o, none⟩ : Addr).add j) = some u := by
  obtain ⟨b, o, cap, e, -, -, hx⟩ := h.cells h0
  refine ⟨b, o, cap, e, fun j u hu => ?_⟩
  rw [List.getElem?_map] at hu
  have hj : j < xs.length := by
    rcases Nat.lt_or_ge j xs.length with h | h
    · exact h
    · rw [List.getElem?_eq_none h] at hu; cases hu
  obtain ⟨x, hx2, rfl⟩ := Option.map_eq_some_iff.1 hu
  have hc := hx j hj
  rw [hx2] at hc
  have e2 : (⟨b, o, none⟩ : Addr).add j = ⟨b, o + j, none⟩ := by unfold Addr.add; split <;> simp_all
  rw [e2]
  exact hc
theorem ownsRow_below {A B : World} {base : Nat} {e : TypeId} {size : Nat} {v : Value} {n : Nat} {xs : List Value} (h : A.ownsRow base e size v n xs) (hb : Below A.heap.size A B) : B.ownsRow base e size v n xs :=
  h.kept (row := none) ⟨hb.os, hb.tape, hb.output, hb.size, fun i hi _ => hb.block i hi⟩ (by cases v.ownBlock <;> simp)
theorem ahead_int (v : Value) (l : List Int) (j : Int) (w : World) (hr : Row .i16 w v l) (h1 : 1 ≤ j) (h2 : j ≤ 2) :
    Calls Try.prog 34 #[v, .int .i64 j] w fun e w' => e = .returned (.int .i16 (lastN l j.toNat)) ∧ w = w' := by
  have h := ahead_any v l j.toNat w hr (by omega) (by omega)
  rwa [show ((j.toNat : Nat) : Int) = j from by omega] at h
end Go.Proofs.Ytpmmnjmlnjdkjaa
