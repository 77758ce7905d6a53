/- Small laws for the walks of Pack. -/
import Derived.Test.YtpmmnjmlnjdkjaaPartsPlain
import Derived.Test.YtpmmnjmlnjdkjaaNearLaw
import Derived.Laws.CopyOwn
import Derived.Test.YtpmmnjmlnjdkjaaBlk
namespace Go.Proofs.Ytpmmnjmlnjdkjaa
open Go.RowKit
set_option linter.unusedVariables false

/-- The last block's samples ahead of the k-th block. -/
def lastB (s : List Int) : Nat → List Int
  | 0 => []
  | k + 1 => samN s k
theorem lastB_fits (s : List Int) (k : Nat) : Fits .i16 (lastB s k) := by
  cases k with
  | zero => intro x hx; cases hx
  | succ k => exact samN_fits s k
theorem behind_lastB (s : List Int) (k : Nat) : behindN (lastB s k) = stP s k := by
  cases k with
  | zero => rfl
  | succ k =>
    have h := behind_append [] (samN s k) (samN_length s k)
    rw [List.nil_append] at h
    exact h
theorem behind_doneN (s : List Int) (k : Nat) : behindN (doneN s k) = stP s k := by
  cases k with
  | zero => rfl
  | succ k => exact behind_append (doneN s k) (samN s k) (samN_length s k)
theorem last_doneN (s : List Int) (k : Nat) : lastN (doneN s k) 1 = (stP s k).1 ∧ lastN (doneN s k) 2 = (stP s k).2 := by
  have h := lastN_behind (doneN s k) (by rw [doneN_length]; omega)
  rw [behind_doneN] at h
  exact h
theorem doneN_fits (s : List Int) (k : Nat) : Fits .i16 (doneN s k) := by
  induction k with
  | zero => intro x hx; cases hx
  | succ k ih =>
    intro x hx
    rcases List.mem_append.1 hx with h | h
    · exact ih x h
    · exact samN_fits s k x h
/-- A block of memory read as a row. -/
theorem row_of_block {k : IntKind} {w : World} {g : Nat} {xs : List Int} {T : TypeId} (h : w.heap[g]? = some (.cells (xs.map (Value.int k)).toArray T (0, 0))) (hm : xs.length ≤ maxLen) :
    Row k w (.slice (some ⟨g, 0, none⟩) xs.length xs.length) xs := by
  by_cases h0 : xs.length = 0
  · rw [List.eq_nil_of_length_eq_zero h0]; exact .inl ⟨_, 0, rfl, rfl, Nat.zero_le _⟩
  · refine .inr ⟨g, 0, _, rfl, by omega, Nat.le_refl _, hm, fun i hi => ?_⟩
    rw [Nat.zero_add, cell_of_row w g i _ T (0, 0) h]
    simp [hi]
theorem block_of_full {w : World} {base g n : Nat} {e : TypeId} {xs : List Value} (h : w.ownsRow base e 1 (.slice (some ⟨g, 0, none⟩) n n) n xs) : w.heap[g]? = some (.cells xs.toArray e (0, 0)) := by
  rcases h.2 with ⟨h1, _⟩ | ⟨g2, cap, cur, h1, _, hg, hnc, hcm, hcs, htake⟩
  · cases h1
  · simp only [Value.slice.injEq, Option.some.injEq, Addr.mk.injEq, and_true, true_and] at h1
    obtain ⟨rfl, rfl⟩ := h1
    rw [hg]
    have : cur.toList = xs := by
      rw [← htake, List.take_of_length_le]
      rw [Array.length_toList]; omega
    rw [← this]
theorem splice_all (s : List Int) (m : Nat) (hm : s.length ≤ m) : splice (List.replicate m (Value.int .i16 0)) 0 (s.map (Value.int .i16)) = (s ++ List.replicate (m - s.length) 0).map (Value.int .i16) := by
  unfold splice
  simp
theorem or_end (x : Int) (h0 : 0 ≤ x) (h1 : x ≤ 255) (h2 : x % 4 = 0) : bits BinOp.or IntKind.u8 x 1 = x + 1 := by
  rw [u8_or x 1 h0 (by omega) (by decide) (by decide), show ((1 : Int).toNat) = 1 from rfl]
  rw [nat_join 2 _ _ (by omega) (by omega)]; omega
end Go.Proofs.Ytpmmnjmlnjdkjaa
