/- The walk of the iterator over whole blocks. -/
import Derived.RangeFuncNested
import Derived.RangeFuncBound
import Derived.RangeFuncCalls
import Derived.RangeFuncLeaves
import Derived.RangeFuncBox
import Derived.Shelf.Abstract
import Derived.Shelf.RegionOpen
import Derived.WalkKit
import Derived.OwnWalkIn
import Derived.TacticsInMore
import Derived.LoopNIn
import Derived.LoopIn
import Derived.Test.YtpmmnjmlnjdkjaaAllPlain
namespace Go.Proofs.Ytpmmnjmlnjdkjaa
open Go.RowKit Go.Shelf
set_option linter.unusedVariables false

/-- The number of a whole block. -/
abbrev BlkOf (b : List Int) := { k : Nat // 9 * k + 9 ≤ b.length }
/-- The first k blocks' numbers. -/
def firstB (b : List Int) : (k : Nat) → 9 * k ≤ b.length → List (BlkOf b)
  | 0, _ => []
  | k + 1, h => firstB b k (by omega) ++ [⟨k, by omega⟩]
theorem firstB_length (b : List Int) (k : Nat) (h : 9 * k ≤ b.length) : (firstB b k h).length = k := by
  induction k with
  | zero => rfl
  | succ k ih => simp only [firstB, List.length_append, ih]; rfl
theorem firstB_mem (b : List Int) (k : Nat) (h : 9 * k ≤ b.length) (x : BlkOf b) : x ∈ firstB b k h ↔ x.1 < k := by
  induction k with
  | zero => simp [firstB]
  | succ k ih =>
    simp only [firstB, List.mem_append, ih, List.mem_singleton]
    constructor
    · rintro (h1 | h1)
      · omega
      · rw [h1]; exact Nat.lt_succ_self k
    · intro h1
      rcases Nat.lt_succ_iff_lt_or_eq.1 h1 with h2 | h2
      · exact .inl h2
      · exact .inr (Subtype.ext h2)

/-- A block as a round is handed it: where it begins, and itself. -/
def encB (b : List Int) (bk o cap : Nat) (x : BlkOf b) : Array Value := #[.int .i64 (9 * (x.1 : Int)), .slice (some ⟨bk, o + 9 * x.1, none⟩) 9 (cap - 9 * x.1)]

/-- What a round keeps: the box that holds the bytes. -/
def KeepBox (Bs : Nat) (S : Value) (A B : World) : Prop := A.cell? ⟨Bs, 0, none⟩ = some S → B.cell? ⟨Bs, 0, none⟩ = some S
theorem keepBox_t {Bs : Nat} {S : Value} {A B C : World} (h : KeepBox Bs S A B) (k : KeepBox Bs S B C) : KeepBox Bs S A C := fun x => k (h x)
theorem keepBox_b {Bs : Nat} {S : Value} (W : World) (l : Nat) (o o' : Obj) (hl : W.heap[l]? = some o) (ho : o.isCells = false) : KeepBox Bs S W (W.putObj l o') :=
  fun h => cell_kept h (grownBy_putObj' W l o') (fun r e => by cases e; exact ⟨o, hl, ho⟩)

set_option maxRecDepth 100000 in
set_option maxHeartbeats 2000000 in
theorem blocks1_in (F : Fence) (n : Nat) (h45 : F.fn 45) (hro : F.round = none) (hn : 1 ≤ n) (l Bs bk o cap : Nat) (a : Option Addr) (b : List Int) (ha : 9 ≤ b.length → a = some ⟨bk, o, none⟩) (hreach : b.length ≤ 140737488351232) (hcap : b.length ≤ cap) (J Jx : List (BlkOf b) → World → Prop)
    (hY : ∀ pre x W, J pre W → pre.length < b.length → YieldAt F (n - 1) Try.prog l (encB b bk o cap x) W fun e W' =>
      (e = .returned (.bool true) ∧ J (pre ++ [x]) W' ∧ KeepBox Bs (.slice a b.length cap) W W') ∨ (e = .returned (.bool false) ∧ Jx (pre ++ [x]) W'))
    (W : World) (hBs : W.cell? ⟨Bs, 0, none⟩ = some (.slice a b.length cap)) (h0 : J [] W) :
    CallsIn F n Try.prog 45 #[.func (.yield l) #[] #[], .pointer (some ⟨Bs, 0, none⟩)] W fun e W' => (∃ v, e = .returned v) ∧
      ((∃ ys, (∃ k h, b.length < 9 * k + 9 ∧ ys = firstB b k h) ∧ J ys W') ∨ (∃ pre, (∃ k h, pre = firstB b k h) ∧ Jx pre W')) := by
  obtain ⟨L, hL⟩ : ∃ L, b.length = L := ⟨_, rfl⟩
  rw [hL] at hreach hcap hBs hY ha
  have HA := Lib.hid ha
  have HL := Lib.hid hL
  have HY := Lib.hid hY
  clear hL hY ha
  refine callsIn_of_wp Try.func45 rfl h45 ?_ hro
  simp only [Try.ntmps45, List.size_toArray, List.length_cons, List.length_nil, Nat.reduceAdd, Nat.reduceSub, Array.replicate_succ, Array.replicate_zero, List.push_toArray, List.append_toArray, List.nil_append, List.cons_append]
  gi_wp2
  gi_loopw [3] (fun i wr => ∃ (k : Nat) (h : 9 * k ≤ b.length), i = .int .i64 (9 * (k : Int)) ∧ J (firstB b k h) wr ∧ wr.cell? ⟨Bs, 0, none⟩ = some (.slice a L cap))
    (fun i _ => L - (intOf i).toNat)
  case atStart => exact ⟨0, Nat.zero_le _, rfl, h0, hBs⟩
  case round =>
    obtain ⟨k, hk, rfl, hJs, hcx⟩ := hrel
    have hk' : 9 * k ≤ L := by have := HL.out; omega
    by_cases hlt : 9 * k + 9 ≤ L
    · obtain rfl := HA.out (by omega)
      obtain ⟨fn, tmps, assign, body, hy, hR⟩ := HY.out _ ⟨k, by rw [HL.out]; exact hlt⟩ wr hJs (by rw [firstB_length]; omega)
      unfold encB at hy
      dsimp only at hy
      have n1 : (9 * (k : Int)).toNat = 9 * k := by omega
      have n2 : (9 * (k : Int) + 9).toNat = 9 * k + 9 := by omega
      have n3 : ¬ cap = 9 * k := by omega
      have n4 : IntKind.i64.wrap (9 * (k : Int) + 9) = 9 * (k : Int) + 9 := IntWalk.i64_in _ (by omega)
      have i3 : 9 * (k : Int) + 9 ≤ (cap : Int) := by omega
      gi_wp2
      refine hR.mono ?_
      rintro e W3 (⟨rfl, hJ3, hk3⟩ | ⟨rfl, hJx3⟩)
      · gi_wp2
        go_roundw
        case rel => exact ⟨k + 1, by rw [HL.out]; omega, by go_num, hJ3, hk3 hcx⟩
        case measure => simp [intOf]; omega
      · gi_wp2
        refine bodyPost_ret (results_none rfl _ _ _) rfl ?_
        exact ⟨⟨_, rfl⟩, .inr ⟨_, ⟨k + 1, by rw [HL.out]; omega, rfl⟩, hJx3⟩⟩
    · gi_wp2
      go_end0
      exact ⟨⟨_, rfl⟩, .inl ⟨_, ⟨k, hk, by rw [HL.out]; omega, rfl⟩, hJs⟩⟩

set_option maxHeartbeats 1000000 in
theorem blocks_in (F : Fence) (n : Nat) (h35 : F.fn 35) (hro : F.round = none) (a : Option Addr) (len cap : Nat) (w : World) :
    CallsIn F n Try.prog 35 #[.slice a len cap] w fun e w' => e = .returned (.func (.func 45) #[] #[.pointer (some ⟨w.heap.size, 0, none⟩)]) ∧ w' = w.alloc (.cells #[.slice a len cap] 22) := by
  refine callsIn_of_wp Try.func35 rfl h35 ?_ hro
  simp only [Try.ntmps35, List.size_toArray, List.length_cons, List.length_nil, Nat.reduceAdd, Nat.reduceSub, Array.replicate_succ, Array.replicate_zero, List.push_toArray, List.append_toArray, List.nil_append, List.cons_append]
  gi_wp2
  go_ret
  exact ⟨rfl, rfl⟩

theorem blocks_stops (F : Fence) (n : Nat) (h45 : F.fn 45) (hro : F.round = none) (hn : 1 ≤ n) (Bs bk o cap : Nat) (a : Option Addr) (b : List Int) (ha : 9 ≤ b.length → a = some ⟨bk, o, none⟩) (hreach : b.length ≤ 140737488351232) (hcap : b.length ≤ cap) (w : World) (hBn : Bs < w.heap.size)
    (hc : w.cell? ⟨Bs, 0, none⟩ = some (.slice a b.length cap)) :
    SeqStopsK F n Try.prog 45 #[.pointer (some ⟨Bs, 0, none⟩)] (encB b bk o cap) (KeepBox Bs (.slice a b.length cap)) (fun ys => ∃ k h, b.length < 9 * k + 9 ∧ ys = firstB b k h)
      (fun pre => ∃ k h, pre = firstB b k h) b.length w := fun l J Jx W hW _ _ hY h0 =>
  blocks1_in F n h45 hro hn l Bs bk o cap a b ha hreach hcap J Jx hY W ((hW.cell (p := ⟨Bs, 0, none⟩) hBn).trans hc) h0
end Go.Proofs.Ytpmmnjmlnjdkjaa
