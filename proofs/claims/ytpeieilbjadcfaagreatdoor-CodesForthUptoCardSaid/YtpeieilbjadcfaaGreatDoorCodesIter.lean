/- The iterator over all codes. -/
import Derived.RangeFuncNested
import Derived.RangeFuncBound
import Derived.RangeFuncCalls
import Derived.RangeFuncLeaves
import Derived.RangeFuncBox
import Derived.Shelf.Abstract
import Derived.Shelf.RegionOpen
import Derived.WalkKit
import Derived.OwnWalkIn
import Derived.TacticsInMore
import Derived.LoopNIn
import Derived.LoopIn
import Derived.Test.YtpeieilbjadcfaaGreatDoorProg
import Derived.Test.YtpeieilbjadcfaaGreatDoorCodesOf
namespace Go.Proofs.YtpeieilbjadcfaaGreatDoor
open Go.RowKit Go.Shelf
set_option linter.unusedVariables false
set_option linter.unusedSimpArgs false

/-- The first k codes. -/
def firstC : (k : Nat) → k ≤ 256 → List (Fin 256)
  | 0, _ => []
  | k + 1, h => firstC k (by omega) ++ [⟨k, by omega⟩]
theorem firstC_length (k : Nat) (h : k ≤ 256) : (firstC k h).length = k := by
  induction k with
  | zero => rfl
  | succ k ih => simp only [firstC, List.length_append, ih]; rfl
def encC (x : Fin 256) : Array Value := #[codeV x]
theorem grown_of_below {W W' : World} (hb : Below W.heap.size W W') : W.grownBy W' none := ⟨hb.os, hb.tape, hb.output, hb.size, fun k hk _ => hb.block k hk⟩

set_option maxRecDepth 100000 in
set_option maxHeartbeats 2000000 in
theorem all1_in (n : Nat) (hn : 1 ≤ n) (l : Nat) (J Jx : List (Fin 256) → World → Prop) (W : World) (hJ : AbidesFrom W.heap.size J)
    (hY : ∀ pre x W1, J pre W1 → pre.length < 256 → YieldAt Fence.wide (n - 1) Tryz.prog l (encC x) W1 fun e W' =>
      (e = .returned (.bool true) ∧ J (pre ++ [x]) W' ∧ True) ∨ (e = .returned (.bool false) ∧ Jx (pre ++ [x]) W'))
    (h0 : J [] W) :
    CallsIn Fence.wide n Tryz.prog 52 #[.func (.yield l) #[] #[]] W fun e W' => (∃ v, e = .returned v) ∧
      ((∃ ys, ys = firstC 256 (Nat.le_refl _) ∧ J ys W') ∨ (∃ pre, (∃ k h, pre = firstC k h) ∧ Jx pre W')) := by
  have HY := Lib.hid hY
  have HJ := Lib.hid hJ
  clear hY hJ
  refine callsIn_of_wp Tryz.func52 rfl trivial ?_ rfl
  simp only [Tryz.ntmps52, List.size_toArray, List.length_cons, List.length_nil, Nat.reduceAdd, Nat.reduceSub, Array.replicate_succ, Array.replicate_zero, List.push_toArray, List.append_toArray, List.nil_append, List.cons_append]
  gi_wp2
  gi_loopw [3] (fun i wr => ∃ (k : Nat) (h : k ≤ 256), i = .int .i64 (k : Int) ∧ J (firstC k h) wr)
    (fun i _ => 256 - (intOf i).toNat)
  case atStart => exact ⟨0, Nat.zero_le _, rfl, h0⟩
  case round =>
    obtain ⟨k, hk, rfl, hJs⟩ := hrel
    by_cases hlt : k < 256
    · have i1 : (k : Int) < 256 := by omega
      have i2 : IntKind.u8.wrap (k : Int) = (k : Int) := wrap8 _ (by omega) (by omega)
      have HOF := Lib.hid (fun W => of_walk k hlt W)
      gi_wp2_with fail
      refine ⟨trivial, ?_⟩
      gi_at_call 22
      refine (callsIn_wide.2 (HOF.out _)).mono ?_
      rintro e w1 ⟨rfl, hb1⟩
      have hJ2 : J (firstC k hk) w1 := HJ.out _ _ _ none hJs (grown_of_below hb1) (fun r e => by cases e)
      obtain ⟨fn, tmps, assign, body, hy, hR⟩ := HY.out _ ⟨k, hlt⟩ w1 hJ2 (by rw [firstC_length]; exact hlt)
      unfold encC at hy
      dsimp only at hy
      clear HY HJ hJs hb1 HOF
      gi_wp2
      refine hR.mono ?_
      rintro e W3 (⟨rfl, hJ3, _⟩ | ⟨rfl, hJx3⟩)
      · gi_wp2
        go_roundw
        case rel => exact ⟨k + 1, by omega, by go_num, hJ3⟩
        case measure => simp [intOf]; omega
      · gi_wp2
        refine bodyPost_ret (results_none rfl _ _ _) rfl ?_
        exact ⟨⟨_, rfl⟩, .inr ⟨_, ⟨k + 1, by omega, rfl⟩, hJx3⟩⟩
    · have i1 : ¬ (k : Int) < 256 := by omega
      have hk2 : k = 256 := by omega
      subst hk2
      gi_wp2
      go_end0
      exact ⟨⟨_, rfl⟩, .inl hJs⟩
theorem all1_stops (n : Nat) (hn : 1 ≤ n) (w : World) :
    SeqStopsK Fence.wide n Tryz.prog 52 #[] encC (fun _ _ => True) (fun ys => ys = firstC 256 (Nat.le_refl _)) (fun pre => ∃ k h, pre = firstC k h) 256 w := fun l J Jx W hW hJ _ hY h0 =>
  all1_in n hn l J Jx W hJ hY h0
set_option maxHeartbeats 1000000 in
theorem all_in (n : Nat) (w : World) :
    CallsIn Fence.wide n Tryz.prog 38 #[] w fun e w' => e = .returned (.func (.func 52) #[] #[]) ∧ w' = w := by
  refine callsIn_of_wp Tryz.func38 rfl trivial ?_ rfl
  simp only [Tryz.ntmps38, List.size_toArray, List.length_cons, List.length_nil, Nat.reduceAdd, Nat.reduceSub, Array.replicate_succ, Array.replicate_zero, List.push_toArray, List.append_toArray, List.nil_append, List.cons_append]
  gi_wp2
  go_ret
  exact ⟨rfl, rfl⟩
end Go.Proofs.YtpeieilbjadcfaaGreatDoor
