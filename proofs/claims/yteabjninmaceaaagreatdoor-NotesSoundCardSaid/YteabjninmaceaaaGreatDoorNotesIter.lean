/- The iterator over all notes. (Numbers of chapter 10's seat D.) -/
import Derived.RangeFuncNested
import Derived.RangeFuncBound
import Derived.RangeFuncCalls
import Derived.RangeFuncLeaves
import Derived.RangeFuncBox
import Derived.Shelf.Abstract
import Derived.Shelf.RegionOpen
import Derived.WalkKit
import Derived.OwnWalkIn
import Derived.TacticsInMore
import Derived.LoopNIn
import Derived.LoopIn
import Derived.Test.YteabjninmaceaaaGreatDoorProg
import Derived.Test.YteabjninmaceaaaGreatDoorNotesOf
namespace Go.Proofs.YteabjninmaceaaaGreatDoor
open Go.RowKit Go.Shelf
set_option linter.unusedVariables false
set_option linter.unusedSimpArgs false

/-- The first k codes. -/
def firstC : (k : Nat) → k ≤ 256 → List (Fin 256)
  | 0, _ => []
  | k + 1, h => firstC k (by omega) ++ [⟨k, by omega⟩]
theorem firstC_length (k : Nat) (h : k ≤ 256) : (firstC k h).length = k := by
  induction k with
  | zero => rfl
  | succ k ih => simp only [firstC, List.length_append, ih]; rfl
def encC (x : Fin 256) : Array Value := #[noteV x]
theorem grown_of_below {W W' : World} (hb : Below W.heap.size W W') : W.grownBy W' none := ⟨hb.os, hb.tape, hb.output, hb.size, fun k hk _ => hb.block k hk⟩
/-- The kept relation: what the reading of a row needs. -/
def KeepM (A B : World) : Prop := LaidM A → LaidM B
theorem keepM_t {A B C : World} (h : KeepM A B) (k : KeepM B C) : KeepM A C := fun x => k (h x)
theorem keepM_b {b : Nat} (W : World) (l : Nat) (o o' : Obj) (hB : b ≤ l) (hl : W.heap[l]? = some o) (ho : o.isCells = false) (hw : o.isWalk = false) : KeepM W (W.putObj l o') :=
  fun ⟨m, h⟩ => ⟨m, cell_kept h (grownBy_putObj' W l o') (fun r e => by cases e; exact ⟨o, hl, ho⟩)⟩
theorem keepM_below {W W' : World} (hb : Below W.heap.size W W') : KeepM W W' := fun h => h.below hb

set_option maxRecDepth 100000 in
set_option maxHeartbeats 2000000 in
theorem all1_in (n : Nat) (hn : 1 ≤ n) (l : Nat) (J Jx : List (Fin 256) → World → Prop) (W : World) (hL : LaidM W) (hJ : AbidesFrom W.heap.size J)
    (hY : ∀ pre x W1, J pre W1 → pre.length < 256 → YieldAt Fence.wide (n - 1) Tryz.prog l (encC x) W1 fun e W' =>
      (e = .returned (.bool true) ∧ J (pre ++ [x]) W' ∧ KeepM W1 W') ∨ (e = .returned (.bool false) ∧ Jx (pre ++ [x]) W'))
    (h0 : J [] W) :
    CallsIn Fence.wide n Tryz.prog 51 #[.func (.yield l) #[] #[]] W fun e W' => (∃ v, e = .returned v) ∧
      ((∃ ys, ys = firstC 256 (Nat.le_refl _) ∧ J ys W') ∨ (∃ pre, (∃ k h, pre = firstC k h) ∧ Jx pre W')) := by
  have HY := Lib.hid hY
  have HJ := Lib.hid hJ
  have HL0 := Lib.hid hL
  clear hY hJ hL
  refine callsIn_of_wp Tryz.func51 rfl trivial ?_ rfl
  simp only [Tryz.ntmps51, List.size_toArray, List.length_cons, List.length_nil, Nat.reduceAdd, Nat.reduceSub, Array.replicate_succ, Array.replicate_zero, List.push_toArray, List.append_toArray, List.nil_append, List.cons_append]
  gi_wp2
  gi_loopw [3] (fun i wr => ∃ (k : Nat) (h : k ≤ 256), i = .int .i64 (k : Int) ∧ J (firstC k h) wr ∧ Hid (LaidM wr))
    (fun i _ => 256 - (intOf i).toNat)
  case atStart => exact ⟨0, Nat.zero_le _, rfl, h0, HL0⟩
  case round =>
    obtain ⟨k, hk, rfl, hJs, HL⟩ := hrel
    by_cases hlt : k < 256
    · have i1 : (k : Int) < 256 := by omega
      have i2 : IntKind.u8.wrap (k : Int) = (k : Int) := wrap8 _ (by omega) (by omega)
      have HOF := Lib.hid (fun W => of_walk k hlt W)
      gi_wp2_with fail
      refine ⟨trivial, ?_⟩
      gi_at_call 11
      refine (callsIn_wide.2 (HOF.out _ HL.out)).mono ?_
      rintro e w1 ⟨rfl, hb1⟩
      have hJ2 : J (firstC k hk) w1 := HJ.out _ _ _ none hJs (grown_of_below hb1) (fun r e => by cases e)
      have HL1 := Lib.hid (HL.out.below hb1)
      obtain ⟨fn, tmps, assign, body, hy, hR⟩ := HY.out _ ⟨k, hlt⟩ w1 hJ2 (by rw [firstC_length]; exact hlt)
      unfold encC at hy
      dsimp only at hy
      clear HY HJ hJs hb1 HOF
      gi_wp2
      refine hR.mono ?_
      rintro e W3 (⟨rfl, hJ3, hK3⟩ | ⟨rfl, hJx3⟩)
      · have HL3 := Lib.hid (hK3 HL1.out)
        clear hK3
        gi_wp2
        go_roundw
        case rel => exact ⟨k + 1, by omega, by go_num, hJ3, HL3⟩
        case measure => simp [intOf]; omega
      · gi_wp2
        refine bodyPost_ret (results_none rfl _ _ _) rfl ?_
        exact ⟨⟨_, rfl⟩, .inr ⟨_, ⟨k + 1, by omega, rfl⟩, hJx3⟩⟩
    · have i1 : ¬ (k : Int) < 256 := by omega
      have hk2 : k = 256 := by omega
      subst hk2
      gi_wp2
      go_end0
      exact ⟨⟨_, rfl⟩, .inl hJs⟩
theorem all1_stops (n : Nat) (hn : 1 ≤ n) (w : World) (hL : LaidM w) :
    SeqStopsK Fence.wide n Tryz.prog 51 #[] encC KeepM (fun ys => ys = firstC 256 (Nat.le_refl _)) (fun pre => ∃ k h, pre = firstC k h) 256 w := fun l J Jx W hW hJ _ hY h0 =>
  all1_in n hn l J Jx W (hL.below hW) hJ hY h0
set_option maxHeartbeats 1000000 in
theorem all_in (n : Nat) (w : World) :
    CallsIn Fence.wide n Tryz.prog 26 #[] w fun e w' => e = .returned (.func (.func 51) #[] #[]) ∧ w' = w := by
  refine callsIn_of_wp Tryz.func26 rfl trivial ?_ rfl
  simp only [Tryz.ntmps26, List.size_toArray, List.length_cons, List.length_nil, Nat.reduceAdd, Nat.reduceSub, Array.replicate_succ, Array.replicate_zero, List.push_toArray, List.append_toArray, List.nil_append, List.cons_append]
  gi_wp2
  go_ret
  exact ⟨rfl, rfl⟩
end Go.Proofs.YteabjninmaceaaaGreatDoor
