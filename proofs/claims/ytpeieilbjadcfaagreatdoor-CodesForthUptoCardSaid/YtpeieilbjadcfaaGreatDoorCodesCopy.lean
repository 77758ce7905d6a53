/- The walk of a copy of bytes: for every slice, nil and empty too, the copy is of the call's own and holds the same. -/
import Derived.Test.YtpeieilbjadcfaaGreatDoorProg
import Derived.Test.YtpeieilbjadcfaaGreatDoorKit
namespace Go.Proofs.YtpeieilbjadcfaaGreatDoor
open Go.RowKit

theorem Tryz.infoU8 : (Tryz.prog.info? 5).map (fun i => (i.zero, i.size, i.bytes)) = some (some (.int .u8 0), 1, 1) := by kernel_rfl

/-- A copy behind k rounds. -/
def partly (xs : List Int) (k : Nat) : List Int := xs.take k ++ List.replicate (xs.length - k) 0
theorem partly_length (xs : List Int) (k : Nat) : (partly xs k).length = xs.length := by simp [partly]; omega
theorem partly_zero (xs : List Int) : partly xs 0 = List.replicate xs.length 0 := by simp [partly]
theorem partly_all (xs : List Int) : partly xs xs.length = xs := by simp [partly]
theorem partly_set (xs : List Int) (k : Nat) (h : k < xs.length) : (partly xs k).set k (xs[k]?.getD 0) = partly xs (k + 1) := by
  apply List.ext_getElem?
  intro j
  by_cases hj : j < xs.length
  · have h1 : (List.take k xs).length = k := by rw [List.length_take]; omega
    have h2 : (List.take (k + 1) xs).length = k + 1 := by rw [List.length_take]; omega
    rw [List.getElem?_set]
    unfold partly
    by_cases e : k = j
    · subst e
      rw [if_pos rfl, if_pos (by rw [List.length_append, h1, List.length_replicate]; omega), List.getElem?_append_left (by omega), List.getElem?_take_of_lt (by omega), List.getElem?_eq_getElem h]; rfl
    · rw [if_neg e]
      by_cases hl : j < k
      · rw [List.getElem?_append_left (by omega), List.getElem?_append_left (by omega), List.getElem?_take_of_lt hl, List.getElem?_take_of_lt (by omega)]
      · rw [List.getElem?_append_right (by omega), List.getElem?_append_right (by omega), h1, h2, List.getElem?_replicate, List.getElem?_replicate, if_pos (by omega), if_pos (by omega)]
  · rw [List.getElem?_eq_none (by rw [List.length_set, partly_length]; omega), List.getElem?_eq_none (by rw [partly_length]; omega)]

theorem copy_any (va : Value) (xs : List Int) (w : World) (ha : Row .u8 w va xs) (hn : xs.length ≤ 140737488355328) :
    Calls Tryz.prog 11 #[va] w fun e w' => ∃ v, e = .returned v ∧ w'.ownsRow w.heap.size 5 1 v xs.length (xs.map (Value.int .u8)) ∧ Below w.heap.size w w' := by
  have hm := ha.len
  have hm2 := hm
  unfold maxLen at hm2
  obtain ⟨i0, hi, hz0, hz1, hz2⟩ := info_parts Tryz.infoU8
  have hi' := Lib.hid hi
  have hz0' := Lib.hid hz0
  have hz1' := Lib.hid hz1
  have hz2' := Lib.hid hz2
  have hb2 : i0.bytes * xs.length ≤ 281474976710656 := by rw [hz2]; omega
  have HB2 := Lib.hid hb2
  clear hi hz0 hz1 hz2 hb2
  have hmade : (madeCells (Value.int .u8 0).cells (xs.length * 1)).toList = (partly xs 0).map (Value.int .u8) := by
    rw [partly_zero, Nat.mul_one, show (Value.int IntKind.u8 0).cells = #[Value.int .u8 0] from rfl, toList_madeCells_one]; simp
  have HM := Lib.hid hmade
  clear hmade
  obtain ⟨a, cap, hv, hx⟩ : ∃ a cap, va = .slice a xs.length cap ∧ ((0 < xs.length → ∃ b o, a = some ⟨b, o, none⟩ ∧ ∀ i, i < xs.length → w.cell? ⟨b, o + i, none⟩ = some (.int .u8 (xs[i]?.getD 0)))) := by
    rcases ha with ⟨a, cap, rfl, rfl, _⟩ | ⟨b, o, cap, rfl, _, _, _, hx⟩
    · exact ⟨a, cap, rfl, fun h => by simp at h⟩
    · exact ⟨_, cap, rfl, fun _ => ⟨b, o, rfl, hx⟩⟩
  subst hv
  by_cases h0 : 0 < xs.length
  · obtain ⟨b, o, rfl, hy⟩ := hx h0
    have HX := Lib.hid hy
    clear hx hy ha
    go_enter Tryz.func11, Tryz.ntmps11
    go_wp2_with (refine wpList_make_full _ rfl _ _ _ rfl w.heap.size 5 i0 (.int .u8 0) 1 Tryz.underlying23 hi'.out hz0'.out hz1'.out .i64 .i64 _ _ xs.length rfl rfl rfl rfl HB2.out hm (Nat.le_refl _) ?_; intro w1 hown hgrow)
    have hown' := hown
    rw [HM.out] at hown'
    have HO := Lib.hid hown'
    have hbel : Below w.heap.size w w1 := (Below.refl _ _).grown hgrow (Nat.le_refl _) (fun k h => by cases h)
    clear hown hown' hgrow
    go_loopw [4] (fun i wr => ∃ k : Nat, k ≤ xs.length ∧ i = .int .i64 k ∧ Hid (wr.ownsRow w.heap.size 5 1 (.slice (some ⟨w.heap.size, 0, none⟩) xs.length xs.length) xs.length ((partly xs k).map (Value.int .u8))) ∧ Below w.heap.size w wr) (fun i _ => xs.length - (intOf i).toNat)
    case atStart => exact ⟨0, Nat.zero_le _, rfl, HO, hbel⟩
    case round =>
      obtain ⟨k, hk, rfl, hO, hbr⟩ := hrel
      by_cases hlt : k < xs.length
      · have hcw := HX.out k hlt
        have c1 : wr.cell? ⟨b, o + k, none⟩ = some (.int .u8 (xs[k]?.getD 0)) := by rw [hbr.cell (World.block_lt_of_cell? w _ hcw)]; exact hcw
        obtain ⟨x, hxk⟩ : ∃ x, xs[k]?.getD 0 = x := ⟨_, rfl⟩
        rw [hxk] at c1
        have EX := Lib.hid hxk
        have c2 : ∃ u, wr.cell? ⟨w.heap.size, k, none⟩ = some u := by
          have := hO.out.cellAt k (by omega)
          rw [List.getElem?_map, List.getElem?_eq_getElem (by rw [partly_length]; omega)] at this
          exact ⟨_, this⟩
        obtain ⟨u, c2⟩ := c2
        have c3 : wr.frozen? ⟨w.heap.size, k, none⟩ = false := hO.out.frozenAt k
        have hst := Lib.hid (hO.out.stored k (.int .u8 x))
        clear hcw hxk
        have i1 : (k : Int) < (xs.length : Int) := by omega
        have i2 : 0 ≤ (k : Int) := by omega
        go_wp2
        go_roundw
        case rel =>
          refine ⟨k + 1, by omega, by go_num, ?_, hbr.setCell (by simp) _⟩
          have h := hst.out.1
          rw [← List.map_set, ← EX.out, partly_set xs k hlt] at h
          rw [← EX.out]; exact h
        case measure => simp [intOf]; omega
      · obtain rfl : k = xs.length := by omega
        have hfin := Lib.hid (by have h := hO.out; rw [partly_all] at h; exact h : wr.ownsRow w.heap.size 5 1 (.slice (some ⟨w.heap.size, 0, none⟩) xs.length xs.length) xs.length (xs.map (Value.int .u8)))
        clear hO
        go_wp2
        go_ret
        exact ⟨_, rfl, hfin.out, hbr⟩
  · obtain rfl : xs = [] := List.eq_nil_of_length_eq_zero (by omega)
    clear ha hx
    go_enter Tryz.func11, Tryz.ntmps11
    go_wp2_with (refine wpList_make_full _ rfl _ _ _ rfl w.heap.size 5 i0 (.int .u8 0) 1 Tryz.underlying23 hi'.out hz0'.out hz1'.out .i64 .i64 _ _ 0 rfl rfl rfl rfl HB2.out hm (Nat.le_refl _) ?_; intro w1 hown hgrow)
    refine wp_loop_rounds 1 ?_; rw [rounds_succ]
    go_wp2
    go_ret
    exact ⟨_, rfl, by have e : (madeCells (Value.int .u8 0).cells (0 * 1)).toList = [] := HM.out; rw [e] at hown; exact hown, (Below.refl _ _).grown hgrow (Nat.le_refl _) (fun k h => by cases h)⟩
end Go.Proofs.YtpeieilbjadcfaaGreatDoor
