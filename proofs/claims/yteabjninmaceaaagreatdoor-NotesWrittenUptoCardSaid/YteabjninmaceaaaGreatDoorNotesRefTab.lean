/- The document's tables: names, forms, cycles. (Numbers of chapter 10's seat D.) -/
import Derived.Test.YteabjninmaceaaaGreatDoorProg
import Derived.Test.YteabjninmaceaaaGreatDoorNotesOf
namespace Go.Proofs.YteabjninmaceaaaGreatDoor
open Go.RowKit
set_option linter.unusedVariables false
set_option linter.unusedSimpArgs false

/-- A slice written out, whatever its length: what it makes is laid as one fact. -/
theorem wpList_buildSlice {P : Program} {w : World} {ops : Array Oper} {rest : List Oper} {o : Oper} {a : Act} {Q : Exit → Act → World → Prop} (hg : o.guard = none) (t : TypeId) (n : Nat) (ps : Array (Nat × Operand)) (hop : o.op = .buildSlice t n ps)
    (v : Value) (w' : World) (hrun : (Instr.buildSlice t n (ps.map fun (i, x) => (i, a.eval x))).run P w = .ok v w') (h : wpList P ops Q rest (a.put o.dst v) w') : wpList P ops Q (o :: rest) a w :=
  wpList_plain hg fun K hK => by
    show o.upon P a K Q ((execOp a.eval o).run P w)
    have e : (execOp a.eval o).run P w = .ok (.value v) w' := by
      simp only [execOp, hop, Sem.run_bind, hrun, Result.andThen]; rfl
    rw [e, Oper.upon_value]; exact hK _ _ h
def cycV : Array Value := (cycL.map (Value.int .i64)).toArray
def nameV : Array Value := (nameL.map Value.string).toArray
def formV : Array Value := (formL.map Value.string).toArray
set_option maxRecDepth 100000 in
set_option maxHeartbeats 2000000 in
theorem cycles_walk (w : World) :
    Calls Tryz.prog 29 #[] w fun e w' => e = .returned (.slice (some ⟨w.heap.size, 0, none⟩) 256 256) ∧ w' = w.alloc (.cells cycV 3) := by
  go_enter Tryz.func29, Tryz.ntmps29
  go_upto_region 1 with fail
  go_wp2_with (refine wpList_buildSlice rfl _ _ _ rfl (.slice (some ⟨w.heap.size, 0, none⟩) 256 256) (w.alloc (.cells cycV 3)) ?hr ?_)
  case hr => kernel_rfl
  go_wp2_with fail
  go_returns
  exact ⟨rfl, rfl⟩
set_option maxRecDepth 100000 in
set_option maxHeartbeats 2000000 in
theorem names_walk (w : World) :
    Calls Tryz.prog 27 #[] w fun e w' => e = .returned (.slice (some ⟨w.heap.size, 0, none⟩) 256 256) ∧ w' = w.alloc (.cells nameV 9) := by
  go_enter Tryz.func27, Tryz.ntmps27
  go_upto_region 1 with fail
  go_wp2_with (refine wpList_buildSlice rfl _ _ _ rfl (.slice (some ⟨w.heap.size, 0, none⟩) 256 256) (w.alloc (.cells nameV 9)) ?hr ?_)
  case hr => kernel_rfl
  go_wp2_with fail
  go_returns
  exact ⟨rfl, rfl⟩
set_option maxRecDepth 100000 in
set_option maxHeartbeats 2000000 in
theorem forms_walk (w : World) :
    Calls Tryz.prog 28 #[] w fun e w' => e = .returned (.slice (some ⟨w.heap.size, 0, none⟩) 256 256) ∧ w' = w.alloc (.cells formV 9) := by
  go_enter Tryz.func28, Tryz.ntmps28
  go_upto_region 1 with fail
  go_wp2_with (refine wpList_buildSlice rfl _ _ _ rfl (.slice (some ⟨w.heap.size, 0, none⟩) 256 256) (w.alloc (.cells formV 9)) ?hr ?_)
  case hr => kernel_rfl
  go_wp2_with fail
  go_returns
  exact ⟨rfl, rfl⟩
theorem cycV_at (k : Nat) (hk : k < 256) : cycV[k]? = some (.int .i64 (cycT k)) := by
  simp only [cycV, cycT, List.getElem?_toArray, List.getElem?_map]
  rw [List.getElem?_eq_getElem (by rw [cycL_length]; exact hk)]; rfl
theorem nameV_at (k : Nat) (hk : k < 256) : nameV[k]? = some (.string (nameT k)) := by
  simp only [nameV, nameT, List.getElem?_toArray, List.getElem?_map]
  rw [List.getElem?_eq_getElem (by rw [nameL_length]; exact hk)]; rfl
theorem formV_at (k : Nat) (hk : k < 256) : formV[k]? = some (.string (formT k)) := by
  simp only [formV, formT, List.getElem?_toArray, List.getElem?_map]
  rw [List.getElem?_eq_getElem (by rw [formL_length]; exact hk)]; rfl
end Go.Proofs.YteabjninmaceaaaGreatDoor
