/- A map of functions that write operands: stored into, looked up. -/
import Derived.Test.YteabjninmaceaaaGreatDoorProg
import Derived.Test.YteabjninmaceaaaGreatDoorNotesClose
import Derived.MapKept
import Derived.Carry
import Derived.RangeFuncBox
namespace Go.Proofs.YteabjninmaceaaaGreatDoor
open Go.RowKit
set_option linter.unusedVariables false
set_option linter.unusedSimpArgs false

theorem findNow_none (c : Int) : ∀ (l : List MapEntry) (n : Nat), (∀ e ∈ l, ∃ x : Int, e.key = .int .i32 x ∧ x ≠ c) → Instr.findNow (.int .i32) (.int .i32 c) l n = some none
  | [], n, _ => rfl
  | e :: l, n, h => by
    obtain ⟨x, hx, hne⟩ := h e List.mem_cons_self
    have hb : (c == x) = false := by rw [beq_eq_false_iff_ne]; exact fun e => hne e.symm
    simp only [Instr.findNow, hx, Instr.sameNow, if_true, hb]
    exact findNow_none c l (n + 1) (fun e he => h e (List.mem_cons_of_mem _ he))
theorem findNow_some (c : Int) : ∀ (l : List MapEntry) (n : Nat), (∀ e ∈ l, ∃ x : Int, e.key = .int .i32 x) → (∃ e ∈ l, e.key = .int .i32 c) → ∃ i e, Instr.findNow (.int .i32) (.int .i32 c) l n = some (some (i, e.val)) ∧ e ∈ l ∧ e.key = .int .i32 c
  | [], n, _, ⟨e, he, _⟩ => absurd he (by simp)
  | e :: l, n, h, hex => by
    obtain ⟨x, hx⟩ := h e List.mem_cons_self
    by_cases hb : c = x
    · subst hb
      refine ⟨n, e, ?_, List.mem_cons_self, hx⟩
      simp [Instr.findNow, hx, Instr.sameNow]
    · have hb2 : (c == x) = false := by rw [beq_eq_false_iff_ne]; exact hb
      obtain ⟨e', he', hk'⟩ := hex
      have hm : e' ∈ l := by
        rcases List.mem_cons.1 he' with rfl | h2
        · rw [hx] at hk'; injection hk' with _ h3; exact absurd h3.symm hb
        · exact h2
      obtain ⟨i, e2, h1, h2, h3⟩ := findNow_some c l (n + 1) (fun e he => h e (List.mem_cons_of_mem _ he)) ⟨e', hm, hk'⟩
      refine ⟨i, e2, ?_, List.mem_cons_of_mem _ h2, h3⟩
      simp only [Instr.findNow, hx, Instr.sameNow, if_true, hb2]
      exact h1
theorem run_put {W : World} {M : Nat} {es : Array MapEntry} {clk : Nat} (hM : W.heap[M]? = some (.map es clk)) (c : Int) (f : Value) (hnew : ∀ e ∈ es.toList, ∃ x : Int, e.key = .int .i32 x ∧ x ≠ c) :
    (Instr.mapUpdate 42 (.map (some M)) (.int .i32 c) f).run Tryz.prog W = .ok () (W.putObj M (.map (es.push { key := .int .i32 c, val := f, born := clk }) (clk + 1))) := by
  have h1 := findNow_none c es.toList 0 hnew
  have h2 : (Instr.findKey 21 (.int .i32 c) es.toList).run Tryz.prog W = .ok none W := MapKept.run_findKey Tryz.underlying21 h1
  have h3 : (Instr.checkKey false 10000 21 (.int .i32 c)).run Tryz.prog W = .ok () W := by
    unfold Instr.checkKey
    simp [run_underlying Tryz.underlying21, Result.andThen]
  simp [Instr.mapUpdate, run_underlying Tryz.underlying42, getObj, setObj, hM, h3, h2, Result.andThen, Sem.run, World.putObj]
theorem run_look {W : World} {M : Nat} {es : Array MapEntry} {clk : Nat} (hM : W.heap[M]? = some (.map es clk)) (c : Int) {i : Nat} {v : Value} (h1 : Instr.findNow (.int .i32) (.int .i32 c) es.toList 0 = some (some (i, v))) :
    (Instr.lookup 42 (.map (some M)) (.int .i32 c) false).run Tryz.prog W = .ok v W := by
  have h2 : (Instr.findKey 21 (.int .i32 c) es.toList).run Tryz.prog W = .ok (some (i, v)) W := MapKept.run_findKey Tryz.underlying21 h1
  have h3 : ∀ b, (Instr.checkKey b 10000 21 (.int .i32 c)).run Tryz.prog W = .ok () W := fun b => by
    unfold Instr.checkKey
    simp [run_underlying Tryz.underlying21, Result.andThen]
  simp [Instr.lookup, run_underlying Tryz.underlying42, getObj, hM, h3, h2, Result.andThen, Sem.run]
/-- A map that holds these letters, each with a function that writes its operand. -/
def MapW (W : World) (M code next : Nat) (keys : List Nat) : Prop :=
  ∃ es clk, W.heap[M]? = some (.map es clk) ∧ (∀ e ∈ es.toList, ∃ c ∈ keys, e.key = .int .i32 ((c : Nat) : Int) ∧ WF W e.val next (256 ^ widthN c) (opL c code next)) ∧ ∀ c ∈ keys, ∃ e ∈ es.toList, e.key = .int .i32 ((c : Nat) : Int)
theorem MapW.below {W W' : World} {M code next : Nat} {keys : List Nat} (h : MapW W M code next keys) (hb : Below W.heap.size W W') : MapW W' M code next keys := by
  obtain ⟨es, clk, h1, h2, h3⟩ := h
  refine ⟨es, clk, (hb.block M (Array.getElem?_eq_some_iff.1 h1).1).trans h1, fun e he => ?_, h3⟩
  obtain ⟨c, hc, hk, hf⟩ := h2 e he
  exact ⟨c, hc, hk, hf.kept (fun a v ha => (hb.cell (World.block_lt_of_cell? W a ha)).trans ha)⟩
theorem MapW.look {W : World} {M code next : Nat} {keys : List Nat} (h : MapW W M code next keys) (c : Nat) (hc : c ∈ keys) :
    ∃ f, (Instr.lookup 42 (.map (some M)) (.int .i32 (c : Int)) false).run Tryz.prog W = .ok f W ∧ WF W f next (256 ^ widthN c) (opL c code next) := by
  obtain ⟨es, clk, h1, h2, h3⟩ := h
  obtain ⟨i, e, h4, h5, h6⟩ := findNow_some (c : Int) es.toList 0 (fun e he => by obtain ⟨c', _, hk, _⟩ := h2 e he; exact ⟨_, hk⟩) (h3 c hc)
  obtain ⟨c', _, hk, hf⟩ := h2 e h5
  have hcc : c' = c := by
    rw [h6] at hk
    injection hk with _ hk2
    omega
  subst hcc
  exact ⟨e.val, run_look h1 _ h4, hf⟩
/-- The map on the way. -/
def Ms (w : World) (M code next : Nat) (keys : List Nat) (W : World) : Prop := MapW W M code next keys ∧ Below w.heap.size w W ∧ w.heap.size ≤ M
theorem ms_put {w W W1 : World} {M code next : Nat} {keys : List Nat} (h : Ms w M code next keys W) (hb : Below W.heap.size W W1) (c : Nat) (ci : Int) (hci : ci = (c : Int)) (f : Value) (hf : WF W1 f next (256 ^ widthN c) (opL c code next)) (hc : c ∉ keys) :
    ∃ W2, (Instr.mapUpdate 42 (.map (some M)) (.int .i32 ci) f).run Tryz.prog W1 = .ok () W2 ∧ Ms w M code next (c :: keys) W2 := by
  subst hci
  obtain ⟨hm, hB, hwM⟩ := h
  obtain ⟨es, clk, h1, h2, h3⟩ := hm.below hb
  refine ⟨_, run_put h1 (c : Int) f (fun e he => ?_), ⟨_, _, World.putObj_heap_same (Array.getElem?_eq_some_iff.1 h1).1, fun e he => ?_, fun c' hc' => ?_⟩, ?_, hwM⟩
  · obtain ⟨c', hc', hk, _⟩ := h2 e he
    exact ⟨_, hk, fun e2 => hc (by have : c' = c := by omega
                                   rw [← this]; exact hc')⟩
  · have hkk : ∀ (a : Addr) (v : Value), W1.cell? a = some v → (W1.putObj M (.map (es.push { key := .int .i32 (c : Int), val := f, born := clk }) (clk + 1))).cell? a = some v := fun a v ha =>
      cell_kept ha (grownBy_putObj' W1 M _) (fun r e => by cases e; exact ⟨_, h1, rfl⟩)
    rw [Array.toList_push, List.mem_append, List.mem_singleton] at he
    rcases he with he | rfl
    · obtain ⟨c', hc', hk, hf'⟩ := h2 e he
      exact ⟨c', List.mem_cons_of_mem _ hc', hk, hf'.kept hkk⟩
    · exact ⟨c, List.mem_cons_self, rfl, hf.kept hkk⟩
  · rw [Array.toList_push]
    rcases List.mem_cons.1 hc' with rfl | h4
    · exact ⟨_, List.mem_append_right _ (List.mem_singleton.2 rfl), rfl⟩
    · obtain ⟨e, he, hk⟩ := h3 c' h4
      exact ⟨e, List.mem_append_left _ he, hk⟩
  · have h5 := hB.trans (hb.mono hB.size)
    exact h5.grown (grownBy_putObj' W1 M _) h5.size (fun k e => by cases e; exact hwM)
theorem ms_plain {w W : World} {M code next : Nat} {keys : List Nat} (h : Hid (Ms w M code next keys W)) (c : Nat) (ci : Int) (hci : ci = (c : Int)) (s : ByteArray) (l : List UInt8) (hs : s = bytesB l) (hT : ∀ v, opL c code next v = l) (hc : c ∉ keys) :
    ∃ W2, (Instr.mapUpdate 42 (.map (some M)) (.int .i32 ci) (.func (.func 35) #[] #[.pointer (some ⟨W.heap.size, 0, none⟩)])).run Tryz.prog (W.alloc (.cells #[.string s] 9)) = .ok () W2 ∧ Hid (Ms w M code next (c :: keys) W2) := by
  subst hs
  refine ms_put h.out ((Below.refl _ W).alloc (Nat.le_refl _) _) c ci hci _ (.inl ⟨_, _, rfl, ?_, hT⟩) hc
  simp [go_sem]
theorem ms_around {w W : World} {M code next : Nat} {keys : List Nat} (h : Hid (Ms w M code next keys W)) (c : Nat) (ci : Int) (hci : ci = (c : Int)) (a b : ByteArray) (la lb : List UInt8) (di : Int) (d : Nat) (hd : di = (d : Int)) (ha : a = bytesB la) (hb : b = bytesB lb) (hd1 : 1 ≤ d ∧ d ≤ 4 ∧ la.length ≤ 9 ∧ lb.length ≤ 9) (hB : 256 ^ widthN c = 16 ^ d) (hT : ∀ v, opL c code next v = la ++ hexL true v d ++ lb) (hc : c ∉ keys) :
    ∃ W2, (Instr.mapUpdate 42 (.map (some M)) (.int .i32 ci) (.func (.func 33) #[] #[.pointer (some ⟨W.heap.size, 0, none⟩), .pointer (some ⟨W.heap.size + 1, 0, none⟩), .pointer (some ⟨W.heap.size + 1 + 1, 0, none⟩)])).run Tryz.prog (((W.alloc (.cells #[.string a] 9)).alloc (.cells #[.int .i64 di] 3)).alloc (.cells #[.string b] 9)) = .ok () W2 ∧ Hid (Ms w M code next (c :: keys) W2) := by
  subst ha hb hd
  refine ms_put h.out ((((Below.refl _ W).alloc (Nat.le_refl _) _).alloc (by simp) _).alloc (by simp; omega) _) c ci hci _ (.inr (.inl ⟨_, _, _, la, d, lb, rfl, ?_, ?_, ?_, hd1, hB, hT⟩)) hc
  all_goals simp [go_sem]
end Go.Proofs.YteabjninmaceaaaGreatDoor
