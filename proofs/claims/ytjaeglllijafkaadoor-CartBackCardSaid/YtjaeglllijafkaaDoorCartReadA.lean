/- What reading a cartridge gives, in plain words; boxes of eight cells. -/
import Derived.Test.YtjaeglllijafkaaDoorProg
import Derived.Test.YtjaeglllijafkaaDoorCartChoose
import Derived.Test.YtjaeglllijafkaaDoorCartMay
import Derived.Test.YtjaeglllijafkaaDoorCartRep
import Derived.Deep.CutBlock
namespace Go.Proofs.YtjaeglllijafkaaDoor
open Go.RowKit
set_option linter.unusedVariables false
set_option linter.unusedSimpArgs false

/-- A cartridge's parts. -/
structure CartR where
  l : Int
  ch : Int
  ram : Int
  ti : ByteArray
  rs : Int
  fa : Bool
  rom : List Int
  sig : List Int
def CartR.v (c : CartR) (rv sv : Value) : Value := .agg #[.int .u8 c.l, .int .u8 c.ch, rv, .int .i64 c.ram, .string c.ti, .int .u16 c.rs, .bool c.fa, sv]
def noCartR : CartR := ⟨0, 0, 0, ⟨#[]⟩, 0, false, [], []⟩
def tailN (xs : List Int) : List Int := if xs.length % 1024 = 512 then xs.drop 512 else xs
def ramN (rz : Int) : Int := if 0 < rz then 1024 * 2 ^ rz.toNat else 0
def fastB (mo : Int) : Bool := decide (mo / 16 % 2 = 1)
/-- Why it is refused; 0: it is not. -/
def readE (ys : List Int) (sn : Nat) : Int :=
  if ys.length < 32768 then 30 else if 8388608 < ys.length then 31 else
    if chipE (bestK ys ys.length 3).2.ki = 32 then 32 else if 9 < (bestK ys ys.length 3).2.rz then 33 else
      if chipK (bestK ys ys.length 3).2.ki = 1 ∧ sn ≠ 8192 then 34 else 0
def readC (ys ss : List Int) : CartR :=
  if readE ys ss.length = 0 then ⟨(bestK ys ys.length 3).1, chipK (bestK ys ys.length 3).2.ki, ramN (bestK ys ys.length 3).2.rz, (bestK ys ys.length 3).2.ti, (bestK ys ys.length 3).2.re, fastB (bestK ys ys.length 3).2.mo, ys, if chipK (bestK ys ys.length 3).2.ki = 1 then ss else []⟩ else noCartR
theorem chipE_cases (ki : Int) : chipE ki = 0 ∨ chipE ki = 32 := by unfold chipE; split <;> (try split) <;> (try split) <;> simp
theorem chipK_bounds (ki : Int) : 0 ≤ chipK ki ∧ chipK ki ≤ 2 := by unfold chipK; split <;> (try split) <;> (try split) <;> omega
theorem and16 (mo : Int) (h0 : 0 ≤ mo) (h1 : mo ≤ 255) : (bits .and .u8 mo 16 != 0) = fastB mo := by
  have h : ∀ m : Fin 256, (bits .and .u8 ((m : Nat) : Int) 16 != 0) = fastB ((m : Nat) : Int) := by decide +kernel
  have h2 := h ⟨mo.toNat, by omega⟩
  simpa [show ((mo.toNat : Nat) : Int) = mo from by omega] using h2
theorem ram_wrap (rz : Int) (h0 : 0 ≤ rz) (h1 : rz ≤ 9) : IntKind.i64.wrap (1024 * 2 ^ rz.toNat) = 1024 * 2 ^ rz.toNat := by
  have h : ∀ m : Fin 10, IntKind.i64.wrap (1024 * 2 ^ (m : Nat)) = 1024 * 2 ^ (m : Nat) := by decide
  exact h ⟨rz.toNat, by omega⟩
/-- A box of eight cells that may be written. -/
structure Box8 (W : World) (P : Nat) : Prop where
  ex : ∃ u0 u1 u2 u3 u4 u5 u6 u7, W.cell? ⟨P, 0, none⟩ = some u0 ∧ W.cell? ⟨P, 1, none⟩ = some u1 ∧ W.cell? ⟨P, 2, none⟩ = some u2 ∧ W.cell? ⟨P, 3, none⟩ = some u3 ∧ W.cell? ⟨P, 4, none⟩ = some u4 ∧ W.cell? ⟨P, 5, none⟩ = some u5 ∧ W.cell? ⟨P, 6, none⟩ = some u6 ∧ W.cell? ⟨P, 7, none⟩ = some u7
  fr : ∀ j, W.frozen? ⟨P, j, none⟩ = false
theorem Box8.keep {W W' : World} {P B : Nat} (h : Box8 W P) (hb : Below B W W') (hp : P < B) : Box8 W' P := by
  obtain ⟨u0, u1, u2, u3, u4, u5, u6, u7, h0, h1, h2, h3, h4, h5, h6, h7⟩ := h.ex
  exact ⟨⟨u0, u1, u2, u3, u4, u5, u6, u7, (hb.cell hp).trans h0, (hb.cell hp).trans h1, (hb.cell hp).trans h2, (hb.cell hp).trans h3, (hb.cell hp).trans h4, (hb.cell hp).trans h5, (hb.cell hp).trans h6, (hb.cell hp).trans h7⟩, fun j => (hb.frozen (p := ⟨P, j, none⟩) hp).trans (h.fr j)⟩
theorem put8_below {B : Nat} {w W : World} {R : Nat} (v0 v1 v2 v3 v4 v5 v6 v7 : Value) (h : Below B w W) (hR : B ≤ R) :
    Below B w ((((((((W.setCell ⟨R, 0, none⟩ v0).setCell ⟨R, 1, none⟩ v1).setCell ⟨R, 2, none⟩ v2).setCell ⟨R, 3, none⟩ v3).setCell ⟨R, 4, none⟩ v4).setCell ⟨R, 5, none⟩ v5).setCell ⟨R, 6, none⟩ v6).setCell ⟨R, 7, none⟩ v7) := by
  refine Below.setCell (Below.setCell (Below.setCell (Below.setCell (Below.setCell (Below.setCell (Below.setCell (Below.setCell h ?_ _) ?_ _) ?_ _) ?_ _) ?_ _) ?_ _) ?_ _) ?_ _ <;> exact hR
theorem Tryd.infoU8c : (Tryd.prog.info? 5).map (fun i => (i.zero, i.size, i.bytes)) = some (some (.int .u8 0), 1, 1) := by kernel_rfl
theorem Tryd.sizeU8c (w : World) : (Go.sizeOf 5).run Tryd.prog w = .ok 1 w := by kernel_rfl
set_option maxRecDepth 100000 in
theorem clone_row (a : Option Addr) (n c : Nat) (xs : List Int) (w : World) (hr : Row .u8 w (.slice a n c) xs) (hn : xs.length = n) (h0 : 0 < n) (hm : n ≤ 140737488355328) :
    Calls Tryd.prog 31 #[.slice a n c] w fun e w' => ∃ G cp, e = .returned (.slice (some ⟨G, 0, none⟩) n cp) ∧ w'.ownsRow w.heap.size 5 1 (.slice (some ⟨G, 0, none⟩) n cp) n (xs.map (Value.int .u8)) ∧ Below w.heap.size w w' := by
  obtain ⟨i0, hi, hz0, hz1, hz2⟩ := info_parts Tryd.infoU8c
  obtain ⟨b, o, c2, hra, hcc, hcm, hrc⟩ := hr.cells (by omega)
  injection hra with hr1 hr2 hr3
  subst hr1 hr3
  refine (slices_Clone i0 (.int .u8 0) 1 1 hi hz0 hz1 hz2 rfl (by decide) Tryd.sizeU8c b o n _ (xs.map (Value.int .u8)) w (by rw [List.length_map, hn, Nat.mul_one]) (by unfold maxLen; omega) (by omega) (fun j u hu => ?_) (fun u hu => by obtain ⟨x, -, rfl⟩ := List.mem_map.1 hu; rfl)).mono ?_
  · rcases Nat.lt_or_ge j xs.length with hj | hj
    · have h1 := hrc j hj
      rw [List.getElem?_map, List.getElem?_eq_getElem hj] at hu
      rw [List.getElem?_eq_getElem hj] at h1
      injection hu with hu
      rw [← hu]
      exact h1
    · rw [List.getElem?_map, List.getElem?_eq_none hj] at hu; cases hu
  · rintro e w' ⟨v, rfl, ho, hnn, hb⟩
    rcases ho.2 with ⟨h1, -⟩ | ⟨g, cap, cu, h1, h2⟩
    · exact absurd h1 hnn
    · exact ⟨g, cap, congrArg Ending.returned h1, by rw [← h1]; exact ho, hb⟩
theorem box8_of (w : World) (v0 v1 v2 v3 v4 v5 v6 v7 : Value) (T : TypeId) : Box8 (w.alloc (.cells #[v0, v1, v2, v3, v4, v5, v6, v7] T)) w.heap.size :=
  ⟨⟨v0, v1, v2, v3, v4, v5, v6, v7, by simp [go_sem], by simp [go_sem], by simp [go_sem], by simp [go_sem], by simp [go_sem], by simp [go_sem], by simp [go_sem], by simp [go_sem]⟩, fun j => by simp [go_sem]⟩
theorem alloc_kept8 {W1 W2 : World} {v0 v1 v2 v3 v4 v5 v6 v7 : Value} {T : TypeId} (hb : Below (W1.alloc (.cells #[v0, v1, v2, v3, v4, v5, v6, v7] T)).drew.heap.size (W1.alloc (.cells #[v0, v1, v2, v3, v4, v5, v6, v7] T)).drew W2) : Box8 W2 W1.heap.size :=
  Box8.keep (W := (W1.alloc (.cells #[v0, v1, v2, v3, v4, v5, v6, v7] T)).drew) ⟨(box8_of W1 v0 v1 v2 v3 v4 v5 v6 v7 T).ex, (box8_of W1 v0 v1 v2 v3 v4 v5 v6 v7 T).fr⟩ hb (by simp)
theorem owns_sliced {w : World} {lo e s : Nat} {v : Value} {n : Nat} {xs : List Value} (h : w.ownsRow lo e s v n xs) : ∃ a c, v = .slice a n c := by
  rcases h.2 with ⟨h1, h2⟩ | ⟨g, c, cu, h1, -⟩
  · exact ⟨none, 0, by rw [h1, h2]⟩
  · exact ⟨_, c, h1⟩
theorem owns_under {w : World} {lo e s : Nat} {v : Value} {n : Nat} {xs : List Value} (h : w.ownsRow lo e s v n xs) {p : Addr} (hp : p.block < lo) (u : Value) : (w.setCell p u).ownsRow lo e s v n xs :=
  ⟨h.1, h.2.elim Or.inl (fun ⟨g, cap, cu, h1, h2, h3, r⟩ => Or.inr ⟨g, cap, cu, h1, h2, (Below.heap_setCell w p u g (fun e => by omega)).trans h3, r⟩)⟩
theorem owns_put8 {w : World} {lo e s : Nat} {v : Value} {n : Nat} {xs : List Value} {R : Nat} (v0 v1 v2 v3 v4 v5 v6 v7 : Value) (h : w.ownsRow lo e s v n xs) (hp : R < lo) :
    ((((((((w.setCell ⟨R, 0, none⟩ v0).setCell ⟨R, 1, none⟩ v1).setCell ⟨R, 2, none⟩ v2).setCell ⟨R, 3, none⟩ v3).setCell ⟨R, 4, none⟩ v4).setCell ⟨R, 5, none⟩ v5).setCell ⟨R, 6, none⟩ v6).setCell ⟨R, 7, none⟩ v7).ownsRow lo e s v n xs :=
  owns_under (owns_under (owns_under (owns_under (owns_under (owns_under (owns_under (owns_under h hp _) hp _) hp _) hp _) hp _) hp _) hp _) hp _
theorem owns_lo {w : World} {lo lo' e s : Nat} {v : Value} {n : Nat} {xs : List Value} (h : w.ownsRow lo' e s v n xs) (hl : lo ≤ lo') : w.ownsRow lo e s v n xs :=
  ⟨h.1, h.2.elim Or.inl (fun ⟨g, cap, cu, h1, h2, r⟩ => Or.inr ⟨g, cap, cu, h1, Nat.le_trans hl h2, r⟩)⟩
theorem owns_ne {w : World} {lo e s : Nat} {G cp n : Nat} {xs : List Value} (h : w.ownsRow lo e s (.slice (some ⟨G, 0, none⟩) n cp) n xs) {p : Addr} (hp : p.block ≠ G) (u : Value) : (w.setCell p u).ownsRow lo e s (.slice (some ⟨G, 0, none⟩) n cp) n xs := by
  refine ⟨h.1, h.2.elim Or.inl (fun ⟨g, cap, cu, h1, h2, h3, r⟩ => Or.inr ⟨g, cap, cu, h1, h2, ?_, r⟩)⟩
  injection h1 with e1
  injection e1 with e2
  injection e2 with e3
  rw [Below.heap_setCell w p u g (fun e => hp (by rw [e3, ← e]))]
  exact h3
theorem owns_kept {w w' : World} {lo e s : Nat} {v : Value} {n : Nat} {xs : List Value} (h : w.ownsRow lo e s v n xs) (hb : Below w.heap.size w w') : w'.ownsRow lo e s v n xs := by
  refine ⟨h.1, h.2.elim Or.inl (fun ⟨g, cap, cu, hv, hg, hh, r⟩ => Or.inr ⟨g, cap, cu, hv, hg, ?_, r⟩)⟩
  have : g < w.heap.size := by
    rcases Nat.lt_or_ge g w.heap.size with h' | h'
    · exact h'
    · simp [Array.getElem?_eq_none h'] at hh
  rw [hb.block g this]; exact hh
theorem cart_set3 {W : World} {P : Nat} {l ch : Int} {rv : Value} {ram : Int} {ti : ByteArray} {rs : Int} {fa : Bool} {sg : Value} (h : CartAt W P l ch rv ram ti rs fa sg) (r2 : Int) : CartAt (W.setCell ⟨P, 3, none⟩ (.int .i64 r2)) P l ch rv r2 ti rs fa sg := by
  have ne : ∀ i, i ≠ 3 → (W.setCell ⟨P, 3, none⟩ (.int .i64 r2)).cell? ⟨P, i, none⟩ = W.cell? ⟨P, i, none⟩ := fun i hi => World.cell?_setCell_other W ⟨P, 3, none⟩ ⟨P, i, none⟩ _ (fun e => by injection e with _ e; exact hi e.symm)
  have h2 := h.c3
  exact ⟨(ne 0 (by decide)).trans h.c0, (ne 1 (by decide)).trans h.c1, (ne 2 (by decide)).trans h.c2, by simp [go_sem, h2], (ne 4 (by decide)).trans h.c4, (ne 5 (by decide)).trans h.c5, (ne 6 (by decide)).trans h.c6, (ne 7 (by decide)).trans h.c7⟩
theorem cart_set7 {W : World} {P : Nat} {l ch : Int} {rv : Value} {ram : Int} {ti : ByteArray} {rs : Int} {fa : Bool} {sg : Value} (h : CartAt W P l ch rv ram ti rs fa sg) (u : Value) : CartAt (W.setCell ⟨P, 7, none⟩ u) P l ch rv ram ti rs fa u := by
  have ne : ∀ i, i ≠ 7 → (W.setCell ⟨P, 7, none⟩ u).cell? ⟨P, i, none⟩ = W.cell? ⟨P, i, none⟩ := fun i hi => World.cell?_setCell_other W ⟨P, 7, none⟩ ⟨P, i, none⟩ _ (fun e => by injection e with _ e; exact hi e.symm)
  have h2 := h.c7
  exact ⟨(ne 0 (by decide)).trans h.c0, (ne 1 (by decide)).trans h.c1, (ne 2 (by decide)).trans h.c2, (ne 3 (by decide)).trans h.c3, (ne 4 (by decide)).trans h.c4, (ne 5 (by decide)).trans h.c5, (ne 6 (by decide)).trans h.c6, by simp [go_sem, h2]⟩
def put8 (W : World) (R : Nat) (v0 v1 v2 v3 v4 v5 v6 v7 : Value) : World := (((((((W.setCell ⟨R, 0, none⟩ v0).setCell ⟨R, 1, none⟩ v1).setCell ⟨R, 2, none⟩ v2).setCell ⟨R, 3, none⟩ v3).setCell ⟨R, 4, none⟩ v4).setCell ⟨R, 5, none⟩ v5).setCell ⟨R, 6, none⟩ v6).setCell ⟨R, 7, none⟩ v7
theorem put8_cart {W : World} {R : Nat} (h : Box8 W R) (l ch : Int) (rv : Value) (ram : Int) (ti : ByteArray) (rs : Int) (fa : Bool) (sg : Value) : CartAt (put8 W R (.int .u8 l) (.int .u8 ch) rv (.int .i64 ram) (.string ti) (.int .u16 rs) (.bool fa) sg) R l ch rv ram ti rs fa sg := by
  obtain ⟨u0, u1, u2, u3, u4, u5, u6, u7, h0, h1, h2, h3, h4, h5, h6, h7⟩ := h.ex
  unfold put8
  exact ⟨by simp [go_sem, h0], by simp [go_sem, h1], by simp [go_sem, h2], by simp [go_sem, h3], by simp [go_sem, h4], by simp [go_sem, h5], by simp [go_sem, h6], by simp [go_sem, h7]⟩
theorem put8_froz (W : World) (R : Nat) (v0 v1 v2 v3 v4 v5 v6 v7 : Value) (p : Addr) : (put8 W R v0 v1 v2 v3 v4 v5 v6 v7).frozen? p = W.frozen? p := by unfold put8; simp [go_sem]
theorem cart_boxed (w : World) (l ch : Int) (rv : Value) (ram : Int) (ti : ByteArray) (rs : Int) (fa : Bool) (sg : Value) : CartAt (w.alloc (.cells #[.int .u8 l, .int .u8 ch, rv, .int .i64 ram, .string ti, .int .u16 rs, .bool fa, sg] 36)) w.heap.size l ch rv ram ti rs fa sg :=
  ⟨by simp [go_sem], by simp [go_sem], by simp [go_sem], by simp [go_sem], by simp [go_sem], by simp [go_sem], by simp [go_sem], by simp [go_sem]⟩
theorem drop_row {w : World} {b o n c : Nat} {xs : List Int} (hx : ∀ i, i < xs.length → w.cell? ⟨b, o + i, none⟩ = some (.int .u8 (xs[i]?.getD 0))) (hn : xs.length = n) (k : Nat) (hk : k ≤ n) (hc : n ≤ c) (hm : c ≤ maxLen) : Row .u8 w (.slice (some ⟨b, o + k, none⟩) (n - k) (c - k)) (xs.drop k) := by
  by_cases h0 : k = n
  · subst h0
    refine .inl ⟨_, _, by rw [Nat.sub_self], List.eq_nil_of_length_eq_zero (by rw [List.length_drop]; omega), by unfold maxLen at *; omega⟩
  refine .inr ⟨b, o + k, c - k, by rw [List.length_drop, hn], by rw [List.length_drop]; omega, by rw [List.length_drop]; omega, by unfold maxLen at *; omega, fun i hi => ?_⟩
  rw [List.length_drop] at hi
  rw [Nat.add_assoc, hx (k + i) (by omega), List.getElem?_drop]
theorem tailN_fits {xs : List Int} (h : Fits .u8 xs) : Fits .u8 (tailN xs) := by
  unfold tailN
  split
  · exact fun x hx => h x (List.mem_of_mem_drop hx)
  · exact h
theorem tailN_length (xs : List Int) : (tailN xs).length ≤ xs.length := by
  unfold tailN
  split
  · rw [List.length_drop]; omega
  · exact Nat.le_refl _

end Go.Proofs.YtjaeglllijafkaaDoor
