/- cart.Make: what is made, or refused. -/
import Derived.Test.YtjaeglllijafkaaDoorProg
import Derived.Test.YtjaeglllijafkaaDoorCartNot
import Derived.Test.YtjaeglllijafkaaDoorCartRep
import Derived.Test.YtjaeglllijafkaaDoorCartPlain
import Derived.Test.YtjaeglllijafkaaDoorImage
import Derived.Test.YtjaeglllijafkaaDoorCartMakeA
import Derived.Deep.RegionHeld3
import Derived.Deep.LoopGhost
import Derived.Lib.SliceRun
import Derived.Deep.CutBlock
namespace Go.Proofs.YtjaeglllijafkaaDoor
open Go.RowKit
set_option linter.unusedVariables false
set_option linter.unusedSimpArgs false

/-- A box of three cells. -/
structure S3 (W : World) (b : Nat) (u v x : Value) : Prop where
  c0 : W.cell? ⟨b, 0, none⟩ = some u
  c1 : W.cell? ⟨b, 1, none⟩ = some v
  c2 : W.cell? ⟨b, 2, none⟩ = some x
  f0 : W.frozen? ⟨b, 0, none⟩ = false
  f1 : W.frozen? ⟨b, 1, none⟩ = false
  f2 : W.frozen? ⟨b, 2, none⟩ = false
theorem S3.below {W W' : World} {b n : Nat} {u v x : Value} (h : S3 W b u v x) (hb : Below n W W') (hn : b < n) : S3 W' b u v x :=
  ⟨(hb.cell (p := ⟨b, 0, none⟩) hn).trans h.c0, (hb.cell (p := ⟨b, 1, none⟩) hn).trans h.c1, (hb.cell (p := ⟨b, 2, none⟩) hn).trans h.c2, (hb.frozen (p := ⟨b, 0, none⟩) hn).trans h.f0, (hb.frozen (p := ⟨b, 1, none⟩) hn).trans h.f1, (hb.frozen (p := ⟨b, 2, none⟩) hn).trans h.f2⟩
theorem S3.set {W : World} {b : Nat} {u v x : Value} (h : S3 W b u v x) (u' v' x' : Value) : ((((W.setCell ⟨b, 0, none⟩ u').setCell ⟨b, 1, none⟩ v').setCell ⟨b, 2, none⟩ x').cell? ⟨b, 0, none⟩ = some u') ∧ ((((W.setCell ⟨b, 0, none⟩ u').setCell ⟨b, 1, none⟩ v').setCell ⟨b, 2, none⟩ x').cell? ⟨b, 1, none⟩ = some v') := by
  have h0 := h.c0
  have h1 := h.c1
  exact ⟨by simp [go_sem, h0], by simp [go_sem, h1]⟩
theorem lt_alloc {b : Nat} {W : World} {o : Obj} (h : b < W.heap.size) : b < (W.alloc o).heap.size := by simp; omega
theorem cell_alloc {W : World} {o : Obj} {a : Addr} {v : Value} (h : W.cell? a = some v) : (W.alloc o).cell? a = some v :=
  (((Below.refl W.heap.size W).alloc (Nat.le_refl _) o).cell (World.block_lt_of_cell? W _ h)).trans h
theorem alloc_kept3 {W1 W2 : World} {x y z : Value} {T : TypeId} (hb : Below (W1.alloc (.cells #[x, y, z] T)).heap.size (W1.alloc (.cells #[x, y, z] T)) W2) : S3 W2 W1.heap.size x y z :=
  S3.below (W := W1.alloc (.cells #[x, y, z] T)) ⟨by simp [go_sem], by simp [go_sem], by simp [go_sem], by simp [go_sem], by simp [go_sem], by simp [go_sem]⟩ hb (by simp)
theorem alloc_kept4 {W1 W2 : World} {x y z : Value} {T : TypeId} (hb : Below (W1.alloc (.cells #[x, y, z] T)).drew.heap.size (W1.alloc (.cells #[x, y, z] T)).drew W2) : S3 W2 W1.heap.size x y z :=
  S3.below (W := (W1.alloc (.cells #[x, y, z] T)).drew) ⟨by simp [go_sem], by simp [go_sem], by simp [go_sem], by simp [go_sem], by simp [go_sem], by simp [go_sem]⟩ hb (by simp)
theorem cell_put3 {W : World} {b : Nat} {x y z v : Value} {p : Addr} (h : W.cell? p = some v) (hne : p.block < b) : (((W.setCell ⟨b, 0, none⟩ x).setCell ⟨b, 1, none⟩ y).setCell ⟨b, 2, none⟩ z).cell? p = some v := by
  rw [World.cell?_setCell_other _ _ _ _ (fun e => by rw [← e] at hne; exact Nat.lt_irrefl _ hne), World.cell?_setCell_other _ _ _ _ (fun e => by rw [← e] at hne; exact Nat.lt_irrefl _ hne), World.cell?_setCell_other _ _ _ _ (fun e => by rw [← e] at hne; exact Nat.lt_irrefl _ hne)]
  exact h
theorem owns_below {w w' : World} {lo e s : Nat} {v : Value} {n : Nat} {xs : List Value} (h : w.ownsRow lo e s v n xs) (hb : Below w.heap.size w w') : w'.ownsRow lo e s v n xs := by
  refine ⟨h.1, h.2.elim Or.inl (fun ⟨g, cap, cu, hv, hg, hh, r⟩ => Or.inr ⟨g, cap, cu, hv, hg, ?_, r⟩)⟩
  have : g < w.heap.size := by
    rcases Nat.lt_or_ge g w.heap.size with h' | h'
    · exact h'
    · simp [Array.getElem?_eq_none h'] at hh
  rw [hb.block g this]; exact hh
theorem lay_index (l : Int) (h : isL l = true) (W : World) : (Instr.index 68 (.agg #[.int .i64 0, .int .u8 0, .int .u8 0, .int .i64 32704, .int .u8 32, .int .u8 35, .int .i64 65472, .int .u8 33, .int .u8 33, .int .i64 4259776, .int .u8 37, .int .u8 37]) (.int .u8 l)).run Tryd.prog W = .ok (.agg #[.int .i64 (placeN l), .int .u8 (m0N l), .int .u8 (m1N l)]) W := by
  have h2 : 1 ≤ l ∧ l ≤ 3 := of_decide_eq_true h
  rcases (show l = 1 ∨ l = 2 ∨ l = 3 from by omega) with rfl | rfl | rfl
  · exact lay_index1 W
  · exact lay_index2 W
  · exact lay_index3 W
theorem Tryd.zeroU8 (w : World) : (zeroValue 5).run Tryd.prog w = .ok (.int .u8 0) w := by kernel_rfl
theorem repeat_any (c : Int) (h0 : 0 ≤ c) (h : c ≤ 21) (w : World) :
    Calls Tryd.prog 34 #[.string ⟨#[32]⟩, .int .i64 c] w fun e w' => e = .returned (.string (blanks c.toNat)) ∧ w' = w := by
  have h2 := repeat_walk c.toNat (by omega) w
  rwa [show ((c.toNat : Nat) : Int) = c from by omega] at h2
theorem padN_bytes (t : ByteArray) (k : Nat) (hk : k = 21 - t.size) : ((t ++ blanks k).data.toList.map fun x => Value.int .u8 (x.toNat : Int)) = (padN t).map (Value.int .u8) := by
  subst hk
  unfold padN bytesI blanks
  simp [ByteArray.data_append]
theorem pad_size (t : ByteArray) (h : t.size ≤ 21) : (t ++ blanks (21 - t.size)).size = 21 := by
  rw [ByteArray.size_append]
  show t.size + (Array.replicate (21 - t.size) (32 : UInt8)).size = 21
  rw [Array.size_replicate]; omega
theorem sizeR_le (r : Int) : sizeR r = 255 ∨ (0 ≤ sizeR r ∧ sizeR r ≤ 9) := by
  unfold sizeR
  repeat' split
  all_goals simp
theorem wrapM16 (y : Int) : IntKind.u16.wrap y = y % 65536 := by simp [IntKind.wrap, IntKind.signed, IntKind.bits]
theorem or16 (l : Int) : bits .or .u8 (m0N l) 16 = if m0N l = 0 then 16 else m0N l + 16 := by
  have h : m0N l = 32 ∨ m0N l = 33 ∨ m0N l = 37 ∨ m0N l = 0 := by unfold m0N; split <;> (try split) <;> (try split) <;> simp
  rcases h with h | h | h | h <;> rw [h] <;> decide
/-- The world in the midst of making: the row, the two boxes. -/
structure MK (w : World) (G n cap Y A : Nat) (m0 l ch : Int) (rv : Value) (ram : Int) (ti : ByteArray) (rs : Int) (fa : Bool) (sg : Value) (wx : World) (row : List Int) : Prop where
  own : wx.ownsRow w.heap.size 5 1 (.slice (some ⟨G, 0, none⟩) n cap) n (row.map (Value.int .u8))
  bel : Below w.heap.size w wx
  cart : CartAt wx w.heap.size l ch rv ram ti rs fa sg
  y0 : wx.cell? ⟨Y, 0, none⟩ = some (.int .i64 (A : Int))
  y1 : wx.cell? ⟨Y, 1, none⟩ = some (.int .u8 m0)
  pg : w.heap.size < G
  gy : G < Y
section
variable {w : World} {G n cap Y A : Nat} {m0 l ch : Int} {rv : Value} {ram : Int} {ti : ByteArray} {rs : Int} {fa : Bool} {sg : Value} {wx : World} {row : List Int}
theorem MK.set (h : MK w G n cap Y A m0 l ch rv ram ti rs fa sg wx row) (j : Nat) (v : Int) : MK w G n cap Y A m0 l ch rv ram ti rs fa sg (wx.setCell ⟨G, j, none⟩ (.int .u8 v)) (row.set j v) := by
  have hb := (Below.refl G wx).setCell (p := ⟨G, j, none⟩) (Nat.le_refl _) (.int .u8 v)
  have hY : ∀ i, (wx.setCell ⟨G, j, none⟩ (.int .u8 v)).cell? ⟨Y, i, none⟩ = wx.cell? ⟨Y, i, none⟩ := fun i => World.cell?_setCell_other wx ⟨G, j, none⟩ ⟨Y, i, none⟩ (.int .u8 v) (fun e => by have := h.gy; injection e with e; omega)
  refine ⟨?_, h.bel.trans (hb.mono (Nat.le_of_lt h.pg)), h.cart.keep hb h.pg, (hY 0).trans h.y0, (hY 1).trans h.y1, h.pg, h.gy⟩
  have h1 := (h.own.stored j (.int .u8 v)).1
  rwa [← List.map_set] at h1
theorem MK.sets (vs : List Int) : ∀ {wx : World} {row : List Int} (j : Nat), MK w G n cap Y A m0 l ch rv ram ti rs fa sg wx row → MK w G n cap Y A m0 l ch rv ram ti rs fa sg (wx.setCells G j (vs.map (Value.int .u8))) (putsL row j vs) := by
  induction vs with
  | nil => intro wx row j h; exact h
  | cons v vs ih => intro wx row j h; exact ih _ (h.set j v)
theorem MK.drew (h : MK w G n cap Y A m0 l ch rv ram ti rs fa sg wx row) : MK w G n cap Y A m0 l ch rv ram ti rs fa sg wx.drew row := ⟨h.own, h.bel.drew, ⟨h.cart.c0, h.cart.c1, h.cart.c2, h.cart.c3, h.cart.c4, h.cart.c5, h.cart.c6, h.cart.c7⟩, h.y0, h.y1, h.pg, h.gy⟩
theorem MK.len (h : MK w G n cap Y A m0 l ch rv ram ti rs fa sg wx row) : row.length = n := by have := h.own.1; simpa using this
theorem MK.cell (h : MK w G n cap Y A m0 l ch rv ram ti rs fa sg wx row) (j : Nat) (hj : j < n) : wx.cell? ⟨G, j, none⟩ = some (.int .u8 (row[j]?.getD 0)) := owns_cell h.own j hj
theorem MK.froz (h : MK w G n cap Y A m0 l ch rv ram ti rs fa sg wx row) (j : Nat) : wx.frozen? ⟨G, j, none⟩ = false := h.own.frozenAt j
theorem MK.caps (h : MK w G n cap Y A m0 l ch rv ram ti rs fa sg wx row) : n ≤ cap ∧ cap ≤ 9223372036854775807 := by
  rcases h.own.2 with ⟨h1, -⟩ | ⟨g, c, cu, h1, -, -, h2, h3, -⟩
  · cases h1
  · injection h1 with _ _ e; subst e; exact ⟨h2, h3⟩
theorem MK.put (h : MK w G n cap Y A m0 l ch rv ram ti rs fa sg wx row) (at_ : Nat) (hat : at_ + 1 < 64) (x : Int) (x0 : 0 ≤ x) (x1 : x ≤ 65535) (hA : A + 64 ≤ n) :
    Calls Tryd.prog 36 #[.slice (some ⟨G, A, none⟩) 64 (cap - A), .int .i64 at_, .int .u16 x] wx fun e w' => e = .returned (.tuple #[]) ∧ MK w G n cap Y A m0 l ch rv ram ti rs fa sg w' ((row.set (A + at_) (x % 256)).set (A + (at_ + 1)) (x / 256)) := by
  refine (put_walk G A 64 (cap - A) at_ x _ _ wx x0 x1 (by omega) (by omega) (h.cell (A + at_) (by omega)) (h.cell (A + (at_ + 1)) (by omega)) (h.froz _) (h.froz _)).mono ?_
  rintro e w' ⟨rfl, rfl⟩
  exact ⟨rfl, (h.set _ _).set _ _⟩
theorem put60 (h : MK w G n cap Y A m0 l ch rv ram ti rs fa sg wx row) (x : Int) (x0 : 0 ≤ x) (x1 : x ≤ 65535) (hA : A + 64 ≤ n) :
    Calls Tryd.prog 36 #[.slice (some ⟨G, A, none⟩) 64 (cap - A), .int .i64 60, .int .u16 x] wx fun e w' => e = .returned (.tuple #[]) ∧ MK w G n cap Y A m0 l ch rv ram ti rs fa sg w' ((row.set (A + 60) (x % 256)).set (A + 61) (x / 256)) := h.put 60 (by decide) x x0 x1 hA
theorem put28 (h : MK w G n cap Y A m0 l ch rv ram ti rs fa sg wx row) (x : Int) (x0 : 0 ≤ x) (x1 : x ≤ 65535) (hA : A + 64 ≤ n) :
    Calls Tryd.prog 36 #[.slice (some ⟨G, A, none⟩) 64 (cap - A), .int .i64 28, .int .u16 x] wx fun e w' => e = .returned (.tuple #[]) ∧ MK w G n cap Y A m0 l ch rv ram ti rs fa sg w' ((row.set (A + 28) (x % 256)).set (A + 29) (x / 256)) := h.put 28 (by decide) x x0 x1 hA
theorem put30 (h : MK w G n cap Y A m0 l ch rv ram ti rs fa sg wx row) (x : Int) (x0 : 0 ≤ x) (x1 : x ≤ 65535) (hA : A + 64 ≤ n) :
    Calls Tryd.prog 36 #[.slice (some ⟨G, A, none⟩) 64 (cap - A), .int .i64 30, .int .u16 x] wx fun e w' => e = .returned (.tuple #[]) ∧ MK w G n cap Y A m0 l ch rv ram ti rs fa sg w' ((row.set (A + 30) (x % 256)).set (A + 31) (x / 256)) := h.put 30 (by decide) x x0 x1 hA
end
set_option maxRecDepth 100000 in
set_option maxHeartbeats 8000000 in
theorem make_yes (l ch : Int) (ra : Option Addr) (n rc : Nat) (ram : Int) (ti : ByteArray) (rs : Int) (fa : Bool) (sa : Option Addr) (sn sc : Nat) (w : World) (l0 : 0 ≤ l) (l1 : l ≤ 255) (hs : ti.size ≤ 9223372036854775807) (e0 : (!(isL l)) = false) (e1 : decide (2 < ch) = false) (e2 : decide (sizeR ram = 255) = false) (e3 : badLen n = false) (e4 : decide ((n : Int) < placeN l + 64) = false) (e5 : badName ti = false) (e6 : decide (rs < 32768) = false) (rs0 : 0 ≤ rs) (rs1 : rs ≤ 65535) (xs : List Int) (hr : Row .u8 w (.slice ra n rc) xs) (hn : xs.length = n) :
    Calls Tryd.prog 19 #[.agg #[.int .u8 l, .int .u8 ch, .slice ra n rc, .int .i64 ram, .string ti, .int .u16 rs, .bool fa, .slice sa sn sc]] w fun e w' => ∃ r, e = .returned (.tuple #[r, .int .i64 0]) ∧ w'.ownsRow w.heap.size 5 1 r n ((madeN xs (placeN l).toNat ti l fa ch ram rs).map (Value.int .u8)) ∧ Below w.heap.size w w' := by
  have g0 : isL l = true := by have := e0; simpa using this
  have g1 : ch ≤ 2 := by have := of_decide_eq_false e1; omega
  have g3 : 32768 ≤ n ∧ n ≤ 8388608 := by have := of_decide_eq_false (show decide (n < 32768 ∨ 8388608 < n ∨ n % 1024 ≠ 0) = false from e3); omega
  have g4 : placeN l + 64 ≤ n := by have := of_decide_eq_false e4; omega
  have g5 : ti.size ≤ 21 := by
    unfold badName at e5
    simp only [Bool.or_eq_false_iff] at e5
    have := of_decide_eq_false e5.1.1
    omega
  obtain ⟨A, hA⟩ : ∃ A : Nat, placeN l = A := ⟨(placeN l).toNat, by have := (placeM_bounds l).1; omega⟩
  obtain ⟨rb, ro, rcap, hra, -, -, hrc⟩ := hr.cells (by omega)
  injection hra with hr1 hr2 hr3
  subst hr1
  have HRC := Lib.hid hrc
  have G0 := Lib.hid g0
  have LIX := Lib.hid (fun W => lay_index l g0 W)
  have HAA := Lib.hid hA
  have a64 : A + 64 ≤ n := by omega
  have mb : 0 ≤ m0N l ∧ m0N l ≤ 37 := by unfold m0N; split <;> (try split) <;> (try split) <;> omega
  obtain ⟨m0, hm0⟩ : ∃ m0, m0N l = m0 := ⟨_, rfl⟩
  rw [hm0] at mb
  have HM0 := Lib.hid hm0
  obtain ⟨i0, hi, hz0, hz1, hz2⟩ := info_parts Tryd.infoU8b
  have hi' := Lib.hid hi
  have hz0' := Lib.hid hz0
  have hz1' := Lib.hid hz1
  have hz2' := Lib.hid hz2
  clear hi hz0 hz1 hz2 hrc g0 hr2 hr3 hA hm0
  have E0 := Lib.hid e0
  have E1 := Lib.hid e1
  have E2 := Lib.hid e2
  have E3 := Lib.hid e3
  have E4 := Lib.hid e4
  have E5 := Lib.hid e5
  have E6 := Lib.hid e6
  clear e0 e1 e2 e3 e4 e5 e6
  have HN := Lib.hid hn
  clear hr hn
  go_enter Tryd.func19, Tryd.ntmps19
  go_upto_region 1 with fail
  obtain ⟨wB, hwB⟩ : ∃ wB, w.alloc (.cells #[.int .u8 l, .int .u8 ch, .slice (some ⟨rb, ro, none⟩) n rc, .int .i64 ram, .string ti, .int .u16 rs, .bool fa, .slice sa sn sc] 36) = wB := ⟨_, rfl⟩
  have hC : CartAt wB w.heap.size l ch (.slice (some ⟨rb, ro, none⟩) n rc) ram ti rs fa (.slice sa sn sc) := by
    rw [← hwB]
    exact ⟨by simp [go_sem], by simp [go_sem], by simp [go_sem], by simp [go_sem], by simp [go_sem], by simp [go_sem], by simp [go_sem], by simp [go_sem]⟩
  have hb0 : Below w.heap.size w wB := by rw [← hwB]; exact (Below.refl _ w).alloc (Nat.le_refl _) _
  have hz : w.heap.size < wB.heap.size := by rw [← hwB]; simp
  have c0 := hC.c0
  have c1 := hC.c1
  have c2 := hC.c2
  have c3 := hC.c3
  have c4 := hC.c4
  have c5 := hC.c5
  have c6 := hC.c6
  have c7 := hC.c7
  rw [hwB]
  have HC := Lib.hid hC
  have HB0 := Lib.hid hb0
  have HZ := Lib.hid hz
  clear hwB hC hb0 hz
  go_upto_region 2 with (go_at_call 32; refine (mayNot_walk l ch (some ⟨rb, ro, none⟩) n rc ram ti rs fa sa sn sc wB l0 l1).mono ?_; rintro e w1 ⟨P, T, I, Q, rfl, hc1, hi, ht, hq, hb⟩)
  have HC1 := Lib.hid (HC.out.keep hb HZ.out)
  have HB1 := Lib.hid (HB0.out.trans (hb.mono (Nat.le_of_lt HZ.out)))
  have hp1 := Lib.hid (Nat.lt_of_lt_of_le HZ.out hb.size)
  clear c0 c1 c2 c3 c4 c5 c6 c7 hb HC HB0 HZ
  have q0 : w1.cell? ⟨Q, 0, none⟩ = some (.func (.func 42) #[] #[.pointer (some ⟨I, 0, none⟩)]) := hq 0 (by decide)
  have q1 : w1.cell? ⟨Q, 1, none⟩ = some (.func (.func 43) #[] #[.pointer (some ⟨P, 0, none⟩)]) := hq 1 (by decide)
  have q2 : w1.cell? ⟨Q, 2, none⟩ = some (.func (.func 44) #[] #[.pointer (some ⟨P, 0, none⟩)]) := hq 2 (by decide)
  have q3 : w1.cell? ⟨Q, 3, none⟩ = some (.func (.func 45) #[] #[.pointer (some ⟨P, 0, none⟩)]) := hq 3 (by decide)
  have q4 : w1.cell? ⟨Q, 4, none⟩ = some (.func (.func 46) #[] #[.pointer (some ⟨P, 0, none⟩), .pointer (some ⟨T, 0, none⟩)]) := hq 4 (by decide)
  have q5 : w1.cell? ⟨Q, 5, none⟩ = some (.func (.func 47) #[] #[.pointer (some ⟨P, 0, none⟩)]) := hq 5 (by decide)
  have q6 : w1.cell? ⟨Q, 6, none⟩ = some (.func (.func 49) #[] #[.pointer (some ⟨P, 0, none⟩)]) := hq 6 (by decide)
  have HC2 := Lib.hid hc1
  have HI := Lib.hid hi
  have HT := Lib.hid ht
  clear hq hc1 hi ht
  refine wp_loop_rounds 8 ?_
  rw [rounds_succ]
  go_wp2_with (go_at_call 42; refine (may1 I (isL l) _ HI.out).mono ?_; rintro e w2 ⟨rfl, rfl⟩; rw [E0.out])
  rw [rounds_succ]
  go_wp2_with (go_at_call 43; refine (may2 HC2.out).mono ?_; rintro e w3 ⟨rfl, rfl⟩; rw [E1.out])
  rw [rounds_succ]
  go_wp2_with (go_at_call 44; refine (may3 HC2.out).mono ?_; rintro e w4 ⟨rfl, rfl⟩; rw [E2.out])
  rw [rounds_succ]
  go_wp2_with (go_at_call 45; refine (may4 HC2.out).mono ?_; rintro e w5 ⟨rfl, rfl⟩; rw [E3.out])
  rw [rounds_succ]
  go_wp2_with (go_at_call 46; refine (may5 T (placeN l) (placeM_bounds l).1 (placeM_bounds l).2 HC2.out HT.out).mono ?_; rintro e w6 ⟨rfl, rfl⟩; rw [E4.out])
  rw [rounds_succ]
  go_wp2_with (go_at_call 47; refine (may6 hs HC2.out).mono ?_; rintro e w7 ⟨rfl, rfl⟩; rw [E5.out])
  rw [rounds_succ]
  go_wp2_with (go_at_call 49; refine (may7 HC2.out).mono ?_; rintro e w8 ⟨rfl, rfl⟩; rw [E6.out])
  rw [rounds_succ]
  go_upto_region 7 with fail
  have P0 := HC1.out.c2
  have HCK := Lib.hid (show ∀ j u, (xs.map (Value.int .u8))[j]? = some u → w8.cell? ⟨rb, ro + j, none⟩ = some u from fun j u hu => by
    rcases Nat.lt_or_ge j xs.length with hj | hj
    · have h1 := HRC.out j hj
      rw [List.getElem?_map, List.getElem?_eq_getElem hj] at hu
      rw [List.getElem?_eq_getElem hj] at h1
      injection hu with hu
      rw [← hu]
      exact (HB1.out.cell (World.block_lt_of_cell? w _ h1)).trans h1
    · rw [List.getElem?_map, List.getElem?_eq_none hj] at hu; cases hu)
  have HCL := Lib.hid (show (xs.map (Value.int .u8)).length = n * 1 by rw [List.length_map, HN.out, Nat.mul_one])
  have HC1C := Lib.hid (show ∀ u ∈ xs.map (Value.int .u8), u.oneCell' = true from fun u hu => by obtain ⟨x, -, rfl⟩ := List.mem_map.1 hu; rfl)
  clear q0 q1 q2 q3 q4 q5 q6
  go_upto_region 8 with (go_at_call 31; refine (slices_Clone i0 (.int .u8 0) 1 1 hi'.out hz0'.out hz1'.out hz2'.out rfl (by decide) Tryd.sizeU8 rb ro n _ (xs.map (Value.int .u8)) w8 HCL.out (by unfold maxLen; omega) (by omega) HCK.out HC1C.out).mono ?_; rintro e w9 ⟨v9, rfl, ho, hnn, hb⟩)
  obtain ⟨G, cap, rfl⟩ : ∃ G cap, v9 = .slice (some ⟨G, 0, none⟩) n cap := by
    rcases ho.2 with ⟨h1, -⟩ | ⟨g, cap, cu, h1, -⟩
    · exact absurd h1 hnn
    · exact ⟨g, cap, h1⟩
  have HCA := Lib.hid (HC1.out.keep hb hp1.out)
  have HB2 := Lib.hid (HB1.out.trans (hb.mono (Nat.le_of_lt hp1.out)))
  have hlt := Lib.hid (Nat.lt_of_lt_of_le hp1.out hb.size)
  have HO := Lib.hid ho
  have hGlt := Lib.hid ((ho.lt G rfl).2)
  have hG8 := Lib.hid ((ho.lt G rfl).1)
  have hp2 := Lib.hid hp1.out
  have hGle := Lib.hid (Nat.le_of_lt (Nat.lt_of_lt_of_le hp1.out (ho.lt G rfl).1))
  clear ho hnn hb P0 HC1 HB1 hp1 HC2 HI HT
  have k0 : w9.drew.cell? ⟨w.heap.size, 0, none⟩ = some (.int .u8 l) := HCA.out.c0
  have HBD : Below w9.heap.size w9 w9.drew := (Below.refl _ _).drew
  have hF : w.heap.size < w9.drew.heap.size := hlt.out
  have hmx : Tryd.prog.follows .mixedOrders = true := by kernel_rfl
  have lix := LIX.out
  go_cut [7] (fun s7 wx => ∃ Y, s7 = .pointer (some ⟨Y, 0, none⟩) ∧ wx.cell? ⟨Y, 0, none⟩ = some (.int .i64 (placeN l)) ∧ wx.cell? ⟨Y, 1, none⟩ = some (.int .u8 (m0N l)) ∧ w9.heap.size ≤ Y ∧ Hid (Below w9.heap.size w9 wx))
  case first =>
    go_region_held3 (fun w' => w'.cell? ⟨w.heap.size, 0, none⟩ = some (.int .u8 l)) (first | exact k0 | exact cell_alloc k0 | exact cell_put3 k0 hF | go_keep) (first | (go_at_call 33; refine (layouts_walk _).mono ?_; rintro e w' ⟨rfl, hb⟩; (try (have q := alloc_kept3 hb)); (try (have q := alloc_kept4 hb)); have k0 := (hb.cell (p := ⟨w.heap.size, 0, none⟩) (by first | exact hF | exact lt_alloc hF)).trans (by first | exact k0 | exact cell_alloc k0); have HBD := (by first | exact below_step HBD HBD.size hb | exact below_step (HBD.alloc HBD.size _) (HBD.alloc HBD.size _).size hb : Below w9.heap.size w9 w'); clear hb; (try (have y0 := q.c0; have y1 := q.c1; have y2 := q.c2; have z0 := q.f0; have z1 := q.f1; have z2 := q.f2)); (try simp only [World.size_drew] at y0 y1 y2 z0 z1 z2)))
    all_goals go_wp2_with fail
    all_goals
      go_meet
      first
        | exact ⟨_, rfl, by simp [go_sem], by simp [go_sem], HBD.size, HBD.alloc HBD.size _⟩
        | exact ⟨_, rfl, (q.set _ _ _).1, (q.set _ _ _).2, Nat.le_refl _, by refine Below.setCell (Below.setCell (Below.setCell HBD ?_ _) ?_ _) ?_ _ <;> exact Nat.le_refl _⟩
  case rest =>
    clear k0 HBD hF lix
    obtain ⟨Y, rfl, y0, y1, yle, HBY⟩ := hcut
    rw [HAA.out] at y0
    rw [HM0.out] at y1
    have hor : bits .or .u8 m0 16 = m0 + 16 := by
      have h := or16 l
      rw [HM0.out] at h
      have hne : m0 ≠ 0 := by
        rw [← HM0.out]; have := of_decide_eq_true (show decide (1 ≤ l ∧ l ≤ 3) = true from G0.out); unfold m0N; split <;> (try split) <;> (try split) <;> omega
      rwa [if_neg hne] at h
    have HOR := Lib.hid hor
    clear hor
    have hMK : MK w G n cap Y A m0 l ch (.slice (some ⟨rb, ro, none⟩) n rc) ram ti rs fa (.slice sa sn sc) wc xs := by
      refine ⟨?_, HB2.out.trans (HBY.out.mono (Nat.le_of_lt hlt.out)), HCA.out.keep HBY.out hlt.out, y0, y1, ?_, ?_⟩
      · have h := owns_below HO.out HBY.out
        exact ⟨h.1, h.2.elim Or.inl (fun ⟨g, c1, cu, c2, c3, r⟩ => Or.inr ⟨g, c1, cu, c2, Nat.le_trans (Nat.le_of_lt hp2.out) c3, r⟩)⟩
      · exact Nat.lt_of_lt_of_le hp2.out hG8.out
      · exact Nat.lt_of_lt_of_le hGlt.out yle
    have HK := Lib.hid hMK
    have hcp := hMK.caps
    clear hMK HO HCA HB2 HBY hlt hGlt hGle hG8
    have s1 : ((A : Int)).toNat = A := by omega
    have s2 : ((A : Int) + 64).toNat = A + 64 := by omega
    have s3 : ¬ cap = A := by omega
    have s4 : (A : Int) + 64 ≤ (cap : Int) := by omega
    have s5 : A + 64 ≤ cap := by omega
    have s6 : (A : Int) ≤ (A : Int) + 64 := by omega
    go_upto_region 10 with fail
    go_cut [45] (fun s45 wx => Hid (MK w G n cap Y A m0 l ch (.slice (some ⟨rb, ro, none⟩) n rc) ram ti rs fa (.slice sa sn sc) wx (putsL xs A (padN ti))))
    case first =>
      have hk1 := HK.out.drew
      have k4 : wc.drew.cell? ⟨w.heap.size, 4, none⟩ = some (.string ti) := hk1.cart.c4
      have HK1 := Lib.hid hk1
      have r1 : IntKind.i64.wrap (21 - (ti.size : Int)) = 21 - (ti.size : Int) := IntWalk.i64_in _ (by omega)
      have r3 : (21 - (ti.size : Int)).toNat = 21 - ti.size := by omega
      have HBT := Lib.hid (padN_bytes ti (21 - ti.size) rfl)
      have hTs := pad_size ti g5
      have r4 : ¬ 9223372036854775807 < ti.size + (blanks (21 - ti.size)).size := by rw [ByteArray.size_append] at hTs; omega
      have r5 : ti.size + (blanks (21 - ti.size)).size ≤ 9223372036854775807 := by omega
      have HTS := Lib.hid hTs
      clear hTs y0 y1 hk1
      go_region_held3 (fun w' => w'.cell? ⟨w.heap.size, 4, none⟩ = some (.string ti)) (first | exact k4 | exact (World.cell?_setCells_out G _ A wc.drew ⟨w.heap.size, 4, none⟩ (fun h => absurd h (Nat.ne_of_lt HK1.out.pg))).trans k4 | go_keep) (first | (go_at_call 34; (try rw [r1]); refine (repeat_any _ (by (try rw [r1]); omega) (by (try rw [r1]); omega) _).mono ?_; rintro e w' ⟨rfl, rfl⟩; (try rw [r1]); (try rw [r3])) | (refine step_copy_string rfl (.tmp 36) (.tmp 44) 28 9 rfl 5 Tryd.underlying28 Tryd.sizeU8 G A 64 (cap - A) rfl (ti ++ blanks (21 - ti.size)) rfl (by rw [HTS.out]; decide) (fun j hj => by rw [HTS.out] at hj; rw [HK1.out.cell (A + j) (by omega)]; rfl) (fun j hj => HK1.out.froz (A + j)) ?_))
      all_goals go_wp2_with fail
      all_goals
        go_meet
        have h := HK1.out.sets (padN ti) A
        rw [← HBT.out] at h
        exact h
    case rest =>
      have HKB := Lib.hid hcut.out
      clear HK hcut s1 s2 s3 s4 s5 s6 y0 y1
      go_upto_region 11 with fail
      have hclr : ∀ (c ty : Nat), (Builtin.clear_ #[28] ty #[.slice (some ⟨G, A + 21, none⟩) 11 c]).run Tryd.prog wc = .ok (.tuple #[]) (wc.setCells G (A + 21) (List.replicate 11 (.int .u8 0))) := fun c ty =>
        Lib.run_clear_slice wc 28 5 ty (.int .u8 0) Tryd.underlying28 Tryd.zeroU8 rfl rfl G (A + 21) 11 c (by decide) (fun j hj => by rw [HKB.out.cell (A + 21 + j) (by omega)]; rfl) (fun j _ => HKB.out.froz (A + 21 + j))
      obtain ⟨W2, hW2⟩ : ∃ W2, wc.setCells G (A + 21) (List.replicate 11 (.int .u8 0)) = W2 := ⟨_, rfl⟩
      rw [hW2] at hclr
      have hk2 := HKB.out.sets (List.replicate 11 0) (A + 21)
      rw [List.map_replicate, hW2] at hk2
      have HK2 := Lib.hid hk2
      have hcp := hk2.caps
      have s5 : A + 64 ≤ cap := by omega
      have s6 : ¬ cap - A = 21 := by omega
      have s7 : 32 ≤ cap - A := by omega
      have s8 : (32 : Int) ≤ ((cap - A : Nat) : Int) := by omega
      clear hW2 hk2 HKB hcp
      go_upto_region 12 with fail
      have y1 := HK2.out.y1
      have ce := HK2.out.cell (A + 21) (by omega)
      have cf := HK2.out.froz (A + 21)
      clear hclr
      go_upto_region 13 with fail
      have hk3 := HK2.out.set (A + 21) m0
      obtain ⟨W3, hW3⟩ : ∃ W3, W2.setCell ⟨G, A + 21, none⟩ (.int .u8 m0) = W3 := ⟨_, rfl⟩
      rw [hW3] at hk3 ⊢
      have hrow : ((putsL (putsL xs A (padN ti)) (A + 21) (List.replicate 11 0)).set (A + 21) m0)[A + 21]?.getD 0 = m0 := by
        rw [List.getElem?_set]; rw [if_pos rfl, if_pos (by have := HK2.out.len; omega)]; rfl
      have c6 := hk3.cart.c6
      have ce := hk3.cell (A + 21) (by omega)
      rw [hrow] at ce
      have cf := hk3.froz (A + 21)
      have HK3 := Lib.hid hk3
      clear hW3 hk3 hrow HK2 y1
      go_upto_if 54 with fail
      go_cut [55] (fun s55 wx => Hid (MK w G n cap Y A m0 l ch (.slice (some ⟨rb, ro, none⟩) n rc) ram ti rs fa (.slice sa sn sc) wx (b3N xs A ti l fa)))
      case first =>
        cases fa
        · go_wp2_with fail
          go_meet
          have h := HK3.out
          show MK w G n cap Y A m0 l ch (.slice (some ⟨rb, ro, none⟩) n rc) ram ti rs false (.slice sa sn sc) _ _
          unfold b3N b1N modeN
          rw [HM0.out]
          exact h
        · go_wp2_with fail
          go_meet
          have h := HK3.out.set (A + 21) (m0 + 16)
          rw [HOR.out]
          show MK w G n cap Y A m0 l ch (.slice (some ⟨rb, ro, none⟩) n rc) ram ti rs true (.slice sa sn sc) _ _
          unfold b3N b1N modeN
          rw [HM0.out]
          rw [List.set_set] at h
          exact h
      case rest =>
        have HK4 := Lib.hid hcut.out
        clear hcut c6 ce cf HK3
        have c1 := HK4.out.cart.c1
        have cv := HK4.out.cell (A + 22) (by omega)
        have cf := HK4.out.froz (A + 22)
        go_upto_block 2 with fail
        go_cut [62] (fun s62 wx => Hid (MK w G n cap Y A m0 l ch (.slice (some ⟨rb, ro, none⟩) n rc) ram ti rs fa (.slice sa sn sc) wx (kindS (b3N xs A ti l fa) A ch)))
        case first =>
          by_cases ch1 : ch = 1
          · subst ch1
            go_wp2_with fail
            go_meet
            have h := HK4.out.set (A + 22) 3
            show MK w G n cap Y A m0 l 1 (.slice (some ⟨rb, ro, none⟩) n rc) ram ti rs fa (.slice sa sn sc) _ _
            unfold kindS
            rw [if_pos rfl]
            exact h
          · by_cases ch2 : ch = 2
            · subst ch2
              go_wp2_with fail
              go_meet
              have h := HK4.out.set (A + 22) 51
              show MK w G n cap Y A m0 l 2 (.slice (some ⟨rb, ro, none⟩) n rc) ram ti rs fa (.slice sa sn sc) _ _
              unfold kindS
              rw [if_neg (by decide), if_pos rfl]
              exact h
            · have n1 : (ch == 1) = false := by simpa using ch1
              have n2 : (ch == 2) = false := by simpa using ch2
              have hkd : kindS (b3N xs A ti l fa) A ch = b3N xs A ti l fa := by unfold kindS; rw [if_neg ch1, if_neg ch2]
              have HKD := Lib.hid hkd
              clear hkd ch1 ch2
              go_wp2_with fail
              go_meet
              show MK w G n cap Y A m0 l ch (.slice (some ⟨rb, ro, none⟩) n rc) ram ti rs fa (.slice sa sn sc) _ _
              rw [HKD.out]
              exact HK4.out
        case rest =>
          have HK5 := Lib.hid hcut.out
          clear hcut c1 cv cf HK4
          have c3 := HK5.out.cart.c3
          have c5 := HK5.out.cart.c5
          have cv := HK5.out.cell (A + 24) (by omega)
          have cf := HK5.out.froz (A + 24)
          have HSR := Lib.hid (sizeR_le ram)
          go_upto_region 21 with (go_at_call 35; refine (ramSize_walk _ _).mono ?_; rintro e w6 ⟨rfl, rfl⟩)
          have hk6 := HK5.out.set (A + 24) (sizeR ram)
          have hif : (if sizeR ram = 255 then 0 else sizeR ram) = sizeR ram := if_neg (of_decide_eq_false E2.out)
          rw [hif]
          obtain ⟨W6, hW6⟩ : ∃ W6, w6.setCell ⟨G, A + 24, none⟩ (.int .u8 (sizeR ram)) = W6 := ⟨_, rfl⟩
          rw [hW6] at hk6 ⊢
          have HK6 := Lib.hid hk6
          have c5 := hk6.cart.c5
          clear hW6 hif c3 cv cf HK5 hk6
          go_upto_region 22 with (go_at_call 36; refine (put60 HK6.out rs rs0 rs1 (by omega)).mono ?_; rintro e w7 ⟨rfl, hk7⟩)
          have HK7 := Lib.hid (show MK w G n cap Y A m0 l ch (.slice (some ⟨rb, ro, none⟩) n rc) ram ti rs fa (.slice sa sn sc) w7 (b6N xs A ti l fa ch ram rs) from hk7)
          have HLEN := Lib.hid (show (b6N xs A ti l fa ch ram rs).length = n from hk7.len)
          clear hk7 c5 HK6
          obtain ⟨R, hR⟩ : ∃ R, b6N xs A ti l fa ch ram rs = R := ⟨_, rfl⟩
          rw [hR] at HK7 HLEN
          have HRR := Lib.hid hR
          clear hR
          go_upto_region 24 with fail
          go_loopw [9, 84] (fun s9 s84 wr => ∃ k : Nat, k ≤ n ∧ s84 = .int .i64 k ∧ s9 = .int .u16 (sumK R k) ∧ w7 = wr) (fun _ s84 _ => n - (intOf s84).toNat)
          case atStart => exact ⟨0, Nat.zero_le _, rfl, rfl, rfl⟩
          case round =>
            obtain ⟨k, hk, rfl, rfl, rfl⟩ := hrel
            by_cases hlt : k < n
            · have i1 : (k : Int) < (n : Int) := by omega
              have i2 : 0 ≤ (k : Int) := by omega
              have cc := HK7.out.cell k hlt
              have hsk := Lib.hid (show sumK R (k + 1) = (sumK R k + R[k]?.getD 0) % 65536 from rfl)
              obtain ⟨x, hx⟩ : ∃ x, R[k]?.getD 0 = x := ⟨_, rfl⟩
              rw [hx] at cc hsk
              obtain ⟨s, hs2⟩ : ∃ s, sumK R k = s := ⟨_, rfl⟩
              rw [hs2] at hsk ⊢
              clear hx
              go_wp2
              go_roundw
              case rel => exact ⟨k + 1, by omega, by go_num, congrArg (Value.int .u16) (by rw [hsk.out, wrapM16, wrapM16]; omega), trivial⟩
              case measure => simp [intOf]; omega
            · obtain rfl : k = n := by omega
              have i1 : ¬ (k : Int) < (k : Int) := by omega
              have hb := sumK_bounds R k
              obtain ⟨s, hs2⟩ : ∃ s, sumK R k = s := ⟨_, rfl⟩
              rw [hs2] at hb ⊢
              have HS2 := Lib.hid hs2
              clear hs2
              obtain ⟨b0, b1⟩ := hb
              have b2 : (65535 - s) % 65536 = 65535 - s := by omega
              go_upto_region 29 with (go_at_call 36; (try rw [b2]); refine (put28 HK7.out _ (by omega) (by omega) (by omega)).mono ?_; rintro e w8 ⟨rfl, hk8⟩)
              have HK8 := Lib.hid hk8
              clear hk8
              go_upto_region 30 with (go_at_call 36; refine (put30 HK8.out s b0 b1 (by omega)).mono ?_; rintro e w10 ⟨rfl, hk10⟩)
              have HK9 := Lib.hid hk10
              clear hk10
              go_wp2_with fail
              go_returns
              refine ⟨_, rfl, ?_, HK9.out.bel⟩
              have h := HK9.out.own
              unfold madeN
              rw [show (placeN l).toNat = A from by rw [HAA.out]; omega, HRR.out, HLEN.out, HS2.out]
              unfold sealN
              exact h
end Go.Proofs.YtjaeglllijafkaaDoor
