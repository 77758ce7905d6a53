/- cart.Make: what is made, or refused. -/
import Derived.Test.YtjaeglllijafkaaDoorProg
import Derived.Test.YtjaeglllijafkaaDoorCartNot
import Derived.Test.YtjaeglllijafkaaDoorCartRep
import Derived.Test.YtjaeglllijafkaaDoorCartPlain
import Derived.Deep.RegionHeld3
import Derived.Deep.LoopGhost
import Derived.Lib.SliceRun
namespace Go.Proofs.YtjaeglllijafkaaDoor
open Go.RowKit
set_option linter.unusedVariables false
set_option linter.unusedSimpArgs false

theorem Tryd.infoU8b : (Tryd.prog.info? 5).map (fun i => (i.zero, i.size, i.bytes)) = some (some (.int .u8 0), 1, 1) := by kernel_rfl
theorem Tryd.sizeU8 (w : World) : (Go.sizeOf 5).run Tryd.prog w = .ok 1 w := by kernel_rfl

theorem placeM_bounds (l : Int) : 0 ≤ placeN l ∧ placeN l ≤ 4259776 := by unfold placeN atN; split <;> (try split) <;> (try split) <;> (try split) <;> omega
/-- May it be made? -/
def badN (l ch : Int) (n : Nat) (ram : Int) (ti : ByteArray) (rs : Int) : Bool := (!(isL l)) || (decide (2 < ch) || (decide (sizeR ram = 255) || (badLen n || (decide ((n : Int) < placeN l + 64) || (badName ti || (decide (rs < 32768)))))))

set_option maxRecDepth 100000 in
set_option maxHeartbeats 4000000 in
theorem make_no0 (l ch : Int) (ra : Option Addr) (n rc : Nat) (ram : Int) (ti : ByteArray) (rs : Int) (fa : Bool) (sa : Option Addr) (sn sc : Nat) (w : World) (l0 : 0 ≤ l) (l1 : l ≤ 255) (hs : ti.size ≤ 9223372036854775807) (e0 : (!(isL l)) = true) :
    Calls Tryd.prog 19 #[.agg #[.int .u8 l, .int .u8 ch, .slice ra n rc, .int .i64 ram, .string ti, .int .u16 rs, .bool fa, .slice sa sn sc]] w fun e w' => e = .returned (.tuple #[.slice none 0 0, .int .i64 2]) ∧ Below w.heap.size w w' := by
  have E0 := Lib.hid e0
  clear e0
  go_enter Tryd.func19, Tryd.ntmps19
  go_upto_region 1 with fail
  obtain ⟨wB, hwB⟩ : ∃ wB, w.alloc (.cells #[.int .u8 l, .int .u8 ch, .slice ra n rc, .int .i64 ram, .string ti, .int .u16 rs, .bool fa, .slice sa sn sc] 36) = wB := ⟨_, rfl⟩
  have hC : CartAt wB w.heap.size l ch (.slice ra n rc) ram ti rs fa (.slice sa sn sc) := by
    rw [← hwB]
    exact ⟨by simp [go_sem], by simp [go_sem], by simp [go_sem], by simp [go_sem], by simp [go_sem], by simp [go_sem], by simp [go_sem], by simp [go_sem]⟩
  have hb0 : Below w.heap.size w wB := by rw [← hwB]; exact (Below.refl _ w).alloc (Nat.le_refl _) _
  have hz : w.heap.size < wB.heap.size := by rw [← hwB]; simp
  have c0 := hC.c0
  have c1 := hC.c1
  have c2 := hC.c2
  have c3 := hC.c3
  have c4 := hC.c4
  have c5 := hC.c5
  have c6 := hC.c6
  have c7 := hC.c7
  rw [hwB]
  have HC := Lib.hid hC
  have HB0 := Lib.hid hb0
  have HZ := Lib.hid hz
  clear hwB hC hb0 hz
  go_upto_region 2 with (go_at_call 32; refine (mayNot_walk l ch ra n rc ram ti rs fa sa sn sc wB l0 l1).mono ?_; rintro e w1 ⟨P, T, I, Q, rfl, hc1, hi, ht, hq, hb⟩)
  have HC1 := Lib.hid (HC.out.keep hb HZ.out)
  have HB1 := Lib.hid (HB0.out.trans (hb.mono (Nat.le_of_lt HZ.out)))
  have hp1 := Lib.hid (Nat.lt_of_lt_of_le HZ.out hb.size)
  clear c0 c1 c2 c3 c4 c5 c6 c7 hb HC HB0 HZ
  have q0 : w1.cell? ⟨Q, 0, none⟩ = some (.func (.func 42) #[] #[.pointer (some ⟨I, 0, none⟩)]) := hq 0 (by decide)
  have q1 : w1.cell? ⟨Q, 1, none⟩ = some (.func (.func 43) #[] #[.pointer (some ⟨P, 0, none⟩)]) := hq 1 (by decide)
  have q2 : w1.cell? ⟨Q, 2, none⟩ = some (.func (.func 44) #[] #[.pointer (some ⟨P, 0, none⟩)]) := hq 2 (by decide)
  have q3 : w1.cell? ⟨Q, 3, none⟩ = some (.func (.func 45) #[] #[.pointer (some ⟨P, 0, none⟩)]) := hq 3 (by decide)
  have q4 : w1.cell? ⟨Q, 4, none⟩ = some (.func (.func 46) #[] #[.pointer (some ⟨P, 0, none⟩), .pointer (some ⟨T, 0, none⟩)]) := hq 4 (by decide)
  have q5 : w1.cell? ⟨Q, 5, none⟩ = some (.func (.func 47) #[] #[.pointer (some ⟨P, 0, none⟩)]) := hq 5 (by decide)
  have q6 : w1.cell? ⟨Q, 6, none⟩ = some (.func (.func 49) #[] #[.pointer (some ⟨P, 0, none⟩)]) := hq 6 (by decide)
  have HC2 := Lib.hid hc1
  have HI := Lib.hid hi
  have HT := Lib.hid ht
  clear hq hc1 hi ht
  refine wp_loop_rounds 1 ?_
  rw [rounds_succ]
  go_wp2_with (go_at_call 42; refine (may1 I (isL l) _ HI.out).mono ?_; rintro e w2 ⟨rfl, rfl⟩; rw [E0.out])
  go_returns
  exact ⟨rfl, HB1.out⟩

set_option maxRecDepth 100000 in
set_option maxHeartbeats 4000000 in
theorem make_no1 (l ch : Int) (ra : Option Addr) (n rc : Nat) (ram : Int) (ti : ByteArray) (rs : Int) (fa : Bool) (sa : Option Addr) (sn sc : Nat) (w : World) (l0 : 0 ≤ l) (l1 : l ≤ 255) (hs : ti.size ≤ 9223372036854775807) (e0 : (!(isL l)) = false) (e1 : decide (2 < ch) = true) :
    Calls Tryd.prog 19 #[.agg #[.int .u8 l, .int .u8 ch, .slice ra n rc, .int .i64 ram, .string ti, .int .u16 rs, .bool fa, .slice sa sn sc]] w fun e w' => e = .returned (.tuple #[.slice none 0 0, .int .i64 2]) ∧ Below w.heap.size w w' := by
  have E0 := Lib.hid e0
  have E1 := Lib.hid e1
  clear e0 e1
  go_enter Tryd.func19, Tryd.ntmps19
  go_upto_region 1 with fail
  obtain ⟨wB, hwB⟩ : ∃ wB, w.alloc (.cells #[.int .u8 l, .int .u8 ch, .slice ra n rc, .int .i64 ram, .string ti, .int .u16 rs, .bool fa, .slice sa sn sc] 36) = wB := ⟨_, rfl⟩
  have hC : CartAt wB w.heap.size l ch (.slice ra n rc) ram ti rs fa (.slice sa sn sc) := by
    rw [← hwB]
    exact ⟨by simp [go_sem], by simp [go_sem], by simp [go_sem], by simp [go_sem], by simp [go_sem], by simp [go_sem], by simp [go_sem], by simp [go_sem]⟩
  have hb0 : Below w.heap.size w wB := by rw [← hwB]; exact (Below.refl _ w).alloc (Nat.le_refl _) _
  have hz : w.heap.size < wB.heap.size := by rw [← hwB]; simp
  have c0 := hC.c0
  have c1 := hC.c1
  have c2 := hC.c2
  have c3 := hC.c3
  have c4 := hC.c4
  have c5 := hC.c5
  have c6 := hC.c6
  have c7 := hC.c7
  rw [hwB]
  have HC := Lib.hid hC
  have HB0 := Lib.hid hb0
  have HZ := Lib.hid hz
  clear hwB hC hb0 hz
  go_upto_region 2 with (go_at_call 32; refine (mayNot_walk l ch ra n rc ram ti rs fa sa sn sc wB l0 l1).mono ?_; rintro e w1 ⟨P, T, I, Q, rfl, hc1, hi, ht, hq, hb⟩)
  have HC1 := Lib.hid (HC.out.keep hb HZ.out)
  have HB1 := Lib.hid (HB0.out.trans (hb.mono (Nat.le_of_lt HZ.out)))
  have hp1 := Lib.hid (Nat.lt_of_lt_of_le HZ.out hb.size)
  clear c0 c1 c2 c3 c4 c5 c6 c7 hb HC HB0 HZ
  have q0 : w1.cell? ⟨Q, 0, none⟩ = some (.func (.func 42) #[] #[.pointer (some ⟨I, 0, none⟩)]) := hq 0 (by decide)
  have q1 : w1.cell? ⟨Q, 1, none⟩ = some (.func (.func 43) #[] #[.pointer (some ⟨P, 0, none⟩)]) := hq 1 (by decide)
  have q2 : w1.cell? ⟨Q, 2, none⟩ = some (.func (.func 44) #[] #[.pointer (some ⟨P, 0, none⟩)]) := hq 2 (by decide)
  have q3 : w1.cell? ⟨Q, 3, none⟩ = some (.func (.func 45) #[] #[.pointer (some ⟨P, 0, none⟩)]) := hq 3 (by decide)
  have q4 : w1.cell? ⟨Q, 4, none⟩ = some (.func (.func 46) #[] #[.pointer (some ⟨P, 0, none⟩), .pointer (some ⟨T, 0, none⟩)]) := hq 4 (by decide)
  have q5 : w1.cell? ⟨Q, 5, none⟩ = some (.func (.func 47) #[] #[.pointer (some ⟨P, 0, none⟩)]) := hq 5 (by decide)
  have q6 : w1.cell? ⟨Q, 6, none⟩ = some (.func (.func 49) #[] #[.pointer (some ⟨P, 0, none⟩)]) := hq 6 (by decide)
  have HC2 := Lib.hid hc1
  have HI := Lib.hid hi
  have HT := Lib.hid ht
  clear hq hc1 hi ht
  refine wp_loop_rounds 2 ?_
  rw [rounds_succ]
  go_wp2_with (go_at_call 42; refine (may1 I (isL l) _ HI.out).mono ?_; rintro e w2 ⟨rfl, rfl⟩; rw [E0.out])
  rw [rounds_succ]
  go_wp2_with (go_at_call 43; refine (may2 HC2.out).mono ?_; rintro e w3 ⟨rfl, rfl⟩; rw [E1.out])
  go_returns
  exact ⟨rfl, HB1.out⟩

set_option maxRecDepth 100000 in
set_option maxHeartbeats 4000000 in
theorem make_no2 (l ch : Int) (ra : Option Addr) (n rc : Nat) (ram : Int) (ti : ByteArray) (rs : Int) (fa : Bool) (sa : Option Addr) (sn sc : Nat) (w : World) (l0 : 0 ≤ l) (l1 : l ≤ 255) (hs : ti.size ≤ 9223372036854775807) (e0 : (!(isL l)) = false) (e1 : decide (2 < ch) = false) (e2 : decide (sizeR ram = 255) = true) :
    Calls Tryd.prog 19 #[.agg #[.int .u8 l, .int .u8 ch, .slice ra n rc, .int .i64 ram, .string ti, .int .u16 rs, .bool fa, .slice sa sn sc]] w fun e w' => e = .returned (.tuple #[.slice none 0 0, .int .i64 2]) ∧ Below w.heap.size w w' := by
  have E0 := Lib.hid e0
  have E1 := Lib.hid e1
  have E2 := Lib.hid e2
  clear e0 e1 e2
  go_enter Tryd.func19, Tryd.ntmps19
  go_upto_region 1 with fail
  obtain ⟨wB, hwB⟩ : ∃ wB, w.alloc (.cells #[.int .u8 l, .int .u8 ch, .slice ra n rc, .int .i64 ram, .string ti, .int .u16 rs, .bool fa, .slice sa sn sc] 36) = wB := ⟨_, rfl⟩
  have hC : CartAt wB w.heap.size l ch (.slice ra n rc) ram ti rs fa (.slice sa sn sc) := by
    rw [← hwB]
    exact ⟨by simp [go_sem], by simp [go_sem], by simp [go_sem], by simp [go_sem], by simp [go_sem], by simp [go_sem], by simp [go_sem], by simp [go_sem]⟩
  have hb0 : Below w.heap.size w wB := by rw [← hwB]; exact (Below.refl _ w).alloc (Nat.le_refl _) _
  have hz : w.heap.size < wB.heap.size := by rw [← hwB]; simp
  have c0 := hC.c0
  have c1 := hC.c1
  have c2 := hC.c2
  have c3 := hC.c3
  have c4 := hC.c4
  have c5 := hC.c5
  have c6 := hC.c6
  have c7 := hC.c7
  rw [hwB]
  have HC := Lib.hid hC
  have HB0 := Lib.hid hb0
  have HZ := Lib.hid hz
  clear hwB hC hb0 hz
  go_upto_region 2 with (go_at_call 32; refine (mayNot_walk l ch ra n rc ram ti rs fa sa sn sc wB l0 l1).mono ?_; rintro e w1 ⟨P, T, I, Q, rfl, hc1, hi, ht, hq, hb⟩)
  have HC1 := Lib.hid (HC.out.keep hb HZ.out)
  have HB1 := Lib.hid (HB0.out.trans (hb.mono (Nat.le_of_lt HZ.out)))
  have hp1 := Lib.hid (Nat.lt_of_lt_of_le HZ.out hb.size)
  clear c0 c1 c2 c3 c4 c5 c6 c7 hb HC HB0 HZ
  have q0 : w1.cell? ⟨Q, 0, none⟩ = some (.func (.func 42) #[] #[.pointer (some ⟨I, 0, none⟩)]) := hq 0 (by decide)
  have q1 : w1.cell? ⟨Q, 1, none⟩ = some (.func (.func 43) #[] #[.pointer (some ⟨P, 0, none⟩)]) := hq 1 (by decide)
  have q2 : w1.cell? ⟨Q, 2, none⟩ = some (.func (.func 44) #[] #[.pointer (some ⟨P, 0, none⟩)]) := hq 2 (by decide)
  have q3 : w1.cell? ⟨Q, 3, none⟩ = some (.func (.func 45) #[] #[.pointer (some ⟨P, 0, none⟩)]) := hq 3 (by decide)
  have q4 : w1.cell? ⟨Q, 4, none⟩ = some (.func (.func 46) #[] #[.pointer (some ⟨P, 0, none⟩), .pointer (some ⟨T, 0, none⟩)]) := hq 4 (by decide)
  have q5 : w1.cell? ⟨Q, 5, none⟩ = some (.func (.func 47) #[] #[.pointer (some ⟨P, 0, none⟩)]) := hq 5 (by decide)
  have q6 : w1.cell? ⟨Q, 6, none⟩ = some (.func (.func 49) #[] #[.pointer (some ⟨P, 0, none⟩)]) := hq 6 (by decide)
  have HC2 := Lib.hid hc1
  have HI := Lib.hid hi
  have HT := Lib.hid ht
  clear hq hc1 hi ht
  refine wp_loop_rounds 3 ?_
  rw [rounds_succ]
  go_wp2_with (go_at_call 42; refine (may1 I (isL l) _ HI.out).mono ?_; rintro e w2 ⟨rfl, rfl⟩; rw [E0.out])
  rw [rounds_succ]
  go_wp2_with (go_at_call 43; refine (may2 HC2.out).mono ?_; rintro e w3 ⟨rfl, rfl⟩; rw [E1.out])
  rw [rounds_succ]
  go_wp2_with (go_at_call 44; refine (may3 HC2.out).mono ?_; rintro e w4 ⟨rfl, rfl⟩; rw [E2.out])
  go_returns
  exact ⟨rfl, HB1.out⟩

set_option maxRecDepth 100000 in
set_option maxHeartbeats 4000000 in
theorem make_no3 (l ch : Int) (ra : Option Addr) (n rc : Nat) (ram : Int) (ti : ByteArray) (rs : Int) (fa : Bool) (sa : Option Addr) (sn sc : Nat) (w : World) (l0 : 0 ≤ l) (l1 : l ≤ 255) (hs : ti.size ≤ 9223372036854775807) (e0 : (!(isL l)) = false) (e1 : decide (2 < ch) = false) (e2 : decide (sizeR ram = 255) = false) (e3 : badLen n = true) :
    Calls Tryd.prog 19 #[.agg #[.int .u8 l, .int .u8 ch, .slice ra n rc, .int .i64 ram, .string ti, .int .u16 rs, .bool fa, .slice sa sn sc]] w fun e w' => e = .returned (.tuple #[.slice none 0 0, .int .i64 2]) ∧ Below w.heap.size w w' := by
  have E0 := Lib.hid e0
  have E1 := Lib.hid e1
  have E2 := Lib.hid e2
  have E3 := Lib.hid e3
  clear e0 e1 e2 e3
  go_enter Tryd.func19, Tryd.ntmps19
  go_upto_region 1 with fail
  obtain ⟨wB, hwB⟩ : ∃ wB, w.alloc (.cells #[.int .u8 l, .int .u8 ch, .slice ra n rc, .int .i64 ram, .string ti, .int .u16 rs, .bool fa, .slice sa sn sc] 36) = wB := ⟨_, rfl⟩
  have hC : CartAt wB w.heap.size l ch (.slice ra n rc) ram ti rs fa (.slice sa sn sc) := by
    rw [← hwB]
    exact ⟨by simp [go_sem], by simp [go_sem], by simp [go_sem], by simp [go_sem], by simp [go_sem], by simp [go_sem], by simp [go_sem], by simp [go_sem]⟩
  have hb0 : Below w.heap.size w wB := by rw [← hwB]; exact (Below.refl _ w).alloc (Nat.le_refl _) _
  have hz : w.heap.size < wB.heap.size := by rw [← hwB]; simp
  have c0 := hC.c0
  have c1 := hC.c1
  have c2 := hC.c2
  have c3 := hC.c3
  have c4 := hC.c4
  have c5 := hC.c5
  have c6 := hC.c6
  have c7 := hC.c7
  rw [hwB]
  have HC := Lib.hid hC
  have HB0 := Lib.hid hb0
  have HZ := Lib.hid hz
  clear hwB hC hb0 hz
  go_upto_region 2 with (go_at_call 32; refine (mayNot_walk l ch ra n rc ram ti rs fa sa sn sc wB l0 l1).mono ?_; rintro e w1 ⟨P, T, I, Q, rfl, hc1, hi, ht, hq, hb⟩)
  have HC1 := Lib.hid (HC.out.keep hb HZ.out)
  have HB1 := Lib.hid (HB0.out.trans (hb.mono (Nat.le_of_lt HZ.out)))
  have hp1 := Lib.hid (Nat.lt_of_lt_of_le HZ.out hb.size)
  clear c0 c1 c2 c3 c4 c5 c6 c7 hb HC HB0 HZ
  have q0 : w1.cell? ⟨Q, 0, none⟩ = some (.func (.func 42) #[] #[.pointer (some ⟨I, 0, none⟩)]) := hq 0 (by decide)
  have q1 : w1.cell? ⟨Q, 1, none⟩ = some (.func (.func 43) #[] #[.pointer (some ⟨P, 0, none⟩)]) := hq 1 (by decide)
  have q2 : w1.cell? ⟨Q, 2, none⟩ = some (.func (.func 44) #[] #[.pointer (some ⟨P, 0, none⟩)]) := hq 2 (by decide)
  have q3 : w1.cell? ⟨Q, 3, none⟩ = some (.func (.func 45) #[] #[.pointer (some ⟨P, 0, none⟩)]) := hq 3 (by decide)
  have q4 : w1.cell? ⟨Q, 4, none⟩ = some (.func (.func 46) #[] #[.pointer (some ⟨P, 0, none⟩), .pointer (some ⟨T, 0, none⟩)]) := hq 4 (by decide)
  have q5 : w1.cell? ⟨Q, 5, none⟩ = some (.func (.func 47) #[] #[.pointer (some ⟨P, 0, none⟩)]) := hq 5 (by decide)
  have q6 : w1.cell? ⟨Q, 6, none⟩ = some (.func (.func 49) #[] #[.pointer (some ⟨P, 0, none⟩)]) := hq 6 (by decide)
  have HC2 := Lib.hid hc1
  have HI := Lib.hid hi
  have HT := Lib.hid ht
  clear hq hc1 hi ht
  refine wp_loop_rounds 4 ?_
  rw [rounds_succ]
  go_wp2_with (go_at_call 42; refine (may1 I (isL l) _ HI.out).mono ?_; rintro e w2 ⟨rfl, rfl⟩; rw [E0.out])
  rw [rounds_succ]
  go_wp2_with (go_at_call 43; refine (may2 HC2.out).mono ?_; rintro e w3 ⟨rfl, rfl⟩; rw [E1.out])
  rw [rounds_succ]
  go_wp2_with (go_at_call 44; refine (may3 HC2.out).mono ?_; rintro e w4 ⟨rfl, rfl⟩; rw [E2.out])
  rw [rounds_succ]
  go_wp2_with (go_at_call 45; refine (may4 HC2.out).mono ?_; rintro e w5 ⟨rfl, rfl⟩; rw [E3.out])
  go_returns
  exact ⟨rfl, HB1.out⟩

set_option maxRecDepth 100000 in
set_option maxHeartbeats 4000000 in
theorem make_no4 (l ch : Int) (ra : Option Addr) (n rc : Nat) (ram : Int) (ti : ByteArray) (rs : Int) (fa : Bool) (sa : Option Addr) (sn sc : Nat) (w : World) (l0 : 0 ≤ l) (l1 : l ≤ 255) (hs : ti.size ≤ 9223372036854775807) (e0 : (!(isL l)) = false) (e1 : decide (2 < ch) = false) (e2 : decide (sizeR ram = 255) = false) (e3 : badLen n = false) (e4 : decide ((n : Int) < placeN l + 64) = true) :
    Calls Tryd.prog 19 #[.agg #[.int .u8 l, .int .u8 ch, .slice ra n rc, .int .i64 ram, .string ti, .int .u16 rs, .bool fa, .slice sa sn sc]] w fun e w' => e = .returned (.tuple #[.slice none 0 0, .int .i64 2]) ∧ Below w.heap.size w w' := by
  have E0 := Lib.hid e0
  have E1 := Lib.hid e1
  have E2 := Lib.hid e2
  have E3 := Lib.hid e3
  have E4 := Lib.hid e4
  clear e0 e1 e2 e3 e4
  go_enter Tryd.func19, Tryd.ntmps19
  go_upto_region 1 with fail
  obtain ⟨wB, hwB⟩ : ∃ wB, w.alloc (.cells #[.int .u8 l, .int .u8 ch, .slice ra n rc, .int .i64 ram, .string ti, .int .u16 rs, .bool fa, .slice sa sn sc] 36) = wB := ⟨_, rfl⟩
  have hC : CartAt wB w.heap.size l ch (.slice ra n rc) ram ti rs fa (.slice sa sn sc) := by
    rw [← hwB]
    exact ⟨by simp [go_sem], by simp [go_sem], by simp [go_sem], by simp [go_sem], by simp [go_sem], by simp [go_sem], by simp [go_sem], by simp [go_sem]⟩
  have hb0 : Below w.heap.size w wB := by rw [← hwB]; exact (Below.refl _ w).alloc (Nat.le_refl _) _
  have hz : w.heap.size < wB.heap.size := by rw [← hwB]; simp
  have c0 := hC.c0
  have c1 := hC.c1
  have c2 := hC.c2
  have c3 := hC.c3
  have c4 := hC.c4
  have c5 := hC.c5
  have c6 := hC.c6
  have c7 := hC.c7
  rw [hwB]
  have HC := Lib.hid hC
  have HB0 := Lib.hid hb0
  have HZ := Lib.hid hz
  clear hwB hC hb0 hz
  go_upto_region 2 with (go_at_call 32; refine (mayNot_walk l ch ra n rc ram ti rs fa sa sn sc wB l0 l1).mono ?_; rintro e w1 ⟨P, T, I, Q, rfl, hc1, hi, ht, hq, hb⟩)
  have HC1 := Lib.hid (HC.out.keep hb HZ.out)
  have HB1 := Lib.hid (HB0.out.trans (hb.mono (Nat.le_of_lt HZ.out)))
  have hp1 := Lib.hid (Nat.lt_of_lt_of_le HZ.out hb.size)
  clear c0 c1 c2 c3 c4 c5 c6 c7 hb HC HB0 HZ
  have q0 : w1.cell? ⟨Q, 0, none⟩ = some (.func (.func 42) #[] #[.pointer (some ⟨I, 0, none⟩)]) := hq 0 (by decide)
  have q1 : w1.cell? ⟨Q, 1, none⟩ = some (.func (.func 43) #[] #[.pointer (some ⟨P, 0, none⟩)]) := hq 1 (by decide)
  have q2 : w1.cell? ⟨Q, 2, none⟩ = some (.func (.func 44) #[] #[.pointer (some ⟨P, 0, none⟩)]) := hq 2 (by decide)
  have q3 : w1.cell? ⟨Q, 3, none⟩ = some (.func (.func 45) #[] #[.pointer (some ⟨P, 0, none⟩)]) := hq 3 (by decide)
  have q4 : w1.cell? ⟨Q, 4, none⟩ = some (.func (.func 46) #[] #[.pointer (some ⟨P, 0, none⟩), .pointer (some ⟨T, 0, none⟩)]) := hq 4 (by decide)
  have q5 : w1.cell? ⟨Q, 5, none⟩ = some (.func (.func 47) #[] #[.pointer (some ⟨P, 0, none⟩)]) := hq 5 (by decide)
  have q6 : w1.cell? ⟨Q, 6, none⟩ = some (.func (.func 49) #[] #[.pointer (some ⟨P, 0, none⟩)]) := hq 6 (by decide)
  have HC2 := Lib.hid hc1
  have HI := Lib.hid hi
  have HT := Lib.hid ht
  clear hq hc1 hi ht
  refine wp_loop_rounds 5 ?_
  rw [rounds_succ]
  go_wp2_with (go_at_call 42; refine (may1 I (isL l) _ HI.out).mono ?_; rintro e w2 ⟨rfl, rfl⟩; rw [E0.out])
  rw [rounds_succ]
  go_wp2_with (go_at_call 43; refine (may2 HC2.out).mono ?_; rintro e w3 ⟨rfl, rfl⟩; rw [E1.out])
  rw [rounds_succ]
  go_wp2_with (go_at_call 44; refine (may3 HC2.out).mono ?_; rintro e w4 ⟨rfl, rfl⟩; rw [E2.out])
  rw [rounds_succ]
  go_wp2_with (go_at_call 45; refine (may4 HC2.out).mono ?_; rintro e w5 ⟨rfl, rfl⟩; rw [E3.out])
  rw [rounds_succ]
  go_wp2_with (go_at_call 46; refine (may5 T (placeN l) (placeM_bounds l).1 (placeM_bounds l).2 HC2.out HT.out).mono ?_; rintro e w6 ⟨rfl, rfl⟩; rw [E4.out])
  go_returns
  exact ⟨rfl, HB1.out⟩

set_option maxRecDepth 100000 in
set_option maxHeartbeats 4000000 in
theorem make_no5 (l ch : Int) (ra : Option Addr) (n rc : Nat) (ram : Int) (ti : ByteArray) (rs : Int) (fa : Bool) (sa : Option Addr) (sn sc : Nat) (w : World) (l0 : 0 ≤ l) (l1 : l ≤ 255) (hs : ti.size ≤ 9223372036854775807) (e0 : (!(isL l)) = false) (e1 : decide (2 < ch) = false) (e2 : decide (sizeR ram = 255) = false) (e3 : badLen n = false) (e4 : decide ((n : Int) < placeN l + 64) = false) (e5 : badName ti = true) :
    Calls Tryd.prog 19 #[.agg #[.int .u8 l, .int .u8 ch, .slice ra n rc, .int .i64 ram, .string ti, .int .u16 rs, .bool fa, .slice sa sn sc]] w fun e w' => e = .returned (.tuple #[.slice none 0 0, .int .i64 2]) ∧ Below w.heap.size w w' := by
  have E0 := Lib.hid e0
  have E1 := Lib.hid e1
  have E2 := Lib.hid e2
  have E3 := Lib.hid e3
  have E4 := Lib.hid e4
  have E5 := Lib.hid e5
  clear e0 e1 e2 e3 e4 e5
  go_enter Tryd.func19, Tryd.ntmps19
  go_upto_region 1 with fail
  obtain ⟨wB, hwB⟩ : ∃ wB, w.alloc (.cells #[.int .u8 l, .int .u8 ch, .slice ra n rc, .int .i64 ram, .string ti, .int .u16 rs, .bool fa, .slice sa sn sc] 36) = wB := ⟨_, rfl⟩
  have hC : CartAt wB w.heap.size l ch (.slice ra n rc) ram ti rs fa (.slice sa sn sc) := by
    rw [← hwB]
    exact ⟨by simp [go_sem], by simp [go_sem], by simp [go_sem], by simp [go_sem], by simp [go_sem], by simp [go_sem], by simp [go_sem], by simp [go_sem]⟩
  have hb0 : Below w.heap.size w wB := by rw [← hwB]; exact (Below.refl _ w).alloc (Nat.le_refl _) _
  have hz : w.heap.size < wB.heap.size := by rw [← hwB]; simp
  have c0 := hC.c0
  have c1 := hC.c1
  have c2 := hC.c2
  have c3 := hC.c3
  have c4 := hC.c4
  have c5 := hC.c5
  have c6 := hC.c6
  have c7 := hC.c7
  rw [hwB]
  have HC := Lib.hid hC
  have HB0 := Lib.hid hb0
  have HZ := Lib.hid hz
  clear hwB hC hb0 hz
  go_upto_region 2 with (go_at_call 32; refine (mayNot_walk l ch ra n rc ram ti rs fa sa sn sc wB l0 l1).mono ?_; rintro e w1 ⟨P, T, I, Q, rfl, hc1, hi, ht, hq, hb⟩)
  have HC1 := Lib.hid (HC.out.keep hb HZ.out)
  have HB1 := Lib.hid (HB0.out.trans (hb.mono (Nat.le_of_lt HZ.out)))
  have hp1 := Lib.hid (Nat.lt_of_lt_of_le HZ.out hb.size)
  clear c0 c1 c2 c3 c4 c5 c6 c7 hb HC HB0 HZ
  have q0 : w1.cell? ⟨Q, 0, none⟩ = some (.func (.func 42) #[] #[.pointer (some ⟨I, 0, none⟩)]) := hq 0 (by decide)
  have q1 : w1.cell? ⟨Q, 1, none⟩ = some (.func (.func 43) #[] #[.pointer (some ⟨P, 0, none⟩)]) := hq 1 (by decide)
  have q2 : w1.cell? ⟨Q, 2, none⟩ = some (.func (.func 44) #[] #[.pointer (some ⟨P, 0, none⟩)]) := hq 2 (by decide)
  have q3 : w1.cell? ⟨Q, 3, none⟩ = some (.func (.func 45) #[] #[.pointer (some ⟨P, 0, none⟩)]) := hq 3 (by decide)
  have q4 : w1.cell? ⟨Q, 4, none⟩ = some (.func (.func 46) #[] #[.pointer (some ⟨P, 0, none⟩), .pointer (some ⟨T, 0, none⟩)]) := hq 4 (by decide)
  have q5 : w1.cell? ⟨Q, 5, none⟩ = some (.func (.func 47) #[] #[.pointer (some ⟨P, 0, none⟩)]) := hq 5 (by decide)
  have q6 : w1.cell? ⟨Q, 6, none⟩ = some (.func (.func 49) #[] #[.pointer (some ⟨P, 0, none⟩)]) := hq 6 (by decide)
  have HC2 := Lib.hid hc1
  have HI := Lib.hid hi
  have HT := Lib.hid ht
  clear hq hc1 hi ht
  refine wp_loop_rounds 6 ?_
  rw [rounds_succ]
  go_wp2_with (go_at_call 42; refine (may1 I (isL l) _ HI.out).mono ?_; rintro e w2 ⟨rfl, rfl⟩; rw [E0.out])
  rw [rounds_succ]
  go_wp2_with (go_at_call 43; refine (may2 HC2.out).mono ?_; rintro e w3 ⟨rfl, rfl⟩; rw [E1.out])
  rw [rounds_succ]
  go_wp2_with (go_at_call 44; refine (may3 HC2.out).mono ?_; rintro e w4 ⟨rfl, rfl⟩; rw [E2.out])
  rw [rounds_succ]
  go_wp2_with (go_at_call 45; refine (may4 HC2.out).mono ?_; rintro e w5 ⟨rfl, rfl⟩; rw [E3.out])
  rw [rounds_succ]
  go_wp2_with (go_at_call 46; refine (may5 T (placeN l) (placeM_bounds l).1 (placeM_bounds l).2 HC2.out HT.out).mono ?_; rintro e w6 ⟨rfl, rfl⟩; rw [E4.out])
  rw [rounds_succ]
  go_wp2_with (go_at_call 47; refine (may6 hs HC2.out).mono ?_; rintro e w7 ⟨rfl, rfl⟩; rw [E5.out])
  go_returns
  exact ⟨rfl, HB1.out⟩

set_option maxRecDepth 100000 in
set_option maxHeartbeats 4000000 in
theorem make_no6 (l ch : Int) (ra : Option Addr) (n rc : Nat) (ram : Int) (ti : ByteArray) (rs : Int) (fa : Bool) (sa : Option Addr) (sn sc : Nat) (w : World) (l0 : 0 ≤ l) (l1 : l ≤ 255) (hs : ti.size ≤ 9223372036854775807) (e0 : (!(isL l)) = false) (e1 : decide (2 < ch) = false) (e2 : decide (sizeR ram = 255) = false) (e3 : badLen n = false) (e4 : decide ((n : Int) < placeN l + 64) = false) (e5 : badName ti = false) (e6 : decide (rs < 32768) = true) :
    Calls Tryd.prog 19 #[.agg #[.int .u8 l, .int .u8 ch, .slice ra n rc, .int .i64 ram, .string ti, .int .u16 rs, .bool fa, .slice sa sn sc]] w fun e w' => e = .returned (.tuple #[.slice none 0 0, .int .i64 2]) ∧ Below w.heap.size w w' := by
  have E0 := Lib.hid e0
  have E1 := Lib.hid e1
  have E2 := Lib.hid e2
  have E3 := Lib.hid e3
  have E4 := Lib.hid e4
  have E5 := Lib.hid e5
  have E6 := Lib.hid e6
  clear e0 e1 e2 e3 e4 e5 e6
  go_enter Tryd.func19, Tryd.ntmps19
  go_upto_region 1 with fail
  obtain ⟨wB, hwB⟩ : ∃ wB, w.alloc (.cells #[.int .u8 l, .int .u8 ch, .slice ra n rc, .int .i64 ram, .string ti, .int .u16 rs, .bool fa, .slice sa sn sc] 36) = wB := ⟨_, rfl⟩
  have hC : CartAt wB w.heap.size l ch (.slice ra n rc) ram ti rs fa (.slice sa sn sc) := by
    rw [← hwB]
    exact ⟨by simp [go_sem], by simp [go_sem], by simp [go_sem], by simp [go_sem], by simp [go_sem], by simp [go_sem], by simp [go_sem], by simp [go_sem]⟩
  have hb0 : Below w.heap.size w wB := by rw [← hwB]; exact (Below.refl _ w).alloc (Nat.le_refl _) _
  have hz : w.heap.size < wB.heap.size := by rw [← hwB]; simp
  have c0 := hC.c0
  have c1 := hC.c1
  have c2 := hC.c2
  have c3 := hC.c3
  have c4 := hC.c4
  have c5 := hC.c5
  have c6 := hC.c6
  have c7 := hC.c7
  rw [hwB]
  have HC := Lib.hid hC
  have HB0 := Lib.hid hb0
  have HZ := Lib.hid hz
  clear hwB hC hb0 hz
  go_upto_region 2 with (go_at_call 32; refine (mayNot_walk l ch ra n rc ram ti rs fa sa sn sc wB l0 l1).mono ?_; rintro e w1 ⟨P, T, I, Q, rfl, hc1, hi, ht, hq, hb⟩)
  have HC1 := Lib.hid (HC.out.keep hb HZ.out)
  have HB1 := Lib.hid (HB0.out.trans (hb.mono (Nat.le_of_lt HZ.out)))
  have hp1 := Lib.hid (Nat.lt_of_lt_of_le HZ.out hb.size)
  clear c0 c1 c2 c3 c4 c5 c6 c7 hb HC HB0 HZ
  have q0 : w1.cell? ⟨Q, 0, none⟩ = some (.func (.func 42) #[] #[.pointer (some ⟨I, 0, none⟩)]) := hq 0 (by decide)
  have q1 : w1.cell? ⟨Q, 1, none⟩ = some (.func (.func 43) #[] #[.pointer (some ⟨P, 0, none⟩)]) := hq 1 (by decide)
  have q2 : w1.cell? ⟨Q, 2, none⟩ = some (.func (.func 44) #[] #[.pointer (some ⟨P, 0, none⟩)]) := hq 2 (by decide)
  have q3 : w1.cell? ⟨Q, 3, none⟩ = some (.func (.func 45) #[] #[.pointer (some ⟨P, 0, none⟩)]) := hq 3 (by decide)
  have q4 : w1.cell? ⟨Q, 4, none⟩ = some (.func (.func 46) #[] #[.pointer (some ⟨P, 0, none⟩), .pointer (some ⟨T, 0, none⟩)]) := hq 4 (by decide)
  have q5 : w1.cell? ⟨Q, 5, none⟩ = some (.func (.func 47) #[] #[.pointer (some ⟨P, 0, none⟩)]) := hq 5 (by decide)
  have q6 : w1.cell? ⟨Q, 6, none⟩ = some (.func (.func 49) #[] #[.pointer (some ⟨P, 0, none⟩)]) := hq 6 (by decide)
  have HC2 := Lib.hid hc1
  have HI := Lib.hid hi
  have HT := Lib.hid ht
  clear hq hc1 hi ht
  refine wp_loop_rounds 7 ?_
  rw [rounds_succ]
  go_wp2_with (go_at_call 42; refine (may1 I (isL l) _ HI.out).mono ?_; rintro e w2 ⟨rfl, rfl⟩; rw [E0.out])
  rw [rounds_succ]
  go_wp2_with (go_at_call 43; refine (may2 HC2.out).mono ?_; rintro e w3 ⟨rfl, rfl⟩; rw [E1.out])
  rw [rounds_succ]
  go_wp2_with (go_at_call 44; refine (may3 HC2.out).mono ?_; rintro e w4 ⟨rfl, rfl⟩; rw [E2.out])
  rw [rounds_succ]
  go_wp2_with (go_at_call 45; refine (may4 HC2.out).mono ?_; rintro e w5 ⟨rfl, rfl⟩; rw [E3.out])
  rw [rounds_succ]
  go_wp2_with (go_at_call 46; refine (may5 T (placeN l) (placeM_bounds l).1 (placeM_bounds l).2 HC2.out HT.out).mono ?_; rintro e w6 ⟨rfl, rfl⟩; rw [E4.out])
  rw [rounds_succ]
  go_wp2_with (go_at_call 47; refine (may6 hs HC2.out).mono ?_; rintro e w7 ⟨rfl, rfl⟩; rw [E5.out])
  rw [rounds_succ]
  go_wp2_with (go_at_call 49; refine (may7 HC2.out).mono ?_; rintro e w8 ⟨rfl, rfl⟩; rw [E6.out])
  go_returns
  exact ⟨rfl, HB1.out⟩

end Go.Proofs.YtjaeglllijafkaaDoor
