/- Two cartridges that are one; bytes written over. -/
import Derived.Test.YtjaeglllijafkaaDoorProg
import Derived.Test.YtjaeglllijafkaaDoorCartReadA
import Derived.Test.YtjaeglllijafkaaDoorSame
namespace Go.Proofs.YtjaeglllijafkaaDoor
open Go.RowKit
set_option linter.unusedVariables false
set_option linter.unusedSimpArgs false

set_option maxRecDepth 100000 in
set_option maxHeartbeats 4000000 in
theorem same_walk (C : CartR) (a1 : Option Addr) (c1 : Nat) (a2 : Option Addr) (c2 : Nat) (a3 : Option Addr) (c3 : Nat) (a4 : Option Addr) (c4 : Nat) (w : World) (h1 : Row .u8 w (.slice a1 C.rom.length c1) C.rom) (h2 : Row .u8 w (.slice a2 C.sig.length c2) C.sig) (h3 : Row .u8 w (.slice a3 C.rom.length c3) C.rom) (h4 : Row .u8 w (.slice a4 C.sig.length c4) C.sig) :
    Calls Tryd.prog 17 #[C.v (.slice a1 C.rom.length c1) (.slice a2 C.sig.length c2), C.v (.slice a3 C.rom.length c3) (.slice a4 C.sig.length c4)] w fun e w' => e = .returned (.bool true) ∧ Below w.heap.size w w' := by
  obtain ⟨l, ch, ram, ti, rs, fa, rom, sig⟩ := C
  unfold CartR.v
  simp only at *
  obtain ⟨m, hm⟩ : ∃ m, rom.length = m := ⟨_, rfl⟩
  obtain ⟨k, hk⟩ : ∃ k, sig.length = k := ⟨_, rfl⟩
  rw [hm] at h1 h3 ⊢
  rw [hk] at h2 h4 ⊢
  have H1 := Lib.hid h1
  have H2 := Lib.hid h2
  have H3 := Lib.hid h3
  have H4 := Lib.hid h4
  clear h1 h2 h3 h4 hm hk
  go_enter Tryd.func17, Tryd.ntmps17
  go_upto_region 1 with fail
  obtain ⟨wB, hwB⟩ : ∃ wB, (w.alloc (.cells #[.int .u8 l, .int .u8 ch, .slice a1 m c1, .int .i64 ram, .string ti, .int .u16 rs, .bool fa, .slice a2 k c2] 36)).alloc (.cells #[.int .u8 l, .int .u8 ch, .slice a3 m c3, .int .i64 ram, .string ti, .int .u16 rs, .bool fa, .slice a4 k c4] 36) = wB := ⟨_, rfl⟩
  have HA := Lib.hid (show CartAt wB w.heap.size l ch (.slice a1 m c1) ram ti rs fa (.slice a2 k c2) by
    rw [← hwB]
    exact (cart_boxed w l ch (.slice a1 m c1) ram ti rs fa (.slice a2 k c2)).keep ((Below.refl _ _).alloc (Nat.le_refl _) _) (by simp))
  have HB := Lib.hid (show CartAt wB (w.heap.size + 1) l ch (.slice a3 m c3) ram ti rs fa (.slice a4 k c4) by
    rw [← hwB]
    have h := cart_boxed (w.alloc (.cells #[.int .u8 l, .int .u8 ch, .slice a1 m c1, .int .i64 ram, .string ti, .int .u16 rs, .bool fa, .slice a2 k c2] 36)) l ch (.slice a3 m c3) ram ti rs fa (.slice a4 k c4)
    rwa [World.size_alloc] at h)
  have HBB := Lib.hid (show Below w.heap.size w wB by rw [← hwB]; exact ((Below.refl _ w).alloc (Nat.le_refl _) _).alloc (by simp) _)
  rw [hwB]
  clear hwB
  have x0 := HA.out.c0
  have x1 := HA.out.c1
  have x2 := HA.out.c2
  have x3 := HA.out.c3
  have x4 := HA.out.c4
  have x5 := HA.out.c5
  have x6 := HA.out.c6
  have x7 := HA.out.c7
  have y0 := HB.out.c0
  have y1 := HB.out.c1
  have y2 := HB.out.c2
  have y3 := HB.out.c3
  have y4 := HB.out.c4
  have y5 := HB.out.c5
  have y6 := HB.out.c6
  have y7 := HB.out.c7
  go_wp2_with fail
  go_at_call 15
  refine (bytes_any _ _ rom rom _ (H1.out.below HBB.out) (H3.out.below HBB.out)).mono ?_
  rintro e w1 ⟨rfl, n1, rfl⟩
  rw [eqB_refl]
  have z7 : (wB.drewN n1).cell? ⟨w.heap.size, 7, none⟩ = some (.slice a2 k c2) := x7
  have v7 : (wB.drewN n1).cell? ⟨w.heap.size + 1, 7, none⟩ = some (.slice a4 k c4) := y7
  have HBD := Lib.hid (below_drewN HBB.out n1)
  obtain ⟨wD, hwD⟩ : ∃ wD, wB.drewN n1 = wD := ⟨_, rfl⟩
  rw [hwD] at z7 v7 HBD ⊢
  clear hwD x0 x1 x2 x3 x4 x5 x6 x7 y0 y1 y2 y3 y4 y5 y6 y7
  go_wp2_with fail
  go_at_call 15
  refine (bytes_any _ _ sig sig _ (H2.out.below HBD.out) (H4.out.below HBD.out)).mono ?_
  rintro e w2 ⟨rfl, n2, rfl⟩
  rw [eqB_refl]
  go_wp2_with fail
  go_ret
  exact ⟨rfl, below_drewN HBD.out n2⟩

/-- A row that does not stand in the blocks that are written over. -/
theorem owns_but {w w' : World} {lo e s : Nat} {v : Value} {n : Nat} {xs : List Value} {q hi : Nat} (h : w.ownsRow lo e s v n xs) (hb : ∀ b, b < q ∨ hi ≤ b → w'.heap[b]? = w.heap[b]?) (hv : hi ≤ lo) : w'.ownsRow lo e s v n xs :=
  ⟨h.1, h.2.elim Or.inl (fun ⟨g, cap, cu, h1, h2, h3, r⟩ => Or.inr ⟨g, cap, cu, h1, h2, by rw [hb g (.inr (Nat.le_trans hv h2))]; exact h3, r⟩)⟩
theorem spoil_any (v : Value) (L lo hi : Nat) (xs : List Int) (w : World) (hL : L ≤ 281474976710656) (hhi : ∀ g c, v = .slice (some ⟨g, 0, none⟩) L c → g < hi)
    (ho : w.ownsRow lo 5 1 v L (xs.map (Value.int .u8))) :
    Calls Tryd.prog 16 #[v] w fun e w' => e = .returned (.tuple #[]) ∧ (∀ b, b < lo ∨ hi ≤ b → w'.heap[b]? = w.heap[b]?) ∧ Below lo w w' := by
  rcases ho.2 with ⟨rfl, hx⟩ | ⟨g, cap, cu, rfl, hg, -⟩
  · subst hx
    clear ho hhi
    clear hL
    go_enter Tryd.func16, Tryd.ntmps16
    go_upto_region 1 with fail
    refine wp_loop_rounds 1 ?_; rw [rounds_succ]
    go_wp2
    go_returns
    exact ⟨rfl, fun _ _ => rfl, Below.refl _ _⟩
  · refine (spoil_walk g cap L lo xs w hL ho).mono ?_
    rintro e w' ⟨rfl, h1, h2⟩
    exact ⟨rfl, fun b hb => h1 b (by have := hhi g cap rfl; omega), h2⟩
end Go.Proofs.YtjaeglllijafkaaDoor
