/- CartMakes: the statement's own code, walked. -/
import Derived.Test.YtjaeglllijafkaaProg
import Derived.Test.YtjaeglllijafkaaCartMakesLaw
import Derived.Deep.CutBlock
namespace Go.Proofs.Ytjaeglllijafkaa
open Go.RowKit
set_option linter.unusedVariables false
set_option linter.unusedSimpArgs false

theorem Row.drew {k : IntKind} {w : World} {v : Value} {xs : List Int} (h : Row k w v xs) : Row k w.drew v xs := h
/-- A row that does not stand in the block that is written over. -/
theorem Row.but {w w' : World} {lo : Nat} {e : TypeId} {v : Value} {n : Nat} {xs : List Int} {q hi : Nat} (h : w.ownsRow lo e 1 v n (xs.map (Value.int .u8))) (hb : ∀ b, b < q ∨ hi ≤ b → w'.heap[b]? = w.heap[b]?) (hv : ∀ g c, v = .slice (some ⟨g, 0, none⟩) n c → g < q ∨ hi ≤ g) : Row .u8 w' v xs := by
  refine (Row.owned (w := w') (base := lo) (e := e) (n := n) ⟨h.1, h.2.elim Or.inl (fun ⟨g, cap, cu, h1, h2, h3, r⟩ => Or.inr ⟨g, cap, cu, h1, h2, ?_, r⟩)⟩).1
  rw [hb g (hv g cap h1)]; exact h3
theorem owns_block {w : World} {lo : Nat} {e : TypeId} {n : Nat} {xs : List Value} {g c : Nat} (h : w.ownsRow lo e 1 (.slice (some ⟨g, 0, none⟩) n c) n xs) : lo ≤ g ∧ g < w.heap.size := h.lt g rfl

theorem owns_other {w : World} {lo e s : Nat} {v : Value} {n : Nat} {xs : List Value} (h : w.ownsRow lo e s v n xs) {p : Addr} (hp : p.block < lo) (u : Value) : (w.setCell p u).ownsRow lo e s v n xs :=
  ⟨h.1, h.2.elim Or.inl (fun ⟨g, cap, cu, h1, h2, h3, r⟩ => Or.inr ⟨g, cap, cu, h1, h2, (Below.heap_setCell w p u g (fun e => by omega)).trans h3, r⟩)⟩
theorem owns_shape {w : World} {lo e s : Nat} {v : Value} {n : Nat} {xs : List Value} (h : w.ownsRow lo e s v n xs) : ∃ a c, v = .slice a n c := by
  rcases h.2 with ⟨h1, h2⟩ | ⟨g, c, cu, h1, -⟩
  · exact ⟨none, 0, by rw [h1, h2]⟩
  · exact ⟨_, c, h1⟩
theorem owns_drewN {w : World} {lo e s : Nat} {v : Value} {n : Nat} {xs : List Value} (h : w.ownsRow lo e s v n xs) (k : Nat) : (w.drewN k).ownsRow lo e s v n xs := h
theorem cart_put {W : World} {P : Nat} {l ch : Int} {rv : Value} {ram : Int} {ti : ByteArray} {rs : Int} {fa : Bool} {sg : Value} (h : CartAt W P l ch rv ram ti rs fa sg) (u : Value) : CartAt (W.setCell ⟨P, 2, none⟩ u) P l ch u ram ti rs fa sg := by
  have ne : ∀ i, i ≠ 2 → (W.setCell ⟨P, 2, none⟩ u).cell? ⟨P, i, none⟩ = W.cell? ⟨P, i, none⟩ := fun i hi => World.cell?_setCell_other W ⟨P, 2, none⟩ ⟨P, i, none⟩ u (fun e => by injection e with _ e; exact hi e.symm)
  have h2 := h.c2
  exact ⟨(ne 0 (by decide)).trans h.c0, (ne 1 (by decide)).trans h.c1, by simp [go_sem, h2], (ne 3 (by decide)).trans h.c3, (ne 4 (by decide)).trans h.c4, (ne 5 (by decide)).trans h.c5, (ne 6 (by decide)).trans h.c6, (ne 7 (by decide)).trans h.c7⟩

theorem spoil_any (v : Value) (L lo hi : Nat) (xs : List Int) (w : World) (hL : L ≤ 281474976710656) (hhi : ∀ g c, v = .slice (some ⟨g, 0, none⟩) L c → g < hi)
    (ho : w.ownsRow lo 5 1 v L (xs.map (Value.int .u8))) :
    Calls Try.prog 11 #[v] w fun e w' => e = .returned (.tuple #[]) ∧ (∀ b, b < lo ∨ hi ≤ b → w'.heap[b]? = w.heap[b]?) ∧ Below lo w w' := by
  rcases ho.2 with ⟨rfl, hx⟩ | ⟨g, cap, cu, rfl, hg, -⟩
  · subst hx
    clear ho hhi
    clear hL
    go_enter Try.func11, Try.ntmps11
    go_upto_region 1 with fail
    refine wp_loop_rounds 1 ?_; rw [rounds_succ]
    go_wp2
    go_returns
    exact ⟨rfl, fun _ _ => rfl, Below.refl _ _⟩
  · refine (spoil_walk g cap L lo xs w hL ho).mono ?_
    rintro e w' ⟨rfl, h1, h2⟩
    exact ⟨rfl, fun b hb => h1 b (by have := hhi g cap rfl; omega), h2⟩

set_option maxRecDepth 100000 in
set_option maxHeartbeats 8000000 in
theorem walk_makes (size by_ : Int) (pv : Value) (ps : List (Int × List Int)) (l ch : Int) (r0 : Value) (ram : Int) (ti : ByteArray) (rs : Int) (fa : Bool) (sa : Option Addr) (sn sc : Nat) (w : World) (hp : Patches w pv ps) (hpf : ∀ p ∈ ps, Fits .u8 p.2) (b0 : 0 ≤ by_) (b1 : by_ ≤ 255) (l0 : 0 ≤ l) (l1 : l ≤ 255) (hs : ti.size ≤ 9223372036854775807) (rs0 : 0 ≤ rs) (rs1 : rs ≤ 65535) :
    Calls Try.prog 4 #[.agg #[.int .i64 size, .int .u8 by_, pv], .agg #[.int .u8 l, .int .u8 ch, r0, .int .i64 ram, .string ti, .int .u16 rs, .bool fa, .slice sa sn sc]] w fun e w' => e = .returned (.bool true) ∧ Below w.heap.size w w' := by
  have HP := Lib.hid hp
  have HFX := Lib.hid (imageN_fits size by_ hpf)
  have HLX := Lib.hid (imageN_length size by_ ps)
  have hle := sizeN_le size
  obtain ⟨xs, hxs⟩ : ∃ xs, imageN size by_ ps = xs := ⟨_, rfl⟩
  have HXS := Lib.hid hxs
  rw [hxs] at HFX HLX
  clear hp hpf hxs
  go_enter Try.func4, Try.ntmps4
  go_upto_region 1 with fail
  obtain ⟨wB, hwB⟩ : ∃ wB, (w.alloc (.cells #[.int .i64 size, .int .u8 by_, pv] 26)).alloc (.cells #[.int .u8 l, .int .u8 ch, r0, .int .i64 ram, .string ti, .int .u16 rs, .bool fa, .slice sa sn sc] 30) = wB := ⟨_, rfl⟩
  have p0 : wB.cell? ⟨w.heap.size, 0, none⟩ = some (.int .i64 size) := by rw [← hwB]; simp [go_sem]
  have p1 : wB.cell? ⟨w.heap.size, 1, none⟩ = some (.int .u8 by_) := by rw [← hwB]; simp [go_sem]
  have p2 : wB.cell? ⟨w.heap.size, 2, none⟩ = some pv := by rw [← hwB]; simp [go_sem]
  have hC : CartAt wB (w.heap.size + 1) l ch r0 ram ti rs fa (.slice sa sn sc) := by
    rw [← hwB]
    exact ⟨by simp [go_sem], by simp [go_sem], by simp [go_sem], by simp [go_sem], by simp [go_sem], by simp [go_sem], by simp [go_sem], by simp [go_sem]⟩
  have HBB := Lib.hid (show Below w.heap.size w wB by rw [← hwB]; exact ((Below.refl _ w).alloc (Nat.le_refl _) _).alloc (by simp) _)
  have HZB := Lib.hid (show wB.heap.size = w.heap.size + 2 by rw [← hwB]; simp)
  have F2 := Lib.hid (show wB.frozen? ⟨w.heap.size + 1, 2, none⟩ = false by rw [← hwB]; simp [go_sem])
  rw [hwB]
  obtain ⟨C, hCC⟩ : ∃ C, w.heap.size + 1 = C := ⟨_, rfl⟩
  obtain ⟨P, hPP⟩ : ∃ P, w.heap.size = P := ⟨_, rfl⟩
  rw [hCC] at hC F2 ⊢
  rw [hPP] at p0 p1 p2
  have HPP := Lib.hid hPP
  have HPC := Lib.hid (show P < wB.heap.size ∧ C < wB.heap.size ∧ P < C from by rw [HZB.out]; omega)
  have HC := Lib.hid hC
  have c2 := hC.c2
  have IM := Lib.hid (And.intro p0 (And.intro p1 p2))
  clear hwB hC hCC hPP
  rw [HPP.out]
  have f2 : wB.frozen? ⟨C, 2, none⟩ = false := F2.out
  obtain ⟨n, hn⟩ : ∃ n, sizeN size = n := ⟨_, rfl⟩
  rw [hn] at hle HLX
  have HN := Lib.hid hn
  clear hn
  go_upto_region 2 with (go_at_call 6; refine (image_any size by_ pv ps wB (HP.out.below HBB.out) b0 b1).mono ?_; rintro e w1 ⟨r1, rfl, ho, hb⟩; rw [HXS.out, HN.out] at ho; have c2 := (hb.cell (p := ⟨C, 2, none⟩) HPC.out.2.1).trans c2; have f2 := (hb.frozen (p := ⟨C, 2, none⟩) HPC.out.2.1).trans f2; obtain ⟨a1, k1, rfl⟩ := owns_shape ho)
  have hz1 := hb.size
  have HO1 := Lib.hid (owns_other ho (p := ⟨C, 2, none⟩) HPC.out.2.1 (.slice a1 n k1))
  have HC1 := Lib.hid (cart_put (HC.out.keep hb HPC.out.2.1) (.slice a1 n k1))
  have HB1 := Lib.hid ((HBB.out.trans (hb.mono (by rw [HZB.out]; omega))).setCell (p := ⟨C, 2, none⟩) (by show w.heap.size ≤ C; have := HPC.out; have := HPP.out; omega) (.slice a1 n k1))
  have HS1 := Lib.hid (show wB.heap.size ≤ (w1.setCell ⟨C, 2, none⟩ (.slice a1 n k1)).heap.size by rw [World.size_setCell]; exact hz1)
  have hne0 : ∀ i, (w1.setCell ⟨C, 2, none⟩ (.slice a1 n k1)).cell? ⟨P, i, none⟩ = w1.cell? ⟨P, i, none⟩ := fun i => World.cell?_setCell_other w1 ⟨C, 2, none⟩ ⟨P, i, none⟩ _ (fun e => by injection e with e; have := HPC.out; omega)
  have HI1 := Lib.hid (show (w1.setCell ⟨C, 2, none⟩ (.slice a1 n k1)).cell? ⟨P, 0, none⟩ = some (.int .i64 size) ∧ (w1.setCell ⟨C, 2, none⟩ (.slice a1 n k1)).cell? ⟨P, 1, none⟩ = some (.int .u8 by_) ∧ (w1.setCell ⟨C, 2, none⟩ (.slice a1 n k1)).cell? ⟨P, 2, none⟩ = some pv from
    ⟨(hne0 0).trans ((hb.cell (p := ⟨P, 0, none⟩) HPC.out.1).trans IM.out.1), (hne0 1).trans ((hb.cell (p := ⟨P, 1, none⟩) HPC.out.1).trans IM.out.2.1), (hne0 2).trans ((hb.cell (p := ⟨P, 2, none⟩) HPC.out.1).trans IM.out.2.2)⟩)
  have HF1 := Lib.hid (show (w1.setCell ⟨C, 2, none⟩ (.slice a1 n k1)).frozen? ⟨C, 2, none⟩ = false by simp [go_sem, f2])
  obtain ⟨W1, hW1⟩ : ∃ W1, w1.setCell ⟨C, 2, none⟩ (.slice a1 n k1) = W1 := ⟨_, rfl⟩
  rw [hW1] at HO1 HC1 HB1 HS1 HI1 HF1 ⊢
  have HCB := Lib.hid (show C < W1.heap.size ∧ P < W1.heap.size by have := HPC.out; have := HS1.out; omega)
  clear hW1 hne0 ho hb c2 f2 p0 p1 p2 hz1 HC IM F2 
  have c0 := HC1.out.c0
  have c1 := HC1.out.c1
  have c2 := HC1.out.c2
  have c3 := HC1.out.c3
  have c4 := HC1.out.c4
  have c5 := HC1.out.c5
  have c6 := HC1.out.c6
  have c7 := HC1.out.c7
  go_upto_region 3 with (go_at_call 7; refine (refMake_any l ch a1 n k1 ram ti rs fa (.slice sa sn sc) W1 l0 hs (by omega) rs0 rs1 xs (Row.owned HO1.out).1 HLX.out HFX.out).mono ?_; rintro e w2 ⟨r2, rfl, ho2, hb2⟩)
  have HC2 := Lib.hid (HC1.out.keep hb2 HCB.out.1)
  have HO2 := Lib.hid ho2
  have HR2 := Lib.hid ((Row.owned HO1.out).1.below hb2)
  have HB2 := Lib.hid (HB1.out.trans (hb2.mono HB1.out.size))
  have hz2 := hb2.size
  have H2S := Lib.hid HB2.out.size
  have HCB2 := Lib.hid (show C < w2.heap.size ∧ P < w2.heap.size by have := HCB.out; omega)
  have HI2 := Lib.hid (And.intro ((hb2.cell (p := ⟨P, 0, none⟩) HCB.out.2).trans HI1.out.1) (And.intro ((hb2.cell (p := ⟨P, 1, none⟩) HCB.out.2).trans HI1.out.2.1) ((hb2.cell (p := ⟨P, 2, none⟩) HCB.out.2).trans HI1.out.2.2)))
  have HF2 := Lib.hid ((hb2.frozen (p := ⟨C, 2, none⟩) HCB.out.1).trans HF1.out)
  clear c0 c1 c2 c3 c4 c5 c6 c7 ho2 hb2 hz2 HC1 HO1 HB1 HI1 HF1 HS1
  have c2 := HC2.out.c2
  have f2 := HF2.out
  go_upto_region 4 with (go_at_call 8; refine (copy_any (.slice a1 n k1) xs _ HR2.out (by have := HLX.out; omega)).mono ?_; rintro e w3 ⟨r3, rfl, ho3, hb3⟩; have c2 := (hb3.cell (p := ⟨C, 2, none⟩) HCB2.out.1).trans c2; have f2 := (hb3.frozen (p := ⟨C, 2, none⟩) HCB2.out.1).trans f2)
  rw [HLX.out] at ho3
  obtain ⟨a3, k3, rfl⟩ := owns_shape ho3
  go_upto_region 5 with fail
  have ho4 := owns_other ho3 (p := ⟨C, 2, none⟩) HCB2.out.1 (.slice a3 n k3)
  have HC4 := Lib.hid (cart_put (HC2.out.keep hb3 HCB2.out.1) (.slice a3 n k3))
  have hb4 : Below w2.heap.size w2 w3 := hb3
  have HB4 := Lib.hid ((HB2.out.trans (hb3.mono HB2.out.size)).setCell (p := ⟨C, 2, none⟩) (by show w.heap.size ≤ C; have := HPC.out; have := HPP.out; omega) (.slice a3 n k3))
  have HO4 := Lib.hid ho4
  have HO24 := Lib.hid (owns_other (owns_below HO2.out hb3) (p := ⟨C, 2, none⟩) HCB.out.1 (.slice a3 n k3))
  have HG2 := Lib.hid (show ∀ g c, r2 = .slice (some ⟨g, 0, none⟩) (outN l ch n ram ti rs fa xs).length c → g < w2.heap.size from fun g c h => by
    have h2 := HO2.out; rw [h] at h2; exact (h2.lt g rfl).2)
  have HG3 := Lib.hid (show ∀ g c, Value.slice a3 n k3 = .slice (some ⟨g, 0, none⟩) n c → g < w3.heap.size from fun g c h => by
    have h2 := ho3; rw [h] at h2; exact (h2.lt g rfl).2)
  have hz3 := hb3.size
  have hne0 : ∀ i, (w3.setCell ⟨C, 2, none⟩ (.slice a3 n k3)).cell? ⟨P, i, none⟩ = w3.cell? ⟨P, i, none⟩ := fun i => World.cell?_setCell_other w3 ⟨C, 2, none⟩ ⟨P, i, none⟩ _ (fun e => by injection e with e; have := HPC.out; omega)
  have HI4 := Lib.hid (show (w3.setCell ⟨C, 2, none⟩ (.slice a3 n k3)).cell? ⟨P, 0, none⟩ = some (.int .i64 size) ∧ (w3.setCell ⟨C, 2, none⟩ (.slice a3 n k3)).cell? ⟨P, 1, none⟩ = some (.int .u8 by_) ∧ (w3.setCell ⟨C, 2, none⟩ (.slice a3 n k3)).cell? ⟨P, 2, none⟩ = some pv from
    ⟨(hne0 0).trans ((hb3.cell (p := ⟨P, 0, none⟩) HCB2.out.2).trans HI2.out.1), (hne0 1).trans ((hb3.cell (p := ⟨P, 1, none⟩) HCB2.out.2).trans HI2.out.2.1), (hne0 2).trans ((hb3.cell (p := ⟨P, 2, none⟩) HCB2.out.2).trans HI2.out.2.2)⟩)
  have HS4 := Lib.hid (show (w3.setCell ⟨C, 2, none⟩ (.slice a3 n k3)).heap.size = w3.heap.size from World.size_setCell _ _ _)
  obtain ⟨W4, hW4⟩ : ∃ W4, w3.setCell ⟨C, 2, none⟩ (.slice a3 n k3) = W4 := ⟨_, rfl⟩
  rw [hW4] at HO4 HC4 HB4 HI4 HO24 HS4 ⊢
  have HP4 := Lib.hid (show P < W4.heap.size ∧ w2.heap.size ≤ w3.heap.size from ⟨by have := HCB2.out; have := HS4.out; omega, hz3⟩)
  rw [← HS4.out] at HP4
  clear hW4 hne0 ho3 ho4 hb3 hb4 c2 f2 HC2 HO2 HR2 HB2 HI2 HF2 HCB HCB2 hz3
  have c0 := HC4.out.c0
  have c1 := HC4.out.c1
  have c2 := HC4.out.c2
  have c3 := HC4.out.c3
  have c4 := HC4.out.c4
  have c5 := HC4.out.c5
  have c6 := HC4.out.c6
  have c7 := HC4.out.c7
  go_upto_region 6 with (go_at_call 9; refine (make_any l ch a3 n k3 ram ti rs fa sa sn sc W4 l0 l1 hs rs0 rs1 xs (Row.owned HO4.out).1 HLX.out).mono ?_; rintro e w5 ⟨r5, rfl, ho5, hb5⟩)
  have HO5 := Lib.hid ho5
  have HO25 := Lib.hid (owns_below HO24.out hb5)
  have HO45 := Lib.hid (owns_below HO4.out hb5)
  have HB5 := Lib.hid (HB4.out.trans (hb5.mono HB4.out.size))
  have p0 := (hb5.cell (p := ⟨P, 0, none⟩) HP4.out.1).trans HI4.out.1
  have p1 := (hb5.cell (p := ⟨P, 1, none⟩) HP4.out.1).trans HI4.out.2.1
  have p2 := (hb5.cell (p := ⟨P, 2, none⟩) HP4.out.1).trans HI4.out.2.2
  have HPA5 := Lib.hid (HP.out.below HB5.out)
  have HZ5 := Lib.hid hb5.size
  obtain ⟨ou, hou⟩ : ∃ ou, outN l ch n ram ti rs fa xs = ou := ⟨_, rfl⟩
  rw [hou] at HO5 HO25 HG2
  obtain ⟨co, hco⟩ : ∃ co, codeN l ch n ram ti rs = co := ⟨_, rfl⟩
  rw [hco]
  have HOL := Lib.hid (show ou.length ≤ n by
    rw [← hou]; unfold outN; split
    · exact Nat.zero_le _
    · rw [madeN_length, HLX.out]; exact Nat.le_refl _)
  clear c0 c1 c2 c3 c4 c5 c6 c7 ho5 hb5 HO4 HO24 HB4 HI4 HC4 hou hco
  go_cut [43] (fun s43 wx => s43 = .bool false ∧ Hid (Below w5.heap.size w5 wx))
  case first =>
    go_wp2_with fail
    go_at_call 10
    refine (bytes_any r5 r2 ou ou _ (Row.owned HO5.out).1 (Row.owned HO25.out).1).mono ?_
    rintro e w6 ⟨rfl, n6, rfl⟩
    rw [eqB_refl]
    have q0 : (w5.drewN n6).cell? ⟨P, 0, none⟩ = some (.int .i64 size) := p0
    have q1 : (w5.drewN n6).cell? ⟨P, 1, none⟩ = some (.int .u8 by_) := p1
    have q2 : (w5.drewN n6).cell? ⟨P, 2, none⟩ = some pv := p2
    have HB6 := Lib.hid (below_drewN (Below.refl w5.heap.size w5) n6)
    have HPA6 : Hid (Patches (w5.drewN n6) pv ps) := Lib.hid (HPA5.out.below HB6.out)
    have HR6 := Lib.hid (show Row .u8 (w5.drewN n6) (.slice a3 n k3) xs from (Row.owned HO45.out).1)
    obtain ⟨w6, hw6⟩ : ∃ w6, w5.drewN n6 = w6 := ⟨_, rfl⟩
    rw [hw6] at q0 q1 q2 HB6 HPA6 HR6 ⊢
    clear hw6 p0 p1 p2
    go_wp2_with fail
    go_at_call 6
    refine (image_any size by_ pv ps _ HPA6.out b0 b1).mono ?_
    rintro e w7 ⟨r7, rfl, ho7, hb7⟩
    rw [HXS.out, HN.out] at ho7
    have HO7 := Lib.hid ho7
    have HB7 := Lib.hid (below_step HB6.out HB6.out.size hb7)
    have HR7 := Lib.hid (HR6.out.below hb7)
    clear ho7 hb7 q0 q1 q2
    go_wp2_with fail
    go_at_call 10
    refine (bytes_any (.slice a3 n k3) r7 xs xs _ HR7.out (Row.owned HO7.out).1).mono ?_
    rintro e w8 ⟨rfl, n8, rfl⟩
    rw [eqB_refl]
    go_wp2_with fail
    go_meet
    exact ⟨rfl, Lib.hid (below_drewN HB7.out n8)⟩
  case rest =>
    obtain ⟨rfl, hbw⟩ := hcut
    have HO5c := Lib.hid (owns_below HO5.out hbw.out)
    have HO25c := Lib.hid (owns_below HO25.out hbw.out)
    have HO45c := Lib.hid (owns_below HO45.out hbw.out)
    have HBc := Lib.hid (HB5.out.trans (hbw.out.mono HB5.out.size))
    have HZc := Lib.hid (Nat.le_trans HZ5.out hbw.out.size)
    clear hbw p0 p1 p2 HO5 HO25 HO45 HPA5
    go_wp2_with fail
    go_at_call 11
    refine (spoil_any (.slice a3 n k3) n w2.heap.size W4.heap.size xs _ (by omega) (fun g c h => by have := HG3.out g c h; have := HS4.out; omega) HO45c.out).mono ?_
    rintro e w9 ⟨rfl, hsm, hb9⟩
    have R5 := Lib.hid (Row.but HO5c.out hsm (fun b c h => by have h2 := HO5c.out; rw [h] at h2; exact .inr (h2.lt b rfl).1))
    have R2 := Lib.hid (Row.but HO25c.out hsm (fun b c h => .inl (HG2.out b c h)))
    have HB9 := Lib.hid (HBc.out.trans (hb9.mono H2S.out))
    clear hsm hb9
    go_wp2_with fail
    go_at_call 10
    refine (bytes_any r5 r2 ou ou _ R5.out R2.out).mono ?_
    rintro e w10 ⟨rfl, n10, rfl⟩
    rw [eqB_refl]
    go_wp2_with fail
    go_ret
    exact ⟨rfl, below_drewN HB9.out n10⟩
end Go.Proofs.Ytjaeglllijafkaa
