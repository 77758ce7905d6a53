/- CodesAll, walked: all codes are told, rising; the going may be left, and begun again; each name has its codes. -/
import Derived.Sort.CutIn
import Derived.Test.YtpeieilbjadcfaaDoorCodesRefNamed
import Derived.Test.YtpeieilbjadcfaaDoorCodesAwake
import Derived.Test.YtpeieilbjadcfaaDoorCodesSame
namespace Go.Proofs.YtpeieilbjadcfaaDoor
open Go.RowKit Go.Shelf
set_option linter.unusedVariables false
set_option linter.unusedSimpArgs false
attribute [local go_sem] Oper.semAt_some

theorem keeps_below {W W' : World} (h : Below W.heap.size W W') : KeepsOthers W W' := ⟨h.size, fun i o hi _ => (h.block i (Array.getElem?_eq_some_iff.1 hi).1).trans hi⟩
theorem boxed_below {W W' : World} {B n : Nat} {t : TypeId} {v : Value} (h : Boxed W B t v) (hb : Below n W W') (hB : B < n) : Boxed W' B t v := (hb.block B hB).trans h
/-- The codes rise from nought. -/
def RiseC (pre : List (Fin 256)) : Prop := ∀ i (x : Fin 256), pre[i]? = some x → x.1 = i
theorem riseC_nil : RiseC [] := fun i x h => by simp at h
theorem riseC_snoc {pre : List (Fin 256)} (h : RiseC pre) {x : Fin 256} (hx : x.1 = pre.length) : RiseC (pre ++ [x]) := by
  intro i y hy
  rcases Nat.lt_or_ge i pre.length with hi | hi
  · rw [List.getElem?_append_left hi] at hy; exact h i y hy
  · rw [List.getElem?_append_right hi] at hy
    rcases Nat.eq_zero_or_pos (i - pre.length) with h0 | h0
    · rw [h0] at hy
      have : y = x := by simpa using hy.symm
      rw [this, hx]; omega
    · rw [List.getElem?_eq_none (by simp; omega)] at hy; cases hy
theorem riseC_first (k : Nat) (h : k ≤ 256) : RiseC (firstC k h) := by
  induction k with
  | zero => exact riseC_nil
  | succ k ih => exact riseC_snoc (ih (by omega)) (firstC_length _ _).symm
/-- What lies between two rounds of the first going. -/
def GoI (w : World) (stop : Int) (b c : Nat) (pre : List (Fin 256)) (W : World) : Prop :=
  (RiseC pre ∧ Boxed W w.heap.size 3 (.int .i64 stop) ∧ (∃ r, Boxed W (w.heap.size + 1) 4 (.bool r)) ∧ Boxed W (w.heap.size + 1 + 1) 3 (.int .i64 (pre.length : Nat))) ∧ Below w.heap.size w W
theorem goI_own (w : World) (stop : Int) (b c B : Nat) (hB : w.heap.size ≤ B) : OwnFrom B (GoI w stop b c) := by
  refine OwnFrom.and (Own.from ?_ _) (ownFrom_below (Nat.le_refl _) hB)
  rintro pre X Y row ⟨h0, h1, ⟨r, h2⟩, h3⟩ hg hr
  exact ⟨h0, boxed_kept h1 hg hr, ⟨r, boxed_kept h2 hg hr⟩, boxed_kept h3 hg hr⟩
/-- What lies behind a round that leaves: the going stopped where it was to, or a code came out of turn. -/
def GoX (w : World) (stop : Int) (b c : Nat) (d : Code) (pre : List (Fin 256)) (W : World) : Prop :=
  (d = .exit 0 ∧ (pre.length : Int) = stop ∧ GoI w stop b c pre W) ∨ (d = .ret ∧ ¬ RiseC pre)
theorem goX_own (w : World) (stop : Int) (b c : Nat) (d : Code) (B : Nat) (hB : w.heap.size ≤ B) : OwnFrom B (GoX w stop b c d) := by
  rintro pre X Y row (⟨h0, h1, h2⟩ | h) hg hr
  · exact .inl ⟨h0, h1, goI_own w stop b c B hB pre X Y row h2 hg hr⟩
  · exact .inr h
/-- A round's frame. -/
def GoA (w : World) (name : ByteArray) (stop : Int) (x : Fin 256) (a : Act) (W : World) : Prop :=
  ∃ B, a = { tmps := #[Value.string name, .int .i64 stop, undef, .pointer (some ⟨w.heap.size, 0, none⟩), .pointer (some ⟨w.heap.size + 1, 0, none⟩), .func (.func 30) #[] #[], .pointer (some ⟨w.heap.size + 1 + 1, 0, none⟩), .pointer (some ⟨B, 0, none⟩), undef, undef, undef, undef, .func (.func 30) #[] #[], .func (.func 30) #[] #[], .bool false, .func (.func 30) #[] #[], .agg #[.int .u8 (x.1 : Nat), .string (nameB x.1), .int .u8 (modeN x.1), .int .u8 (useN x.1), .int .u8 (widthN x.1)], undef, undef, undef, undef, undef, undef, undef, undef, undef, undef, undef, undef, undef, undef, undef, undef, undef, undef, undef, undef, undef, undef, undef, undef, undef, undef, undef, undef, undef, undef, undef, undef, undef, undef, undef, undef, undef, undef, undef, undef, undef, undef, undef, undef, undef, undef, undef, undef, undef, undef, undef, undef, undef, undef, undef, undef, undef, undef, undef, undef], defers := [] } ∧ CodeBox W B x.1
theorem goA_own (w : World) (name : ByteArray) (stop : Int) (x : Fin 256) (a : Act) (B : Nat) : OwnFrom B (fun (_ : Unit) W => GoA w name stop x a W) := by
  intro _ X Y row hs hg hr
  obtain ⟨K, e, h⟩ := hs
  exact ⟨K, e, h.kept hg (fun r e => (hr r e).2)⟩
/-- A round's frame, the second going. -/
def GoB (w : World) (name : ByteArray) (stop : Int) (u31 u32 u33 u34 u35 u36 : Value) (x : Fin 256) (a : Act) (W : World) : Prop :=
  ∃ B, a = { tmps := #[Value.string name, .int .i64 stop, undef, .pointer (some ⟨w.heap.size, 0, none⟩), .pointer (some ⟨w.heap.size + 1, 0, none⟩), .func (.func 30) #[] #[], .pointer (some ⟨w.heap.size + 1 + 1, 0, none⟩), undef, .pointer (some ⟨B, 0, none⟩), undef, undef, undef, .func (.func 30) #[] #[], .func (.func 30) #[] #[], .bool false, .func (.func 30) #[] #[], undef, undef, undef, undef, undef, undef, undef, undef, undef, undef, undef, undef, undef, undef, undef, u31, u32, u33, u34, u35, u36, .bool false, .func (.func 30) #[] #[], .agg #[.int .u8 (x.1 : Nat), .string (nameB x.1), .int .u8 (modeN x.1), .int .u8 (useN x.1), .int .u8 (widthN x.1)], undef, undef, undef, undef, undef, undef, undef, undef, undef, undef, undef, undef, undef, undef, undef, undef, undef, undef, undef, undef, undef, undef, undef, undef, undef, undef, undef, undef, undef, undef, undef, undef, undef, undef, undef, undef, undef], defers := [] } ∧ CodeBox W B x.1
theorem goB_own (w : World) (name : ByteArray) (stop : Int) (u31 u32 u33 u34 u35 u36 : Value) (x : Fin 256) (a : Act) (B : Nat) : OwnFrom B (fun (_ : Unit) W => GoB w name stop u31 u32 u33 u34 u35 u36 x a W) := by
  intro _ X Y row hs hg hr
  obtain ⟨K, e, h⟩ := hs
  exact ⟨K, e, h.kept hg (fun r e => (hr r e).2)⟩
/-- What lies between two rounds of the second going. -/
def GoJ (w : World) (stop : Int) (D : Nat) (pre : List (Fin 256)) (W : World) : Prop := GoI w stop 0 0 pre W ∧ W.heap[D]? = some (.deferred (some []))
theorem goJ_own (w : World) (stop : Int) (D B : Nat) (hB : w.heap.size ≤ B) (hD : D < B) : OwnFrom B (GoJ w stop D) := by
  rintro pre X Y row ⟨h0, h1⟩ hg hr
  refine ⟨goI_own w stop 0 0 B hB pre X Y row h0 hg hr, (hg.block D (Array.getElem?_eq_some_iff.1 h1).1 (fun e => ?_)).trans h1⟩
  have := (hr D e.symm).1
  omega
set_option maxRecDepth 100000 in
set_option maxHeartbeats 4000000 in
theorem all_law (name : ByteArray) (stop : Int) (w : World) (hs0 : -9223372036854775808 ≤ stop) (hs1 : stop ≤ 9223372036854775807) (hL : Laid w) :
    Calls Tryd.prog 6 #[.string name, .int .i64 stop] w fun e w' => e = .returned (.bool true) ∧ Below w.heap.size w w' := by
  have hnf : ∀ W, (binOp BinOp.eql 38 (.func (.func 30) #[] #[]) .nilFunc).run Tryd.prog W = .ok (.bool false) W := fun W => by kernel_rfl
  refine (callsIn_wide (n := 5)).1 ?_
  refine callsIn_of_wp_marks Tryd.func6 rfl trivial ?_ rfl
  simp only [Tryd.ntmps6, List.size_toArray, List.length_cons, List.length_nil, Nat.reduceAdd, Nat.reduceSub, Array.replicate_succ, Array.replicate_zero, List.push_toArray, List.append_toArray, List.nil_append, List.cons_append]
  gi_wp2_with (refine ⟨trivial, ?_⟩; gi_at_call 18; refine (all_in _ _).mono ?_; rintro e w' ⟨rfl, rfl⟩)
  obtain ⟨W0, hW0⟩ : ∃ W0, (((w.alloc (.cells #[.int .i64 stop] 3)).alloc (.cells #[.bool false] 4)).alloc (.cells #[.int .i64 0] 3)) = W0 := ⟨_, rfl⟩
  have hsz : W0.heap.size = w.heap.size + 1 + 1 + 1 := by rw [← hW0]; simp
  have hI0 : Hid (GoI w stop 0 0 [] W0) := by
    rw [← hW0]
    have t1 := Boxed.new w 3 (.int .i64 stop)
    have t2 := Boxed.new (w.alloc (.cells #[.int .i64 stop] 3)) 4 (.bool false)
    have t3 := Boxed.new ((w.alloc (.cells #[.int .i64 stop] 3)).alloc (.cells #[.bool false] 4)) 3 (.int .i64 0)
    simp only [World.size_alloc] at t2 t3
    exact ⟨⟨riseC_nil, (t1.alloc _).alloc _, ⟨_, t2.alloc _⟩, t3⟩, (((Below.refl _ w).alloc (Nat.le_refl _) _).alloc (by simp) _).alloc (by simp; omega) _⟩
  rw [hW0]
  clear hW0
  rename_i Q' K hKK
  have HREST : ∀ (D k : Nat) (W : World), k ≤ 256 → (k = 256 ∨ (k : Int) = stop) → W0.heap.size ≤ D → Boxed W w.heap.size 3 (.int .i64 stop) → (∃ r, Boxed W (w.heap.size + 1) 4 (.bool r)) → Boxed W (w.heap.size + 1 + 1) 3 (.int .i64 (k : Nat)) → Below w.heap.size w W → W.heap[D]? = some (.deferred (some [])) →
      K { tmps := #[Value.string name, .int .i64 stop, undef, .pointer (some ⟨w.heap.size, 0, none⟩), .pointer (some ⟨w.heap.size + 1, 0, none⟩), .func (.func 30) #[] #[], .pointer (some ⟨w.heap.size + 1 + 1, 0, none⟩), undef, undef, undef, undef, undef, .func (.func 30) #[] #[], .func (.func 30) #[] #[], .bool false, .func (.func 30) #[] #[], undef, undef, undef, undef, undef, undef, undef, undef, undef, undef, undef, undef, undef, undef, undef, undef, undef, undef, undef, undef, undef, undef, undef, undef, undef, undef, undef, undef, undef, undef, undef, undef, undef, undef, undef, undef, undef, undef, undef, undef, undef, undef, undef, undef, undef, undef, undef, undef, undef, undef, undef, undef, undef, undef, undef, undef, undef, undef, undef, undef, undef], defers := [{ target := .collected D, args := #[] }] } W := by
    intro D k W hk hkk hD hb0 hb1 hb2 hB hdf
    obtain ⟨r1, hb1⟩ := hb1
    have k0 := hb0.cell
    have k2 := hb2.cell
    have f2 := hb2.frozen
    refine hKK _ _ ?_
    gi_upto_region 11 with fail
    dsimp only
    gi_cut [37] from 77 (fun s37 wx => s37 = .bool false ∧ wx = W)
    case first =>
      by_cases h256 : k = 256
      · have e1 : ((k : Int) != 256) = false := by rw [h256]; rfl
        clear h256 hkk
        gi_wp2_with fail
        go_meet
        exact ⟨rfl, rfl⟩
      · have hks : (k : Int) = stop := hkk.resolve_left h256
        have e1 : ((k : Int) != 256) = true := by simp; omega
        have e2 : ((k : Int) != stop) = false := by rw [hks]; simp
        clear h256 hks hkk
        gi_wp2_with fail
        go_meet
        exact ⟨rfl, rfl⟩
    case rest =>
      obtain ⟨rfl, rfl⟩ := hcut
      gi_wp2_with fail
      obtain ⟨V, hVV⟩ : ∃ V, World.setCell wc ⟨w.heap.size + 1 + 1, 0, none⟩ (.int .i64 0) = V := ⟨_, rfl⟩
      rw [hVV]
      have hJ0 : Hid (GoJ w stop D [] V) := by
        rw [← hVV]
        exact ⟨⟨⟨riseC_nil, hb0.other (by omega) _, ⟨r1, hb1.other (by omega) _⟩, hb2.set _⟩, hB.setCell (p := ⟨w.heap.size + 1 + 1, 0, none⟩) (by simp; omega) _⟩, (KeepsOthers.setCell _ _ _).same D _ hdf rfl⟩
      have hDV : D < V.heap.size := (Array.getElem?_eq_some_iff.1 hJ0.out.2).1
      have hwV : w.heap.size ≤ V.heap.size := hJ0.out.1.2.size
      clear hVV k0 k2 f2 hb0 hb1 hb2 hB hdf
      refine wpIn_rangeFunc_ownH (n := 5) rfl (by decide) (gf := 30) (lb := #[]) rfl trivial (enters_of Tryd.func30 (by kernel_rfl) rfl)
        (all1_stops (5 - 1) (by decide) V) (fun _ _ => trivial) (fun _ _ _ _ _ _ _ _ => trivial) (Below.refl _ _) (fun _ => rfl)
        (GoJ w stop D) (fun c pre _ => c = .ret ∧ ¬ RiseC pre) (goJ_own w stop D _ hwV hDV) (fun c _ _ _ _ h _ _ => h) hJ0.out (GoB w name stop u31 u32 u33 u34 u35 u36) (fun x a => goB_own w name stop u31 u32 u33 u34 u35 u36 x a _) ?assign2 ?body2 ?done2 ?stop2
      case assign2 =>
        intro l pre x W K hI hK
        unfold encC codeV
        gi_wp2
        exact hK _ _ ((KeepsOthers.alloc W _).from _) trivial ((goJ_own w stop D _ hwV hDV).alloc _ hI) ⟨_, rfl, World.alloc_heap_new W _⟩
      case body2 =>
        rintro l pre x a' W hl hlr ⟨⟨⟨hri, hb0, ⟨rv, hb1⟩, hb2⟩, hB⟩, hdf⟩ ⟨B, rfl, hbox⟩ hlt
        have d0 := hbox.cells.1
        have k2 := hb2.cell
        have f2 := hb2.frozen
        have f1 := hb1.frozen
        have k1 := hb1.cell
        have i2 : IntKind.u8.wrap ((pre.length : Nat) : Int) = ((pre.length : Nat) : Int) := wrap8 _ (by omega) (by omega)
        have i3 : IntKind.i64.wrap (((pre.length : Nat) : Int) + 1) = ((pre.length + 1 : Nat) : Int) := by rw [IntWalk.i64_in _ (by omega)]; rfl
        by_cases hx : x.1 = pre.length
        · have e1 : (((x.1 : Nat) : Int) != ((pre.length : Nat) : Int)) = false := by rw [hx]; simp
          have HFIN := Lib.hid (show KeepsFrom V.heap.size W (W.setCell ⟨w.heap.size + 1 + 1, 0, none⟩ (.int .i64 (pre.length + 1 : Nat))) ∧ True ∧ GoJ w stop D (pre ++ [x]) (W.setCell ⟨w.heap.size + 1 + 1, 0, none⟩ (.int .i64 (pre.length + 1 : Nat))) by
            refine ⟨(KeepsOthers.setCell _ _ _).from _, trivial, ⟨⟨riseC_snoc hri hx, hb0.other (by omega) _, ⟨rv, hb1.other (by omega) _⟩, ?_⟩, hB.setCell (p := ⟨w.heap.size + 1 + 1, 0, none⟩) (by simp; omega) _⟩, (KeepsOthers.setCell _ _ _).same D _ hdf rfl⟩
            rw [List.length_append, List.length_singleton]
            exact hb2.set _)
          obtain ⟨N, hN⟩ : ∃ N, pre.length = N := ⟨_, rfl⟩
          rw [hN] at e1 i2 i3 k2 HFIN
          clear hri hb0 hb1 hb2 hB hdf hbox hx hN hlt
          gi_wp2_with fail
          exact HFIN.out
        · have HNR := Lib.hid (show ¬ RiseC (pre ++ [x]) from fun h => hx (h pre.length x (by simp)))
          have e1 : (((x.1 : Nat) : Int) != ((pre.length : Nat) : Int)) = true := by simp; omega
          obtain ⟨N, hN⟩ : ∃ N, pre.length = N := ⟨_, rfl⟩
          rw [hN] at e1 i2 i3 k2
          clear hri hb0 hb1 hb2 hB hdf hbox hx hN hlt
          gi_wp2_with fail
          exact ⟨(KeepsOthers.setCell _ _ _).from _, rfl, HNR.out⟩
      case done2 =>
        rintro D2 ys W hD2 rfl ⟨⟨⟨hri, hb0, ⟨rv, hb1⟩, hb2⟩, hB⟩, hdf⟩ hK2
        rw [firstC_length] at hb2
        have HSAME := Lib.hid (fun X v1 v2 (xs : List Int) (h1 : Row .u8 X v1 xs) (h2 : Row .u8 X v2 xs) => bytes_same v1 v2 xs xs X h1 h2 rfl)
        simp only [eqB_refl] at HSAME
        obtain ⟨L, hLL⟩ : ∃ L, namedL name (firstC 256 (Nat.le_refl _)) = L := ⟨_, rfl⟩
        have HN1 := Lib.hid (fun X => named_walk name X)
        have HN2 := Lib.hid (fun X => refNamed_walk name X)
        have hL256 : L.length ≤ 256 := by rw [← hLL]; have := namedL_le name (firstC 256 (Nat.le_refl _)); rw [firstC_length] at this; exact this
        rw [hLL] at HN1 HN2
        have HB1 := Lib.hid hb1
        have HB2 := Lib.hid hb2
        have HBW := Lib.hid hB
        have HD1 := Lib.hid hdf
        have HD2 := Lib.hid hK2
        clear hri hb0 hb1 hb2 hB hdf hK2 hLL
        gi_wp2_with fail
        refine ⟨trivial, ?_⟩
        gi_at_call 19
        refine (callsIn_wide.2 (HN1.out _)).mono ?_
        rintro e w1 ⟨v1, rfl, hown1, hw1⟩
        have HO1 := Lib.hid hown1
        have HW1 := Lib.hid hw1
        clear hown1 hw1
        gi_wp2_with fail
        refine ⟨trivial, ?_⟩
        gi_at_call 20
        refine (callsIn_wide.2 (HN2.out _)).mono ?_
        rintro e w2 ⟨v2, rfl, hown2, hw2⟩
        have HO2 := Lib.hid hown2
        have HO12 := Lib.hid (ownsRow_below HO1.out hw2)
        have HW2 := Lib.hid (HW1.out.trans (hw2.mono HW1.out.size))
        clear hown2 hw2
        gi_wp2_with fail
        refine ⟨trivial, ?_⟩
        gi_at_call 10
        refine (callsIn_wide.2 (HSAME.out _ _ _ _ (Row.owned HO12.out).1 (Row.owned HO2.out).1)).mono ?_
        rintro e w3 ⟨rfl, m3, rfl⟩
        have HO3 := Lib.hid (ownsRow_below HO12.out (below_drewN (Below.refl _ w2) m3))
        have HW3 := Lib.hid (below_drewN HW2.out m3)
        obtain ⟨X3, hX3⟩ : ∃ X3, w2.drewN m3 = X3 := ⟨_, rfl⟩
        rw [hX3] at HO3 HW3 ⊢
        clear hX3 HO12 HO2 HO1 HW1 HW2
        obtain ⟨l0, hl0⟩ : ∃ l0, L.length = l0 := ⟨_, rfl⟩
        rw [hl0] at HO3 hL256
        obtain ⟨va, vc, rfl, hva⟩ : ∃ va vc, v1 = .slice va l0 vc ∧ (0 < l0 → ∃ g, va = some ⟨g, 0, none⟩ ∧ W.heap.size ≤ g) := by
          rcases HO3.out.2 with ⟨rfl, h0⟩ | ⟨g, cap, cur, rfl, h1, _⟩
          · exact ⟨none, 0, by rw [h0], fun h => by omega⟩
          · exact ⟨_, _, rfl, fun _ => ⟨g, rfl, h1⟩⟩
        have HVA := Lib.hid hva
        clear hva hl0
        gi_wp2_with fail
        gi_loopw [11] (fun s11 wr => ∃ (i : Nat) (zs : List Value), i ≤ l0 ∧ s11 = .int .i64 (i : Int) ∧ Hid (wr.ownsRow W.heap.size 5 1 (.slice va l0 vc) l0 zs) ∧ Hid (Below W.heap.size W wr)) (fun s11 _ => l0 - (intOf s11).toNat)
        case atStart => exact ⟨0, _, Nat.zero_le _, rfl, HO3, HW3⟩
        case round =>
          obtain ⟨i, zs, hi, rfl, HO, HWW⟩ := hrel
          by_cases hlt : i < l0
          · obtain ⟨g, rfl, hg⟩ := HVA.out (by omega)
            have i1 : (i : Int) < (l0 : Int) := by omega
            have i2 : IntKind.i64.wrap ((i : Int) + 1) = ((i + 1 : Nat) : Int) := by rw [IntWalk.i64_in _ (by omega)]; rfl
            obtain ⟨u, c2⟩ : ∃ u, World.cell? wr ⟨g, i, none⟩ = some u := by
              have h := HO.out.cellAt i (by omega)
              rw [List.getElem?_eq_getElem (by have := HO.out.1; omega)] at h
              exact ⟨_, h⟩
            have c3 : wr.frozen? ⟨g, i, none⟩ = false := HO.out.frozenAt i
            have HST := Lib.hid (HO.out.stored i (.int .u8 0)).1
            have HWS := Lib.hid (HWW.out.setCell (p := ⟨g, i, none⟩) hg (.int .u8 0))
            gi_wp2_with fail
            go_roundw
            case rel => exact ⟨i + 1, _, by omega, by go_num, HST, HWS⟩
            case measure => simp [intOf]; omega
          · have i1 : ¬ (i : Int) < (l0 : Int) := by omega
            have k2 := (boxed_below HB2.out HWW.out HB2.out.lt).cell
            clear HO HVA
            gi_wp2_with fail
            refine ⟨trivial, ?_⟩
            gi_at_call 19
            refine (callsIn_wide.2 (HN1.out _)).mono ?_
            rintro e y1 ⟨r1, rfl, hown1, hy1⟩
            have HP1 := Lib.hid hown1
            have HY1 := Lib.hid (HWW.out.trans (hy1.mono HWW.out.size))
            clear hown1 hy1
            gi_wp2_with fail
            refine ⟨trivial, ?_⟩
            gi_at_call 20
            refine (callsIn_wide.2 (HN2.out _)).mono ?_
            rintro e y2 ⟨r2, rfl, hown2, hy2⟩
            have HP2 := Lib.hid hown2
            have HP12 := Lib.hid (ownsRow_below HP1.out hy2)
            have HY2 := Lib.hid (HY1.out.trans (hy2.mono HY1.out.size))
            clear hown2 hy2
            gi_wp2_with fail
            refine ⟨trivial, ?_⟩
            gi_at_call 10
            refine (callsIn_wide.2 (HSAME.out _ _ _ _ (Row.owned HP12.out).1 (Row.owned HP2.out).1)).mono ?_
            rintro e y3 ⟨rfl, m3, rfl⟩
            have HY3 := Lib.hid (below_drewN HY2.out m3)
            obtain ⟨X4, hX4⟩ : ∃ X4, y2.drewN m3 = X4 := ⟨_, rfl⟩
            rw [hX4] at HY3 ⊢
            clear hX4 HP1 HP2 HP12 HY1 HY2
            have HLX := Lib.hid ((hL.below HBW.out).below HY3.out)
            gi_wp2_with fail
            refine ⟨trivial, ?_⟩
            gi_at_call 11
            refine (callsIn_wide.2 (awake_walk _ HLX.out)).mono ?_
            rintro e y4 ⟨rfl, hy4⟩
            have HY4 := Lib.hid (HY3.out.trans (hy4.mono HY3.out.size))
            clear hy4
            have hq1 := boxed_below HB1.out HY4.out HB1.out.lt
            have f1 := hq1.frozen
            have g1 := hq1.cell
            have HQ1 := Lib.hid hq1
            have HE1 := Lib.hid ((HY4.out.block D (Array.getElem?_eq_some_iff.1 HD1.out).1).trans HD1.out)
            have HE2 := Lib.hid ((HY4.out.block D2 (Array.getElem?_eq_some_iff.1 HD2.out).1).trans HD2.out)
            have HZ := Lib.hid (HBW.out.trans (HY4.out.mono HBW.out.size))
            clear hq1
            gi_wp2_with fail
            have hr5 := HQ1.out.set (.bool true)
            have hk5 := KeepsOthers.setCell y4 ⟨w.heap.size + 1, 0, none⟩ (.bool true)
            have hd2 := hk5.same D2 _ HE2.out rfl
            have hd1 := hk5.same D _ HE1.out rfl
            have hz5 := HZ.out.setCell (p := ⟨w.heap.size + 1, 0, none⟩) (by simp) (.bool true)
            generalize (y4.setCell ⟨w.heap.size + 1, 0, none⟩ (.bool true)) = X5 at hr5 hd2 hd1 hz5 ⊢
            have hne : D ≠ D2 := by omega
            have hd1' : (X5.putObj D2 (.deferred none)).heap[D]? = some (.deferred (some [])) := by rw [World.putObj_heap_other hne]; exact hd1
            have hr6 := boxed_kept hr5 (grownBy_putObj' X5 D2 (.deferred none)) (fun r e => by cases e; exact ⟨_, hd2, rfl⟩)
            have hr7 := boxed_kept hr6 (grownBy_putObj' _ D (.deferred none)) (fun r e => by cases e; exact ⟨_, hd1', rfl⟩)
            have hz6 := hz5.grown (grownBy_putObj' X5 D2 (.deferred none)) hz5.size (fun k e => by cases e; omega)
            have hz7 := hz6.grown (grownBy_putObj' _ D (.deferred none)) hz6.size (fun k e => by cases e; omega)
            have d0 := hr7.cell
            refine ⟨by simp, .inl ⟨_, _, rfl, run_takeDeferred hd2, ?_⟩⟩

            refine ⟨by simp, .inl ⟨_, _, rfl, run_takeDeferred hd1', ?_⟩⟩
            refine ⟨.bool true, ?_, ⟨rfl, hz7⟩⟩
            simp [results, Tryd.f6, go_sem, d0]
      case stop2 =>
        rintro D2 c pre W hD2 ⟨k, hk, rfl⟩ ⟨rfl, hn⟩ hK2
        exact absurd (riseC_first k hk) hn
  refine wpIn_rangeFunc_ownH (n := 5) rfl (by decide) (gf := 30) (lb := #[]) rfl trivial (enters_of Tryd.func30 (by kernel_rfl) rfl)
    (all1_stops (5 - 1) (by decide) W0) (fun _ _ => trivial) (fun _ _ _ _ _ _ _ _ => trivial) (Below.refl _ _) (fun _ => rfl)
    (GoI w stop 0 0) (GoX w stop 0 0) (goI_own w stop 0 0 _ (by omega)) (fun c => goX_own w stop 0 0 c _ (by omega)) hI0.out (GoA w name stop) (fun x a => goA_own w name stop x a _) ?assign ?body ?done ?stop
  case assign =>
    intro l pre x W K hI hK
    unfold encC codeV
    gi_wp2
    exact hK _ _ ((KeepsOthers.alloc W _).from _) trivial ((goI_own w stop 0 0 _ (Nat.le_refl _)).alloc _ hI) ⟨_, rfl, World.alloc_heap_new W _⟩
  case body =>
    rintro l pre x a' W hl hlr ⟨⟨hri, hb0, ⟨rv, hb1⟩, hb2⟩, hB⟩ ⟨B, rfl, hbox⟩ hlt
    have hmx : Tryd.prog.follows .mixedOrders = true := by kernel_rfl
    have c0 := hbox.cells
    obtain ⟨d0, d1, d2, d3, d4⟩ : W.cell? ⟨B, 0, none⟩ = some (.int .u8 (x.1 : Nat)) ∧ W.cell? ⟨B, 1, none⟩ = some (.string (nameB x.1)) ∧ W.cell? ⟨B, 2, none⟩ = some (.int .u8 (modeN x.1)) ∧ W.cell? ⟨B, 3, none⟩ = some (.int .u8 (useN x.1)) ∧ W.cell? ⟨B, 4, none⟩ = some (.int .u8 (widthN x.1)) := by
      refine ⟨?_, ?_, ?_, ?_, ?_⟩ <;> simp [World.cell?, show W.heap[B]? = _ from hbox]
    have k2 := hb2.cell
    have i1 : ¬ (255 : Int) < ((pre.length : Nat) : Int) := by omega
    have i2 : IntKind.u8.wrap ((pre.length : Nat) : Int) = ((pre.length : Nat) : Int) := wrap8 _ (by omega) (by omega)
    have HOF := Lib.hid (fun W => refOf_walk pre.length hlt W)
    obtain ⟨N, hN⟩ : ∃ N, pre.length = N := ⟨_, rfl⟩
    rw [hN] at i1 i2 k2 HOF
    have HN := Lib.hid hN
    have HV := Lib.hid (show codeV N = .agg #[.int .u8 N, .string (nameB N), .int .u8 (modeN N), .int .u8 (useN N), .int .u8 (widthN N)] from rfl)
    rw [HV.out] at HOF
    have HRI := Lib.hid hri
    have HB0 := Lib.hid hb0
    have HB1 := Lib.hid hb1
    have HB2 := Lib.hid hb2
    have HBS := Lib.hid hB
    have HBX := Lib.hid hbox
    clear hN hri hb0 hb1 hb2 hB hbox c0 HV
    have hBlt : B < W.heap.size := (Array.getElem?_eq_some_iff.1 (show W.heap[B]? = _ from HBX.out)).1
    have hNlt : w.heap.size + 1 + 1 < W.heap.size := HB2.out.lt
    by_cases hx : x.1 = N
    · have HRN := Lib.hid (riseC_snoc HRI.out (show x.1 = pre.length by rw [HN.out]; exact hx))
      rw [hx] at d0 d1 d2 d3 d4
      gi_wp2_with fail
      gi_region_with_o (refine ⟨trivial, ?_⟩; gi_at_call 13; refine (CallsIn.inRound l (callsIn_wide.2 (HOF.out _))).mono ?_; rintro e w1 ⟨rfl, hbb⟩; have p0 := (hbb.cell (p := ⟨B, 0, none⟩) hBlt).trans d0; have p1 := (hbb.cell (p := ⟨B, 1, none⟩) hBlt).trans d1; have p2 := (hbb.cell (p := ⟨B, 2, none⟩) hBlt).trans d2; have p3 := (hbb.cell (p := ⟨B, 3, none⟩) hBlt).trans d3; have p4 := (hbb.cell (p := ⟨B, 4, none⟩) hBlt).trans d4; have p5 := (hbb.cell (p := ⟨w.heap.size + 1 + 1, 0, none⟩) hNlt).trans k2)
      all_goals
        have hbb2 : Below W.heap.size W w1 := by first | exact (Below.refl _ W).drew.trans hbb | exact (below_drewN (Below.refl _ W) _).trans hbb
        have q0 := boxed_below HB0.out hbb2 HB0.out.lt
        have q1 := boxed_below HB1.out hbb2 HB1.out.lt
        have q2 := boxed_below HB2.out hbb2 HB2.out.lt
        have i3 : IntKind.i64.wrap ((N : Int) + 1) = ((N + 1 : Nat) : Int) := by rw [IntWalk.i64_in _ (by omega)]; rfl
        have g0 := q0.cell
        have f2 := q2.frozen
        have HFIN := Lib.hid (show KeepsFrom W0.heap.size W (w1.setCell ⟨w.heap.size + 1 + 1, 0, none⟩ (.int .i64 (N + 1 : Nat))) ∧ GoI w stop 0 0 (pre ++ [x]) (w1.setCell ⟨w.heap.size + 1 + 1, 0, none⟩ (.int .i64 (N + 1 : Nat))) by
          refine ⟨((keeps_below hbb2).trans (KeepsOthers.setCell _ _ _)).from _, ⟨HRN.out, q0.other (by omega) _, ⟨rv, q1.other (by omega) _⟩, ?_⟩, (below_step HBS.out HBS.out.size hbb2).setCell (p := ⟨w.heap.size + 1 + 1, 0, none⟩) (by simp; omega) _⟩
          rw [List.length_append, List.length_singleton, HN.out]
          exact q2.set _)
        have HLN := Lib.hid (show ((pre ++ [x]).length : Int) = ((N + 1 : Nat) : Int) by rw [List.length_append, List.length_singleton, HN.out])
        clear q0 q1 q2 hbb hbb2 p0 p1 p2 p3 p4 d0 d1 d2 d3 d4
        by_cases hst : ((N + 1 : Nat) : Int) = stop
        · have b1 : (((N + 1 : Nat) : Int) == stop) = true := by rw [hst]; exact beq_self_eq_true _
          have HST := Lib.hid hst
          clear hst
          gi_wp2_with fail
          exact ⟨HFIN.out.1, .inl ⟨rfl, HLN.out.trans HST.out, HFIN.out.2⟩⟩
        · have b1 : (((N + 1 : Nat) : Int) == stop) = false := by rw [beq_eq_false_iff_ne]; exact hst
          clear hst
          gi_wp2_with fail
          exact ⟨HFIN.out.1, trivial, HFIN.out.2⟩
    · have HNR := Lib.hid (show ¬ RiseC (pre ++ [x]) from fun h => hx (by rw [← HN.out]; exact h pre.length x (by simp)))
      have e1 : (((x.1 : Nat) : Int) == (N : Int)) = false := by rw [beq_eq_false_iff_ne]; omega
      clear hx
      gi_wp2_with fail
      gi_region_with_o (refine ⟨trivial, ?_⟩; gi_at_call 13; refine (CallsIn.inRound l (callsIn_wide.2 (HOF.out _))).mono ?_; rintro e w1 ⟨rfl, hbb⟩; have p0 := (hbb.cell (p := ⟨B, 0, none⟩) hBlt).trans d0; have p1 := (hbb.cell (p := ⟨B, 1, none⟩) hBlt).trans d1; have p2 := (hbb.cell (p := ⟨B, 2, none⟩) hBlt).trans d2; have p3 := (hbb.cell (p := ⟨B, 3, none⟩) hBlt).trans d3; have p4 := (hbb.cell (p := ⟨B, 4, none⟩) hBlt).trans d4; have p5 := (hbb.cell (p := ⟨w.heap.size + 1 + 1, 0, none⟩) hNlt).trans k2)
      all_goals
        have hbb2 : Below W.heap.size W w1 := by first | exact (Below.refl _ W).drew.trans hbb | exact (below_drewN (Below.refl _ W) _).trans hbb
        have q1 := boxed_below HB1.out hbb2 HB1.out.lt
        have f1 := q1.frozen
        have g1 := q1.cell
        have HFIN := Lib.hid (show KeepsFrom W0.heap.size W (w1.setCell ⟨w.heap.size + 1, 0, none⟩ (.bool false)) from ((keeps_below hbb2).trans (KeepsOthers.setCell _ _ _)).from _)
        clear q1 hbb hbb2 p0 p1 p2 p3 p4 d0 d1 d2 d3 d4
        gi_wp2_with fail
        exact ⟨HFIN.out, .inr ⟨rfl, HNR.out⟩⟩
  case done =>
    rintro D ys W hD rfl ⟨⟨h0, h1, h2, h3⟩, h4⟩ hK
    exact HREST D 256 W (Nat.le_refl _) (.inl rfl) hD h1 h2 (by rw [firstC_length] at h3; exact h3) h4 hK
  case stop =>
    rintro D c pre W hD ⟨k, hk, rfl⟩ (⟨rfl, hst, hI⟩ | ⟨rfl, hn⟩) hK
    · obtain ⟨⟨h0, h1, h2, h3⟩, h4⟩ := hI
      rw [firstC_length] at hst h3
      gi_wp2
      exact HREST D k W hk (.inr hst) hD h1 h2 h3 h4 hK
    · exact absurd (riseC_first k hk) hn
theorem all_any (name : ByteArray) (stop : Int) (W : World) {Q : Prop} (_ : Q) (ws : (Lit.int .i64 stop).wf = true) (hL : Laid W) :
    Calls Tryd.prog 6 #[.string name, .int .i64 stop] W fun e w' => e = .returned (.bool true) ∧ Below W.heap.size W w' := by
  have h := bounds_i64 ws
  exact all_law name stop W (by omega) (by omega) hL
end Go.Proofs.YtpeieilbjadcfaaDoor
