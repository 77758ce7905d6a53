/- The text of an instruction: the program's Text. -/
import Derived.Test.YteabjninmaceaaaGreatDoorProg
import Derived.Test.YteabjninmaceaaaGreatDoorNotesTextP
import Derived.Test.YteabjninmaceaaaGreatDoorNotesValues
import Derived.Test.YteabjninmaceaaaGreatDoorNotesWriters
import Derived.Test.YteabjninmaceaaaGreatDoorLib2
import Derived.Deep.RegionHeld3
import Derived.OrdersHeld
import Derived.Deep.AppendLies
namespace Go.Proofs.YteabjninmaceaaaGreatDoor
open Go.RowKit
set_option linter.unusedVariables false
set_option linter.unusedSimpArgs false

theorem row_take {W : World} {a : Option Addr} {l c : Nat} {xs : List Int} (h : Row .u8 W (.slice a l c) xs) (n : Nat) (hn : n ≤ xs.length) : Row .u8 W (.slice a n c) (xs.take n) := by
  have hlt : (xs.take n).length = n := by rw [List.length_take]; omega
  rcases h with ⟨a', c', e, rfl, hc⟩ | ⟨b, o, c', e, h0, h1, h2, h3⟩
  · injection e with e1 e2 e3
    obtain rfl : n = 0 := by simpa using hn
    exact .inl ⟨a, c, rfl, rfl, by omega⟩
  · injection e with e1 e2 e3
    subst e1 e2 e3
    rcases Nat.eq_zero_or_pos n with rfl | hp
    · exact .inl ⟨_, _, rfl, rfl, by omega⟩
    · refine .inr ⟨b, o, c, by rw [hlt], by rw [hlt]; exact hp, by rw [hlt]; omega, by omega, fun i hi => ?_⟩
      rw [hlt] at hi
      rw [h3 i (by omega), List.getElem?_take_of_lt hi]
theorem row_first {W : World} {a : Option Addr} {l c : Nat} {xs : List Int} (h : Row .u8 W (.slice a l c) xs) (hn : 0 < xs.length) : ∃ bk o, a = some ⟨bk, o, none⟩ ∧ l = xs.length ∧ W.cell? ⟨bk, o, none⟩ = some (.int .u8 (xs[0]?.getD 0)) := by
  rcases h with ⟨a', c', e, rfl, hc⟩ | ⟨b, o, c', e, h0, h1, h2, h3⟩
  · simp at hn
  · injection e with e1 e2 e3
    exact ⟨b, o, e1, e2, h3 0 h0⟩
set_option maxRecDepth 100000 in
set_option maxHeartbeats 1000000 in
theorem text_empty (ad : Option Addr) (c : Nat) (at' : Int) (w : World) :
    Calls Tryz.prog 7 #[.slice ad 0 c, .int .u16 at'] w fun e w' => e = .returned (.tuple #[.string ⟨#[]⟩, .int .i64 0, .int .i64 5]) ∧ w' = w := by
  go_enter Tryz.func7, Tryz.ntmps7
  go_wp2_with fail
  refine bodyPost_ret (v := .tuple #[.string ⟨#[]⟩, .int .i64 0, .int .i64 5]) (by simp [results, Tryz.results7, go_sem]) rfl ?_
  exact ⟨rfl, rfl⟩
set_option maxRecDepth 100000 in
set_option maxHeartbeats 1000000 in
theorem text_short (bk o l c k sz : Nat) (at' : Int) (hk : k < 256) (hsz : sizeN k = sz) (hl0 : 0 < l) (hls : l < sz) (w : World) (hc : w.cell? ⟨bk, o, none⟩ = some (.int .u8 (k : Int))) (hL : Laid w) :
    Calls Tryz.prog 7 #[.slice (some ⟨bk, o, none⟩) l c, .int .u16 at'] w fun e w' => e = .returned (.tuple #[.string ⟨#[]⟩, .int .i64 0, .int .i64 5]) ∧ Below w.heap.size w w' := by
  have HOF := Lib.hid (of_walk k hk w hL.1)
  have HV := Lib.hid (show noteV k = .agg #[.int .u8 k, .string (nameT k), .string (formT k), .int .i64 (sizeN k : Nat), .int .i64 (cycT k)] from rfl)
  rw [HV.out, hsz] at HOF
  have b0 : ((l : Int) == 0) = false := by rw [beq_eq_false_iff_ne]; omega
  have b1 : (l : Int) < (sz : Int) := by omega
  have b2 : (0 : Int) < (l : Int) := by omega
  obtain ⟨nm, hnm⟩ : ∃ x, nameT k = x := ⟨_, rfl⟩
  obtain ⟨fm, hfm⟩ : ∃ x, formT k = x := ⟨_, rfl⟩
  rw [hnm, hfm] at HOF
  clear HV hnm hfm hL hsz hls
  go_enter Tryz.func7, Tryz.ntmps7
  go_wp2_with (go_at_call 11; refine HOF.out.mono ?_; rintro e w1 ⟨rfl, hb⟩)
  refine bodyPost_ret (v := .tuple #[.string ⟨#[]⟩, .int .i64 0, .int .i64 5]) (by simp [results, Tryz.results7, go_sem]) rfl ?_
  exact ⟨rfl, hb.alloc hb.size _⟩
theorem wpAnyH_grows {P : Program} {md : Region.Mode} {ops : Array Oper} {Q : Exit → Act → World → Prop} {S S' : World → Prop} (h : ∀ w, S' w → S w) :
    ∀ (fuel : Nat) (listed : Array Bool) (a : Act) (w : World), wpAnyH P md ops Q S' fuel listed a w → wpAnyH P md ops Q S fuel listed a w
  | 0, _, _, _, H => H
  | fuel + 1, _, _, _, H => ⟨H.1, fun i hi => wpOp_mono (fun a' w' h' => ⟨h _ h'.1, wpAnyH_grows h fuel _ a' w' h'.2⟩) (H.2 i hi)⟩
theorem leL_lt (l : List Int) (h : ∀ x ∈ l, 0 ≤ x ∧ x ≤ 255) : leL l < 256 ^ l.length := by
  induction l with
  | nil => simp [leL]
  | cons a l ih =>
    have ha := h a List.mem_cons_self
    have := ih (fun x hx => h x (List.mem_cons_of_mem _ hx))
    simp only [leL, List.length_cons, Nat.pow_succ]; omega
theorem valI_lt (fm : ByteArray) (ys : List Int) (i : Nat) (hf : Fits .u8 ys) : valI fm ys i < 256 ^ widthC (ltr fm i) := by
  unfold valI
  refine Nat.lt_of_lt_of_le (leL_lt _ (fun x hx => bounds_u8 (hf x (List.mem_of_mem_drop (List.mem_of_mem_take hx))))) (Nat.pow_le_pow_right (by decide) ?_)
  unfold opnd; rw [List.length_take]; omega
theorem Tryz.infoStr : (Tryz.prog.info? 9).map (fun i => (i.zero, i.size, i.bytes)) = some (some (.string ⟨#[]⟩), 1, 16) := by kernel_rfl
theorem ownsRow_behind {A B : World} {base : Nat} {e : TypeId} {size : Nat} {v : Value} {n : Nat} {xs : List Value} (h : A.ownsRow base e size v n xs) (hb : Below A.heap.size A B) : B.ownsRow base e size v n xs :=
  h.kept (row := none) (grows_below hb) (by cases v.ownBlock <;> simp)
theorem ownsRow_ge {A : World} {base : Nat} {e : TypeId} {size : Nat} {v : Value} {n : Nat} {xs : List Value} (h : A.ownsRow base e size v n xs) {j : Nat} (hj : v.ownBlock = some j) : base ≤ j := by
  rcases h.2 with ⟨rfl, _⟩ | ⟨g, c, cur, rfl, h1, _⟩
  · cases hj
  · simp only [Value.ownBlock, Option.some.injEq] at hj; omega
theorem ownsRow_ne {A : World} {base : Nat} {e : TypeId} {size : Nat} {v : Value} {n : Nat} {xs : List Value} (h : A.ownsRow base e size v n xs) {j : Nat} {o : Obj} (ho : A.heap[j]? = some o) (hc : o.isCells = false) : v.ownBlock ≠ some j := by
  rcases h.2 with ⟨rfl, _⟩ | ⟨g, c, cur, rfl, h1, h2, _⟩
  · exact fun e => by cases e
  · intro e
    simp only [Value.ownBlock, Option.some.injEq] at e
    subst e
    rw [ho] at h2
    cases h2; cases hc
theorem says_bytes (l : List (List UInt8)) : (l.map bytesB).map (·.data.toList) = l := by
  induction l with
  | nil => rfl
  | cons a l ih => simp only [List.map_cons, bytesB_data, ih]
theorem Below.alloc1 {w : World} (o : Obj) : Below w.heap.size w (w.alloc o) := (Below.refl _ w).alloc (Nat.le_refl _) _
set_option maxRecDepth 100000 in
set_option maxHeartbeats 4000000 in
theorem text_full (ad : Option Addr) (l c k sz next : Nat) (at' : Int) (xs : List Int) (hk : k < 256) (hsz : sizeN k = sz) (hls : sz ≤ l) (h3 : sz ≤ 3) (w : World) (hr : Row .u8 w (.slice ad l c) xs) (hf : Fits .u8 xs) (hkx : xs[0]?.getD 0 = (k : Int)) (hnx : IntKind.u16.wrap (at' + (sz : Int)) = (next : Int)) (hnl : next < 65536) (hL : Laid w) :
    Calls Tryz.prog 7 #[.slice ad l c, .int .u16 at'] w fun e w' => e = .returned (.tuple #[.string (bytesB ((nameT k).data.toList ++ opsX k next ((xs.drop 1).take (sz - 1)) (formT k).size)), .int .i64 (sz : Nat), .int .i64 0]) ∧ Below w.heap.size w w' := by
  obtain ⟨o1, o2, o3, o4, o5, o6, o7, o8, o9, o10, o11, o12, o13⟩ := note_ok k hk
  have hs1 : 1 ≤ sz := by rw [← hsz]; unfold sizeN; omega
  have hlx : l = xs.length := row_len hr
  have hcap := row_cap hr
  obtain ⟨bk, o, rfl, -, hc0⟩ := row_first hr (by omega)
  rw [hkx] at hc0
  have HRS := Lib.hid (row_take (row_drop hr 1 (by omega)) (sz - 1) (by rw [List.length_drop]; omega))
  have HFY := Lib.hid (show Fits .u8 ((xs.drop 1).take (sz - 1)) from fun x hx => hf x (List.mem_of_mem_drop (List.mem_of_mem_take hx)))
  have hyl : ((xs.drop 1).take (sz - 1)).length = sumW (formT k).data.toList := by rw [List.length_take, List.length_drop, ← hsz]; unfold sizeN; have : sizeN k = 1 + sumW (formT k).data.toList := rfl; omega
  have hfs : (formT k).size ≤ 2 := by have : (formT k).data.toList.length = (formT k).size := by simp
                                      omega
  have HVA := Lib.hid (fun W ad' l' c' hrr => values_walk (formT k) hfs o7 o9 ad' l' c' _ W hrr hyl HFY.out)
  have HOF := Lib.hid (of_walk k hk w hL.1)
  have HWR := Lib.hid (fun W => writers_walk k next hk hnl W)
  have HV := Lib.hid (show noteV k = .agg #[.int .u8 k, .string (nameT k), .string (formT k), .int .i64 (sizeN k : Nat), .int .i64 (cycT k)] from rfl)
  rw [HV.out, hsz] at HOF
  have HLT := Lib.hid (fun (b : UInt8) (hb : b ∈ (formT k).data.toList) => form_letter k hk b hb)
  have HLOW := Lib.hid o7
  have HSX := Lib.hid (fun i => show sayX k next ((xs.drop 1).take (sz - 1)) i = opL (ltr (formT k) i).toNat k next (valI (formT k) ((xs.drop 1).take (sz - 1)) i) from rfl)
  obtain ⟨nm, hnm⟩ : ∃ x, nameT k = x := ⟨_, rfl⟩
  obtain ⟨fm, hfm⟩ : ∃ x, formT k = x := ⟨_, rfl⟩
  obtain ⟨ys, hys⟩ : ∃ x, (xs.drop 1).take (sz - 1) = x := ⟨_, rfl⟩
  obtain ⟨cy, hcy⟩ : ∃ x, cycT k = x := ⟨_, rfl⟩
  rw [hcy] at HOF
  clear hcy
  rw [hnm] at HOF o10
  rw [hfm] at HOF HVA HLT HLOW HSX hfs
  rw [hys] at HVA HSX HRS HFY
  rw [hnm, hfm, hys]
  obtain ⟨i0, hi, hz0, hz1, hz2⟩ := info_parts Tryz.infoStr
  have hi' := Lib.hid hi
  have hz0' := Lib.hid hz0
  have hz1' := Lib.hid hz1
  have hz2' := Lib.hid hz2
  clear hi hz0 hz1 hz2
  have HL := Lib.hid hL
  have hnz : nm.size ≤ 5 := by have : nm.data.toList.length = nm.size := by simp
                               omega
  have b0 : ((l : Int) == 0) = false := by rw [beq_eq_false_iff_ne]; omega
  have b1 : ¬ (l : Int) < (sz : Int) := by omega
  have b2 : (0 : Int) < (l : Int) := by omega
  have b3 : (1 : Int) ≤ (sz : Int) := by omega
  have b4 : (sz : Int) ≤ (c : Int) := by omega
  have HYL := Lib.hid hyl
  have hwz : IntKind.u16.wrap (sz : Int) = (sz : Int) := by simp [IntKind.wrap, IntKind.bits, IntKind.signed]; omega
  clear o1 o2 o3 o4 o5 o6 o7 o8 o9 o10 o11 o12 o13 hr hf hkx hL HV hnm hfm hys hyl hsz hlx
  go_enter Tryz.func7, Tryz.ntmps7
  go_upto_region 4 with (go_at_call 11; refine HOF.out.mono ?_; rintro e w1 ⟨rfl, hb1⟩)
  obtain ⟨B0, hB0⟩ : ∃ B0, w.heap.size = B0 := ⟨_, rfl⟩
  obtain ⟨NB, hNB⟩ : ∃ NB, w1.heap.size = NB := ⟨_, rfl⟩
  obtain ⟨X, hX⟩ : ∃ X, w1.alloc (.cells #[.int .u8 k, .string nm, .string fm, .int .i64 (sz : Nat), .int .i64 cy] 33) = X := ⟨_, rfl⟩
  have HX := Lib.hid (show Five X NB (.int .u8 k) (.string nm) (.string fm) (.int .i64 (sz : Nat)) (.int .i64 cy) ∧ Below B0 w X ∧ NB < X.heap.size by
    rw [← hX, ← hNB, ← hB0]
    exact ⟨five_new _ _ _ _ _ _ _, hb1.alloc hb1.size _, by simp⟩)
  rw [hX, hNB]
  obtain ⟨x0, x1, x2, x3, x4, xf⟩ := HX.out.1
  clear hX hNB hb1 HOF
  go_upto_region 7 with (go_at_call 17; refine (HWR.out _).mono ?_; rintro e w2 ⟨M, rfl, hmw, hb2⟩)
  have HY := Lib.hid (show Five w2 NB (.int .u8 k) (.string nm) (.string fm) (.int .i64 (sz : Nat)) (.int .i64 cy) ∧ Below B0 w w2 ∧ NB < w2.heap.size from ⟨HX.out.1.below hb2 HX.out.2.2, HX.out.2.1.trans (hb2.mono (by have := HX.out.2.1.size; rw [hB0] at this; exact this)), Nat.lt_of_lt_of_le HX.out.2.2 hb2.size⟩)
  have HMW := Lib.hid hmw
  clear x0 x1 x2 x3 x4 xf hmw hb2 HX HWR
  obtain ⟨x0, x1, x2, x3, x4, xf⟩ := HY.out.1
  have hmx : Tryz.prog.follows .mixedOrders = true := by kernel_rfl
  have HRS2 := Lib.hid (fun (W : World) (hW : W.heap = w2.heap) => show Row .u8 W (.slice (if c = 1 then some ⟨bk, o, none⟩ else some ⟨bk, o + 1, none⟩) (sz - 1) (c - 1)) ys by
    have h := HRS.out.below' HY.out.2.1 (Nat.le_of_eq hB0)
    rw [show (some (⟨bk, o, none⟩ : Addr)).map (·.add (1 * 1)) = some ⟨bk, o + 1, none⟩ from rfl] at h
    rcases h with h | ⟨b, o, cap, h1, h2, h3, h4, h5⟩
    · exact .inl h
    · exact .inr ⟨b, o, cap, h1, h2, h3, h4, fun i hi => by rw [← h5 i hi]; unfold World.cell?; rw [hW]⟩)
  clear xf x0 x1 x4
  obtain ⟨n, hn⟩ : ∃ n, fm.size = n := ⟨_, rfl⟩
  rw [hn] at HVA hfs
  go_cut [9] from 33 to 39 (fun s9 wx => ∃ g, s9 = .slice (some ⟨g, 0, none⟩) n n ∧ Hid (Five wx NB (.int .u8 k) (.string nm) (.string fm) (.int .i64 (sz : Nat)) (.int .i64 cy)) ∧ Hid (MapW wx M k next ltrs.reverse) ∧ Hid (Below B0 w wx) ∧ Hid (NB < wx.heap.size) ∧ Hid (Ints wx g n (fun _ => True) (fun i => (valI fm ys i : Nat))))
  case first =>
    by_cases hc1 : c = 1
    · subst hc1
      rw [if_pos rfl, Nat.sub_self] at HRS2
      go_region_with (go_at_call 18; refine (HVA.out _ _ _ _ (by refine HRS2.out _ ?_; rfl)).mono ?_; rintro e w3 ⟨g, rfl, hge, hI, hbb⟩)
      all_goals
        have hbb2 : Below w2.heap.size w2 w3 := by first | exact (Below.refl _ w2).drew.trans hbb | exact hbb
        have HFIN := Lib.hid (show Five w3 NB (.int .u8 k) (.string nm) (.string fm) (.int .i64 (sz : Nat)) (.int .i64 cy) ∧ MapW w3 M k next ltrs.reverse ∧ Below B0 w w3 ∧ NB < w3.heap.size from ⟨HY.out.1.below hbb2 HY.out.2.2, HMW.out.below hbb2, HY.out.2.1.trans (hbb2.mono (by have := HY.out.2.1.size; rw [hB0] at this; exact this)), Nat.lt_of_lt_of_le HY.out.2.2 hbb2.size⟩)
        have HII := Lib.hid hI
        clear hbb hbb2 hge hI x2 x3 HVA HRS2
        go_wp2_with fail
        go_meet
        exact ⟨g, rfl, Lib.hid HFIN.out.1, Lib.hid HFIN.out.2.1, Lib.hid HFIN.out.2.2.1, Lib.hid HFIN.out.2.2.2, HII⟩
    · rw [if_neg hc1] at HRS2
      go_region_with (go_at_call 18; refine (HVA.out _ _ _ _ (by refine HRS2.out _ ?_; rfl)).mono ?_; rintro e w3 ⟨g, rfl, hge, hI, hbb⟩)
      all_goals
        have hbb2 : Below w2.heap.size w2 w3 := by first | exact (Below.refl _ w2).drew.trans hbb | exact hbb
        have HFIN := Lib.hid (show Five w3 NB (.int .u8 k) (.string nm) (.string fm) (.int .i64 (sz : Nat)) (.int .i64 cy) ∧ MapW w3 M k next ltrs.reverse ∧ Below B0 w w3 ∧ NB < w3.heap.size from ⟨HY.out.1.below hbb2 HY.out.2.2, HMW.out.below hbb2, HY.out.2.1.trans (hbb2.mono (by have := HY.out.2.1.size; rw [hB0] at this; exact this)), Nat.lt_of_lt_of_le HY.out.2.2 hbb2.size⟩)
        have HII := Lib.hid hI
        clear hbb hbb2 hge hI x2 x3 HVA HRS2
        go_wp2_with fail
        go_meet
        exact ⟨g, rfl, Lib.hid HFIN.out.1, Lib.hid HFIN.out.2.1, Lib.hid HFIN.out.2.2.1, Lib.hid HFIN.out.2.2.2, HII⟩
  case rest =>
    obtain ⟨g, rfl, HFV, HMP, HBW, HNL, HIN⟩ := hcut
    clear x2 x3 HY HMW HRS HRS2 HVA hc0 b0 b1 b2 b3 b4 hwz hcap hls
    obtain ⟨W1, hW1⟩ : ∃ W1, wc = W1 := ⟨_, rfl⟩
    rw [hW1] at HFV HMP HBW HNL HIN ⊢
    clear hW1
    obtain ⟨y0, y1, y2, y3, y4, yf⟩ := HFV.out
    clear yf
    go_upto_region 10 with fail
    obtain ⟨B1, hB1⟩ : ∃ B1, W1.heap.size = B1 := ⟨_, rfl⟩
    obtain ⟨V, hV⟩ : ∃ V, W1.iter fm 0 = V := ⟨_, rfl⟩
    have HVV := Lib.hid (show V.heap[B1]? = some (.stringIter fm 0) ∧ Below B1 W1 V by
      rw [← hV, ← hB1]
      exact ⟨World.iter_heap _ _ _, (Below.refl _ W1).alloc (Nat.le_refl _) _⟩)
    simp only [hV, hB1]
    clear hV
    have hbb1 : ∀ W, Below B1 W1 W → B1 ≤ W.heap.size := fun W h => by have := h.size; omega
    have HVL := Lib.hid (fun i => valI_lt fm ys i HFY.out)
    have HLY := Lib.hid (fun W (h : Below B1 W1 W) => show Laid W from (HL.out.below (by rw [hB0]; exact HBW.out)).below (by rw [hB1]; exact h))
    have HMY := Lib.hid (fun W (h : Below B1 W1 W) => show MapW W M k next ltrs.reverse from HMP.out.below (by rw [hB1]; exact h))
    have HIY := Lib.hid (fun i (hi : i < n) W (h : Below B1 W1 W) => show W.cell? ⟨g, i, none⟩ = some (.int .i64 (valI fm ys i : Nat)) from by
      have hc := HIN.out.2.2 i hi trivial
      exact (h.cell (p := ⟨g, i, none⟩) (by rw [← hB1]; exact World.block_lt_of_cell? W1 _ hc)).trans hc)
    clear HIN
    go_loopw [10] (fun s10 wr => ∃ (pos : Nat) (lv : Value), pos ≤ n ∧ lv = s10 ∧ Hid (wr.heap[B1]? = some (.stringIter fm pos)) ∧ Hid (wr.ownsRow B1 9 1 lv pos ((saysX k next ys pos).map (fun t => Value.string (bytesB t)))) ∧ Hid (Below B1 W1 wr)) (fun _ wr => n - wr.iterPos B1)
    case atStart => exact ⟨0, .slice none 0 0, Nat.zero_le _, rfl, Lib.hid HVV.out.1, Lib.hid ⟨rfl, .inl ⟨rfl, rfl⟩⟩, Lib.hid HVV.out.2⟩
    case round =>
      obtain ⟨pos, lv, hpos, rfl, HIT, HO, HB⟩ := hrel
      by_cases hp : pos < n
      · have hpf : pos < fm.size := by rw [hn]; exact hp
        have hmem : (fm[pos]'hpf) ∈ fm.data.toList := by show fm.data[pos] ∈ fm.data.toList; rw [← Array.getElem_toList]; exact List.getElem_mem _
        have hlow : (fm[pos]'hpf).toNat < 128 := HLOW.out _ hmem
        have hxl := HLT.out _ hmem
        have hlt1 := ltr_at fm pos hpf
        have hwn := widthN_byte (fm[pos]'hpf)
        have hvl := HVL.out pos
        have hsx := HSX.out pos
        rw [hlt1, ← hwn] at hvl
        rw [hlt1] at hsx
        obtain ⟨x, hx⟩ : ∃ x, (fm[pos]'hpf).toNat = x := ⟨_, rfl⟩
        have hnx2 : ∀ ty, (Instr.next (.pointer (some ⟨B1, 0, none⟩)) true ty).run Tryz.prog _ = .ok (.tuple #[.bool true, .int .i64 pos, .int .i32 (x : Int)]) (World.iterAt wr B1 fm (pos + 1)) := fun ty => by rw [← hx]; exact Lib.run_next_ascii_at _ B1 fm pos ty HIT.out hpf hlow
        rw [hx] at hxl hvl hsx
        obtain ⟨Y, hY⟩ : ∃ Y, World.iterAt wr B1 fm (pos + 1) = Y := ⟨_, rfl⟩
        have HY := Lib.hid (show Y.heap[B1]? = some (.stringIter fm (pos + 1)) ∧ Y.ownsRow B1 9 1 lv pos ((saysX k next ys pos).map (fun t => Value.string (bytesB t))) ∧ Below B1 W1 Y by
          rw [← hY]
          exact ⟨heap_iterAt HIT.out _ _, ownsRow_iter HO.out HIT.out, HB.out.grown (grownBy_iterAt _ _ _ _) (hbb1 _ HB.out) (fun k e => by cases e; exact Nat.le_refl _)⟩)
        have HIT0 := Lib.hid (iterPos_of HIT.out)
        rw [hY] at hnx2
        have hYd : Below B1 W1 Y.drew := HY.out.2.2.drew
        obtain ⟨f, hlook, hwf⟩ := (HMY.out _ hYd).look x (List.mem_reverse.2 hxl)
        obtain ⟨vv, hvv⟩ : ∃ vv, valI fm ys pos = vv := ⟨_, rfl⟩
        have HCS := Lib.hid (fun W (h : Below B1 W1 W) => (HIY.out pos hp W h).trans (by rw [hvv]))
        rw [hvv] at hvl hsx
        have HSAY := Lib.hid hsx
        have hsz9 : (bytesB (sayX k next ys pos)).size ≤ 9 := by rw [bytesB_size]; exact sayX_length _ _ _ _
        have hLd := HLY.out _ hYd
        have hcs1 := HCS.out _ hYd
        clear hlow hx hY HIT HO HB hmem hwn hlt1 hvv hsx hxl
        rcases hwf with ⟨p, s, rfl, c1, hT⟩ | ⟨p, q, r, a, d, b, rfl, c1, c2, c3, ⟨d1, d2, d3, d4⟩, hBB, hT⟩ | ⟨rfl, hBB, hT⟩ | ⟨rfl, hBB, hT⟩ | ⟨p, rfl, c1, hBB, hT⟩
        · have HCALL := Lib.hid (show Calls Tryz.prog 35 #[.int .i64 (vv : Int), .pointer (some ⟨p, 0, none⟩)] Y.drew (fun e w' => e = .returned (.string (bytesB (sayX k next ys pos))) ∧ Below Y.drew.heap.size Y.drew w') from (call_plain p (bytesB s) (vv : Int) Y.drew c1).mono (fun e w' ⟨he, hw⟩ => ⟨by rw [he, HSAY.out, hT], hw ▸ Below.refl _ _⟩))
          clear c1 hT hLd
          go_upto_region 12 with fail
          refine wp_region_held_drew (S := fun W => Below B1 W1 W) (by kernel_rfl) hYd (fun hHeld => ?_)
          obtain ⟨Z, hZ⟩ : ∃ Z, Y.drew = Z := ⟨_, rfl⟩
          rw [hZ] at hlook HCALL hHeld ⊢
          refine wpAnyH_take (i := 0) (v := ?_) rfl (by kernel_rfl) (by kernel_rfl) (by kernel_rfl) (fun _ _ _ h => h) (Or.inl ⟨by rfl, ?_⟩) (by assumption) ?_
          rotate_left
          focus
            intro wq hSw
            have hcc := HCS.out wq hSw
            go_simp
            try with_reducible rfl
          try simp only [Act.put, List.setIfInBounds_toArray, List.set_cons_zero, List.set_cons_succ]
          refine wpAnyH_take (i := 1) (v := ?_) rfl (by kernel_rfl) (by kernel_rfl) (by kernel_rfl) (fun _ _ _ h => h) (Or.inl ⟨by rfl, ?_⟩) (by assumption) ?_
          rotate_left
          focus
            intro wq hSw
            have hcc := HCS.out wq hSw
            go_simp
            try with_reducible rfl
          try simp only [Act.put, List.setIfInBounds_toArray, List.set_cons_zero, List.set_cons_succ]
          refine wpAnyH_take (i := 2) (v := ?_) rfl (by kernel_rfl) (by kernel_rfl) (by kernel_rfl) (fun _ _ _ h => h) (Or.inl ⟨by rfl, ?_⟩) (by assumption) ?_
          rotate_left
          focus
            intro wq hSw
            have hcc := HCS.out wq hSw
            go_simp
            try with_reducible rfl
          try simp only [Act.put, List.setIfInBounds_toArray, List.set_cons_zero, List.set_cons_succ]
          refine wpAnyH_take (i := 4) (v := ?_) rfl (by kernel_rfl) (by kernel_rfl) (by kernel_rfl) (fun _ _ _ h => h) (Or.inl ⟨by rfl, ?_⟩) (by assumption) ?_
          rotate_left
          focus
            intro wq hSw
            have hcc := HCS.out wq hSw
            go_simp
            try with_reducible rfl
          try simp only [Act.put, List.setIfInBounds_toArray, List.set_cons_zero, List.set_cons_succ]
          refine wpAnyH_take (i := 5) (v := ?_) rfl (by kernel_rfl) (by kernel_rfl) (by kernel_rfl) (fun _ _ _ h => h) (Or.inl ⟨by rfl, ?_⟩) (by assumption) ?_
          rotate_left
          focus
            intro wq hSw
            have hcc := HCS.out wq hSw
            go_simp
            try with_reducible rfl
          try simp only [Act.put, List.setIfInBounds_toArray, List.set_cons_zero, List.set_cons_succ]
          refine wpAnyH_take (i := 6) (v := ?_) rfl (by kernel_rfl) (by kernel_rfl) (by kernel_rfl) (fun _ _ _ h => h) (Or.inl ⟨by rfl, ?_⟩) (by assumption) ?_
          rotate_left
          focus
            intro wq hSw
            have hcc := HCS.out wq hSw
            go_simp
            try with_reducible rfl
          try simp only [Act.put, List.setIfInBounds_toArray, List.set_cons_zero, List.set_cons_succ]
          refine wpAnyH_take (i := 7) (v := ?_) rfl (by kernel_rfl) (by kernel_rfl) (by kernel_rfl) (fun _ _ _ h => h) (Or.inl ⟨by rfl, ?_⟩) (by assumption) ?_
          rotate_left
          focus
            intro wq hSw
            have hcc := HCS.out wq hSw
            go_simp
            try with_reducible rfl
          try simp only [Act.put, List.setIfInBounds_toArray, List.set_cons_zero, List.set_cons_succ]
          refine wpAnyH_ready (rs := [3]) (by kernel_rfl) (by simp) ?_
          refine AllReadyH.cons rfl (fun K hK => ?_) AllReadyH.nil
          go_simp
          refine hK.out _ _ ?s1 (fun hHeld2 => ?_)
          case s1 => exact hHeld
          clear hK K hHeld2
          try simp only [Act.put, List.setIfInBounds_toArray, List.set_cons_zero, List.set_cons_succ]
          refine wpAnyH_ready (rs := [8]) (by kernel_rfl) (by simp) ?_
          refine AllReadyH.cons rfl (fun K hK => ?_) AllReadyH.nil
          go_simp
          refine HCALL.out.mono ?_
          rintro e w5 ⟨rfl, hbb⟩
          dsimp only
          have hB5 : Below B1 W1 w5 := hHeld.trans (hbb.mono (hbb1 _ hHeld))
          have HO5 := Lib.hid (show w5.ownsRow B1 9 1 lv pos ((saysX k next ys pos).map (fun t => Value.string (bytesB t))) ∧ w5.heap[B1]? = some (.stringIter fm (pos + 1)) from ⟨ownsRow_behind (by rw [← hZ]; exact HY.out.2.1.drew) hbb, (hbb.block B1 (Array.getElem?_eq_some_iff.1 (by rw [← hZ]; exact HY.out.1)).1).trans (by rw [← hZ]; exact HY.out.1)⟩)
          refine hK.out _ _ ?s2 (fun hHeld2 => ?_)
          case s2 => exact hB5
          clear hK K hHeld2 hHeld hbb HCALL
          try simp only [Act.put, List.setIfInBounds_toArray, List.set_cons_zero, List.set_cons_succ]
          refine wpAnyH_ready (rs := [9]) (by kernel_rfl) (by simp) ?_
          refine AllReadyH.cons rfl (fun K hK => ?_) AllReadyH.nil
          go_simp
          refine hK.out _ _ ?s3 (fun hHeld2 => ?_)
          case s3 => exact hB5.alloc (hbb1 _ hB5) _
          clear hK K hHeld2
          try simp only [Act.put, List.setIfInBounds_toArray, List.set_cons_zero, List.set_cons_succ]
          obtain ⟨S6, hS6⟩ : ∃ S6, bytesB (sayX k next ys pos) = S6 := ⟨_, rfl⟩
          try rw [hS6]
          obtain ⟨w6, hw6⟩ : ∃ w6, w5.alloc (.cells #[.string S6] 9) = w6 := ⟨_, rfl⟩
          obtain ⟨H5, hH5⟩ : ∃ H5, w5.heap.size = H5 := ⟨_, rfl⟩
          have HO6 := Lib.hid (show w6.ownsRow B1 9 1 lv pos ((saysX k next ys pos).map (fun t => Value.string (bytesB t))) ∧ w6.heap[B1]? = some (.stringIter fm (pos + 1)) ∧ w6.cell? ⟨H5, 0, none⟩ = some (.string S6) ∧ Below B1 W1 w6 by
            rw [← hw6, ← hH5]
            exact ⟨ownsRow_behind HO5.out.1 (Below.alloc1 _), ((Below.alloc1 _).block B1 (Array.getElem?_eq_some_iff.1 HO5.out.2).1).trans HO5.out.2, by simp [go_sem], hB5.alloc (hbb1 _ hB5) _⟩)
          rw [hw6, hH5]
          clear hw6 HO5 hB5
          refine wpAnyH_ready (rs := [10]) (by kernel_rfl) (by simp) ?_
          refine AllReadyH.cons rfl (fun K hK => ?_) AllReadyH.nil
          refine step_append_lies _ (by rfl) _ _ _ (by rfl) B1 9 i0 (.string ⟨#[]⟩) 1 16 Tryz.underlying28 hi'.out hz0'.out hz1'.out hz2'.out (by rfl) (by decide) lv pos _ (by rfl) HO6.out.1 ⟨H5, 0, none⟩ 1 1 [.string S6] (by rfl) (by rfl) ?d1 ?d2 (by decide) ?d3 ?d4 ?d5 w6.heap.size rfl ?_
          case d1 =>
            intro j u hj
            rcases j with _ | j
            · have : u = .string S6 := by simpa using hj.symm
              rw [this, show (⟨H5, 0, none⟩ : Addr).add 0 = ⟨H5, 0, none⟩ from rfl]
              exact HO6.out.2.2.1
            · simp at hj
          case d2 => intro u hu; rw [List.mem_singleton.1 hu]; rfl
          case d3 => unfold maxLen; omega
          case d4 => omega
          case d5 => exact hbb1 _ HO6.out.2.2.2
          intro g7 cap7 w7 hown7 hgrow7 hat7 hlt7
          have hB7 : Below B1 W1 w7 := HO6.out.2.2.2.grown hgrow7 (hbb1 _ HO6.out.2.2.2) (fun j e => ownsRow_ge HO6.out.1 e)
          have HIT7 := Lib.hid ((hgrow7.block B1 (Array.getElem?_eq_some_iff.1 HO6.out.2.1).1 (fun e => ownsRow_ne HO6.out.1 HO6.out.2.1 rfl e.symm)).trans HO6.out.2.1)
          have HO7 := Lib.hid (show w7.ownsRow B1 9 1 (.slice (some ⟨g7, 0, none⟩) (pos + 1) cap7) (pos + 1) ((saysX k next ys (pos + 1)).map (fun t => Value.string (bytesB t))) by
            rw [saysX, List.map_append, List.map_cons, hS6]; exact hown7)
          refine hK.out _ _ ?s4 (fun hHeld2 => ?_)
          case s4 => exact hB7
          clear hK K hHeld2 hown7 hgrow7 hat7 hlt7 HO6
          try simp only [Act.put, List.setIfInBounds_toArray, List.set_cons_zero, List.set_cons_succ]
          refine wpAnyH_ready (rs := [11]) (by kernel_rfl) (by simp) ?_
          refine AllReadyH.cons rfl (fun K hK => ?_) AllReadyH.nil
          go_simp
          refine hK.out _ _ ?s5 (fun hHeld2 => ?_)
          case s5 => exact hB7
          clear hK K hHeld2
          try simp only [Act.put, List.setIfInBounds_toArray, List.set_cons_zero, List.set_cons_succ]
          refine wpAnyH_done (by kernel_rfl) ?_ _
          have HB7 := Lib.hid hB7
          clear hB7
          go_wp2_with fail
          go_roundw
          case rel => exact ⟨pos + 1, _, by omega, rfl, HIT7, HO7, HB7⟩
          case measure => rw [iterPos_of HIT7.out, HIT0.out]; omega
        · have HCALL := Lib.hid (show Calls Tryz.prog 33 #[.int .i64 (vv : Int), .pointer (some ⟨p, 0, none⟩), .pointer (some ⟨q, 0, none⟩), .pointer (some ⟨r, 0, none⟩)] Y.drew (fun e w' => e = .returned (.string (bytesB (sayX k next ys pos))) ∧ Below Y.drew.heap.size Y.drew w') from (call_around p q r a b d vv d1 d2 d3 d4 (by rw [← hBB]; exact hvl) Y.drew hLd c1 c2 c3).mono (fun e w' ⟨he, hw⟩ => ⟨by rw [he, HSAY.out, hT], hw⟩))
          clear hT hLd hBB c1 c2 c3 d1 d2 d3 d4
          go_upto_region 12 with fail
          refine wp_region_held_drew (S := fun W => Below B1 W1 W) (by kernel_rfl) hYd (fun hHeld => ?_)
          obtain ⟨Z, hZ⟩ : ∃ Z, Y.drew = Z := ⟨_, rfl⟩
          rw [hZ] at hlook HCALL hHeld ⊢
          refine wpAnyH_take (i := 0) (v := ?_) rfl (by kernel_rfl) (by kernel_rfl) (by kernel_rfl) (fun _ _ _ h => h) (Or.inl ⟨by rfl, ?_⟩) (by assumption) ?_
          rotate_left
          focus
            intro wq hSw
            have hcc := HCS.out wq hSw
            go_simp
            try with_reducible rfl
          try simp only [Act.put, List.setIfInBounds_toArray, List.set_cons_zero, List.set_cons_succ]
          refine wpAnyH_take (i := 1) (v := ?_) rfl (by kernel_rfl) (by kernel_rfl) (by kernel_rfl) (fun _ _ _ h => h) (Or.inl ⟨by rfl, ?_⟩) (by assumption) ?_
          rotate_left
          focus
            intro wq hSw
            have hcc := HCS.out wq hSw
            go_simp
            try with_reducible rfl
          try simp only [Act.put, List.setIfInBounds_toArray, List.set_cons_zero, List.set_cons_succ]
          refine wpAnyH_take (i := 2) (v := ?_) rfl (by kernel_rfl) (by kernel_rfl) (by kernel_rfl) (fun _ _ _ h => h) (Or.inl ⟨by rfl, ?_⟩) (by assumption) ?_
          rotate_left
          focus
            intro wq hSw
            have hcc := HCS.out wq hSw
            go_simp
            try with_reducible rfl
          try simp only [Act.put, List.setIfInBounds_toArray, List.set_cons_zero, List.set_cons_succ]
          refine wpAnyH_take (i := 4) (v := ?_) rfl (by kernel_rfl) (by kernel_rfl) (by kernel_rfl) (fun _ _ _ h => h) (Or.inl ⟨by rfl, ?_⟩) (by assumption) ?_
          rotate_left
          focus
            intro wq hSw
            have hcc := HCS.out wq hSw
            go_simp
            try with_reducible rfl
          try simp only [Act.put, List.setIfInBounds_toArray, List.set_cons_zero, List.set_cons_succ]
          refine wpAnyH_take (i := 5) (v := ?_) rfl (by kernel_rfl) (by kernel_rfl) (by kernel_rfl) (fun _ _ _ h => h) (Or.inl ⟨by rfl, ?_⟩) (by assumption) ?_
          rotate_left
          focus
            intro wq hSw
            have hcc := HCS.out wq hSw
            go_simp
            try with_reducible rfl
          try simp only [Act.put, List.setIfInBounds_toArray, List.set_cons_zero, List.set_cons_succ]
          refine wpAnyH_take (i := 6) (v := ?_) rfl (by kernel_rfl) (by kernel_rfl) (by kernel_rfl) (fun _ _ _ h => h) (Or.inl ⟨by rfl, ?_⟩) (by assumption) ?_
          rotate_left
          focus
            intro wq hSw
            have hcc := HCS.out wq hSw
            go_simp
            try with_reducible rfl
          try simp only [Act.put, List.setIfInBounds_toArray, List.set_cons_zero, List.set_cons_succ]
          refine wpAnyH_take (i := 7) (v := ?_) rfl (by kernel_rfl) (by kernel_rfl) (by kernel_rfl) (fun _ _ _ h => h) (Or.inl ⟨by rfl, ?_⟩) (by assumption) ?_
          rotate_left
          focus
            intro wq hSw
            have hcc := HCS.out wq hSw
            go_simp
            try with_reducible rfl
          try simp only [Act.put, List.setIfInBounds_toArray, List.set_cons_zero, List.set_cons_succ]
          refine wpAnyH_ready (rs := [3]) (by kernel_rfl) (by simp) ?_
          refine AllReadyH.cons rfl (fun K hK => ?_) AllReadyH.nil
          go_simp
          refine hK.out _ _ ?s1 (fun hHeld2 => ?_)
          case s1 => exact hHeld
          clear hK K hHeld2
          try simp only [Act.put, List.setIfInBounds_toArray, List.set_cons_zero, List.set_cons_succ]
          refine wpAnyH_ready (rs := [8]) (by kernel_rfl) (by simp) ?_
          refine AllReadyH.cons rfl (fun K hK => ?_) AllReadyH.nil
          go_simp
          refine HCALL.out.mono ?_
          rintro e w5 ⟨rfl, hbb⟩
          dsimp only
          have hB5 : Below B1 W1 w5 := hHeld.trans (hbb.mono (hbb1 _ hHeld))
          have HO5 := Lib.hid (show w5.ownsRow B1 9 1 lv pos ((saysX k next ys pos).map (fun t => Value.string (bytesB t))) ∧ w5.heap[B1]? = some (.stringIter fm (pos + 1)) from ⟨ownsRow_behind (by rw [← hZ]; exact HY.out.2.1.drew) hbb, (hbb.block B1 (Array.getElem?_eq_some_iff.1 (by rw [← hZ]; exact HY.out.1)).1).trans (by rw [← hZ]; exact HY.out.1)⟩)
          refine hK.out _ _ ?s2 (fun hHeld2 => ?_)
          case s2 => exact hB5
          clear hK K hHeld2 hHeld hbb HCALL
          try simp only [Act.put, List.setIfInBounds_toArray, List.set_cons_zero, List.set_cons_succ]
          refine wpAnyH_ready (rs := [9]) (by kernel_rfl) (by simp) ?_
          refine AllReadyH.cons rfl (fun K hK => ?_) AllReadyH.nil
          go_simp
          refine hK.out _ _ ?s3 (fun hHeld2 => ?_)
          case s3 => exact hB5.alloc (hbb1 _ hB5) _
          clear hK K hHeld2
          try simp only [Act.put, List.setIfInBounds_toArray, List.set_cons_zero, List.set_cons_succ]
          obtain ⟨S6, hS6⟩ : ∃ S6, bytesB (sayX k next ys pos) = S6 := ⟨_, rfl⟩
          try rw [hS6]
          obtain ⟨w6, hw6⟩ : ∃ w6, w5.alloc (.cells #[.string S6] 9) = w6 := ⟨_, rfl⟩
          obtain ⟨H5, hH5⟩ : ∃ H5, w5.heap.size = H5 := ⟨_, rfl⟩
          have HO6 := Lib.hid (show w6.ownsRow B1 9 1 lv pos ((saysX k next ys pos).map (fun t => Value.string (bytesB t))) ∧ w6.heap[B1]? = some (.stringIter fm (pos + 1)) ∧ w6.cell? ⟨H5, 0, none⟩ = some (.string S6) ∧ Below B1 W1 w6 by
            rw [← hw6, ← hH5]
            exact ⟨ownsRow_behind HO5.out.1 (Below.alloc1 _), ((Below.alloc1 _).block B1 (Array.getElem?_eq_some_iff.1 HO5.out.2).1).trans HO5.out.2, by simp [go_sem], hB5.alloc (hbb1 _ hB5) _⟩)
          rw [hw6, hH5]
          clear hw6 HO5 hB5
          refine wpAnyH_ready (rs := [10]) (by kernel_rfl) (by simp) ?_
          refine AllReadyH.cons rfl (fun K hK => ?_) AllReadyH.nil
          refine step_append_lies _ (by rfl) _ _ _ (by rfl) B1 9 i0 (.string ⟨#[]⟩) 1 16 Tryz.underlying28 hi'.out hz0'.out hz1'.out hz2'.out (by rfl) (by decide) lv pos _ (by rfl) HO6.out.1 ⟨H5, 0, none⟩ 1 1 [.string S6] (by rfl) (by rfl) ?d1 ?d2 (by decide) ?d3 ?d4 ?d5 w6.heap.size rfl ?_
          case d1 =>
            intro j u hj
            rcases j with _ | j
            · have : u = .string S6 := by simpa using hj.symm
              rw [this, show (⟨H5, 0, none⟩ : Addr).add 0 = ⟨H5, 0, none⟩ from rfl]
              exact HO6.out.2.2.1
            · simp at hj
          case d2 => intro u hu; rw [List.mem_singleton.1 hu]; rfl
          case d3 => unfold maxLen; omega
          case d4 => omega
          case d5 => exact hbb1 _ HO6.out.2.2.2
          intro g7 cap7 w7 hown7 hgrow7 hat7 hlt7
          have hB7 : Below B1 W1 w7 := HO6.out.2.2.2.grown hgrow7 (hbb1 _ HO6.out.2.2.2) (fun j e => ownsRow_ge HO6.out.1 e)
          have HIT7 := Lib.hid ((hgrow7.block B1 (Array.getElem?_eq_some_iff.1 HO6.out.2.1).1 (fun e => ownsRow_ne HO6.out.1 HO6.out.2.1 rfl e.symm)).trans HO6.out.2.1)
          have HO7 := Lib.hid (show w7.ownsRow B1 9 1 (.slice (some ⟨g7, 0, none⟩) (pos + 1) cap7) (pos + 1) ((saysX k next ys (pos + 1)).map (fun t => Value.string (bytesB t))) by
            rw [saysX, List.map_append, List.map_cons, hS6]; exact hown7)
          refine hK.out _ _ ?s4 (fun hHeld2 => ?_)
          case s4 => exact hB7
          clear hK K hHeld2 hown7 hgrow7 hat7 hlt7 HO6
          try simp only [Act.put, List.setIfInBounds_toArray, List.set_cons_zero, List.set_cons_succ]
          refine wpAnyH_ready (rs := [11]) (by kernel_rfl) (by simp) ?_
          refine AllReadyH.cons rfl (fun K hK => ?_) AllReadyH.nil
          go_simp
          refine hK.out _ _ ?s5 (fun hHeld2 => ?_)
          case s5 => exact hB7
          clear hK K hHeld2
          try simp only [Act.put, List.setIfInBounds_toArray, List.set_cons_zero, List.set_cons_succ]
          refine wpAnyH_done (by kernel_rfl) ?_ _
          have HB7 := Lib.hid hB7
          clear hB7
          go_wp2_with fail
          go_roundw
          case rel => exact ⟨pos + 1, _, by omega, rfl, HIT7, HO7, HB7⟩
          case measure => rw [iterPos_of HIT7.out, HIT0.out]; omega
        · have HCALL := Lib.hid (show Calls Tryz.prog 37 #[.int .i64 (vv : Int)] Y.drew (fun e w' => e = .returned (.string (bytesB (sayX k next ys pos))) ∧ Below Y.drew.heap.size Y.drew w') from (bit_walk vv (by rw [← hBB]; exact hvl) Y.drew hLd).mono (fun e w' ⟨he, hw⟩ => ⟨by rw [he, HSAY.out, hT], hw⟩))
          clear hT hLd hBB
          go_upto_region 12 with fail
          refine wp_region_held_drew (S := fun W => Below B1 W1 W) (by kernel_rfl) hYd (fun hHeld => ?_)
          obtain ⟨Z, hZ⟩ : ∃ Z, Y.drew = Z := ⟨_, rfl⟩
          rw [hZ] at hlook HCALL hHeld ⊢
          refine wpAnyH_take (i := 0) (v := ?_) rfl (by kernel_rfl) (by kernel_rfl) (by kernel_rfl) (fun _ _ _ h => h) (Or.inl ⟨by rfl, ?_⟩) (by assumption) ?_
          rotate_left
          focus
            intro wq hSw
            have hcc := HCS.out wq hSw
            go_simp
            try with_reducible rfl
          try simp only [Act.put, List.setIfInBounds_toArray, List.set_cons_zero, List.set_cons_succ]
          refine wpAnyH_take (i := 1) (v := ?_) rfl (by kernel_rfl) (by kernel_rfl) (by kernel_rfl) (fun _ _ _ h => h) (Or.inl ⟨by rfl, ?_⟩) (by assumption) ?_
          rotate_left
          focus
            intro wq hSw
            have hcc := HCS.out wq hSw
            go_simp
            try with_reducible rfl
          try simp only [Act.put, List.setIfInBounds_toArray, List.set_cons_zero, List.set_cons_succ]
          refine wpAnyH_take (i := 2) (v := ?_) rfl (by kernel_rfl) (by kernel_rfl) (by kernel_rfl) (fun _ _ _ h => h) (Or.inl ⟨by rfl, ?_⟩) (by assumption) ?_
          rotate_left
          focus
            intro wq hSw
            have hcc := HCS.out wq hSw
            go_simp
            try with_reducible rfl
          try simp only [Act.put, List.setIfInBounds_toArray, List.set_cons_zero, List.set_cons_succ]
          refine wpAnyH_take (i := 4) (v := ?_) rfl (by kernel_rfl) (by kernel_rfl) (by kernel_rfl) (fun _ _ _ h => h) (Or.inl ⟨by rfl, ?_⟩) (by assumption) ?_
          rotate_left
          focus
            intro wq hSw
            have hcc := HCS.out wq hSw
            go_simp
            try with_reducible rfl
          try simp only [Act.put, List.setIfInBounds_toArray, List.set_cons_zero, List.set_cons_succ]
          refine wpAnyH_take (i := 5) (v := ?_) rfl (by kernel_rfl) (by kernel_rfl) (by kernel_rfl) (fun _ _ _ h => h) (Or.inl ⟨by rfl, ?_⟩) (by assumption) ?_
          rotate_left
          focus
            intro wq hSw
            have hcc := HCS.out wq hSw
            go_simp
            try with_reducible rfl
          try simp only [Act.put, List.setIfInBounds_toArray, List.set_cons_zero, List.set_cons_succ]
          refine wpAnyH_take (i := 6) (v := ?_) rfl (by kernel_rfl) (by kernel_rfl) (by kernel_rfl) (fun _ _ _ h => h) (Or.inl ⟨by rfl, ?_⟩) (by assumption) ?_
          rotate_left
          focus
            intro wq hSw
            have hcc := HCS.out wq hSw
            go_simp
            try with_reducible rfl
          try simp only [Act.put, List.setIfInBounds_toArray, List.set_cons_zero, List.set_cons_succ]
          refine wpAnyH_take (i := 7) (v := ?_) rfl (by kernel_rfl) (by kernel_rfl) (by kernel_rfl) (fun _ _ _ h => h) (Or.inl ⟨by rfl, ?_⟩) (by assumption) ?_
          rotate_left
          focus
            intro wq hSw
            have hcc := HCS.out wq hSw
            go_simp
            try with_reducible rfl
          try simp only [Act.put, List.setIfInBounds_toArray, List.set_cons_zero, List.set_cons_succ]
          refine wpAnyH_ready (rs := [3]) (by kernel_rfl) (by simp) ?_
          refine AllReadyH.cons rfl (fun K hK => ?_) AllReadyH.nil
          go_simp
          refine hK.out _ _ ?s1 (fun hHeld2 => ?_)
          case s1 => exact hHeld
          clear hK K hHeld2
          try simp only [Act.put, List.setIfInBounds_toArray, List.set_cons_zero, List.set_cons_succ]
          refine wpAnyH_ready (rs := [8]) (by kernel_rfl) (by simp) ?_
          refine AllReadyH.cons rfl (fun K hK => ?_) AllReadyH.nil
          go_simp
          refine HCALL.out.mono ?_
          rintro e w5 ⟨rfl, hbb⟩
          dsimp only
          have hB5 : Below B1 W1 w5 := hHeld.trans (hbb.mono (hbb1 _ hHeld))
          have HO5 := Lib.hid (show w5.ownsRow B1 9 1 lv pos ((saysX k next ys pos).map (fun t => Value.string (bytesB t))) ∧ w5.heap[B1]? = some (.stringIter fm (pos + 1)) from ⟨ownsRow_behind (by rw [← hZ]; exact HY.out.2.1.drew) hbb, (hbb.block B1 (Array.getElem?_eq_some_iff.1 (by rw [← hZ]; exact HY.out.1)).1).trans (by rw [← hZ]; exact HY.out.1)⟩)
          refine hK.out _ _ ?s2 (fun hHeld2 => ?_)
          case s2 => exact hB5
          clear hK K hHeld2 hHeld hbb HCALL
          try simp only [Act.put, List.setIfInBounds_toArray, List.set_cons_zero, List.set_cons_succ]
          refine wpAnyH_ready (rs := [9]) (by kernel_rfl) (by simp) ?_
          refine AllReadyH.cons rfl (fun K hK => ?_) AllReadyH.nil
          go_simp
          refine hK.out _ _ ?s3 (fun hHeld2 => ?_)
          case s3 => exact hB5.alloc (hbb1 _ hB5) _
          clear hK K hHeld2
          try simp only [Act.put, List.setIfInBounds_toArray, List.set_cons_zero, List.set_cons_succ]
          obtain ⟨S6, hS6⟩ : ∃ S6, bytesB (sayX k next ys pos) = S6 := ⟨_, rfl⟩
          try rw [hS6]
          obtain ⟨w6, hw6⟩ : ∃ w6, w5.alloc (.cells #[.string S6] 9) = w6 := ⟨_, rfl⟩
          obtain ⟨H5, hH5⟩ : ∃ H5, w5.heap.size = H5 := ⟨_, rfl⟩
          have HO6 := Lib.hid (show w6.ownsRow B1 9 1 lv pos ((saysX k next ys pos).map (fun t => Value.string (bytesB t))) ∧ w6.heap[B1]? = some (.stringIter fm (pos + 1)) ∧ w6.cell? ⟨H5, 0, none⟩ = some (.string S6) ∧ Below B1 W1 w6 by
            rw [← hw6, ← hH5]
            exact ⟨ownsRow_behind HO5.out.1 (Below.alloc1 _), ((Below.alloc1 _).block B1 (Array.getElem?_eq_some_iff.1 HO5.out.2).1).trans HO5.out.2, by simp [go_sem], hB5.alloc (hbb1 _ hB5) _⟩)
          rw [hw6, hH5]
          clear hw6 HO5 hB5
          refine wpAnyH_ready (rs := [10]) (by kernel_rfl) (by simp) ?_
          refine AllReadyH.cons rfl (fun K hK => ?_) AllReadyH.nil
          refine step_append_lies _ (by rfl) _ _ _ (by rfl) B1 9 i0 (.string ⟨#[]⟩) 1 16 Tryz.underlying28 hi'.out hz0'.out hz1'.out hz2'.out (by rfl) (by decide) lv pos _ (by rfl) HO6.out.1 ⟨H5, 0, none⟩ 1 1 [.string S6] (by rfl) (by rfl) ?d1 ?d2 (by decide) ?d3 ?d4 ?d5 w6.heap.size rfl ?_
          case d1 =>
            intro j u hj
            rcases j with _ | j
            · have : u = .string S6 := by simpa using hj.symm
              rw [this, show (⟨H5, 0, none⟩ : Addr).add 0 = ⟨H5, 0, none⟩ from rfl]
              exact HO6.out.2.2.1
            · simp at hj
          case d2 => intro u hu; rw [List.mem_singleton.1 hu]; rfl
          case d3 => unfold maxLen; omega
          case d4 => omega
          case d5 => exact hbb1 _ HO6.out.2.2.2
          intro g7 cap7 w7 hown7 hgrow7 hat7 hlt7
          have hB7 : Below B1 W1 w7 := HO6.out.2.2.2.grown hgrow7 (hbb1 _ HO6.out.2.2.2) (fun j e => ownsRow_ge HO6.out.1 e)
          have HIT7 := Lib.hid ((hgrow7.block B1 (Array.getElem?_eq_some_iff.1 HO6.out.2.1).1 (fun e => ownsRow_ne HO6.out.1 HO6.out.2.1 rfl e.symm)).trans HO6.out.2.1)
          have HO7 := Lib.hid (show w7.ownsRow B1 9 1 (.slice (some ⟨g7, 0, none⟩) (pos + 1) cap7) (pos + 1) ((saysX k next ys (pos + 1)).map (fun t => Value.string (bytesB t))) by
            rw [saysX, List.map_append, List.map_cons, hS6]; exact hown7)
          refine hK.out _ _ ?s4 (fun hHeld2 => ?_)
          case s4 => exact hB7
          clear hK K hHeld2 hown7 hgrow7 hat7 hlt7 HO6
          try simp only [Act.put, List.setIfInBounds_toArray, List.set_cons_zero, List.set_cons_succ]
          refine wpAnyH_ready (rs := [11]) (by kernel_rfl) (by simp) ?_
          refine AllReadyH.cons rfl (fun K hK => ?_) AllReadyH.nil
          go_simp
          refine hK.out _ _ ?s5 (fun hHeld2 => ?_)
          case s5 => exact hB7
          clear hK K hHeld2
          try simp only [Act.put, List.setIfInBounds_toArray, List.set_cons_zero, List.set_cons_succ]
          refine wpAnyH_done (by kernel_rfl) ?_ _
          have HB7 := Lib.hid hB7
          clear hB7
          go_wp2_with fail
          go_roundw
          case rel => exact ⟨pos + 1, _, by omega, rfl, HIT7, HO7, HB7⟩
          case measure => rw [iterPos_of HIT7.out, HIT0.out]; omega
        · have HCALL := Lib.hid (show Calls Tryz.prog 38 #[.int .i64 (vv : Int)] Y.drew (fun e w' => e = .returned (.string (bytesB (sayX k next ys pos))) ∧ Below Y.drew.heap.size Y.drew w') from (call_slash vv (by rw [← hBB]; exact hvl) Y.drew hLd).mono (fun e w' ⟨he, hw⟩ => ⟨by rw [he, HSAY.out, hT], hw⟩))
          clear hT hLd hBB
          go_upto_region 12 with fail
          refine wp_region_held_drew (S := fun W => Below B1 W1 W) (by kernel_rfl) hYd (fun hHeld => ?_)
          obtain ⟨Z, hZ⟩ : ∃ Z, Y.drew = Z := ⟨_, rfl⟩
          rw [hZ] at hlook HCALL hHeld ⊢
          refine wpAnyH_take (i := 0) (v := ?_) rfl (by kernel_rfl) (by kernel_rfl) (by kernel_rfl) (fun _ _ _ h => h) (Or.inl ⟨by rfl, ?_⟩) (by assumption) ?_
          rotate_left
          focus
            intro wq hSw
            have hcc := HCS.out wq hSw
            go_simp
            try with_reducible rfl
          try simp only [Act.put, List.setIfInBounds_toArray, List.set_cons_zero, List.set_cons_succ]
          refine wpAnyH_take (i := 1) (v := ?_) rfl (by kernel_rfl) (by kernel_rfl) (by kernel_rfl) (fun _ _ _ h => h) (Or.inl ⟨by rfl, ?_⟩) (by assumption) ?_
          rotate_left
          focus
            intro wq hSw
            have hcc := HCS.out wq hSw
            go_simp
            try with_reducible rfl
          try simp only [Act.put, List.setIfInBounds_toArray, List.set_cons_zero, List.set_cons_succ]
          refine wpAnyH_take (i := 2) (v := ?_) rfl (by kernel_rfl) (by kernel_rfl) (by kernel_rfl) (fun _ _ _ h => h) (Or.inl ⟨by rfl, ?_⟩) (by assumption) ?_
          rotate_left
          focus
            intro wq hSw
            have hcc := HCS.out wq hSw
            go_simp
            try with_reducible rfl
          try simp only [Act.put, List.setIfInBounds_toArray, List.set_cons_zero, List.set_cons_succ]
          refine wpAnyH_take (i := 4) (v := ?_) rfl (by kernel_rfl) (by kernel_rfl) (by kernel_rfl) (fun _ _ _ h => h) (Or.inl ⟨by rfl, ?_⟩) (by assumption) ?_
          rotate_left
          focus
            intro wq hSw
            have hcc := HCS.out wq hSw
            go_simp
            try with_reducible rfl
          try simp only [Act.put, List.setIfInBounds_toArray, List.set_cons_zero, List.set_cons_succ]
          refine wpAnyH_take (i := 5) (v := ?_) rfl (by kernel_rfl) (by kernel_rfl) (by kernel_rfl) (fun _ _ _ h => h) (Or.inl ⟨by rfl, ?_⟩) (by assumption) ?_
          rotate_left
          focus
            intro wq hSw
            have hcc := HCS.out wq hSw
            go_simp
            try with_reducible rfl
          try simp only [Act.put, List.setIfInBounds_toArray, List.set_cons_zero, List.set_cons_succ]
          refine wpAnyH_take (i := 6) (v := ?_) rfl (by kernel_rfl) (by kernel_rfl) (by kernel_rfl) (fun _ _ _ h => h) (Or.inl ⟨by rfl, ?_⟩) (by assumption) ?_
          rotate_left
          focus
            intro wq hSw
            have hcc := HCS.out wq hSw
            go_simp
            try with_reducible rfl
          try simp only [Act.put, List.setIfInBounds_toArray, List.set_cons_zero, List.set_cons_succ]
          refine wpAnyH_take (i := 7) (v := ?_) rfl (by kernel_rfl) (by kernel_rfl) (by kernel_rfl) (fun _ _ _ h => h) (Or.inl ⟨by rfl, ?_⟩) (by assumption) ?_
          rotate_left
          focus
            intro wq hSw
            have hcc := HCS.out wq hSw
            go_simp
            try with_reducible rfl
          try simp only [Act.put, List.setIfInBounds_toArray, List.set_cons_zero, List.set_cons_succ]
          refine wpAnyH_ready (rs := [3]) (by kernel_rfl) (by simp) ?_
          refine AllReadyH.cons rfl (fun K hK => ?_) AllReadyH.nil
          go_simp
          refine hK.out _ _ ?s1 (fun hHeld2 => ?_)
          case s1 => exact hHeld
          clear hK K hHeld2
          try simp only [Act.put, List.setIfInBounds_toArray, List.set_cons_zero, List.set_cons_succ]
          refine wpAnyH_ready (rs := [8]) (by kernel_rfl) (by simp) ?_
          refine AllReadyH.cons rfl (fun K hK => ?_) AllReadyH.nil
          go_simp
          refine HCALL.out.mono ?_
          rintro e w5 ⟨rfl, hbb⟩
          dsimp only
          have hB5 : Below B1 W1 w5 := hHeld.trans (hbb.mono (hbb1 _ hHeld))
          have HO5 := Lib.hid (show w5.ownsRow B1 9 1 lv pos ((saysX k next ys pos).map (fun t => Value.string (bytesB t))) ∧ w5.heap[B1]? = some (.stringIter fm (pos + 1)) from ⟨ownsRow_behind (by rw [← hZ]; exact HY.out.2.1.drew) hbb, (hbb.block B1 (Array.getElem?_eq_some_iff.1 (by rw [← hZ]; exact HY.out.1)).1).trans (by rw [← hZ]; exact HY.out.1)⟩)
          refine hK.out _ _ ?s2 (fun hHeld2 => ?_)
          case s2 => exact hB5
          clear hK K hHeld2 hHeld hbb HCALL
          try simp only [Act.put, List.setIfInBounds_toArray, List.set_cons_zero, List.set_cons_succ]
          refine wpAnyH_ready (rs := [9]) (by kernel_rfl) (by simp) ?_
          refine AllReadyH.cons rfl (fun K hK => ?_) AllReadyH.nil
          go_simp
          refine hK.out _ _ ?s3 (fun hHeld2 => ?_)
          case s3 => exact hB5.alloc (hbb1 _ hB5) _
          clear hK K hHeld2
          try simp only [Act.put, List.setIfInBounds_toArray, List.set_cons_zero, List.set_cons_succ]
          obtain ⟨S6, hS6⟩ : ∃ S6, bytesB (sayX k next ys pos) = S6 := ⟨_, rfl⟩
          try rw [hS6]
          obtain ⟨w6, hw6⟩ : ∃ w6, w5.alloc (.cells #[.string S6] 9) = w6 := ⟨_, rfl⟩
          obtain ⟨H5, hH5⟩ : ∃ H5, w5.heap.size = H5 := ⟨_, rfl⟩
          have HO6 := Lib.hid (show w6.ownsRow B1 9 1 lv pos ((saysX k next ys pos).map (fun t => Value.string (bytesB t))) ∧ w6.heap[B1]? = some (.stringIter fm (pos + 1)) ∧ w6.cell? ⟨H5, 0, none⟩ = some (.string S6) ∧ Below B1 W1 w6 by
            rw [← hw6, ← hH5]
            exact ⟨ownsRow_behind HO5.out.1 (Below.alloc1 _), ((Below.alloc1 _).block B1 (Array.getElem?_eq_some_iff.1 HO5.out.2).1).trans HO5.out.2, by simp [go_sem], hB5.alloc (hbb1 _ hB5) _⟩)
          rw [hw6, hH5]
          clear hw6 HO5 hB5
          refine wpAnyH_ready (rs := [10]) (by kernel_rfl) (by simp) ?_
          refine AllReadyH.cons rfl (fun K hK => ?_) AllReadyH.nil
          refine step_append_lies _ (by rfl) _ _ _ (by rfl) B1 9 i0 (.string ⟨#[]⟩) 1 16 Tryz.underlying28 hi'.out hz0'.out hz1'.out hz2'.out (by rfl) (by decide) lv pos _ (by rfl) HO6.out.1 ⟨H5, 0, none⟩ 1 1 [.string S6] (by rfl) (by rfl) ?d1 ?d2 (by decide) ?d3 ?d4 ?d5 w6.heap.size rfl ?_
          case d1 =>
            intro j u hj
            rcases j with _ | j
            · have : u = .string S6 := by simpa using hj.symm
              rw [this, show (⟨H5, 0, none⟩ : Addr).add 0 = ⟨H5, 0, none⟩ from rfl]
              exact HO6.out.2.2.1
            · simp at hj
          case d2 => intro u hu; rw [List.mem_singleton.1 hu]; rfl
          case d3 => unfold maxLen; omega
          case d4 => omega
          case d5 => exact hbb1 _ HO6.out.2.2.2
          intro g7 cap7 w7 hown7 hgrow7 hat7 hlt7
          have hB7 : Below B1 W1 w7 := HO6.out.2.2.2.grown hgrow7 (hbb1 _ HO6.out.2.2.2) (fun j e => ownsRow_ge HO6.out.1 e)
          have HIT7 := Lib.hid ((hgrow7.block B1 (Array.getElem?_eq_some_iff.1 HO6.out.2.1).1 (fun e => ownsRow_ne HO6.out.1 HO6.out.2.1 rfl e.symm)).trans HO6.out.2.1)
          have HO7 := Lib.hid (show w7.ownsRow B1 9 1 (.slice (some ⟨g7, 0, none⟩) (pos + 1) cap7) (pos + 1) ((saysX k next ys (pos + 1)).map (fun t => Value.string (bytesB t))) by
            rw [saysX, List.map_append, List.map_cons, hS6]; exact hown7)
          refine hK.out _ _ ?s4 (fun hHeld2 => ?_)
          case s4 => exact hB7
          clear hK K hHeld2 hown7 hgrow7 hat7 hlt7 HO6
          try simp only [Act.put, List.setIfInBounds_toArray, List.set_cons_zero, List.set_cons_succ]
          refine wpAnyH_ready (rs := [11]) (by kernel_rfl) (by simp) ?_
          refine AllReadyH.cons rfl (fun K hK => ?_) AllReadyH.nil
          go_simp
          refine hK.out _ _ ?s5 (fun hHeld2 => ?_)
          case s5 => exact hB7
          clear hK K hHeld2
          try simp only [Act.put, List.setIfInBounds_toArray, List.set_cons_zero, List.set_cons_succ]
          refine wpAnyH_done (by kernel_rfl) ?_ _
          have HB7 := Lib.hid hB7
          clear hB7
          go_wp2_with fail
          go_roundw
          case rel => exact ⟨pos + 1, _, by omega, rfl, HIT7, HO7, HB7⟩
          case measure => rw [iterPos_of HIT7.out, HIT0.out]; omega
        · have HCALL := Lib.hid (show Calls Tryz.prog 39 #[.int .i64 (vv : Int), .pointer (some ⟨p, 0, none⟩)] Y.drew (fun e w' => e = .returned (.string (bytesB (sayX k next ys pos))) ∧ Below Y.drew.heap.size Y.drew w') from (call_rel p next vv hnl (by rw [← hBB]; exact hvl) Y.drew hLd c1).mono (fun e w' ⟨he, hw⟩ => ⟨by rw [he, HSAY.out, hT], hw⟩))
          clear hT hLd hBB c1
          go_upto_region 12 with fail
          refine wp_region_held_drew (S := fun W => Below B1 W1 W) (by kernel_rfl) hYd (fun hHeld => ?_)
          obtain ⟨Z, hZ⟩ : ∃ Z, Y.drew = Z := ⟨_, rfl⟩
          rw [hZ] at hlook HCALL hHeld ⊢
          refine wpAnyH_take (i := 0) (v := ?_) rfl (by kernel_rfl) (by kernel_rfl) (by kernel_rfl) (fun _ _ _ h => h) (Or.inl ⟨by rfl, ?_⟩) (by assumption) ?_
          rotate_left
          focus
            intro wq hSw
            have hcc := HCS.out wq hSw
            go_simp
            try with_reducible rfl
          try simp only [Act.put, List.setIfInBounds_toArray, List.set_cons_zero, List.set_cons_succ]
          refine wpAnyH_take (i := 1) (v := ?_) rfl (by kernel_rfl) (by kernel_rfl) (by kernel_rfl) (fun _ _ _ h => h) (Or.inl ⟨by rfl, ?_⟩) (by assumption) ?_
          rotate_left
          focus
            intro wq hSw
            have hcc := HCS.out wq hSw
            go_simp
            try with_reducible rfl
          try simp only [Act.put, List.setIfInBounds_toArray, List.set_cons_zero, List.set_cons_succ]
          refine wpAnyH_take (i := 2) (v := ?_) rfl (by kernel_rfl) (by kernel_rfl) (by kernel_rfl) (fun _ _ _ h => h) (Or.inl ⟨by rfl, ?_⟩) (by assumption) ?_
          rotate_left
          focus
            intro wq hSw
            have hcc := HCS.out wq hSw
            go_simp
            try with_reducible rfl
          try simp only [Act.put, List.setIfInBounds_toArray, List.set_cons_zero, List.set_cons_succ]
          refine wpAnyH_take (i := 4) (v := ?_) rfl (by kernel_rfl) (by kernel_rfl) (by kernel_rfl) (fun _ _ _ h => h) (Or.inl ⟨by rfl, ?_⟩) (by assumption) ?_
          rotate_left
          focus
            intro wq hSw
            have hcc := HCS.out wq hSw
            go_simp
            try with_reducible rfl
          try simp only [Act.put, List.setIfInBounds_toArray, List.set_cons_zero, List.set_cons_succ]
          refine wpAnyH_take (i := 5) (v := ?_) rfl (by kernel_rfl) (by kernel_rfl) (by kernel_rfl) (fun _ _ _ h => h) (Or.inl ⟨by rfl, ?_⟩) (by assumption) ?_
          rotate_left
          focus
            intro wq hSw
            have hcc := HCS.out wq hSw
            go_simp
            try with_reducible rfl
          try simp only [Act.put, List.setIfInBounds_toArray, List.set_cons_zero, List.set_cons_succ]
          refine wpAnyH_take (i := 6) (v := ?_) rfl (by kernel_rfl) (by kernel_rfl) (by kernel_rfl) (fun _ _ _ h => h) (Or.inl ⟨by rfl, ?_⟩) (by assumption) ?_
          rotate_left
          focus
            intro wq hSw
            have hcc := HCS.out wq hSw
            go_simp
            try with_reducible rfl
          try simp only [Act.put, List.setIfInBounds_toArray, List.set_cons_zero, List.set_cons_succ]
          refine wpAnyH_take (i := 7) (v := ?_) rfl (by kernel_rfl) (by kernel_rfl) (by kernel_rfl) (fun _ _ _ h => h) (Or.inl ⟨by rfl, ?_⟩) (by assumption) ?_
          rotate_left
          focus
            intro wq hSw
            have hcc := HCS.out wq hSw
            go_simp
            try with_reducible rfl
          try simp only [Act.put, List.setIfInBounds_toArray, List.set_cons_zero, List.set_cons_succ]
          refine wpAnyH_ready (rs := [3]) (by kernel_rfl) (by simp) ?_
          refine AllReadyH.cons rfl (fun K hK => ?_) AllReadyH.nil
          go_simp
          refine hK.out _ _ ?s1 (fun hHeld2 => ?_)
          case s1 => exact hHeld
          clear hK K hHeld2
          try simp only [Act.put, List.setIfInBounds_toArray, List.set_cons_zero, List.set_cons_succ]
          refine wpAnyH_ready (rs := [8]) (by kernel_rfl) (by simp) ?_
          refine AllReadyH.cons rfl (fun K hK => ?_) AllReadyH.nil
          go_simp
          refine HCALL.out.mono ?_
          rintro e w5 ⟨rfl, hbb⟩
          dsimp only
          have hB5 : Below B1 W1 w5 := hHeld.trans (hbb.mono (hbb1 _ hHeld))
          have HO5 := Lib.hid (show w5.ownsRow B1 9 1 lv pos ((saysX k next ys pos).map (fun t => Value.string (bytesB t))) ∧ w5.heap[B1]? = some (.stringIter fm (pos + 1)) from ⟨ownsRow_behind (by rw [← hZ]; exact HY.out.2.1.drew) hbb, (hbb.block B1 (Array.getElem?_eq_some_iff.1 (by rw [← hZ]; exact HY.out.1)).1).trans (by rw [← hZ]; exact HY.out.1)⟩)
          refine hK.out _ _ ?s2 (fun hHeld2 => ?_)
          case s2 => exact hB5
          clear hK K hHeld2 hHeld hbb HCALL
          try simp only [Act.put, List.setIfInBounds_toArray, List.set_cons_zero, List.set_cons_succ]
          refine wpAnyH_ready (rs := [9]) (by kernel_rfl) (by simp) ?_
          refine AllReadyH.cons rfl (fun K hK => ?_) AllReadyH.nil
          go_simp
          refine hK.out _ _ ?s3 (fun hHeld2 => ?_)
          case s3 => exact hB5.alloc (hbb1 _ hB5) _
          clear hK K hHeld2
          try simp only [Act.put, List.setIfInBounds_toArray, List.set_cons_zero, List.set_cons_succ]
          obtain ⟨S6, hS6⟩ : ∃ S6, bytesB (sayX k next ys pos) = S6 := ⟨_, rfl⟩
          try rw [hS6]
          obtain ⟨w6, hw6⟩ : ∃ w6, w5.alloc (.cells #[.string S6] 9) = w6 := ⟨_, rfl⟩
          obtain ⟨H5, hH5⟩ : ∃ H5, w5.heap.size = H5 := ⟨_, rfl⟩
          have HO6 := Lib.hid (show w6.ownsRow B1 9 1 lv pos ((saysX k next ys pos).map (fun t => Value.string (bytesB t))) ∧ w6.heap[B1]? = some (.stringIter fm (pos + 1)) ∧ w6.cell? ⟨H5, 0, none⟩ = some (.string S6) ∧ Below B1 W1 w6 by
            rw [← hw6, ← hH5]
            exact ⟨ownsRow_behind HO5.out.1 (Below.alloc1 _), ((Below.alloc1 _).block B1 (Array.getElem?_eq_some_iff.1 HO5.out.2).1).trans HO5.out.2, by simp [go_sem], hB5.alloc (hbb1 _ hB5) _⟩)
          rw [hw6, hH5]
          clear hw6 HO5 hB5
          refine wpAnyH_ready (rs := [10]) (by kernel_rfl) (by simp) ?_
          refine AllReadyH.cons rfl (fun K hK => ?_) AllReadyH.nil
          refine step_append_lies _ (by rfl) _ _ _ (by rfl) B1 9 i0 (.string ⟨#[]⟩) 1 16 Tryz.underlying28 hi'.out hz0'.out hz1'.out hz2'.out (by rfl) (by decide) lv pos _ (by rfl) HO6.out.1 ⟨H5, 0, none⟩ 1 1 [.string S6] (by rfl) (by rfl) ?d1 ?d2 (by decide) ?d3 ?d4 ?d5 w6.heap.size rfl ?_
          case d1 =>
            intro j u hj
            rcases j with _ | j
            · have : u = .string S6 := by simpa using hj.symm
              rw [this, show (⟨H5, 0, none⟩ : Addr).add 0 = ⟨H5, 0, none⟩ from rfl]
              exact HO6.out.2.2.1
            · simp at hj
          case d2 => intro u hu; rw [List.mem_singleton.1 hu]; rfl
          case d3 => unfold maxLen; omega
          case d4 => omega
          case d5 => exact hbb1 _ HO6.out.2.2.2
          intro g7 cap7 w7 hown7 hgrow7 hat7 hlt7
          have hB7 : Below B1 W1 w7 := HO6.out.2.2.2.grown hgrow7 (hbb1 _ HO6.out.2.2.2) (fun j e => ownsRow_ge HO6.out.1 e)
          have HIT7 := Lib.hid ((hgrow7.block B1 (Array.getElem?_eq_some_iff.1 HO6.out.2.1).1 (fun e => ownsRow_ne HO6.out.1 HO6.out.2.1 rfl e.symm)).trans HO6.out.2.1)
          have HO7 := Lib.hid (show w7.ownsRow B1 9 1 (.slice (some ⟨g7, 0, none⟩) (pos + 1) cap7) (pos + 1) ((saysX k next ys (pos + 1)).map (fun t => Value.string (bytesB t))) by
            rw [saysX, List.map_append, List.map_cons, hS6]; exact hown7)
          refine hK.out _ _ ?s4 (fun hHeld2 => ?_)
          case s4 => exact hB7
          clear hK K hHeld2 hown7 hgrow7 hat7 hlt7 HO6
          try simp only [Act.put, List.setIfInBounds_toArray, List.set_cons_zero, List.set_cons_succ]
          refine wpAnyH_ready (rs := [11]) (by kernel_rfl) (by simp) ?_
          refine AllReadyH.cons rfl (fun K hK => ?_) AllReadyH.nil
          go_simp
          refine hK.out _ _ ?s5 (fun hHeld2 => ?_)
          case s5 => exact hB7
          clear hK K hHeld2
          try simp only [Act.put, List.setIfInBounds_toArray, List.set_cons_zero, List.set_cons_succ]
          refine wpAnyH_done (by kernel_rfl) ?_ _
          have HB7 := Lib.hid hB7
          clear hB7
          go_wp2_with fail
          go_roundw
          case rel => exact ⟨pos + 1, _, by omega, rfl, HIT7, HO7, HB7⟩
          case measure => rw [iterPos_of HIT7.out, HIT0.out]; omega
      · obtain rfl : pos = n := by omega
        have hnx2 : ∀ ty, (Instr.next (.pointer (some ⟨B1, 0, none⟩)) true ty).run Tryz.prog _ = .ok (.tuple #[.bool false]) _ := fun ty => Lib.run_next_end_at _ B1 fm pos ty HIT.out (by omega)
        have hNB : NB < B1 := by rw [← hB1]; exact HNL.out
        have z1 := (HB.out.cell (p := ⟨NB, 1, none⟩) hNB).trans y1
        have z3 := (HB.out.cell (p := ⟨NB, 3, none⟩) hNB).trans y3
        have HEND := Lib.hid (show Below w.heap.size w wr from by
          rw [hB0]
          exact HBW.out.trans (HB.out.mono (by have := HBW.out.size; omega)))
        clear y0 y1 y2 y3 y4 HIT HVL HLY HMY HIY
        by_cases hp0 : pos = 0
        · have hlv : ∃ a c, lv = .slice a 0 c := by
            rcases HO.out.2 with ⟨rfl, _⟩ | ⟨g, c, cur, rfl, _⟩
            · exact ⟨_, _, rfl⟩
            · rw [hp0]; exact ⟨_, _, rfl⟩
          obtain ⟨la, lc, rfl⟩ := hlv
          have HFE := Lib.hid (show nm = bytesB (nm.data.toList ++ opsX k next ys fm.size) by
            rw [hn, hp0, opsX, List.append_nil, bytesB_list])
          obtain ⟨FE, hFE⟩ : ∃ FE, bytesB (nm.data.toList ++ opsX k next ys fm.size) = FE := ⟨_, rfl⟩
          rw [hFE] at HFE
          have HFF := Lib.hid hFE
          clear hFE HO
          go_upto_region 14 with fail
          go_region
          all_goals
            go_wp2_with fail
            refine bodyPost_ret (v := .tuple #[.string nm, .int .i64 (sz : Nat), .int .i64 0]) (by simp [results, Tryz.results7, go_sem]) rfl ?_
            exact ⟨by rw [HFF.out, ← HFE.out], HEND.out.drew⟩
        · obtain ⟨m, hm⟩ : ∃ m, pos = m + 1 := ⟨pos - 1, by omega⟩
          obtain ⟨gl, lc, rfl⟩ : ∃ gl lc, lv = .slice (some ⟨gl, 0, none⟩) pos lc := by
            have h := HO.out
            rw [hm] at h ⊢
            exact ownsRow_succ h
          have hcell : ∀ (j : Nat) (u : ByteArray), ((saysX k next ys pos).map bytesB)[j]? = some u → wr.cell? ⟨gl, 0 + j, none⟩ = some (.string u) := by
            intro j u hj
            have hjl : j < pos := by
              have := (List.getElem?_eq_some_iff.1 hj).1
              rw [List.length_map, saysX_length] at this; exact this
            have h := HO.out.cellAt j (by omega)
            rw [Nat.zero_add, h]
            rw [List.getElem?_map] at hj ⊢
            obtain ⟨t, ht, rfl⟩ := Option.map_eq_some_iff.1 hj
            rw [ht]; rfl
          have hglt : gl < wr.heap.size ∧ pos ≤ lc := by
            rcases HO.out.2 with ⟨e2, _⟩ | ⟨g2, c2, cur, e2, h1, h2, h3, _⟩
            · cases e2
            · injection e2 with e3 e4 e5
              injection e3 with e3
              injection e3 with e3
              subst e3 e5
              exact ⟨(Array.getElem?_eq_some_iff.1 h2).1, h3⟩
          have hlen : ((saysX k next ys pos).map bytesB).length = pos := by rw [List.length_map, saysX_length]
          have hmap : ((saysX k next ys pos).map bytesB).map (·.data.toList) = saysX k next ys pos := says_bytes _
          have hop := ops_join k next ys pos (by omega) hfs
          have hjl : (Lib.join (saysX k next ys pos) [44]).length ≤ 20 := by
            have h1 := opsX_length k next ys pos
            rw [← hop, List.length_cons] at h1; omega
          have HJ := Lib.hid (fun W (hW : W.heap = wr.heap) => show Calls Tryz.prog 19 #[.slice (some ⟨gl, 0, none⟩) pos lc, .string ⟨#[44]⟩] W (fun e w' => e = .returned (.string (bytesB (Lib.join (saysX k next ys pos) [44]))) ∧ Below W.heap.size W w') from by
            have h := strings_Join gl 0 lc ((saysX k next ys pos).map bytesB) ⟨#[44]⟩ W (fun j u hj => by have h1 := hcell j u hj; unfold World.cell? at h1 ⊢; rw [hW]; exact h1) (by rw [hW]; exact hglt.1) (by rw [hlen]; omega) (by rw [hlen]; exact hglt.2) (by rw [hmap]; show (Lib.join _ [44]).length ≤ _; omega)
            rw [hmap, hlen] at h
            exact h)
          have hjz : (bytesB (Lib.join (saysX k next ys pos) [44])).size ≤ 20 := by rw [bytesB_size]; exact hjl
          obtain ⟨JJ, hJJ⟩ : ∃ JJ, bytesB (Lib.join (saysX k next ys pos) [44]) = JJ := ⟨_, rfl⟩
          have HFE := Lib.hid (show (nm ++ (⟨#[32]⟩ : ByteArray)) ++ JJ = bytesB (nm.data.toList ++ opsX k next ys fm.size) by
            rw [← hJJ, hn, ← hop, ← bytesB_append, bytesB_list, show (⟨#[32]⟩ : ByteArray) = bytesB [32] from rfl, ByteArray.append_assoc, bytesB_append]; rfl)
          obtain ⟨FE, hFE⟩ : ∃ FE, bytesB (nm.data.toList ++ opsX k next ys fm.size) = FE := ⟨_, rfl⟩
          rw [hJJ] at HJ hjz
          rw [hFE] at HFE
          have HFF := Lib.hid hFE
          have e0 : ((pos : Int) == 0) = false := by rw [beq_eq_false_iff_ne]; omega
          clear hFE HO hcell hglt hlen hmap hop hjl hJJ hm
          go_upto_region 15 with fail
          go_region_with (go_at_call 19; refine (HJ.out _ (by rfl)).mono ?_; rintro e w5 ⟨rfl, hbb⟩; have p1 := cell_behind hbb z1 rfl; have p3 := cell_behind hbb z3 rfl)
          all_goals
            have hbb2 : Below wr.heap.size wr w5 := by first | exact (Below.refl _ wr).drew.trans hbb | exact hbb
            clear hbb p1 p3 z1 z3 HJ
            go_wp2_with fail
            refine bodyPost_ret (v := .tuple #[.string ((nm ++ (⟨#[32]⟩ : ByteArray)) ++ JJ), .int .i64 (sz : Nat), .int .i64 0]) (by simp [results, Tryz.results7, go_sem]) rfl ?_
            exact ⟨by rw [HFF.out, ← HFE.out], HEND.out.trans (hbb2.mono HEND.out.size)⟩
end Go.Proofs.YteabjninmaceaaaGreatDoor
