/- What a code means: the program's Of. (Numbers of chapter 10's seat D.) -/
import Derived.Test.YteabjninmaceaaaGreatDoorProg
import Derived.Test.YteabjninmaceaaaGreatDoorNotesWidth
import Derived.Test.YteabjninmaceaaaGreatDoorNotesRow
import Derived.Test.YteabjninmaceaaaGreatDoorLib
import Derived.Lib.OthersKept
import Derived.Lib.AtoiErrMem
import Derived.RangeFuncNested
namespace Go.Proofs.YteabjninmaceaaaGreatDoor
open Go.RowKit
set_option linter.unusedVariables false
set_option linter.unusedSimpArgs false

/-- A box of a note's five cells. -/
def Five (w : World) (B : Nat) (v0 v1 v2 v3 v4 : Value) : Prop := w.cell? ⟨B, 0, none⟩ = some v0 ∧ w.cell? ⟨B, 1, none⟩ = some v1 ∧ w.cell? ⟨B, 2, none⟩ = some v2 ∧ w.cell? ⟨B, 3, none⟩ = some v3 ∧ w.cell? ⟨B, 4, none⟩ = some v4 ∧ ∀ i, w.frozen? ⟨B, i, none⟩ = false
theorem Five.below {w w' : World} {B n : Nat} {v0 v1 v2 v3 v4 : Value} (h : Five w B v0 v1 v2 v3 v4) (hb : Below n w w') (hB : B < n) : Five w' B v0 v1 v2 v3 v4 := by
  obtain ⟨h0, h1, h2, h3, h4, h5⟩ := h
  exact ⟨(hb.cell hB).trans h0, (hb.cell hB).trans h1, (hb.cell hB).trans h2, (hb.cell hB).trans h3, (hb.cell hB).trans h4, fun i => (hb.frozen hB).trans (h5 i)⟩
theorem Five.other {w : World} {B B' i : Nat} {v v0 v1 v2 v3 v4 : Value} (h : Five w B v0 v1 v2 v3 v4) (hB : B ≠ B') : Five (w.setCell ⟨B', i, none⟩ v) B v0 v1 v2 v3 v4 := by
  obtain ⟨h0, h1, h2, h3, h4, h5⟩ := h
  have ne : ∀ j, (⟨B', i, none⟩ : Addr) ≠ ⟨B, j, none⟩ := fun j e => hB (by injection e with e; exact e.symm)
  exact ⟨by rw [World.cell?_setCell_other _ _ _ _ (ne _)]; exact h0, by rw [World.cell?_setCell_other _ _ _ _ (ne _)]; exact h1, by rw [World.cell?_setCell_other _ _ _ _ (ne _)]; exact h2, by rw [World.cell?_setCell_other _ _ _ _ (ne _)]; exact h3, by rw [World.cell?_setCell_other _ _ _ _ (ne _)]; exact h4, fun j => by simp [go_sem, h5]⟩
theorem Five.set3 {w : World} {B : Nat} {v v0 v1 v2 v3 v4 : Value} (h : Five w B v0 v1 v2 v3 v4) : Five (w.setCell ⟨B, 3, none⟩ v) B v0 v1 v2 v v4 := by
  obtain ⟨h0, h1, h2, h3, h4, h5⟩ := h
  exact ⟨by simp [go_sem, h0], by simp [go_sem, h1], by simp [go_sem, h2], by simp [go_sem, h3], by simp [go_sem, h4], fun j => by simp [go_sem, h5]⟩
theorem Five.set4 {w : World} {B : Nat} {v v0 v1 v2 v3 v4 : Value} (h : Five w B v0 v1 v2 v3 v4) : Five (w.setCell ⟨B, 4, none⟩ v) B v0 v1 v2 v3 v := by
  obtain ⟨h0, h1, h2, h3, h4, h5⟩ := h
  exact ⟨by simp [go_sem, h0], by simp [go_sem, h1], by simp [go_sem, h2], by simp [go_sem, h3], by simp [go_sem, h4], fun j => by simp [go_sem, h5]⟩
theorem five_new (w : World) (v0 v1 v2 v3 v4 : Value) (t : TypeId) : Five (w.alloc (.cells #[v0, v1, v2, v3, v4] t)) w.heap.size v0 v1 v2 v3 v4 := by
  refine ⟨?_, ?_, ?_, ?_, ?_, fun i => ?_⟩ <;> simp [go_sem]
def LaidM (w : World) : Prop := ∃ m, w.cell? ⟨0, 0, none⟩ = some (.int .i64 m)
theorem LaidM.below {w w' : World} (h : LaidM w) (hb : Below w.heap.size w w') : LaidM w' := by
  obtain ⟨m, h1⟩ := h
  exact ⟨m, (hb.cell (World.block_lt_of_cell? w _ h1)).trans h1⟩
def bytesB (l : List UInt8) : ByteArray := ⟨l.toArray⟩
theorem sumW_append (a b : List UInt8) : sumW (a ++ b) = sumW a + sumW b := by
  induction a with
  | nil => simp [sumW]
  | cons c r ih => rw [List.cons_append, sumW, sumW, ih, Nat.add_assoc]
theorem sumW_step (s : ByteArray) (i : Nat) (h : i < s.size) : sumW (s.data.toList.take (i + 1)) = sumW (s.data.toList.take i) + widthC (s[i]'h) := by
  have h2 : i < s.data.toList.length := by simpa using h
  rw [List.take_add_one, sumW_append, List.getElem?_eq_getElem h2]
  simp [sumW]; rfl
theorem widthN_byte (b : UInt8) : widthN b.toNat = widthC b := by unfold widthN; rw [show UInt8.ofNat b.toNat = b from UInt8.ofNat_toNat]
theorem widthC_le (c : UInt8) : widthC c ≤ 2 := by unfold widthC; split <;> (try split) <;> omega
theorem wrap8 (x : Int) (h0 : 0 ≤ x) (h1 : x ≤ 255) : IntKind.u8.wrap x = x := by
  have : x % 256 = x := by omega
  simpa [IntKind.wrap, IntKind.signed, IntKind.bits] using this
theorem heap_setCell_noCells {W : World} {K : Nat} {o : Obj} (h : W.heap[K]? = some o) (ho : o.isCells = false) (p : Addr) (v : Value) : (W.setCell p v).drew.heap[K]? = some o :=
  (KeepsOthers.setCell W p v).same K o h ho
theorem bytesB_size (a : List UInt8) : (bytesB a).size = a.length := by simp [bytesB, ByteArray.size]
theorem bytesB_data (a : List UInt8) : (bytesB a).data.toList = a := by simp [bytesB]
theorem bytesB_list (s : ByteArray) : bytesB s.data.toList = s := by simp [bytesB]
/-- Cut at a blank. -/
theorem cut_walk (s : ByteArray) (a b : List UInt8) (w : World) (hs : s.size < 1000) (hL : LaidM w) (hc : Lib.cut s.data.toList [32] = (a, b, true)) :
    Calls Tryz.prog 22 #[.string s, .string ⟨#[32]⟩] w fun e w' => e = .returned (.tuple #[.string (bytesB a), .string (bytesB b), .bool true]) ∧ Below w.heap.size w w' := by
  obtain ⟨m, hm⟩ := hL
  have h := strings_Cut s ⟨#[32]⟩ m w (by omega) hm
  rw [show (⟨#[32]⟩ : ByteArray).data.toList = [32] from rfl, hc] at h
  exact h.mono fun e w' ⟨he, n, hn⟩ => ⟨he, by rw [hn]; exact below_drewN (Below.refl _ _) n⟩

set_option maxRecDepth 100000 in
set_option maxHeartbeats 4000000 in
theorem of_walk (k : Nat) (hk : k < 256) (w : World) (hL : LaidM w) :
    Calls Tryz.prog 11 #[.int .u8 k] w fun e w' => e = .returned (noteV k) ∧ Below w.heap.size w w' := by
  obtain ⟨o1, o2, o3, o4, o5, o6, o7, o8, o9, o10, o11, o12, o13⟩ := note_ok k hk
  have HRW := Lib.hid (fun W => row_walk k hk W)
  obtain ⟨t, ht⟩ : ∃ t, trimB (tableP.extract (12 * k) (12 * k + 12)) = t := ⟨_, rfl⟩
  rw [ht] at HRW o2
  have hts : t.size < 1000 := by
    have h := congrArg List.length o2
    rw [rowU_length] at h
    have : t.data.toList.length = t.size := by simp
    omega
  have HC1 := Lib.hid (fun W hl => cut_walk t _ _ W hts hl (by rw [o2]; exact o3))
  rw [bytesB_list] at HC1
  have hrs : (bytesB ((formT k).data.toList ++ 32 :: digT k)).size < 1000 := by rw [bytesB_size, List.length_append, List.length_cons]; omega
  have HC2 := Lib.hid (fun W hl => cut_walk (bytesB ((formT k).data.toList ++ 32 :: digT k)) _ _ W hrs hl (by rw [bytesB_data]; exact o4))
  rw [bytesB_list] at HC2
  have HAT := Lib.hid (fun W => strconv_Atoi (bytesB (digT k)) (cycT k) (by rw [bytesB_size]; omega) (by rw [bytesB_data]; exact o5) W)
  have HAT2 := Lib.hid (fun W => show Calls Tryz.prog 25 #[.string (bytesB (digT k))] W (fun e w' => e = .returned (.tuple #[.int .i64 (cycT k), .nilIface]) ∧ Below W.heap.size W w') from (HAT.out W).mono fun e w' ⟨he, t, ht⟩ => ⟨he, by rw [ht]; exact Lib.bytesWorld_below _ _ _⟩)
  have HV := Lib.hid (show noteV k = .agg #[.int .u8 k, .string (nameT k), .string (formT k), .int .i64 (1 + sumW (formT k).data.toList : Nat), .int .i64 (cycT k)] from rfl)
  have HL := Lib.hid hL
  clear o1 o2 o3 o4 o5 ht hL hts hrs HAT
  obtain ⟨nm, hnm⟩ : ∃ x, nameT k = x := ⟨_, rfl⟩
  obtain ⟨fm, hfm⟩ : ∃ x, formT k = x := ⟨_, rfl⟩
  obtain ⟨cy, hcy⟩ : ∃ x, cycT k = x := ⟨_, rfl⟩
  obtain ⟨dg, hdg⟩ : ∃ x, bytesB (digT k) = x := ⟨_, rfl⟩
  obtain ⟨rs, hrs⟩ : ∃ x, bytesB ((formT k).data.toList ++ 32 :: digT k) = x := ⟨_, rfl⟩
  rw [hrs] at HC1 HC2
  rw [hnm] at HC1 HV o10 o11
  rw [hfm] at HC2 HV o7 o8 o9
  rw [hcy] at HAT2 HV
  rw [hdg] at HC2 HAT2
  clear hnm hfm hcy hdg hrs o12 o13 o6
  go_enter Tryz.func11, Tryz.ntmps11
  go_upto_region 1 with fail
  obtain ⟨X, hX⟩ : ∃ X, w.alloc (.cells #[.int .u8 0, .string ⟨#[]⟩, .string ⟨#[]⟩, .int .i64 0, .int .i64 0] 33) = X := ⟨_, rfl⟩
  obtain ⟨R, hR⟩ : ∃ R, w.heap.size = R := ⟨_, rfl⟩
  have HX := Lib.hid (show Five X R (.int .u8 0) (.string ⟨#[]⟩) (.string ⟨#[]⟩) (.int .i64 0) (.int .i64 0) ∧ Below R w X ∧ R < X.heap.size by rw [← hX, ← hR]; exact ⟨five_new _ _ _ _ _ _ _, (Below.refl _ w).alloc (Nat.le_refl _) _, by simp⟩)
  have HLX := Lib.hid (HL.out.below (by rw [hR]; exact HX.out.2.1))
  rw [hX, hR]
  clear hX
  go_upto_region 2 with (first | (go_at_call 23; refine (HRW.out _).mono ?_; rintro e w1 ⟨rfl, rfl⟩) | (go_at_call 22; refine (HC1.out _ HLX.out).mono ?_; rintro e w2 ⟨rfl, hb2⟩))
  have HY := Lib.hid (show Five w2 R (.int .u8 0) (.string ⟨#[]⟩) (.string ⟨#[]⟩) (.int .i64 0) (.int .i64 0) ∧ Below R w w2 ∧ R < w2.heap.size from ⟨HX.out.1.below hb2 HX.out.2.2, HX.out.2.1.trans (hb2.mono (Nat.le_of_lt HX.out.2.2)), Nat.lt_of_lt_of_le HX.out.2.2 hb2.size⟩)
  have HLY := Lib.hid (HLX.out.below hb2)
  clear hb2 HX HLX
  go_upto_region 3 with (go_at_call 22; refine (HC2.out _ HLY.out).mono ?_; rintro e w3 ⟨rfl, hb3⟩)
  have HZ := Lib.hid (show Five w3 R (.int .u8 0) (.string ⟨#[]⟩) (.string ⟨#[]⟩) (.int .i64 0) (.int .i64 0) ∧ Below R w w3 ∧ R < w3.heap.size from ⟨HY.out.1.below hb3 HY.out.2.2, HY.out.2.1.trans (hb3.mono (Nat.le_of_lt HY.out.2.2)), Nat.lt_of_lt_of_le HY.out.2.2 hb3.size⟩)
  clear hb3 HY HLY HC1 HC2 HRW
  go_upto_region 4 with fail
  obtain ⟨V, hV⟩ : ∃ V, w3.alloc (.cells #[.int .u8 k, .string nm, .string fm, .int .i64 1, .int .i64 0] 33) = V := ⟨_, rfl⟩
  obtain ⟨N, hN⟩ : ∃ N, w3.heap.size = N := ⟨_, rfl⟩
  have HV0 := Lib.hid (show Five V N (.int .u8 k) (.string nm) (.string fm) (.int .i64 1) (.int .i64 0) ∧ Five V R (.int .u8 0) (.string ⟨#[]⟩) (.string ⟨#[]⟩) (.int .i64 0) (.int .i64 0) ∧ Below R w V ∧ R < N ∧ V.heap.size = N + 1 by
    rw [← hV, ← hN]
    exact ⟨five_new _ _ _ _ _ _ _, HZ.out.1.below ((Below.refl _ w3).alloc (Nat.le_refl _) _) HZ.out.2.2, HZ.out.2.1.alloc (Nat.le_of_lt HZ.out.2.2) _, HZ.out.2.2, by simp⟩)
  rw [hV, hN]
  clear hV HZ
  have hsV := HV0.out.2.2.2.2
  have hRN := HV0.out.2.2.2.1
  go_upto_region 5 with fail
  obtain ⟨V1, hV1⟩ : ∃ V1, V.iter fm 0 = V1 := ⟨_, rfl⟩
  have HI := Lib.hid (show Five V1 N (.int .u8 k) (.string nm) (.string fm) (.int .i64 1) (.int .i64 0) ∧ Five V1 R (.int .u8 0) (.string ⟨#[]⟩) (.string ⟨#[]⟩) (.int .i64 0) (.int .i64 0) ∧ Below R w V1 ∧ V1.heap[N + 1]? = some (.stringIter fm 0) by
    rw [← hV1]
    have hb : Below V.heap.size V (V.iter fm 0) := (Below.refl _ V).alloc (Nat.le_refl _) _
    exact ⟨HV0.out.1.below hb (by omega), HV0.out.2.1.below hb (by omega), HV0.out.2.2.1.trans (hb.mono (by omega)), by rw [← hsV]; exact World.iter_heap _ _ _⟩)
  rw [hV1]
  try rw [hsV]
  clear hV1 HV0
  have HST := Lib.hid (sumW_step fm)
  have HLOW := Lib.hid o7
  have hf2 : fm.size ≤ 2 := by have : fm.data.toList.length = fm.size := by simp
                               omega
  have HO9 := Lib.hid o9
  clear o7 o8 o9 o10 o11
  go_loopw [] (fun wr => ∃ (pos sz : Nat), pos ≤ fm.size ∧ sz ≤ 1 + 2 * pos ∧ Hid (sz = 1 + sumW (fm.data.toList.take pos)) ∧ Hid (wr.heap[N + 1]? = some (.stringIter fm pos)) ∧ Hid (Five wr N (.int .u8 k) (.string nm) (.string fm) (.int .i64 sz) (.int .i64 0)) ∧ Hid (Five wr R (.int .u8 0) (.string ⟨#[]⟩) (.string ⟨#[]⟩) (.int .i64 0) (.int .i64 0)) ∧ Hid (Below R w wr)) (fun wr => fm.size - wr.iterPos (N + 1))
  case atStart => exact ⟨0, 1, Nat.zero_le _, by omega, Lib.hid rfl, Lib.hid HI.out.2.2.2, Lib.hid HI.out.1, Lib.hid HI.out.2.1, Lib.hid HI.out.2.2.1⟩
  case round =>
    obtain ⟨pos, sz, hpos, hsz, HSZ, HIT, HN, HRR, HBW⟩ := hrel
    clear HI
    by_cases hp : pos < fm.size
    · have hlow : (fm[pos]'hp).toNat < 128 := HLOW.out _ (by show fm.data[pos] ∈ fm.data.toList; rw [← Array.getElem_toList]; exact List.getElem_mem _)
      have hst := HST.out pos hp
      have hwn := widthN_byte (fm[pos]'hp)
      obtain ⟨x, hx⟩ : ∃ x, (fm[pos]'hp).toNat = x := ⟨_, rfl⟩
      have hnx : ∀ ty, (Instr.next (.pointer (some ⟨N + 1, 0, none⟩)) true ty).run Tryz.prog _ = .ok (.tuple #[.bool true, .int .i64 pos, .int .i32 (x : Int)]) (World.iterAt wr (N + 1) fm (pos + 1)) := fun ty => by rw [← hx]; exact Lib.run_next_ascii_at _ (N + 1) fm pos ty HIT.out hp hlow
      rw [hx] at hlow hwn
      rw [← hwn] at hst
      have hwl : widthN x ≤ 2 := by rw [hwn]; exact widthC_le _
      clear hx hwn
      go_upto_region 7 with fail
      obtain ⟨V2, hV2⟩ : ∃ V2, World.iterAt wr (N + 1) fm (pos + 1) = V2 := ⟨_, rfl⟩
      have HV2 := Lib.hid (show Five V2 N (.int .u8 k) (.string nm) (.string fm) (.int .i64 sz) (.int .i64 0) ∧ Five V2 R (.int .u8 0) (.string ⟨#[]⟩) (.string ⟨#[]⟩) (.int .i64 0) (.int .i64 0) ∧ Below R w V2 ∧ V2.heap[N + 1]? = some (.stringIter fm (pos + 1)) by
        rw [← hV2]
        have hb : Below (N + 1) wr (World.iterAt wr (N + 1) fm (pos + 1)) := Lib.below_iterAt (Below.refl _ wr) (Nat.le_refl _) _ _
        exact ⟨HN.out.below hb (by omega), HRR.out.below hb (by omega), HBW.out.trans (hb.mono (by omega)), Lib.iterAt_heap _ _ _ _ _ HIT.out⟩)
      rw [hV2]
      clear hV2 hnx
      have g3 := HV2.out.1.2.2.2.1
      have f3 := HV2.out.1.2.2.2.2.2 3
      have i1 : IntKind.u8.wrap (x : Int) = (x : Int) := wrap8 _ (by omega) (by omega)
      have i2 : IntKind.i64.wrap ((sz : Int) + (widthN x : Int)) = ((sz + widthN x : Nat) : Int) := by rw [IntWalk.i64_in _ (by omega)]; rfl
      have HWW := Lib.hid (fun W => width_walk x (by omega) W)
      have HSZ2 := Lib.hid (show sz + widthN x = 1 + sumW (fm.data.toList.take (pos + 1)) by rw [hst, HSZ.out]; omega)
      have HIT0 := Lib.hid (iterPos_of HIT.out)
      clear hst
      have hmx : Tryz.prog.follows .mixedOrders = true := by kernel_rfl
      go_region_with (go_at_call 24; refine (HWW.out _).mono ?_; rintro e w5 ⟨rfl, rfl⟩)
      all_goals
        go_wp2_with fail
        go_roundw
      all_goals first
        | exact ⟨pos + 1, sz + widthN x, by omega, by omega, HSZ2, Lib.hid (heap_setCell_noCells HV2.out.2.2.2 rfl _ _), Lib.hid (show Five (World.setCell V2 ⟨N, 3, none⟩ (.int .i64 (sz + widthN x : Nat))).drew N _ _ _ _ _ from HV2.out.1.set3), Lib.hid (show Five (World.setCell V2 ⟨N, 3, none⟩ (.int .i64 (sz + widthN x : Nat))).drew R _ _ _ _ _ from HV2.out.2.1.other (by omega)), Lib.hid (show Below R w (World.setCell V2 ⟨N, 3, none⟩ (.int .i64 (sz + widthN x : Nat))).drew from (HV2.out.2.2.1.setCell (p := ⟨N, 3, none⟩) (by simp; omega) _).drew)⟩
        | (rw [HIT0.out, iterPos_of (heap_setCell_noCells HV2.out.2.2.2 rfl _ _)]; omega)
    · have hnx : ∀ ty, (Instr.next (.pointer (some ⟨N + 1, 0, none⟩)) true ty).run Tryz.prog _ = .ok (.tuple #[.bool false]) _ := fun ty => Lib.run_next_end_at _ (N + 1) fm pos ty HIT.out hp
      have hfl : fm.data.toList.length = fm.size := by simp
      have HSE := Lib.hid (show sz = 1 + sumW fm.data.toList by rw [HSZ.out, List.take_of_length_le (by omega)])
      have hNs : N < wr.heap.size := by have := (Array.getElem?_eq_some_iff.1 HIT.out).1; omega
      clear HSZ HST hfl
      go_upto_region 9 with (go_at_call 25; refine (HAT2.out _).mono ?_; rintro e w6 ⟨rfl, hb6⟩; have m4 := (HN.out.below hb6 hNs).2.2.2.2.1; have fr4 := (HN.out.below hb6 hNs).2.2.2.2.2 4)
      obtain ⟨W7, hW7⟩ : ∃ W7, World.setCell w6 ⟨N, 4, none⟩ (.int .i64 cy) = W7 := ⟨_, rfl⟩
      have H7 := Lib.hid (show Five W7 N (.int .u8 k) (.string nm) (.string fm) (.int .i64 sz) (.int .i64 cy) ∧ Five W7 R (.int .u8 0) (.string ⟨#[]⟩) (.string ⟨#[]⟩) (.int .i64 0) (.int .i64 0) ∧ Below R w W7 by
        rw [← hW7]
        exact ⟨(HN.out.below hb6 hNs).set4, (HRR.out.below hb6 (by omega)).other (by omega), (HBW.out.trans (hb6.mono (by omega))).setCell (p := ⟨N, 4, none⟩) (by simp; omega) _⟩)
      rw [hW7]
      clear hW7 hb6 m4 fr4 hnx
      obtain ⟨g0, g1, g2, g3, g4, gf⟩ := H7.out.1
      obtain ⟨r0, r1, r2, r3, r4, rf⟩ := H7.out.2.1
      have rf0 := rf 0
      have rf1 := rf 1
      have rf2 := rf 2
      have rf3 := rf 3
      have rf4 := rf 4
      clear gf rf
      repeat (first | go_values | go_skip | go_guarded | go_step | go_upon)
      have HRL := Lib.hid (Nat.le_refl R)
      have HSZ9 := Lib.hid (show noteV k = .agg #[.int .u8 k, .string nm, .string fm, .int .i64 (sz : Nat), .int .i64 cy] by rw [HV.out, HSE.out])
      refine bodyPost_ret (v := .agg #[.int .u8 k, .string nm, .string fm, .int .i64 (sz : Nat), .int .i64 cy]) (by simp [results, Tryz.results11, go_sem, r0, r1, r2, r3, r4]; try rfl) rfl ?_
      exact ⟨by rw [HSZ9.out], by rw [hR]; repeat (first | exact H7.out.2.2 | refine Below.setCell ?_ HRL.out _)⟩
end Go.Proofs.YteabjninmaceaaaGreatDoor
