/- The program's numbers of a text: strings.Split, strings.IndexFunc, strconv.ParseUint. -/
import Derived.Test.YtpeieilbjadcfaaGreatDoorProg
import Derived.Test.YtpeieilbjadcfaaGreatDoorCodesUint
import Derived.Test.YtpeieilbjadcfaaGreatDoorCodesSigns
import Derived.Test.YtpeieilbjadcfaaGreatDoorCodesAns
import Derived.Deep.RegionHeld3
namespace Go.Proofs.YtpeieilbjadcfaaGreatDoor
open Go.RowKit Go.Shelf
set_option linter.unusedVariables false
set_option linter.unusedSimpArgs false

/-- What the calls here read of the package's variables: the errors of strconv too. -/
def LaidE (w : World) : Prop := Laid w ∧ (∃ ev, w.cell? ⟨1, 0, none⟩ = some ev ∧ (ev = .nilIface ∨ ∃ te pe, ev = .iface te pe)) ∧ (∃ ev, w.cell? ⟨2, 0, none⟩ = some ev ∧ (ev = .nilIface ∨ ∃ te pe, ev = .iface te pe))
theorem LaidE.below {w w' : World} (h : LaidE w) (hb : Below w.heap.size w w') : LaidE w' := by
  obtain ⟨h0, ⟨e1, h1, k1⟩, ⟨e2, h2, k2⟩⟩ := h
  exact ⟨h0.below hb, ⟨e1, (hb.cell (World.block_lt_of_cell? w _ h1)).trans h1, k1⟩, ⟨e2, (hb.cell (World.block_lt_of_cell? w _ h2)).trans h2, k2⟩⟩
def uintN (l : List UInt8) : Nat := if hexNum 0 l ≤ 4294967295 then hexNum 0 l else 4294967295
set_option maxHeartbeats 4000000 in
set_option maxRecDepth 100000 in
theorem uint_empty (w : World) :
    Calls Tryz.prog 75 #[.string ⟨#[]⟩, .int .i64 16, .int .i64 32] w fun e w' => e = .returned (.tuple #[.int .u64 0, .iface 117 (.int .i64 2)]) ∧ w' = w := by
  go_enter Tryz.func75, Tryz.ntmps75
  go_wp2_with fail
  go_returns
  exact ⟨rfl, rfl⟩
theorem bytesWorld_own (w : World) (s : ByteArray) : Below w.heap.size w (Lib.bytesWorld w 5 s) := by
  refine ⟨rfl, rfl, rfl, by rw [Lib.bytesWorld_size]; omega, fun j hj => Lib.bytesWorld_at_old w 5 s j hj⟩
set_option maxHeartbeats 4000000 in
set_option maxRecDepth 100000 in
theorem uint_walk (t : ByteArray) (hmax : t.size ≤ 140737488355328) (hhex : ∀ c ∈ t.data.toList, isHex c = true) (w : World) (hE : LaidE w) :
    Calls Tryz.prog 56 #[.string t, .int .i64 16, .int .i64 32] w fun e w' => (∃ ev, e = .returned (.tuple #[.int .u64 (uintN t.data.toList : Nat), ev])) ∧ Below w.heap.size w w' := by
  obtain ⟨_, ⟨e1, c1, k1⟩, ⟨e2, c2, k2⟩⟩ := hE
  by_cases h0 : t.size = 0
  · obtain rfl : t = ⟨#[]⟩ := by
      apply ByteArray.ext
      exact Array.eq_empty_of_size_eq_zero h0
    have HI := Lib.hid (fun W => uint_empty W)
    have HT := Lib.hid (strconv_toError_syntax ⟨#[80, 97, 114, 115, 101, 85, 105, 110, 116]⟩ ⟨#[]⟩ 16 32 e1 w (by decide) c1 k1)
    clear c1 c2 k1 k2 hhex hmax h0
    go_enter Tryz.func56, Tryz.ntmps56
    go_upto_region 3 with (go_at_call 75; refine (HI.out _).mono ?_; rintro e w1 ⟨rfl, rfl⟩)
    go_wp2_with (go_at_call 76; refine HT.out.mono ?_; rintro e w2 ⟨N, rfl, _, _, hb2⟩)
    go_returns
    exact ⟨⟨_, rfl⟩, hb2⟩
  · have HI := Lib.hid (fun W => uint_inner t h0 hmax hhex W)
    have HB := Lib.hid (bytesWorld_own w t)
    by_cases hov : hexNum 0 t.data.toList ≤ 4294967295
    · have HV := Lib.hid (show uintV t.data.toList = .tuple #[.int .u64 (uintN t.data.toList : Nat), .nilIface] by unfold uintV uintN; rw [if_pos hov, if_pos hov])
      rw [HV.out] at HI
      clear c1 c2 k1 k2 hhex hmax h0 hov
      go_enter Tryz.func56, Tryz.ntmps56
      go_wp2_with (go_at_call 75; refine (HI.out _).mono ?_; rintro e w1 ⟨rfl, rfl⟩)
      go_returns
      exact ⟨⟨_, rfl⟩, HB.out⟩
    · have HV := Lib.hid (show uintV t.data.toList = .tuple #[.int .u64 (uintN t.data.toList : Nat), .iface 117 (.int .i64 1)] by unfold uintV uintN; rw [if_neg hov, if_neg hov]; rfl)
      rw [HV.out] at HI
      have HT := Lib.hid (strconv_toError_range ⟨#[80, 97, 114, 115, 101, 85, 105, 110, 116]⟩ t 16 32 e2 (Lib.bytesWorld w 5 t) (by omega) ((HB.out.cell (World.block_lt_of_cell? w _ c2)).trans c2) k2)
      obtain ⟨W1, hW1⟩ : ∃ W1, Lib.bytesWorld w 5 t = W1 := ⟨_, rfl⟩
      have HI2 := Lib.hid (HI.out w)
      rw [hW1] at HT HB HI2
      clear c1 c2 k1 k2 hhex hmax h0 hov hW1 HI
      go_enter Tryz.func56, Tryz.ntmps56
      go_wp2_with (first | (go_at_call 75; refine HI2.out.mono ?_; rintro e w1 ⟨rfl, rfl⟩) | (go_at_call 76; refine HT.out.mono ?_; rintro e w2 ⟨N, rfl, _, _, hb2⟩))
      go_returns
      exact ⟨⟨_, rfl⟩, HB.out.trans (hb2.mono HB.out.size)⟩

theorem part_end (B : ByteArray) : ∃ (z : Int) (e : Nat), Lib.idxFunc (fun x => !runeHex x) true B = z ∧ ((z = -1 ∧ e = B.size) ∨ z = (e : Int)) ∧ e ≤ B.size ∧ (B.extract 0 e).data.toList = hexPre B.data.toList := by
  have hx : ∀ e, (B.extract 0 e).data.toList = B.data.toList.take e := fun e => by rw [ByteArray.data_extract, Array.toList_extract, List.extract_eq_take_drop, List.drop_zero, Nat.sub_zero]
  rcases idx_end B with ⟨h1, h2⟩ | ⟨h1, h2⟩
  · exact ⟨-1, B.size, h1, .inl ⟨rfl, rfl⟩, Nat.le_refl _, by rw [hx, List.take_of_length_le (by simp), h2]⟩
  · exact ⟨_, endN B.data.toList, h1, .inr rfl, by omega, by rw [hx, hexPre_take]⟩
theorem splitB_le (sep : ByteArray) : ∀ (k : Nat) (s : ByteArray), ∀ p ∈ Lib.splitB sep 0 k s, p.size ≤ s.size := by
  intro k
  induction k with
  | zero =>
    intro s p hp
    rw [Lib.splitB_zero, List.mem_singleton] at hp
    rw [hp]; exact Nat.le_refl _
  | succ k ih =>
    intro s p hp
    unfold Lib.splitB at hp
    split at hp
    · rw [List.mem_singleton] at hp
      rw [hp]; exact Nat.le_refl _
    · rcases List.mem_cons.1 hp with rfl | hp
      · rw [ByteArray.size_extract]; omega
      · have := ih _ p hp
        rw [ByteArray.size_extract] at this; omega
theorem join_or (X n : Nat) (l : List UInt8) (hn : partN l = n) : bits .or .u32 ((X * 256 % 4294967296 : Nat) : Int) (n : Int) = ((joinN X l : Nat) : Int) := by
  have hb : n < 2 ^ 32 := by
    rw [← hn]; unfold partN; split <;> omega
  rw [(bits_nat .u32 32 (by decide) (fun n h0 h1 => by rw [IntKind.wrap_u32]; omega) (X * 256 % 4294967296) n (Nat.mod_lt _ (by decide)) hb).2]
  unfold joinN
  rw [hn]
theorem join_lt (X : Nat) (l : List UInt8) : joinN X l < 4294967296 := by
  unfold joinN
  have hb : partN l < 2 ^ 32 := by unfold partN; split <;> omega
  exact Nat.or_lt_two_pow (n := 32) (Nat.mod_lt _ (by decide)) hb
theorem nums_step (l : List (List UInt8)) (i : Nat) (h : i < l.length) : (l.take (i + 1)).foldl joinN 0 = joinN ((l.take i).foldl joinN 0) (l[i]'h) := by
  rw [List.take_add_one, List.foldl_append, List.getElem?_eq_getElem h]; rfl
set_option maxHeartbeats 400000 in
set_option maxRecDepth 100000 in
theorem numbers_walk (s : ByteArray) (hs : s.size ≤ 1048576) (w : World) (hE : LaidE w) :
    Calls Tryz.prog 39 #[.string s] w fun e w' => e = .returned (.int .u32 (numsN s.data.toList : Nat)) ∧ Below w.heap.size w w' := by
  obtain ⟨k, hk⟩ := hE.1.1
  have HE := Lib.hid hE
  obtain ⟨c, hc⟩ : ∃ c, Lib.countB s ⟨#[36]⟩ = c := ⟨_, rfl⟩
  obtain ⟨Ps, hPs⟩ : ∃ Ps, Lib.splitB ⟨#[36]⟩ 0 c s = Ps := ⟨_, rfl⟩
  have hlen : Ps.length = c + 1 := by rw [← hPs]; exact Lib.splitB_all ⟨#[36]⟩ (by decide) 0 c s hc
  have hdat : Ps.map (·.data.toList) = Lib.split s.data.toList [36] := by
    rw [← hPs, Lib.splitB_data, ← hc]; rfl
  have HSP := Lib.hid (strings_Split s ⟨#[36]⟩ k w (by omega) hk (by decide))
  rw [hc, hPs] at HSP
  obtain ⟨W1, hW1⟩ : ∃ W1, w.alloc (.cells (Ps.map Value.string).toArray 9) = W1 := ⟨_, rfl⟩
  have HB1 := Lib.hid (show Below w.heap.size w W1 by rw [← hW1]; exact (Below.refl _ w).alloc (Nat.le_refl _) _)
  have HC := Lib.hid (show ∀ j (h : j < Ps.length), W1.cell? ⟨w.heap.size, j, none⟩ = some (.string (Ps[j]'h)) from fun j h => by
    rw [← hW1, World.cell?_alloc_new]
    simp [List.getElem?_eq_getElem h])
  have HG := Lib.hid (show w.heap.size < W1.heap.size by rw [← hW1]; simp)
  rw [hW1] at HSP
  have hc16 : c ≤ 1048576 := by
    have h1 := Lib.countB_le ⟨#[36]⟩ (by decide) s.size s (Nat.le_refl _)
    omega
  have HFIN := Lib.hid (show numsN s.data.toList = ((Ps.map (·.data.toList)).drop 1).foldl joinN 0 by unfold numsN; rw [hdat])
  obtain ⟨L, hL⟩ : ∃ L, (Ps.map (·.data.toList)).drop 1 = L := ⟨_, rfl⟩
  rw [hL] at HFIN
  have hLl : L.length = c := by rw [← hL, List.length_drop, List.length_map]; omega
  have HL := Lib.hid (show ∀ j (h : j < c), ∃ B : ByteArray, W1.cell? ⟨w.heap.size, 1 + j, none⟩ = some (.string B) ∧ B.size ≤ 1048576 ∧ L[j]'(by omega) = B.data.toList from fun j h => by
    refine ⟨Ps[1 + j]'(by omega), HC.out (1 + j) (by omega), ?_, ?_⟩
    · have := splitB_le ⟨#[36]⟩ c s (Ps[1 + j]'(by omega)) (by rw [hPs]; exact List.getElem_mem _)
      omega
    · simp only [← hL]
      rw [List.getElem_drop, List.getElem_map])
  obtain ⟨o, sc, hsl, ho⟩ : ∃ o sc, (∀ W, (Instr.sliceAt 67 (.slice (some ⟨w.heap.size, 0, none⟩) (c + 1) (c + 1)) (some (.int .i64 1)) none none).run Tryz.prog W = .ok (.slice (some ⟨w.heap.size, o, none⟩) c sc) W) ∧ (0 < c → o = 1) := by
    have he : Tryz.prog.underlying 67 = some (.slice (Tryz.prog.elem 67)) := by simp [Program.elem, Tryz.underlying67]
    refine ⟨if c = 0 then 0 else 1, c, fun W => ?_, fun h => by rw [if_neg (by omega)]⟩
    rw [run_sliceAt_slice (h := he), run_slice_l (ht := he) (h0 := by omega) (h1 := by omega)]
    rw [show (sizeOf (Tryz.prog.elem 67)).run Tryz.prog W = .ok 1 W by simp [Program.elem, Tryz.underlying67, go_sem]]
    simp only [Result.andThen, sliced, show (1 : Int).toNat = 1 from rfl]
    by_cases h0 : c = 0
    · subst h0; rfl
    · rw [if_neg h0, if_neg (by omega)]
      simp [Addr.add]
  have HSTEP := Lib.hid (fun j (h : j < c) => nums_step L j (by omega))
  have HALL := Lib.hid (show L.take c = L from List.take_of_length_le (by omega))
  have HIX := Lib.hid (fun B W => indexFunc_walk B W)
  clear hPs hdat hW1 hL hc hk hE
  go_enter Tryz.func39, Tryz.ntmps39
  go_upto_region 3 with (go_at_call 44; refine HSP.out.mono ?_; rintro e w1 ⟨rfl, rfl⟩)
  clear hsl HSP
  go_loopw [3, 13] (fun s3 s13 wr => ∃ (i X : Nat), i ≤ c ∧ s3 = .int .u32 (X : Nat) ∧ s13 = .int .i64 i ∧ X < 4294967296 ∧ Hid (X = (L.take i).foldl joinN 0) ∧ Hid (Below w.heap.size w wr ∧ Below w1.heap.size w1 wr)) (fun s3 s13 _ => c - (intOf s13).toNat)
  case atStart => exact ⟨0, 0, Nat.zero_le _, rfl, rfl, by omega, Lib.hid rfl, Lib.hid ⟨HB1.out, Below.refl _ _⟩⟩
  case round =>
    obtain ⟨i, X, hi, rfl, rfl, hX, HX, HB⟩ := hrel
    by_cases hlt : i < c
    · have i1 : (i : Int) < (c : Int) := by omega
      have i2 : (0 : Int) ≤ (i : Int) := by omega
      have i3 : IntKind.i64.wrap ((i : Int) + 1) = ((i + 1 : Nat) : Int) := by rw [IntWalk.i64_in _ (by omega)]; rfl
      obtain ⟨B, hcell, hBs, hLB⟩ := HL.out i hlt
      have hc1 : wr.cell? ⟨w.heap.size, o + i, none⟩ = some (.string B) := by
        rw [ho (by omega), HB.out.2.cell (p := ⟨w.heap.size, 1 + i, none⟩) HG.out]; exact hcell
      obtain ⟨z, e, hz, hze, heB, hex⟩ := part_end B
      have HPN := Lib.hid (show uintN (B.extract 0 e).data.toList = partN B.data.toList by rw [hex]; rfl)
      obtain ⟨n, hn⟩ : ∃ n, partN B.data.toList = n := ⟨_, rfl⟩
      rw [hn] at HPN
      have hn32 : n < 4294967296 := by rw [← hn]; unfold partN; split <;> omega
      have hor := join_or X n B.data.toList hn
      have HJ := Lib.hid (show joinN X B.data.toList = (L.take (i + 1)).foldl joinN 0 ∧ joinN X B.data.toList < 4294967296 from ⟨by rw [HSTEP.out i hlt, hLB, HX.out], join_lt _ _⟩)
      obtain ⟨J, hJ⟩ : ∃ J, joinN X B.data.toList = J := ⟨_, rfl⟩
      rw [hJ] at hor HJ
      obtain ⟨A, hA⟩ : ∃ A, X * 256 % 4294967296 = A := ⟨_, rfl⟩
      have hw : IntKind.u32.wrap ((X : Int) * 256) = (A : Int) := by rw [IntKind.wrap_u32]; omega
      rw [hA] at hor
      have hwn : IntKind.u32.wrap (n : Int) = (n : Int) := by rw [IntKind.wrap_u32]; omega
      have HU := Lib.hid (fun W (hW : LaidE W) => uint_walk (B.extract 0 e) (by rw [ByteArray.size_extract]; omega) (by rw [hex]; exact hexPre_hex _) W hW)
      rw [HPN.out] at HU
      have HI := Lib.hid (fun W => HIX.out B W)
      rw [hz] at HI
      have eB : (e : Int) ≤ (B.size : Int) := by omega
      have e0 : (0 : Int) ≤ (e : Int) := by omega
      have HLE := Lib.hid (HE.out.below HB.out.1)
      clear hcell hLB hz hex hn hJ hA hX hn32 hBs
      rcases hze with ⟨rfl, rfl⟩ | rfl
      · have HU2 := Lib.hid (show ∀ W, LaidE W → Calls Tryz.prog 56 #[.string B, .int .i64 16, .int .i64 32] W fun e w' => (∃ ev, e = .returned (.tuple #[.int .u64 (n : Nat), ev])) ∧ Below W.heap.size W w' from fun W hW => by
          have h := HU.out W hW
          rwa [show B.extract 0 B.size = B by simp] at h)
        clear HU eB e0
        go_wp2_with (first | (go_at_call 53; refine (HI.out _).mono ?_; rintro e1 w2 ⟨rfl, hb2⟩) | (go_at_call 56; refine (HU2.out _ (HLE.out.below hb2)).mono ?_; rintro e2 w3 ⟨⟨ev, rfl⟩, hb3⟩))
        go_roundw
        case rel => exact ⟨i + 1, J, by omega, rfl, rfl, HJ.out.2, Lib.hid HJ.out.1, Lib.hid ⟨(HB.out.1.trans (hb2.mono HB.out.1.size)).trans (hb3.mono (Nat.le_trans HB.out.1.size hb2.size)), (HB.out.2.trans (hb2.mono HB.out.2.size)).trans (hb3.mono (Nat.le_trans HB.out.2.size hb2.size))⟩⟩
        case measure => simp [intOf]; omega
      · have b0 : decide ((e : Int) < 0) = false := decide_eq_false (by omega)
        go_wp2_with (first | (go_at_call 53; refine (HI.out _).mono ?_; rintro e1 w2 ⟨rfl, hb2⟩) | (go_at_call 56; refine (HU.out _ (HLE.out.below hb2)).mono ?_; rintro e2 w3 ⟨⟨ev, rfl⟩, hb3⟩))
        go_roundw
        case rel => exact ⟨i + 1, J, by omega, rfl, rfl, HJ.out.2, Lib.hid HJ.out.1, Lib.hid ⟨(HB.out.1.trans (hb2.mono HB.out.1.size)).trans (hb3.mono (Nat.le_trans HB.out.1.size hb2.size)), (HB.out.2.trans (hb2.mono HB.out.2.size)).trans (hb3.mono (Nat.le_trans HB.out.2.size hb2.size))⟩⟩
        case measure => simp [intOf]; omega
    · obtain rfl : i = c := by omega
      have i1 : ¬ (i : Int) < (i : Int) := by omega
      have HF := Lib.hid (show X = numsN s.data.toList by rw [HX.out, HALL.out, HFIN.out])
      go_wp2_with fail
      go_returns
      exact ⟨by rw [HF.out]; rfl, HB.out.1⟩
end Go.Proofs.YtpeieilbjadcfaaGreatDoor
