/- The text of an operand: the program's told (printed by gen_told.py). -/
import Derived.Test.YtpeieilbjadcfaaGreatDoorProg
import Derived.Test.YtpeieilbjadcfaaGreatDoorCodesSigns
import Derived.Deep.RegionHeld3
namespace Go.Proofs.YtpeieilbjadcfaaGreatDoor
open Go.RowKit
set_option linter.unusedVariables false
set_option linter.unusedSimpArgs false

theorem wrap16 (n : Int) (h0 : 0 ≤ n) (h1 : n < 65536) : IntKind.u16.wrap n = n := by
  have : n % 65536 = n := by omega
  simpa [IntKind.wrap, IntKind.signed, IntKind.bits] using this
theorem wrap16_mod (n : Nat) : IntKind.u16.wrap (n : Int) = ((n % 65536 : Nat) : Int) := by
  simp [IntKind.wrap, IntKind.signed, IntKind.bits]
theorem wrap32 (n : Int) (h0 : 0 ≤ n) (h1 : n < 4294967296) : IntKind.u32.wrap n = n := by rw [IntKind.wrap_u32]; omega
theorem extend_walk (x : Nat) (hx : x < 256) (w : World) :
    Calls Tryz.prog 43 #[.int .u8 x] w fun e w' => e = .returned (.int .u16 ((if 128 ≤ x then x + 65280 else x : Nat) : Int)) ∧ w' = w := by
  have e1 : IntKind.u16.wrap (IntKind.i16.wrap (IntKind.i8.wrap (x : Int))) = ((if 128 ≤ x then x + 65280 else x : Nat) : Int) := by
    have h2 : ∀ x : Fin 256, IntKind.u16.wrap (IntKind.i16.wrap (IntKind.i8.wrap ((x : Nat) : Int))) = ((if 128 ≤ (x : Nat) then (x : Nat) + 65280 else (x : Nat) : Nat) : Int) := by decide +kernel
    exact h2 ⟨x, hx⟩
  obtain ⟨z, hz⟩ : ∃ z : Nat, (if 128 ≤ x then x + 65280 else x) = z := ⟨_, rfl⟩
  rw [hz] at e1 ⊢
  clear hz
  have HE := Lib.hid e1
  obtain ⟨y1, hy1⟩ : ∃ y, IntKind.i8.wrap (x : Int) = y := ⟨_, rfl⟩
  obtain ⟨y2, hy2⟩ : ∃ y, IntKind.i16.wrap y1 = y := ⟨_, rfl⟩
  obtain ⟨y3, hy3⟩ : ∃ y, IntKind.u16.wrap y2 = y := ⟨_, rfl⟩
  rw [hy1, hy2, hy3] at HE
  clear e1
  go_enter Tryz.func43, Tryz.ntmps43
  go_wp2_with fail
  go_returns
  exact ⟨by rw [← HE.out]; rfl, rfl⟩
theorem digits_at (x n : Nat) (k : Int) (hk : k = (n : Int)) (hx : x < 4294967296) (hn : hexN x ≤ n) (hn8 : n ≤ 8) (w : World) (hc : w.cell? ⟨7, 15, none⟩ = some (.int .u8 4)) :
    Calls Tryz.prog 42 #[.int .u32 x, .int .i64 k] w fun e w' => e = .returned (.string (bytesB (36 :: hexL false x n))) ∧ Below w.heap.size w w' := by
  subst hk
  exact digits_walk x n hx hn hn8 w hc
/-- What stands while the two parts of a move are told. -/
def MoveS (w0 : World) (R : Nat) (a0 a1 : Addr) (v0 v1 : Value) (W : World) : Prop := W.cell? a0 = some v0 ∧ W.cell? a1 = some v1 ∧ Laid W ∧ Below R w0 W ∧ R ≤ W.heap.size
theorem MoveS.below {w0 W W' : World} {R : Nat} {a0 a1 : Addr} {v0 v1 : Value} (h : MoveS w0 R a0 a1 v0 v1 W) (hb : Below W.heap.size W W') : MoveS w0 R a0 a1 v0 v1 W' := by
  obtain ⟨h0, h1, h2, h3, h4⟩ := h
  exact ⟨(hb.cell (World.block_lt_of_cell? W _ h0)).trans h0, (hb.cell (World.block_lt_of_cell? W _ h1)).trans h1, h2.below hb, h3.trans (hb.mono h4), Nat.le_trans h4 hb.size⟩
theorem toldL_rel (n x pc : Nat) : toldL 3 n x pc = 36 :: hexL false (tgtN n x pc) 4 := by simp [toldL]
theorem toldL_long (n x pc : Nat) : toldL 4 n x pc = 36 :: hexL false (tgtN n x pc) 4 := by simp [toldL]
theorem toldL_move (n x pc : Nat) : toldL 23 n x pc = (36 :: hexL false (x % 256) 2) ++ (44 :: 36 :: hexL false (x / 256) 2) := by simp [toldL]
theorem toldL_word (m n x pc : Nat) (h : 24 ≤ m) : toldL m n x pc = numL x n := by
  unfold toldL; rw [if_neg (by omega), if_neg (by omega), if_neg (by omega), if_pos h]
theorem toldL_rest (m n x pc : Nat) (h1 : m ≠ 1) (h3 : m ≠ 3) (h4 : m ≠ 4) (h23 : m < 23) : toldL m n x pc = signG (numL x n) (signB m).data.toList := by
  unfold toldL; rw [if_neg h1, if_neg (by omega), if_neg (by omega), if_neg (by omega)]
theorem byteCells_num {G : Nat} {p : Value} {acc num : List UInt8} {W : World} (h : Lib.BuilderAtF 66 5 G G p (Lib.byteCells acc ++ Lib.strCells (bytesB num)) W) : Lib.BuilderAtF 66 5 G G p (Lib.byteCells (acc ++ num)) W := by
  rw [Lib.byteCells_append]; exact h
theorem byteCells_sharp {G : Nat} {p : Value} {acc num : List UInt8} {W : World} (h : Lib.BuilderAtF 66 5 G G p (Lib.byteCells acc ++ Lib.strCells (⟨#[35]⟩ ++ bytesB num)) W) : Lib.BuilderAtF 66 5 G G p (Lib.byteCells (acc ++ (35 :: num))) W := by
  rw [Lib.byteCells_append]
  rw [show ((⟨#[35]⟩ : ByteArray) ++ bytesB num) = bytesB (35 :: num) from bytesB_append [35] num] at h
  exact h
theorem byteCells_rune {G : Nat} {p : Value} {acc : List UInt8} {b : UInt8} {x : Nat} {W : World} (hb : b.toNat = x) (h : Lib.BuilderAtF 66 5 G G p (Lib.byteCells acc ++ [.int .u8 (x : Int)]) W) : Lib.BuilderAtF 66 5 G G p (Lib.byteCells (acc ++ [b])) W := by
  rw [Lib.byteCells_append]
  rw [← hb] at h
  exact h
/-- What stands while the signs are split. -/
def RestS (w0 : World) (R G : Nat) (v : Value) (W : World) : Prop := W.cell? ⟨R, 2, none⟩ = some v ∧ Laid W ∧ Below G w0 W ∧ G < W.heap.size ∧ R < G ∧ Lib.IsBuilderF 66 5 G G (Lib.byteCells []) W
theorem RestS.iter {w0 W : World} {R G : Nat} {v : Value} {T : ByteArray} (h : RestS w0 R G v W) : (W.iter T 0).cell? ⟨R, 2, none⟩ = some v :=
  (((Below.refl W.heap.size W).alloc (Nat.le_refl _) (.stringIter T 0)).cell (World.block_lt_of_cell? W _ h.1)).trans h.1
theorem signs_split_walk (w0 : World) (R G m : Nat) (v : Value) (T : ByteArray) (hm : m < 26) (hT : T = signT m) (W : World) (h : RestS w0 R G v W) :
    Calls Tryz.prog 44 #[.string signsT, .string ⟨#[124]⟩] W fun e w' => ∃ Y, e = .returned (.slice (some ⟨Y, 0, none⟩) 26 26) ∧ w'.cell? ⟨Y, m, none⟩ = some (.string T) ∧ RestS w0 R G v w' := by
  obtain ⟨h0, ⟨⟨k, h1⟩, h2⟩, h3, h4, h5, h6⟩ := h
  refine (strings_Split signsT ⟨#[124]⟩ k W (by decide +kernel) h1 (by decide)).mono ?_
  rintro e w' ⟨rfl, rfl⟩
  rw [signs_split, signs_count]
  have hb := (Below.refl W.heap.size W).alloc (Nat.le_refl _) (.cells (((List.range 26).map signT).map Value.string).toArray 9)
  refine ⟨W.heap.size, rfl, ?_, (hb.cell (by simp; omega)).trans h0, Laid.below ⟨⟨k, h1⟩, h2⟩ hb, h3.trans (hb.mono (by omega)), by simp; omega, h5, h6.alloc _⟩
  rw [World.cell?_alloc_new, hT]
  simp [hm]
theorem hexN_le (x n : Nat) (h : x < 16 ^ n) (hn : 1 ≤ n) : hexN x ≤ n := by
  obtain ⟨k, rfl⟩ : ∃ k, n = k + 1 := ⟨n - 1, by omega⟩
  exact hexN_lt k x h

set_option maxRecDepth 100000 in
set_option maxHeartbeats 2000000 in
theorem told_rel (c : Int) (s : ByteArray) (u wd pc b o cap : Nat) (xs : List Int) (hpc : pc < 65536) (w : World) (hl : xs.length = 1) (hcap : xs.length ≤ cap) (hf : Fits .u8 xs)
    (hcell : ∀ i, i < xs.length → w.cell? ⟨b, o + i, none⟩ = some (.int .u8 (xs[i]?.getD 0))) (hL : Laid w) :
    Calls Tryz.prog 27 #[.agg #[.int .u8 c, .string s, .int .u8 3, .int .u8 u, .int .u8 wd], .slice (some ⟨b, o, none⟩) xs.length cap, .int .u16 pc] w fun e w' => e = .returned (.string (bytesB (toldL 3 xs.length (leN xs).toNat pc))) ∧ Below w.heap.size w w' := by
  obtain ⟨n, hn⟩ : ∃ n, xs.length = n := ⟨_, rfl⟩
  have HLE := Lib.hid (leN_drop xs)
  have HBD := Lib.hid (leN_drop_bounds xs hf (by omega))
  have HBX := Lib.hid (leN_bounds xs (fun b hb => bounds_u8 (hf b hb)))
  have HF := Lib.hid (fun i hi => hf.u8 (i := i) hi)
  rw [hn] at hcell hl hcap HLE HF HBX ⊢
  have hn3 : n ≤ 3 := by omega
  obtain ⟨y0, hy0⟩ : ∃ y0 : Nat, leN xs = (y0 : Int) := ⟨(leN xs).toNat, by have := HBX.out.1; omega⟩
  have HY0 := Lib.hid hy0
  rw [hy0, Int.toNat_natCast]
  rw [hy0] at HBX
  clear hy0
  have HN := Lib.hid hl
  obtain ⟨p1, hp1⟩ : ∃ p1, (pc + n) % 65536 = p1 := ⟨_, rfl⟩
  obtain ⟨p2, hp2⟩ : ∃ p2, (p1 + 1) % 65536 = p2 := ⟨_, rfl⟩
  have HP := Lib.hid (And.intro hp1 hp2)
  have a1 : IntKind.u16.wrap (n : Int) = (n : Int) := wrap16 _ (by omega) (by omega)
  have a2 : IntKind.u16.wrap ((pc : Int) + (n : Int)) = (p1 : Int) := by rw [← hp1]; exact wrap16_mod (pc + n)
  have a3 : IntKind.u16.wrap ((p1 : Int) + 1) = (p2 : Int) := by rw [← hp2]; exact wrap16_mod (p1 + 1)
  clear hl hp1 hp2
  go_enter Tryz.func27, Tryz.ntmps27
  go_upto_region 1 with fail
  obtain ⟨X, hX⟩ : ∃ X, w.alloc (.cells #[.int .u8 c, .string s, .int .u8 3, .int .u8 u, .int .u8 wd] 38) = X := ⟨_, rfl⟩
  have HB := Lib.hid (show Below w.heap.size w X by rw [← hX]; exact (Below.refl _ w).alloc (Nat.le_refl _) _)
  have g2 : X.cell? ⟨w.heap.size, 2, none⟩ = some (.int .u8 3) := by rw [← hX]; simp [go_sem]
  have hlt : w.heap.size < X.heap.size := by rw [← hX]; simp
  have HC := Lib.hid (fun i (hi : i < n) => ((HB.out.cell (World.block_lt_of_cell? w _ (hcell i hi))).trans (hcell i hi) : X.cell? ⟨b, o + i, none⟩ = some (.int .u8 (xs[i]?.getD 0))))
  have HL := Lib.hid (hL.below HB.out)
  clear hcell hL hf
  rw [hX]
  clear hX
  obtain ⟨R, hR⟩ : ∃ R, w.heap.size = R := ⟨_, rfl⟩
  rw [hR] at g2 HB hlt ⊢
  have HR := Lib.hid hR
  clear hR
  have i0 : IntKind.i64.wrap ((n : Int) - 1) = (n : Int) - 1 := IntWalk.i64_in _ (by omega)
  go_upto_region 3 with fail
  go_loopw [7, 8] (fun s7 s8 wr => ∃ (j : Nat) (y : Int), j ≤ n ∧ s7 = .int .u32 y ∧ s8 = .int .i64 ((j : Int) - 1) ∧ wr = X ∧ Hid (y = leN (xs.drop j))) (fun _ s8 _ => (intOf s8 + 1).toNat)
  case atStart => exact ⟨n, 0, Nat.le_refl _, rfl, by simp, rfl, Lib.hid (by rw [← hn, List.drop_length]; rfl)⟩
  case round =>
    obtain ⟨j, y, hj, rfl, rfl, rfl, HY⟩ := hrel
    rcases j with _ | j
    · obtain rfl : y = (y0 : Int) := HY.out.trans HY0.out
      clear HLE HBD HY
      have b1 : ¬ (0 : Int) ≤ ((0 : Nat) : Int) - 1 := by omega
      have hn1 : n = 1 := HN.out
      have hb0 := HF.out 0 (by omega)
      have hc0 := HC.out 0 (by omega)
      have hx0 := HY0.out
      obtain ⟨x0, h0x⟩ : ∃ x0 : Nat, xs[0]?.getD 0 = (x0 : Int) := ⟨(xs[0]?.getD 0).toNat, by omega⟩
      rw [h0x] at hc0 hb0
      rw [Nat.add_zero] at hc0
      have hn0 : 0 < n := by omega
      have hyx : y0 = x0 := by
        have h5 := leN_drop xs 0 (by omega)
        rw [List.drop_zero, hx0, h0x, show xs.drop (0 + 1) = [] from List.drop_of_length_le (by omega)] at h5
        simp [leN] at h5
        omega
      have hx256 : x0 < 256 := by omega
      have ht : tgtN n y0 pc < 65536 := by unfold tgtN; omega
      have a4 : IntKind.u16.wrap ((p2 : Int) + ((if 128 ≤ x0 then x0 + 65280 else x0 : Nat) : Int)) = (tgtN n y0 pc : Int) := by
        rw [← Int.natCast_add, wrap16_mod, hyx]
        have h5 := HP.out
        congr 1
        unfold tgtN
        rw [← h5.2, ← h5.1]
        by_cases h6 : 128 ≤ x0
        · rw [if_pos h6, if_pos ⟨hn1, h6⟩]; omega
        · rw [if_neg h6, if_neg (by omega)]; omega
      have a5 : IntKind.u32.wrap (tgtN n y0 pc : Int) = (tgtN n y0 pc : Int) := wrap32 _ (by omega) (by omega)
      have HE := Lib.hid (toldL_rel n y0 pc)
      obtain ⟨t, htt⟩ : ∃ t, tgtN n y0 pc = t := ⟨_, rfl⟩
      rw [htt] at ht a4 a5 HE
      have HEX := Lib.hid (fun W => extend_walk x0 hx256 W)
      obtain ⟨ex, hex⟩ : ∃ ex : Nat, (if 128 ≤ x0 then x0 + 65280 else x0 : Nat) = ex := ⟨_, rfl⟩
      rw [hex] at a4 HEX
      have HDG := Lib.hid (fun W hc => digits_at t 4 4 rfl (by omega) (hexN_le t 4 (by omega) (by omega)) (by omega) W hc)
      clear htt hex hyx h0x hn1
      go_wp2_with (first | (go_at_call 43; refine (HEX.out _).mono ?_; rintro e w1 ⟨rfl, rfl⟩) | (go_at_call 42; refine (HDG.out _ HL.out.2).mono ?_; rintro e w2 ⟨rfl, hb2⟩))
      go_ret
      exact ⟨by rw [HE.out]; rfl, by rw [HR.out]; exact HB.out.trans (hb2.mono (by omega))⟩
    · have b1 : (0 : Int) ≤ ((j + 1 : Nat) : Int) - 1 := by omega
      have e1 : ((j + 1 : Nat) : Int) - 1 = (j : Int) := by omega
      have hc := HC.out j (by omega)
      have hb := HF.out j (by omega)
      have hy := HBD.out (j + 1) (by omega)
      rw [← HY.out] at hy
      have eb : bits .or .u32 (y * 256) (xs[j]?.getD 0) = leN (xs.drop j) := by
        rw [Int.mul_comm, or_byte _ _ hy.1 hy.2 hb.1 hb.2, HLE.out j (by omega), HY.out]
      have hw : IntKind.u32.wrap (y * 256) = y * 256 := wrap32 _ (by omega) (by omega)
      go_wp2_with fail
      go_roundw
      case rel => exact ⟨j, _, by omega, rfl, rfl, trivial, Lib.hid rfl⟩
      case measure => simp [intOf]

set_option maxRecDepth 100000 in
set_option maxHeartbeats 2000000 in
theorem told_long (c : Int) (s : ByteArray) (u wd pc b o cap : Nat) (xs : List Int) (hpc : pc < 65536) (w : World) (hl : xs.length = 2) (hcap : xs.length ≤ cap) (hf : Fits .u8 xs)
    (hcell : ∀ i, i < xs.length → w.cell? ⟨b, o + i, none⟩ = some (.int .u8 (xs[i]?.getD 0))) (hL : Laid w) :
    Calls Tryz.prog 27 #[.agg #[.int .u8 c, .string s, .int .u8 4, .int .u8 u, .int .u8 wd], .slice (some ⟨b, o, none⟩) xs.length cap, .int .u16 pc] w fun e w' => e = .returned (.string (bytesB (toldL 4 xs.length (leN xs).toNat pc))) ∧ Below w.heap.size w w' := by
  obtain ⟨n, hn⟩ : ∃ n, xs.length = n := ⟨_, rfl⟩
  have HLE := Lib.hid (leN_drop xs)
  have HBD := Lib.hid (leN_drop_bounds xs hf (by omega))
  have HBX := Lib.hid (leN_bounds xs (fun b hb => bounds_u8 (hf b hb)))
  have HF := Lib.hid (fun i hi => hf.u8 (i := i) hi)
  rw [hn] at hcell hl hcap HLE HF HBX ⊢
  have hn3 : n ≤ 3 := by omega
  obtain ⟨y0, hy0⟩ : ∃ y0 : Nat, leN xs = (y0 : Int) := ⟨(leN xs).toNat, by have := HBX.out.1; omega⟩
  have HY0 := Lib.hid hy0
  rw [hy0, Int.toNat_natCast]
  rw [hy0] at HBX
  clear hy0
  have HN := Lib.hid hl
  obtain ⟨p1, hp1⟩ : ∃ p1, (pc + n) % 65536 = p1 := ⟨_, rfl⟩
  obtain ⟨p2, hp2⟩ : ∃ p2, (p1 + 1) % 65536 = p2 := ⟨_, rfl⟩
  have HP := Lib.hid (And.intro hp1 hp2)
  have a1 : IntKind.u16.wrap (n : Int) = (n : Int) := wrap16 _ (by omega) (by omega)
  have a2 : IntKind.u16.wrap ((pc : Int) + (n : Int)) = (p1 : Int) := by rw [← hp1]; exact wrap16_mod (pc + n)
  have a3 : IntKind.u16.wrap ((p1 : Int) + 1) = (p2 : Int) := by rw [← hp2]; exact wrap16_mod (p1 + 1)
  clear hl hp1 hp2
  go_enter Tryz.func27, Tryz.ntmps27
  go_upto_region 1 with fail
  obtain ⟨X, hX⟩ : ∃ X, w.alloc (.cells #[.int .u8 c, .string s, .int .u8 4, .int .u8 u, .int .u8 wd] 38) = X := ⟨_, rfl⟩
  have HB := Lib.hid (show Below w.heap.size w X by rw [← hX]; exact (Below.refl _ w).alloc (Nat.le_refl _) _)
  have g2 : X.cell? ⟨w.heap.size, 2, none⟩ = some (.int .u8 4) := by rw [← hX]; simp [go_sem]
  have hlt : w.heap.size < X.heap.size := by rw [← hX]; simp
  have HC := Lib.hid (fun i (hi : i < n) => ((HB.out.cell (World.block_lt_of_cell? w _ (hcell i hi))).trans (hcell i hi) : X.cell? ⟨b, o + i, none⟩ = some (.int .u8 (xs[i]?.getD 0))))
  have HL := Lib.hid (hL.below HB.out)
  clear hcell hL hf
  rw [hX]
  clear hX
  obtain ⟨R, hR⟩ : ∃ R, w.heap.size = R := ⟨_, rfl⟩
  rw [hR] at g2 HB hlt ⊢
  have HR := Lib.hid hR
  clear hR
  have i0 : IntKind.i64.wrap ((n : Int) - 1) = (n : Int) - 1 := IntWalk.i64_in _ (by omega)
  go_upto_region 3 with fail
  go_loopw [7, 8] (fun s7 s8 wr => ∃ (j : Nat) (y : Int), j ≤ n ∧ s7 = .int .u32 y ∧ s8 = .int .i64 ((j : Int) - 1) ∧ wr = X ∧ Hid (y = leN (xs.drop j))) (fun _ s8 _ => (intOf s8 + 1).toNat)
  case atStart => exact ⟨n, 0, Nat.le_refl _, rfl, by simp, rfl, Lib.hid (by rw [← hn, List.drop_length]; rfl)⟩
  case round =>
    obtain ⟨j, y, hj, rfl, rfl, rfl, HY⟩ := hrel
    rcases j with _ | j
    · obtain rfl : y = (y0 : Int) := HY.out.trans HY0.out
      clear HLE HBD HY
      have b1 : ¬ (0 : Int) ≤ ((0 : Nat) : Int) - 1 := by omega
      have hn1 : n = 2 := HN.out
      have hy65 : y0 < 65536 := by have h9 := HBX.out.2; rw [hn1] at h9; omega
      have ht : tgtN n y0 pc < 65536 := by unfold tgtN; omega
      have a6 : IntKind.u16.wrap (y0 : Int) = (y0 : Int) := wrap16 _ (by omega) (by omega)
      have a4 : IntKind.u16.wrap ((p2 : Int) + (y0 : Int)) = (tgtN n y0 pc : Int) := by
        rw [← Int.natCast_add, wrap16_mod]
        have h5 := HP.out
        congr 1
        unfold tgtN
        rw [← h5.2, ← h5.1, if_neg (by omega)]; omega
      have a5 : IntKind.u32.wrap (tgtN n y0 pc : Int) = (tgtN n y0 pc : Int) := wrap32 _ (by omega) (by omega)
      have HE := Lib.hid (toldL_long n y0 pc)
      obtain ⟨t, htt⟩ : ∃ t, tgtN n y0 pc = t := ⟨_, rfl⟩
      rw [htt] at ht a4 a5 HE
      have HDG := Lib.hid (fun W hc => digits_at t 4 4 rfl (by omega) (hexN_le t 4 (by omega) (by omega)) (by omega) W hc)
      clear htt hn1
      go_wp2_with (go_at_call 42; refine (HDG.out _ HL.out.2).mono ?_; rintro e w2 ⟨rfl, hb2⟩)
      go_ret
      exact ⟨by rw [HE.out]; rfl, by rw [HR.out]; exact HB.out.trans (hb2.mono (by omega))⟩
    · have b1 : (0 : Int) ≤ ((j + 1 : Nat) : Int) - 1 := by omega
      have e1 : ((j + 1 : Nat) : Int) - 1 = (j : Int) := by omega
      have hc := HC.out j (by omega)
      have hb := HF.out j (by omega)
      have hy := HBD.out (j + 1) (by omega)
      rw [← HY.out] at hy
      have eb : bits .or .u32 (y * 256) (xs[j]?.getD 0) = leN (xs.drop j) := by
        rw [Int.mul_comm, or_byte _ _ hy.1 hy.2 hb.1 hb.2, HLE.out j (by omega), HY.out]
      have hw : IntKind.u32.wrap (y * 256) = y * 256 := wrap32 _ (by omega) (by omega)
      go_wp2_with fail
      go_roundw
      case rel => exact ⟨j, _, by omega, rfl, rfl, trivial, Lib.hid rfl⟩
      case measure => simp [intOf]

set_option maxRecDepth 100000 in
set_option maxHeartbeats 2000000 in
theorem told_sig (c : Int) (s : ByteArray) (u wd pc b o cap : Nat) (xs : List Int) (hpc : pc < 65536) (w : World) (hl : 1 ≤ xs.length ∧ xs.length ≤ 3) (hcap : xs.length ≤ cap) (hf : Fits .u8 xs)
    (hcell : ∀ i, i < xs.length → w.cell? ⟨b, o + i, none⟩ = some (.int .u8 (xs[i]?.getD 0))) (hL : Laid w) :
    Calls Tryz.prog 27 #[.agg #[.int .u8 c, .string s, .int .u8 24, .int .u8 u, .int .u8 wd], .slice (some ⟨b, o, none⟩) xs.length cap, .int .u16 pc] w fun e w' => e = .returned (.string (bytesB (toldL 24 xs.length (leN xs).toNat pc))) ∧ Below w.heap.size w w' := by
  obtain ⟨n, hn⟩ : ∃ n, xs.length = n := ⟨_, rfl⟩
  have HLE := Lib.hid (leN_drop xs)
  have HBD := Lib.hid (leN_drop_bounds xs hf (by omega))
  have HBX := Lib.hid (leN_bounds xs (fun b hb => bounds_u8 (hf b hb)))
  have HF := Lib.hid (fun i hi => hf.u8 (i := i) hi)
  rw [hn] at hcell hl hcap HLE HF HBX ⊢
  have hn3 : n ≤ 3 := by omega
  obtain ⟨y0, hy0⟩ : ∃ y0 : Nat, leN xs = (y0 : Int) := ⟨(leN xs).toNat, by have := HBX.out.1; omega⟩
  have HY0 := Lib.hid hy0
  rw [hy0, Int.toNat_natCast]
  rw [hy0] at HBX
  clear hy0
  have HN := Lib.hid hl
  obtain ⟨p1, hp1⟩ : ∃ p1, (pc + n) % 65536 = p1 := ⟨_, rfl⟩
  obtain ⟨p2, hp2⟩ : ∃ p2, (p1 + 1) % 65536 = p2 := ⟨_, rfl⟩
  have HP := Lib.hid (And.intro hp1 hp2)
  have a1 : IntKind.u16.wrap (n : Int) = (n : Int) := wrap16 _ (by omega) (by omega)
  have a2 : IntKind.u16.wrap ((pc : Int) + (n : Int)) = (p1 : Int) := by rw [← hp1]; exact wrap16_mod (pc + n)
  have a3 : IntKind.u16.wrap ((p1 : Int) + 1) = (p2 : Int) := by rw [← hp2]; exact wrap16_mod (p1 + 1)
  clear hl hp1 hp2
  go_enter Tryz.func27, Tryz.ntmps27
  go_upto_region 1 with fail
  obtain ⟨X, hX⟩ : ∃ X, w.alloc (.cells #[.int .u8 c, .string s, .int .u8 24, .int .u8 u, .int .u8 wd] 38) = X := ⟨_, rfl⟩
  have HB := Lib.hid (show Below w.heap.size w X by rw [← hX]; exact (Below.refl _ w).alloc (Nat.le_refl _) _)
  have g2 : X.cell? ⟨w.heap.size, 2, none⟩ = some (.int .u8 24) := by rw [← hX]; simp [go_sem]
  have hlt : w.heap.size < X.heap.size := by rw [← hX]; simp
  have HC := Lib.hid (fun i (hi : i < n) => ((HB.out.cell (World.block_lt_of_cell? w _ (hcell i hi))).trans (hcell i hi) : X.cell? ⟨b, o + i, none⟩ = some (.int .u8 (xs[i]?.getD 0))))
  have HL := Lib.hid (hL.below HB.out)
  clear hcell hL hf
  rw [hX]
  clear hX
  obtain ⟨R, hR⟩ : ∃ R, w.heap.size = R := ⟨_, rfl⟩
  rw [hR] at g2 HB hlt ⊢
  have HR := Lib.hid hR
  clear hR
  have i0 : IntKind.i64.wrap ((n : Int) - 1) = (n : Int) - 1 := IntWalk.i64_in _ (by omega)
  go_upto_region 3 with fail
  go_loopw [7, 8] (fun s7 s8 wr => ∃ (j : Nat) (y : Int), j ≤ n ∧ s7 = .int .u32 y ∧ s8 = .int .i64 ((j : Int) - 1) ∧ wr = X ∧ Hid (y = leN (xs.drop j))) (fun _ s8 _ => (intOf s8 + 1).toNat)
  case atStart => exact ⟨n, 0, Nat.le_refl _, rfl, by simp, rfl, Lib.hid (by rw [← hn, List.drop_length]; rfl)⟩
  case round =>
    obtain ⟨j, y, hj, rfl, rfl, rfl, HY⟩ := hrel
    rcases j with _ | j
    · obtain rfl : y = (y0 : Int) := HY.out.trans HY0.out
      clear HLE HBD HY
      have b1 : ¬ (0 : Int) ≤ ((0 : Nat) : Int) - 1 := by omega
      have hn1 : 1 ≤ n := HN.out.1
      have hy32 : y0 < 256 ^ n := by have := HBX.out.2; exact_mod_cast this
      have hy16 : y0 < 16 ^ (2 * n) := by rw [Nat.pow_mul]; exact hy32
      have hy24 : y0 < 4294967296 := Nat.lt_of_lt_of_le hy32 (Nat.le_trans (Nat.pow_le_pow_right (by decide) hn3) (by decide))
      have a7 : IntKind.i64.wrap (2 * (n : Int)) = ((2 * n : Nat) : Int) := by rw [IntWalk.i64_in _ (by omega)]; omega
      have HDG := Lib.hid (fun W hc => digits_walk y0 (2 * n) (by omega) (hexN_le y0 (2 * n) hy16 (by omega)) (by omega) W hc)
      have HE := Lib.hid (toldL_word 24 n y0 pc (by omega))
      clear hy32 hy16
      go_wp2_with (go_at_call 42; refine (HDG.out _ HL.out.2).mono ?_; rintro e w2 ⟨rfl, hb2⟩)
      go_ret
      exact ⟨by rw [HE.out]; rfl, by rw [HR.out]; exact HB.out.trans (hb2.mono (by omega))⟩
    · have b1 : (0 : Int) ≤ ((j + 1 : Nat) : Int) - 1 := by omega
      have e1 : ((j + 1 : Nat) : Int) - 1 = (j : Int) := by omega
      have hc := HC.out j (by omega)
      have hb := HF.out j (by omega)
      have hy := HBD.out (j + 1) (by omega)
      rw [← HY.out] at hy
      have eb : bits .or .u32 (y * 256) (xs[j]?.getD 0) = leN (xs.drop j) := by
        rw [Int.mul_comm, or_byte _ _ hy.1 hy.2 hb.1 hb.2, HLE.out j (by omega), HY.out]
      have hw : IntKind.u32.wrap (y * 256) = y * 256 := wrap32 _ (by omega) (by omega)
      go_wp2_with fail
      go_roundw
      case rel => exact ⟨j, _, by omega, rfl, rfl, trivial, Lib.hid rfl⟩
      case measure => simp [intOf]

set_option maxRecDepth 100000 in
set_option maxHeartbeats 2000000 in
theorem told_word (c : Int) (s : ByteArray) (u wd pc b o cap : Nat) (xs : List Int) (hpc : pc < 65536) (w : World) (hl : 1 ≤ xs.length ∧ xs.length ≤ 3) (hcap : xs.length ≤ cap) (hf : Fits .u8 xs)
    (hcell : ∀ i, i < xs.length → w.cell? ⟨b, o + i, none⟩ = some (.int .u8 (xs[i]?.getD 0))) (hL : Laid w) :
    Calls Tryz.prog 27 #[.agg #[.int .u8 c, .string s, .int .u8 25, .int .u8 u, .int .u8 wd], .slice (some ⟨b, o, none⟩) xs.length cap, .int .u16 pc] w fun e w' => e = .returned (.string (bytesB (toldL 25 xs.length (leN xs).toNat pc))) ∧ Below w.heap.size w w' := by
  obtain ⟨n, hn⟩ : ∃ n, xs.length = n := ⟨_, rfl⟩
  have HLE := Lib.hid (leN_drop xs)
  have HBD := Lib.hid (leN_drop_bounds xs hf (by omega))
  have HBX := Lib.hid (leN_bounds xs (fun b hb => bounds_u8 (hf b hb)))
  have HF := Lib.hid (fun i hi => hf.u8 (i := i) hi)
  rw [hn] at hcell hl hcap HLE HF HBX ⊢
  have hn3 : n ≤ 3 := by omega
  obtain ⟨y0, hy0⟩ : ∃ y0 : Nat, leN xs = (y0 : Int) := ⟨(leN xs).toNat, by have := HBX.out.1; omega⟩
  have HY0 := Lib.hid hy0
  rw [hy0, Int.toNat_natCast]
  rw [hy0] at HBX
  clear hy0
  have HN := Lib.hid hl
  obtain ⟨p1, hp1⟩ : ∃ p1, (pc + n) % 65536 = p1 := ⟨_, rfl⟩
  obtain ⟨p2, hp2⟩ : ∃ p2, (p1 + 1) % 65536 = p2 := ⟨_, rfl⟩
  have HP := Lib.hid (And.intro hp1 hp2)
  have a1 : IntKind.u16.wrap (n : Int) = (n : Int) := wrap16 _ (by omega) (by omega)
  have a2 : IntKind.u16.wrap ((pc : Int) + (n : Int)) = (p1 : Int) := by rw [← hp1]; exact wrap16_mod (pc + n)
  have a3 : IntKind.u16.wrap ((p1 : Int) + 1) = (p2 : Int) := by rw [← hp2]; exact wrap16_mod (p1 + 1)
  clear hl hp1 hp2
  go_enter Tryz.func27, Tryz.ntmps27
  go_upto_region 1 with fail
  obtain ⟨X, hX⟩ : ∃ X, w.alloc (.cells #[.int .u8 c, .string s, .int .u8 25, .int .u8 u, .int .u8 wd] 38) = X := ⟨_, rfl⟩
  have HB := Lib.hid (show Below w.heap.size w X by rw [← hX]; exact (Below.refl _ w).alloc (Nat.le_refl _) _)
  have g2 : X.cell? ⟨w.heap.size, 2, none⟩ = some (.int .u8 25) := by rw [← hX]; simp [go_sem]
  have hlt : w.heap.size < X.heap.size := by rw [← hX]; simp
  have HC := Lib.hid (fun i (hi : i < n) => ((HB.out.cell (World.block_lt_of_cell? w _ (hcell i hi))).trans (hcell i hi) : X.cell? ⟨b, o + i, none⟩ = some (.int .u8 (xs[i]?.getD 0))))
  have HL := Lib.hid (hL.below HB.out)
  clear hcell hL hf
  rw [hX]
  clear hX
  obtain ⟨R, hR⟩ : ∃ R, w.heap.size = R := ⟨_, rfl⟩
  rw [hR] at g2 HB hlt ⊢
  have HR := Lib.hid hR
  clear hR
  have i0 : IntKind.i64.wrap ((n : Int) - 1) = (n : Int) - 1 := IntWalk.i64_in _ (by omega)
  go_upto_region 3 with fail
  go_loopw [7, 8] (fun s7 s8 wr => ∃ (j : Nat) (y : Int), j ≤ n ∧ s7 = .int .u32 y ∧ s8 = .int .i64 ((j : Int) - 1) ∧ wr = X ∧ Hid (y = leN (xs.drop j))) (fun _ s8 _ => (intOf s8 + 1).toNat)
  case atStart => exact ⟨n, 0, Nat.le_refl _, rfl, by simp, rfl, Lib.hid (by rw [← hn, List.drop_length]; rfl)⟩
  case round =>
    obtain ⟨j, y, hj, rfl, rfl, rfl, HY⟩ := hrel
    rcases j with _ | j
    · obtain rfl : y = (y0 : Int) := HY.out.trans HY0.out
      clear HLE HBD HY
      have b1 : ¬ (0 : Int) ≤ ((0 : Nat) : Int) - 1 := by omega
      have hn1 : 1 ≤ n := HN.out.1
      have hy32 : y0 < 256 ^ n := by have := HBX.out.2; exact_mod_cast this
      have hy16 : y0 < 16 ^ (2 * n) := by rw [Nat.pow_mul]; exact hy32
      have hy24 : y0 < 4294967296 := Nat.lt_of_lt_of_le hy32 (Nat.le_trans (Nat.pow_le_pow_right (by decide) hn3) (by decide))
      have a7 : IntKind.i64.wrap (2 * (n : Int)) = ((2 * n : Nat) : Int) := by rw [IntWalk.i64_in _ (by omega)]; omega
      have HDG := Lib.hid (fun W hc => digits_walk y0 (2 * n) (by omega) (hexN_le y0 (2 * n) hy16 (by omega)) (by omega) W hc)
      have HE := Lib.hid (toldL_word 25 n y0 pc (by omega))
      clear hy32 hy16
      go_wp2_with (go_at_call 42; refine (HDG.out _ HL.out.2).mono ?_; rintro e w2 ⟨rfl, hb2⟩)
      go_ret
      exact ⟨by rw [HE.out]; rfl, by rw [HR.out]; exact HB.out.trans (hb2.mono (by omega))⟩
    · have b1 : (0 : Int) ≤ ((j + 1 : Nat) : Int) - 1 := by omega
      have e1 : ((j + 1 : Nat) : Int) - 1 = (j : Int) := by omega
      have hc := HC.out j (by omega)
      have hb := HF.out j (by omega)
      have hy := HBD.out (j + 1) (by omega)
      rw [← HY.out] at hy
      have eb : bits .or .u32 (y * 256) (xs[j]?.getD 0) = leN (xs.drop j) := by
        rw [Int.mul_comm, or_byte _ _ hy.1 hy.2 hb.1 hb.2, HLE.out j (by omega), HY.out]
      have hw : IntKind.u32.wrap (y * 256) = y * 256 := wrap32 _ (by omega) (by omega)
      go_wp2_with fail
      go_roundw
      case rel => exact ⟨j, _, by omega, rfl, rfl, trivial, Lib.hid rfl⟩
      case measure => simp [intOf]

set_option maxRecDepth 100000 in
set_option maxHeartbeats 2000000 in
theorem told_move (c : Int) (s : ByteArray) (u wd pc b o cap : Nat) (xs : List Int) (hpc : pc < 65536) (w : World) (hl : xs.length = 2) (hcap : xs.length ≤ cap) (hf : Fits .u8 xs)
    (hcell : ∀ i, i < xs.length → w.cell? ⟨b, o + i, none⟩ = some (.int .u8 (xs[i]?.getD 0))) (hL : Laid w) :
    Calls Tryz.prog 27 #[.agg #[.int .u8 c, .string s, .int .u8 23, .int .u8 u, .int .u8 wd], .slice (some ⟨b, o, none⟩) xs.length cap, .int .u16 pc] w fun e w' => e = .returned (.string (bytesB (toldL 23 xs.length (leN xs).toNat pc))) ∧ Below w.heap.size w w' := by
  obtain ⟨n, hn⟩ : ∃ n, xs.length = n := ⟨_, rfl⟩
  have HLE := Lib.hid (leN_drop xs)
  have HBD := Lib.hid (leN_drop_bounds xs hf (by omega))
  have HBX := Lib.hid (leN_bounds xs (fun b hb => bounds_u8 (hf b hb)))
  have HF := Lib.hid (fun i hi => hf.u8 (i := i) hi)
  rw [hn] at hcell hl hcap HLE HF HBX ⊢
  have hn3 : n ≤ 3 := by omega
  obtain ⟨y0, hy0⟩ : ∃ y0 : Nat, leN xs = (y0 : Int) := ⟨(leN xs).toNat, by have := HBX.out.1; omega⟩
  have HY0 := Lib.hid hy0
  rw [hy0, Int.toNat_natCast]
  rw [hy0] at HBX
  clear hy0
  have HN := Lib.hid hl
  obtain ⟨p1, hp1⟩ : ∃ p1, (pc + n) % 65536 = p1 := ⟨_, rfl⟩
  obtain ⟨p2, hp2⟩ : ∃ p2, (p1 + 1) % 65536 = p2 := ⟨_, rfl⟩
  have HP := Lib.hid (And.intro hp1 hp2)
  have a1 : IntKind.u16.wrap (n : Int) = (n : Int) := wrap16 _ (by omega) (by omega)
  have a2 : IntKind.u16.wrap ((pc : Int) + (n : Int)) = (p1 : Int) := by rw [← hp1]; exact wrap16_mod (pc + n)
  have a3 : IntKind.u16.wrap ((p1 : Int) + 1) = (p2 : Int) := by rw [← hp2]; exact wrap16_mod (p1 + 1)
  clear hl hp1 hp2
  go_enter Tryz.func27, Tryz.ntmps27
  go_upto_region 1 with fail
  obtain ⟨X, hX⟩ : ∃ X, w.alloc (.cells #[.int .u8 c, .string s, .int .u8 23, .int .u8 u, .int .u8 wd] 38) = X := ⟨_, rfl⟩
  have HB := Lib.hid (show Below w.heap.size w X by rw [← hX]; exact (Below.refl _ w).alloc (Nat.le_refl _) _)
  have g2 : X.cell? ⟨w.heap.size, 2, none⟩ = some (.int .u8 23) := by rw [← hX]; simp [go_sem]
  have hlt : w.heap.size < X.heap.size := by rw [← hX]; simp
  have HC := Lib.hid (fun i (hi : i < n) => ((HB.out.cell (World.block_lt_of_cell? w _ (hcell i hi))).trans (hcell i hi) : X.cell? ⟨b, o + i, none⟩ = some (.int .u8 (xs[i]?.getD 0))))
  have HL := Lib.hid (hL.below HB.out)
  clear hcell hL hf
  rw [hX]
  clear hX
  obtain ⟨R, hR⟩ : ∃ R, w.heap.size = R := ⟨_, rfl⟩
  rw [hR] at g2 HB hlt ⊢
  have HR := Lib.hid hR
  clear hR
  have i0 : IntKind.i64.wrap ((n : Int) - 1) = (n : Int) - 1 := IntWalk.i64_in _ (by omega)
  go_upto_region 3 with fail
  go_loopw [7, 8] (fun s7 s8 wr => ∃ (j : Nat) (y : Int), j ≤ n ∧ s7 = .int .u32 y ∧ s8 = .int .i64 ((j : Int) - 1) ∧ wr = X ∧ Hid (y = leN (xs.drop j))) (fun _ s8 _ => (intOf s8 + 1).toNat)
  case atStart => exact ⟨n, 0, Nat.le_refl _, rfl, by simp, rfl, Lib.hid (by rw [← hn, List.drop_length]; rfl)⟩
  case round =>
    obtain ⟨j, y, hj, rfl, rfl, rfl, HY⟩ := hrel
    rcases j with _ | j
    · obtain rfl : y = (y0 : Int) := HY.out.trans HY0.out
      clear HLE HBD HY
      have b1 : ¬ (0 : Int) ≤ ((0 : Nat) : Int) - 1 := by omega
      have hn1 : n = 2 := HN.out
      have hy65 : y0 < 65536 := by have h9 := HBX.out.2; rw [hn1] at h9; omega
      have hb0 := HF.out 0 (by omega)
      have hb1 := HF.out 1 (by omega)
      have hc0 := HC.out 0 (by omega)
      have hc1 := HC.out 1 (by omega)
      have hx0 := HY0.out
      obtain ⟨x0, h0x⟩ : ∃ x0 : Nat, xs[0]?.getD 0 = (x0 : Int) := ⟨(xs[0]?.getD 0).toNat, by omega⟩
      obtain ⟨x1, h1x⟩ : ∃ x1 : Nat, xs[1]?.getD 0 = (x1 : Int) := ⟨(xs[1]?.getD 0).toNat, by omega⟩
      rw [h0x] at hc0 hb0
      rw [h1x] at hc1 hb1
      rw [Nat.add_zero] at hc0
      have hyx : y0 = x0 + 256 * x1 := by
        have h5 := leN_drop xs 0 (by omega)
        rw [List.drop_zero, hx0, h0x, leN_drop xs (0 + 1) (by omega), h1x, show xs.drop (0 + 1 + 1) = [] from List.drop_of_length_le (by omega)] at h5
        simp [leN] at h5
        omega
      have HE := Lib.hid (show bytesB (36 :: hexL false x0 2) ++ ⟨#[44]⟩ ++ bytesB (36 :: hexL false x1 2) = bytesB (toldL 23 n y0 pc) by
        rw [toldL_move, show y0 % 256 = x0 by omega, show y0 / 256 = x1 by omega, show (⟨#[44]⟩ : ByteArray) = bytesB [44] from rfl, bytesB_append, bytesB_append, List.append_assoc]; rfl)
      have z0 : (bytesB (36 :: hexL false x0 2)).size = 3 := by rw [bytesB_size, List.length_cons, hexL_length]
      have z1 : (bytesB (36 :: hexL false x1 2)).size = 3 := by rw [bytesB_size, List.length_cons, hexL_length]
      have l0 : x0 < 256 := by omega
      have l1 : x1 < 256 := by omega
      have a8 : IntKind.u32.wrap (x0 : Int) = (x0 : Int) := wrap32 _ (by omega) (by omega)
      have a9 : IntKind.u32.wrap (x1 : Int) = (x1 : Int) := wrap32 _ (by omega) (by omega)
      have hn0 : 0 < n := by omega
      have hn11 : 1 < n := by omega
      have hn12 : (1 : Int) < (n : Int) := by omega
      have hn13 : (0 : Int) < (n : Int) := by omega
      have HDX := Lib.hid (fun W (x : Nat) (hx : x < 256) (hW : MoveS wr R ⟨b, o, none⟩ ⟨b, o + 1, none⟩ (.int .u8 x0) (.int .u8 x1) W) => show Calls Tryz.prog 42 #[.int .u32 (x : Int), .int .i64 2] W fun e w' => e = .returned (.string (bytesB (36 :: hexL false x 2))) ∧ MoveS wr R ⟨b, o, none⟩ ⟨b, o + 1, none⟩ (.int .u8 x0) (.int .u8 x1) w' from (digits_at x 2 2 rfl (by omega) (hexN_le x 2 (by omega) (by omega)) (by omega) W hW.2.2.1.2).mono fun e w' ⟨he, hb⟩ => ⟨he, hW.below hb⟩)
      have KD := Lib.hid (show MoveS wr R ⟨b, o, none⟩ ⟨b, o + 1, none⟩ (.int .u8 x0) (.int .u8 x1) wr.drew from ⟨hc0, hc1, HL.out, (Below.refl _ wr).drew, Nat.le_of_lt hlt⟩)
      have d0 : wr.drew.cell? ⟨b, o, none⟩ = some (.int .u8 x0) := hc0
      have d1 : wr.drew.cell? ⟨b, o + 1, none⟩ = some (.int .u8 x1) := hc1
      clear hyx h0x h1x hn1
      go_upto_region 15 with fail
      go_region_held3 (fun w' => w'.cell? ⟨b, o, none⟩ = some (.int .u8 x0) ∧ w'.cell? ⟨b, o + 1, none⟩ = some (.int .u8 x1)) (first | (with_reducible exact ⟨hc0, hc1⟩) | (with_reducible exact ⟨c0, c1⟩) | (with_reducible exact ⟨d0, d1⟩) | go_keep) (first | (go_at_call 42; refine Calls.mono (HDX.out _ _ (by assumption) (by first | with_reducible exact q | with_reducible exact KD.out)) ?_; rintro e w' ⟨rfl, q⟩; have c0 := q.1; have c1 := q.2.1))
      all_goals
        go_wp2_with fail
        go_ret
        exact ⟨by rw [← HE.out]; rfl, by rw [HR.out]; exact HB.out.trans q.2.2.2.1⟩
    · have b1 : (0 : Int) ≤ ((j + 1 : Nat) : Int) - 1 := by omega
      have e1 : ((j + 1 : Nat) : Int) - 1 = (j : Int) := by omega
      have hc := HC.out j (by omega)
      have hb := HF.out j (by omega)
      have hy := HBD.out (j + 1) (by omega)
      rw [← HY.out] at hy
      have eb : bits .or .u32 (y * 256) (xs[j]?.getD 0) = leN (xs.drop j) := by
        rw [Int.mul_comm, or_byte _ _ hy.1 hy.2 hb.1 hb.2, HLE.out j (by omega), HY.out]
      have hw : IntKind.u32.wrap (y * 256) = y * 256 := wrap32 _ (by omega) (by omega)
      go_wp2_with fail
      go_roundw
      case rel => exact ⟨j, _, by omega, rfl, rfl, trivial, Lib.hid rfl⟩
      case measure => simp [intOf]

set_option maxRecDepth 100000 in
set_option maxHeartbeats 2000000 in
theorem told_rest (c : Int) (s : ByteArray) (m u wd pc b o cap : Nat) (xs : List Int) (hpc : pc < 65536) (w : World) (hl : 1 ≤ xs.length ∧ xs.length ≤ 3) (hcap : xs.length ≤ cap) (hf : Fits .u8 xs)
    (hcell : ∀ i, i < xs.length → w.cell? ⟨b, o + i, none⟩ = some (.int .u8 (xs[i]?.getD 0))) (hL : Laid w) (hm : 2 ≤ m ∧ m < 23 ∧ m ≠ 3 ∧ m ≠ 4) :
    Calls Tryz.prog 27 #[.agg #[.int .u8 c, .string s, .int .u8 m, .int .u8 u, .int .u8 wd], .slice (some ⟨b, o, none⟩) xs.length cap, .int .u16 pc] w fun e w' => e = .returned (.string (bytesB (toldL m xs.length (leN xs).toNat pc))) ∧ Below w.heap.size w w' := by
  obtain ⟨n, hn⟩ : ∃ n, xs.length = n := ⟨_, rfl⟩
  have HLE := Lib.hid (leN_drop xs)
  have HBD := Lib.hid (leN_drop_bounds xs hf (by omega))
  have HBX := Lib.hid (leN_bounds xs (fun b hb => bounds_u8 (hf b hb)))
  have HF := Lib.hid (fun i hi => hf.u8 (i := i) hi)
  rw [hn] at hcell hl hcap HLE HF HBX ⊢
  have hn3 : n ≤ 3 := by omega
  have HM := Lib.hid hm
  clear hm
  obtain ⟨y0, hy0⟩ : ∃ y0 : Nat, leN xs = (y0 : Int) := ⟨(leN xs).toNat, by have := HBX.out.1; omega⟩
  have HY0 := Lib.hid hy0
  rw [hy0, Int.toNat_natCast]
  rw [hy0] at HBX
  clear hy0
  have HN := Lib.hid hl
  obtain ⟨p1, hp1⟩ : ∃ p1, (pc + n) % 65536 = p1 := ⟨_, rfl⟩
  obtain ⟨p2, hp2⟩ : ∃ p2, (p1 + 1) % 65536 = p2 := ⟨_, rfl⟩
  have HP := Lib.hid (And.intro hp1 hp2)
  have a1 : IntKind.u16.wrap (n : Int) = (n : Int) := wrap16 _ (by omega) (by omega)
  have a2 : IntKind.u16.wrap ((pc : Int) + (n : Int)) = (p1 : Int) := by rw [← hp1]; exact wrap16_mod (pc + n)
  have a3 : IntKind.u16.wrap ((p1 : Int) + 1) = (p2 : Int) := by rw [← hp2]; exact wrap16_mod (p1 + 1)
  clear hl hp1 hp2
  go_enter Tryz.func27, Tryz.ntmps27
  go_upto_region 1 with fail
  obtain ⟨X, hX⟩ : ∃ X, w.alloc (.cells #[.int .u8 c, .string s, .int .u8 m, .int .u8 u, .int .u8 wd] 38) = X := ⟨_, rfl⟩
  have HB := Lib.hid (show Below w.heap.size w X by rw [← hX]; exact (Below.refl _ w).alloc (Nat.le_refl _) _)
  have g2 : X.cell? ⟨w.heap.size, 2, none⟩ = some (.int .u8 m) := by rw [← hX]; simp [go_sem]
  have hlt : w.heap.size < X.heap.size := by rw [← hX]; simp
  have HC := Lib.hid (fun i (hi : i < n) => ((HB.out.cell (World.block_lt_of_cell? w _ (hcell i hi))).trans (hcell i hi) : X.cell? ⟨b, o + i, none⟩ = some (.int .u8 (xs[i]?.getD 0))))
  have HL := Lib.hid (hL.below HB.out)
  clear hcell hL hf
  rw [hX]
  clear hX
  obtain ⟨R, hR⟩ : ∃ R, w.heap.size = R := ⟨_, rfl⟩
  rw [hR] at g2 HB hlt ⊢
  have HR := Lib.hid hR
  clear hR
  have i0 : IntKind.i64.wrap ((n : Int) - 1) = (n : Int) - 1 := IntWalk.i64_in _ (by omega)
  go_upto_region 3 with fail
  go_loopw [7, 8] (fun s7 s8 wr => ∃ (j : Nat) (y : Int), j ≤ n ∧ s7 = .int .u32 y ∧ s8 = .int .i64 ((j : Int) - 1) ∧ wr = X ∧ Hid (y = leN (xs.drop j))) (fun _ s8 _ => (intOf s8 + 1).toNat)
  case atStart => exact ⟨n, 0, Nat.le_refl _, rfl, by simp, rfl, Lib.hid (by rw [← hn, List.drop_length]; rfl)⟩
  case round =>
    obtain ⟨j, y, hj, rfl, rfl, rfl, HY⟩ := hrel
    rcases j with _ | j
    · obtain rfl : y = (y0 : Int) := HY.out.trans HY0.out
      clear HLE HBD HY
      have b1 : ¬ (0 : Int) ≤ ((0 : Nat) : Int) - 1 := by omega
      have hn1 : 1 ≤ n := HN.out.1
      have hm := HM.out
      have hy32 : y0 < 256 ^ n := by have := HBX.out.2; exact_mod_cast this
      have hy16 : y0 < 16 ^ (2 * n) := by rw [Nat.pow_mul]; exact hy32
      have hy24 : y0 < 4294967296 := Nat.lt_of_lt_of_le hy32 (Nat.le_trans (Nat.pow_le_pow_right (by decide) hn3) (by decide))
      have a7 : IntKind.i64.wrap (2 * (n : Int)) = ((2 * n : Nat) : Int) := by rw [IntWalk.i64_in _ (by omega)]; omega
      have HDG := Lib.hid (fun W hc => digits_walk y0 (2 * n) (by omega) (hexN_le y0 (2 * n) hy16 (by omega)) (by omega) W hc)
      have HE := Lib.hid (toldL_rest m n y0 pc (by omega) (by omega) (by omega) (by omega))
      have hzs := sign_lim m (by omega)
      have hnl : (numL y0 n).length ≤ 7 := by unfold numL; rw [List.length_cons, hexL_length]; omega
      obtain ⟨num, hnum⟩ : ∃ num, numL y0 n = num := ⟨_, rfl⟩
      rw [show (36 :: hexL false y0 (2 * n)) = numL y0 n from rfl, hnum] at HDG
      rw [hnum] at HE hnl
      have e1 : ((m : Int) == 1) = false := by rw [beq_eq_false_iff_ne]; omega
      have e3 : ((m : Int) == 3) = false := by rw [beq_eq_false_iff_ne]; omega
      have e4 : ((m : Int) == 4) = false := by rw [beq_eq_false_iff_ne]; omega
      have e23 : ((m : Int) == 23) = false := by rw [beq_eq_false_iff_ne]; omega
      have e24 : ((m : Int) == 24) = false := by rw [beq_eq_false_iff_ne]; omega
      have e25 : ((m : Int) == 25) = false := by rw [beq_eq_false_iff_ne]; omega
      have m26 : m < 26 := by omega
      have m26i : (m : Int) < 26 := by omega
      clear hy32 hy16 hnum hm
      go_upto_region 20 with (go_at_call 42; refine (HDG.out _ HL.out.2).mono ?_; rintro e w2 ⟨rfl, hb2⟩)
      have k2 : w2.cell? ⟨R, 2, none⟩ = some (.int .u8 m) := (hb2.cell hlt).trans g2
      have HL2 := Lib.hid (HL.out.below hb2)
      have HB2 := Lib.hid (show Below R w w2 from HB.out.trans (hb2.mono (by omega)))
      have hlt2 : R < w2.heap.size := Nat.lt_of_lt_of_le hlt hb2.size
      clear hb2 HDG HF HC HP g2
      have HSG := Lib.hid (show (signB m) = signT m from sign_ok ⟨m, m26⟩)
      obtain ⟨T, hT⟩ : ∃ T, signB m = T := ⟨_, rfl⟩
      rw [hT] at hzs HE HSG
      clear hT
      go_upto_region 21 with fail
      obtain ⟨V, hV⟩ : ∃ V, w2.alloc (.cells #[.pointer none, .slice none 0 0] 66) = V := ⟨_, rfl⟩
      obtain ⟨G, hG⟩ : ∃ G, w2.heap.size = G := ⟨_, rfl⟩
      have HIB := Lib.hid (show Lib.IsBuilderF 66 5 G G (Lib.byteCells []) V by rw [← hV, ← hG]; exact Lib.IsBuilderF.of (Lib.fresh_isBuilder 66 5 w2))
      have hVG : V.heap.size = G + 1 := by rw [← hV, ← hG]; simp
      have kV : V.cell? ⟨R, 2, none⟩ = some (.int .u8 m) := by rw [← hV]; rw [World.cell?_alloc_old _ _ _ (by exact Nat.ne_of_lt hlt2)]; exact k2
      have HBV := Lib.hid (show Below G w2 V by rw [← hV, ← hG]; exact (Below.refl _ w2).alloc (Nat.le_refl _) _)
      have HLV := Lib.hid (show Laid V from HL2.out.below (by rw [hG]; exact HBV.out))
      rw [hV]
      rw [hG] at hlt2 ⊢
      clear hV k2 HL2
      conv in (ByteArray.mk (List.toArray (List.append _ _))) => change signsT
      have HSP := Lib.hid (fun W (h : RestS w2 R G (.int .u8 m) W) => signs_split_walk w2 R G m (.int .u8 m) T m26 HSG.out W h)
      have KD := Lib.hid (show RestS w2 R G (.int .u8 m) V.drew from ⟨kV, HLV.out, HBV.out.drew, by simp; omega, hlt2, HIB.out⟩)
      have d2 : V.drew.cell? ⟨R, 2, none⟩ = some (.int .u8 m) := kV
      obtain ⟨S0, hS0⟩ : ∃ S0, signsT = S0 := ⟨_, rfl⟩
      rw [hS0] at HSP ⊢
      clear hS0 HIB HBV HLV HSG
      go_cut [89] (fun s89 wx => ∃ K, s89 = .pointer (some ⟨K, 0, none⟩) ∧ Hid (G < K ∧ wx.heap[K]? = some (.stringIter T 0) ∧ Lib.IsBuilderF 66 5 G G (Lib.byteCells []) wx ∧ Below G w2 wx))
      case first =>
        go_region_with (go_at_call 44; refine Calls.mono (HSP.out _ (by exact KD.out)) ?_; rintro e w' ⟨Y, rfl, cY, q⟩; have c2 := q.1)

        all_goals go_wp2_with fail

        all_goals
          go_meet
          exact ⟨_, rfl, Lib.hid ⟨q.2.2.2.1, World.iter_heap _ _ _, q.2.2.2.2.2.alloc _, q.2.2.1.alloc (Nat.le_of_lt q.2.2.2.1) _⟩⟩
      case rest =>
        clear kV d2 KD HSP
        obtain ⟨K, rfl, HK⟩ := hcut
        have HLOW := Lib.hid hzs.2
        have hz7 := hzs.1
        clear hzs
        have hGK := HK.out.1
        have HBT := Lib.hid (fun i (h : i < T.size) => byteN_of T i h)
        have HST := Lib.hid (signAt_step num T)
        go_upto_region 22 with fail
        go_loopw [] (fun wr2 => ∃ (pos : Nat), pos ≤ T.size ∧ Hid (wr2.heap[K]? = some (.stringIter T pos)) ∧ Hid (Lib.IsBuilderF 66 5 G G (Lib.byteCells (signAt num T pos)) wr2) ∧ Hid (Below G w2 wr2) ∧ (signAt num T pos).length ≤ 8 * pos) (fun wr2 => T.size - wr2.iterPos K)
        case atStart => exact ⟨0, Nat.zero_le _, Lib.hid HK.out.2.1, Lib.hid HK.out.2.2.1, Lib.hid HK.out.2.2.2, by simp [signAt_zero]⟩
        case round =>
          obtain ⟨pos, hpos, HIT, HI, HBW, hal⟩ := hrel
          clear HK
          by_cases hp : pos < T.size
          · have hlow : (T[pos]'hp).toNat < 128 := HLOW.out _ (by show T.data[pos] ∈ T.data.toList; rw [← Array.getElem_toList]; exact List.getElem_mem _)
            have hxb : byteN T pos = T[pos]'hp := (HBT.out pos hp).symm
            obtain ⟨x, hx⟩ : ∃ x, (T[pos]'hp).toNat = x := ⟨_, rfl⟩
            have hnx : ∀ ty, (Instr.next (.pointer (some ⟨K, 0, none⟩)) true ty).run Tryz.prog _ = .ok (.tuple #[.bool true, .int .i64 pos, .int .i32 (x : Int)]) (World.iterAt wr K T (pos + 1)) := fun ty => by rw [← hx]; exact Lib.run_next_ascii_at _ K T pos ty HIT.out hp hlow
            have hb1 : (byteN T pos).toNat = x := by rw [hxb]; exact hx
            rw [hx] at hlow
            have HI2 := Lib.hid (HI.out.iterAt HIT.out (pos + 1))
            have HIT2 := Lib.hid (Lib.iterAt_heap _ K T pos (pos + 1) HIT.out)
            have HBW2 := Lib.hid (Lib.below_iterAt HBW.out (k := K) (by omega) T (pos + 1))
            have hGs : G ≤ (World.iterAt wr K T (pos + 1)).heap.size := Nat.le_trans (show G ≤ wr.heap.size by have := HBW.out.size; omega) (Nat.le_of_eq (Lib.iterAt_size _ K T (pos + 1)).symm)
            have hs35 : ((⟨#[35]⟩ : ByteArray) ++ bytesB num).size = num.length + 1 := by rw [ByteArray.size_append, bytesB_size]; exact Nat.add_comm _ _
            have q1 : ¬ 9223372036854775807 < 1 + num.length := by omega
            have HWS := Lib.hid (fun (s : ByteArray) (hs : s.size ≤ 8) => writeString_walk G G _ s _ HI2.out (by rw [Lib.byteCells_length]; omega) hGs)
            have hzn : (bytesB num).size = num.length := bytesB_size num
            clear hx
            by_cases h100 : x = 100
            · have hx1 : (x : Int) = 100 := by omega
              have x100 : ((x : Int) == 100) = true := by rw [hx1]; rfl
              have hy : byteN T pos = 100 := UInt8.toNat_inj.1 (by rw [hb1]; exact h100)
              clear hx1
              have HSS := Lib.hid (show signAt num T (pos + 1) = signAt num T pos ++ (num) by rw [HST.out pos hp]; simp [hy])
              clear hxb
              go_wp2_with (go_at_call 45; refine (writeString_walk G G _ (bytesB num) _ HI2.out (by rw [Lib.byteCells_length, bytesB_size]; omega) hGs).mono ?_; rintro e W1 ⟨rfl, h1, c1, k1⟩)
              go_roundw
              case rel => exact ⟨pos + 1, by omega, Lib.hid (k1.iter HIT2.out (by omega)), Lib.hid (by rw [HSS.out]; exact Or.inr (byteCells_num h1)), Lib.hid (HBW2.out.trans c1), by rw [HSS.out, List.length_append]; (try simp); omega⟩
              case measure => rw [iterPos_of (k1.iter HIT2.out (by omega)), iterPos_of HIT.out]; omega
            by_cases h97 : x = 97
            · have hx1 : (x : Int) = 97 := by omega
              have x100 : ((x : Int) == 100) = false := by rw [beq_eq_false_iff_ne]; omega
              have x97 : ((x : Int) == 97) = true := by rw [hx1]; rfl
              have hy : byteN T pos = 97 := UInt8.toNat_inj.1 (by rw [hb1]; exact h97)
              clear hx1
              have HSS := Lib.hid (show signAt num T (pos + 1) = signAt num T pos ++ (num) by rw [HST.out pos hp]; simp [hy])
              clear hxb
              go_wp2_with (go_at_call 45; refine (writeString_walk G G _ (bytesB num) _ HI2.out (by rw [Lib.byteCells_length, bytesB_size]; omega) hGs).mono ?_; rintro e W1 ⟨rfl, h1, c1, k1⟩)
              go_roundw
              case rel => exact ⟨pos + 1, by omega, Lib.hid (k1.iter HIT2.out (by omega)), Lib.hid (by rw [HSS.out]; exact Or.inr (byteCells_num h1)), Lib.hid (HBW2.out.trans c1), by rw [HSS.out, List.length_append]; (try simp); omega⟩
              case measure => rw [iterPos_of (k1.iter HIT2.out (by omega)), iterPos_of HIT.out]; omega
            by_cases h108 : x = 108
            · have hx1 : (x : Int) = 108 := by omega
              have x100 : ((x : Int) == 100) = false := by rw [beq_eq_false_iff_ne]; omega
              have x97 : ((x : Int) == 97) = false := by rw [beq_eq_false_iff_ne]; omega
              have x108 : ((x : Int) == 108) = true := by rw [hx1]; rfl
              have hy : byteN T pos = 108 := UInt8.toNat_inj.1 (by rw [hb1]; exact h108)
              clear hx1
              have HSS := Lib.hid (show signAt num T (pos + 1) = signAt num T pos ++ (num) by rw [HST.out pos hp]; simp [hy])
              clear hxb
              go_wp2_with (go_at_call 45; refine (writeString_walk G G _ (bytesB num) _ HI2.out (by rw [Lib.byteCells_length, bytesB_size]; omega) hGs).mono ?_; rintro e W1 ⟨rfl, h1, c1, k1⟩)
              go_roundw
              case rel => exact ⟨pos + 1, by omega, Lib.hid (k1.iter HIT2.out (by omega)), Lib.hid (by rw [HSS.out]; exact Or.inr (byteCells_num h1)), Lib.hid (HBW2.out.trans c1), by rw [HSS.out, List.length_append]; (try simp); omega⟩
              case measure => rw [iterPos_of (k1.iter HIT2.out (by omega)), iterPos_of HIT.out]; omega
            by_cases h35 : x = 35
            · have hx1 : (x : Int) = 35 := by omega
              have x100 : ((x : Int) == 100) = false := by rw [beq_eq_false_iff_ne]; omega
              have x97 : ((x : Int) == 97) = false := by rw [beq_eq_false_iff_ne]; omega
              have x108 : ((x : Int) == 108) = false := by rw [beq_eq_false_iff_ne]; omega
              have x35 : ((x : Int) == 35) = true := by rw [hx1]; rfl
              have hy : byteN T pos = 35 := UInt8.toNat_inj.1 (by rw [hb1]; exact h35)
              clear hx1
              have HSS := Lib.hid (show signAt num T (pos + 1) = signAt num T pos ++ (35 :: num) by rw [HST.out pos hp]; simp [hy])
              clear hxb
              go_wp2_with (go_at_call 45; refine (HWS.out _ (by rw [hs35]; omega)).mono ?_; rintro e W1 ⟨rfl, h1, c1, k1⟩)
              go_roundw
              case rel => exact ⟨pos + 1, by omega, Lib.hid (k1.iter HIT2.out (by omega)), Lib.hid (by rw [HSS.out]; exact Or.inr (byteCells_sharp h1)), Lib.hid (HBW2.out.trans c1), by rw [HSS.out, List.length_append]; (try simp); omega⟩
              case measure => rw [iterPos_of (k1.iter HIT2.out (by omega)), iterPos_of HIT.out]; omega
            · have x100 : ((x : Int) == 100) = false := by rw [beq_eq_false_iff_ne]; omega
              have x97 : ((x : Int) == 97) = false := by rw [beq_eq_false_iff_ne]; omega
              have x108 : ((x : Int) == 108) = false := by rw [beq_eq_false_iff_ne]; omega
              have x35 : ((x : Int) == 35) = false := by rw [beq_eq_false_iff_ne]; omega
              have hy100 : ¬ byteN T pos = 100 := fun e => h100 (by rw [← hb1, e]; rfl)
              have hy97 : ¬ byteN T pos = 97 := fun e => h97 (by rw [← hb1, e]; rfl)
              have hy108 : ¬ byteN T pos = 108 := fun e => h108 (by rw [← hb1, e]; rfl)
              have hy35 : ¬ byteN T pos = 35 := fun e => h35 (by rw [← hb1, e]; rfl)
              have HSS := Lib.hid (show signAt num T (pos + 1) = signAt num T pos ++ ([byteN T pos]) by rw [HST.out pos hp]; simp [hy100, hy97, hy108, hy35])
              clear hxb
              go_wp2_with (go_at_call 46; refine (writeRune_walk G G _ (x : Int) (by omega) (by omega) _ HI2.out (by rw [Lib.byteCells_length]; omega) hGs).mono ?_; rintro e W1 ⟨rfl, h1, c1, k1⟩)
              go_roundw
              case rel => exact ⟨pos + 1, by omega, Lib.hid (k1.iter HIT2.out (by omega)), Lib.hid (by rw [HSS.out]; exact Or.inr (byteCells_rune hb1 h1)), Lib.hid (HBW2.out.trans c1), by rw [HSS.out, List.length_append]; (try simp); omega⟩
              case measure => rw [iterPos_of (k1.iter HIT2.out (by omega)), iterPos_of HIT.out]; omega
          · have HE2 := Lib.hid (show signAt num T pos = signG num T.data.toList by rw [show pos = T.size by omega, signAt_all])
            have hnx : ∀ ty, (Instr.next (.pointer (some ⟨K, 0, none⟩)) true ty).run Tryz.prog _ = .ok (.tuple #[.bool false]) _ := fun ty => Lib.run_next_end_at _ K T pos ty HIT.out hp
            go_wp2_with (go_at_call 47; refine (Builder_String_any_k G G (signAt num T pos) _ HI.out (by have := HBW.out.size; omega)).mono ?_; rintro e W1 ⟨rfl, h1, c1, k1⟩)
            go_ret
            exact ⟨by rw [HE.out, ← HE2.out]; rfl, by rw [HR.out]; exact HB2.out.trans ((HBW.out.trans c1).mono (by omega))⟩
    · have b1 : (0 : Int) ≤ ((j + 1 : Nat) : Int) - 1 := by omega
      have e1 : ((j + 1 : Nat) : Int) - 1 = (j : Int) := by omega
      have hc := HC.out j (by omega)
      have hb := HF.out j (by omega)
      have hy := HBD.out (j + 1) (by omega)
      rw [← HY.out] at hy
      have eb : bits .or .u32 (y * 256) (xs[j]?.getD 0) = leN (xs.drop j) := by
        rw [Int.mul_comm, or_byte _ _ hy.1 hy.2 hb.1 hb.2, HLE.out j (by omega), HY.out]
      have hw : IntKind.u32.wrap (y * 256) = y * 256 := wrap32 _ (by omega) (by omega)
      go_wp2_with fail
      go_roundw
      case rel => exact ⟨j, _, by omega, rfl, rfl, trivial, Lib.hid rfl⟩
      case measure => simp [intOf]

theorem toldL_A (n x pc : Nat) : toldL 1 n x pc = [65] := by simp [toldL]
set_option maxRecDepth 100000 in
set_option maxHeartbeats 2000000 in
theorem told_A (c : Int) (s : ByteArray) (u wd pc cap : Nat) (a : Option Addr) (x n2 : Nat) (w : World) :
    Calls Tryz.prog 27 #[.agg #[.int .u8 c, .string s, .int .u8 1, .int .u8 u, .int .u8 wd], .slice a 0 cap, .int .u16 pc] w fun e w' => e = .returned (.string (bytesB (toldL 1 n2 x pc))) ∧ Below w.heap.size w w' := by
  have HE := Lib.hid (toldL_A n2 x pc)
  go_enter Tryz.func27, Tryz.ntmps27
  go_upto_region 1 with fail
  obtain ⟨X, hX⟩ : ∃ X, w.alloc (.cells #[.int .u8 c, .string s, .int .u8 1, .int .u8 u, .int .u8 wd] 38) = X := ⟨_, rfl⟩
  have HB := Lib.hid (show Below w.heap.size w X by rw [← hX]; exact (Below.refl _ w).alloc (Nat.le_refl _) _)
  have g2 : X.cell? ⟨w.heap.size, 2, none⟩ = some (.int .u8 1) := by rw [← hX]; simp [go_sem]
  rw [hX]
  clear hX
  go_upto_region 3 with fail
  go_loopw [7, 8] (fun s7 s8 wr => s7 = .int .u32 0 ∧ s8 = .int .i64 (-1) ∧ wr = X) (fun _ _ _ => 0)
  case atStart => exact ⟨rfl, by simp, rfl⟩
  case round =>
    obtain ⟨rfl, rfl, rfl⟩ := hrel
    go_wp2_with fail
    go_ret
    exact ⟨by rw [HE.out]; rfl, HB.out⟩
end Go.Proofs.YtpeieilbjadcfaaGreatDoor
