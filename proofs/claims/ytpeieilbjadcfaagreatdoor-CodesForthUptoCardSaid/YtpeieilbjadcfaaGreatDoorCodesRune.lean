/- Where a part's digits end: strings.IndexFunc at the program's closure; strings.ContainsRune at any rune. -/
import Derived.Test.YtpeieilbjadcfaaGreatDoorProg
import Derived.Test.YtpeieilbjadcfaaGreatDoorLib
import Derived.Test.YtpeieilbjadcfaaGreatDoorLib2
import Derived.Test.YtpeieilbjadcfaaGreatDoorCodesRefNum
import Derived.Laws.Runes
import Derived.Laws.RangeAny
namespace Go.Proofs.YtpeieilbjadcfaaGreatDoor
open Go.RowKit Go.Shelf
set_option linter.unusedVariables false
set_option linter.unusedSimpArgs false

theorem hexT_low : ∀ b ∈ hexT.data.toList, b.toNat < 128 := by decide +kernel
theorem hexT_index : ∀ c : Fin 128, decide (0 ≤ Lib.indexByte hexT.data.toList (UInt8.ofNat c)) = isHex (UInt8.ofNat c) := by decide +kernel
theorem hexT_high (a e : Nat) (c : UInt8) (hc : 128 ≤ c.toNat) : Lib.indexByte (hexT.extract a e).data.toList c = -1 := by
  have h : ∀ b ∈ (hexT.extract a e).data.toList, b ≠ c := fun b hb hbc => by
    have := hexT_low b (mem_extract hb)
    rw [hbc] at this; omega
  generalize (hexT.extract a e).data.toList = l at h
  induction l with
  | nil => rfl
  | cons b r ih =>
    unfold Lib.indexByte
    rw [if_neg (by rw [beq_iff_eq]; exact h b List.mem_cons_self), ih fun x hx => h x (List.mem_cons_of_mem _ hx)]; rfl

set_option maxRecDepth 100000 in
set_option maxHeartbeats 4000000 in
/-- A rune that is valid and no byte. -/
theorem indexRune_valid (r : Int) (h0 : 128 ≤ r) (h1 : r ≠ 65533) (hv : Lib.validRune r = true) (w : World) :
    Calls Tryz.prog 74 #[.string hexT, .int .i32 r] w fun e w' => e = .returned (.int .i64 (-1)) ∧ Below w.heap.size w w' := by
  have hv2 : Utf8.valid r = true := by
    unfold Lib.validRune at hv
    rw [decide_eq_true_eq] at hv
    simp only [Utf8.valid, Bool.or_eq_true, Bool.and_eq_true, decide_eq_true_eq]
    omega
  obtain ⟨z2, z4, zl⟩ := encode_facts r hv2 h0
  obtain ⟨E, hE⟩ : ∃ E, Utf8.encode r = E := ⟨_, rfl⟩
  rw [hE] at z2 z4 zl
  obtain ⟨n, hn⟩ : ∃ n, E.size = n + 1 := ⟨E.size - 1, by omega⟩
  have hlast : n < E.size := by omega
  have hz : 128 ≤ (E[n]'hlast).toNat := by
    have := zl (by omega)
    have e : E.size - 1 = n := by omega
    simpa [e] using this
  have b1 : ¬ r < 128 := by omega
  have b0 : 0 ≤ r := by omega
  have b2 : (r == 65533) = false := by rw [beq_eq_false_iff_ne]; exact h1
  have HV := Lib.hid (fun W => utf8_ValidRune r W)
  rw [hv] at HV
  have hcv : ∀ W, (convert 21 9 (.int .i32 r)).run Tryz.prog W = .ok (.string E) W := fun W => by rw [← hE]; exact run_convert_int_string W 21 9 .i32 r (by rw [Tryz.underlying21]; rfl) Tryz.underlying9
  have hlow : ∀ i (h : i < hexT.size), (hexT[i]'h).toNat < 128 := fun i h => hexT_low _ (by
    have : hexT[i] = hexT.data.toList[i]'(by simpa using h) := by simp; rfl
    rw [this]; exact List.getElem_mem _)
  have hn4 : n < 16 := by omega
  have HIB := Lib.hid (fun (W : World) (e : Nat) (he : e ≤ 17) => by
    have h := strings_IndexByte (hexT.extract e hexT.size) ((E[n]'hlast).toNat : Int) W
    rw [show (((E[n]'hlast).toNat : Int)).toNat.toUInt8 = E[n]'hlast by simp, hexT_high e hexT.size _ hz] at h
    exact h)
  have hsz : hexT.size = 16 := rfl
  have s0 : n < hexT.size := by omega
  have b3 : ((((hexT[n]'s0).toNat : Nat) : Int) != (((E[n]'hlast).toNat : Nat) : Int)) = true := by
    rw [bne_iff_ne]
    have := hlow n s0
    omega
  have b4 : (n : Int) < (hexT.size : Int) := by omega
  have i1 : IntKind.i64.wrap ((n : Int) + 1) = ((n + 1 : Nat) : Int) := by rw [IntWalk.i64_in _ (by omega)]; rfl
  have i2 : IntKind.i64.wrap (((n + 1 : Nat) : Int) - 1) = (n : Int) := by rw [IntWalk.i64_in _ (by omega)]; omega
  have b5 : ((n + 1 : Nat) : Int) ≤ (hexT.size : Int) := by omega
  have b6 : (n : Int) < (n : Int) + 1 := by omega
  have b7 : (n : Int) + 1 ≤ (hexT.size : Int) := by omega
  have b8 : (0 : Int) ≤ (n : Int) + 1 := by omega
  have b9 : ((n : Int) + 1).toNat = n + 1 := by omega
  clear hlow hz zl z2 z4 hE hv hv2 hsz
  generalize hexT = H at *
  go_enter Tryz.func74, Tryz.ntmps74
  go_upto_region 5 with (go_at_call 93; refine (HV.out _).mono ?_; rintro e w1 ⟨rfl, rfl⟩)
  go_step3
  go_upto_region 5 with fail
  refine wp_loop_rounds 1 ?_; rw [rounds_succ]
  go_wp2_with fail
  go_step3
  go_wp2_with fail
  go_quiet (fail)
  go_wp2_with fail
  go_quiet ((go_at_call 92; exact quiet_add_left ((HIB.out _ (n + 1) (by omega)).mono fun e w' h => ⟨h.1, h.2.symm⟩)))
  go_wp2_with fail
  rw [Exit.noGoto_ret]
  go_wp2_with fail
  rw [Exit.noGoto_ret]
  go_wp2_with fail
  go_returns
  exact ⟨rfl, below_drewN (Below.refl _ _) _⟩

set_option maxRecDepth 100000 in
set_option maxHeartbeats 4000000 in
/-- A rune that is none. -/
theorem indexRune_bad (s : ByteArray) (r : Int) (h0 : 128 ≤ r) (h1 : r ≠ 65533) (hv : Lib.validRune r = false) (w : World) :
    Calls Tryz.prog 74 #[.string s, .int .i32 r] w fun e w' => e = .returned (.int .i64 (-1)) ∧ Below w.heap.size w w' := by
  have b1 : ¬ r < 128 := by omega
  have b0 : 0 ≤ r := by omega
  have b2 : (r == 65533) = false := by rw [beq_eq_false_iff_ne]; exact h1
  have HV := Lib.hid (fun W => utf8_ValidRune r W)
  rw [hv] at HV
  clear hv h0 h1
  go_enter Tryz.func74, Tryz.ntmps74
  go_wp2_with (go_at_call 93; refine (HV.out _).mono ?_; rintro e w1 ⟨rfl, rfl⟩)
  go_returns
  exact ⟨rfl, Below.refl _ _⟩
set_option maxRecDepth 100000 in
set_option maxHeartbeats 4000000 in
/-- The rune of broken bytes. -/
theorem indexRune_err (w : World) :
    Calls Tryz.prog 74 #[.string hexT, .int .i32 65533] w fun e w' => e = .returned (.int .i64 (-1)) ∧ Below w.heap.size w w' := by
  have HLOW := Lib.hid (show ∀ i (h : i < hexT.size), (hexT[i]'h).toNat < 128 from fun i h => hexT_low _ (by
    have : hexT[i] = hexT.data.toList[i]'(by simpa using h) := by simp; rfl
    rw [this]; exact List.getElem_mem _))
  generalize hexT = T at HLOW ⊢
  go_enter Tryz.func74, Tryz.ntmps74
  go_upto_region 38 with fail
  go_loopw [] (fun wr => ∃ pos : Nat, pos ≤ T.size ∧ Hid (wr.heap[w.heap.size]? = some (.stringIter T pos)) ∧ Hid (Below w.heap.size w wr)) (fun wr => T.size - wr.iterPos w.heap.size)
  case atStart => exact ⟨0, Nat.zero_le _, Lib.hid (World.iter_heap w T 0), Lib.hid ((Below.refl _ w).alloc (Nat.le_refl _) _)⟩
  case round =>
    obtain ⟨pos, hpos, HIT, HB⟩ := hrel
    by_cases hp : pos < T.size
    · have hlow := HLOW.out pos hp
      obtain ⟨x, hx⟩ : ∃ x : Nat, (T[pos]'hp).toNat = x := ⟨_, rfl⟩
      have hnx : ∀ ty, (Instr.next (.pointer (some ⟨w.heap.size, 0, none⟩)) true ty).run Tryz.prog wr = .ok (.tuple #[.bool true, .int .i64 pos, .int .i32 (x : Int)]) (World.iterAt wr w.heap.size T (pos + 1)) := fun ty => by rw [← hx]; exact Lib.run_next_ascii_at _ w.heap.size T pos ty HIT.out hp hlow
      have b1 : ((x : Int) == 65533) = false := by rw [beq_eq_false_iff_ne]; omega
      have HIT2 := Lib.hid (Lib.iterAt_heap wr w.heap.size T pos (pos + 1) HIT.out)
      have HB2 := Lib.hid (Lib.below_iterAt HB.out (k := w.heap.size) (Nat.le_refl _) T (pos + 1))
      have HP := Lib.hid (show T.size - (World.iterAt wr w.heap.size T (pos + 1)).iterPos w.heap.size < T.size - wr.iterPos w.heap.size by
        have e1 : (World.iterAt wr w.heap.size T (pos + 1)).iterPos w.heap.size = pos + 1 := by simp [World.iterPos, HIT2.out]
        have e2 : wr.iterPos w.heap.size = pos := by simp [World.iterPos, HIT.out]
        omega)
      clear hx hlow
      go_wp2_with fail
      go_roundw
      case rel => exact ⟨pos + 1, hp, HIT2, HB2⟩
      case measure => exact HP.out
    · have hnx : ∀ ty, (Instr.next (.pointer (some ⟨w.heap.size, 0, none⟩)) true ty).run Tryz.prog wr = .ok (.tuple #[.bool false]) wr := fun ty => Lib.run_next_end_at _ w.heap.size T pos ty HIT.out hp
      go_wp2_with fail
      go_returns
      exact ⟨rfl, HB.out⟩
set_option maxRecDepth 100000 in
set_option maxHeartbeats 4000000 in
/-- Is a rune among the digits? -/
def runeHex (x : Nat) : Bool := decide (x < 128) && isHex (UInt8.ofNat x)
theorem containsRune_walk (x : Nat) (w : World) :
    Calls Tryz.prog 55 #[.string hexT, .int .i32 x] w fun e w' => e = .returned (.bool (runeHex x)) ∧ Below w.heap.size w w' := by
  by_cases hx : x < 128
  · refine (strings_ContainsRune_ascii hexT (x : Int) w (by omega) (by omega)).mono ?_
    rintro e w' ⟨rfl, rfl⟩
    refine ⟨?_, Below.refl _ _⟩
    have := hexT_index ⟨x, hx⟩
    have e2 : ((x : Int)).toNat.toUInt8 = UInt8.ofNat x := by simp
    rw [e2]
    unfold runeHex
    rw [decide_eq_true hx, Bool.true_and]
    exact congrArg (fun b => Ending.returned (.bool b)) this
  · have HE := Lib.hid (show runeHex x = false by unfold runeHex; rw [decide_eq_false hx]; rfl)
    have HI := Lib.hid (show ∀ W : World, Calls Tryz.prog 74 #[.string hexT, .int .i32 x] W fun e w' => e = .returned (.int .i64 (-1)) ∧ Below W.heap.size W w' from fun W => by
      by_cases h3 : (x : Int) = 65533
      · rw [h3]; exact indexRune_err W
      · cases hv : Lib.validRune (x : Int) with
        | true => exact indexRune_valid _ (by omega) h3 hv W
        | false => exact indexRune_bad _ _ (by omega) h3 hv W)
    generalize hexT = T at HI ⊢
    clear hx
    go_enter Tryz.func55, Tryz.ntmps55
    go_wp2_with (go_at_call 74; refine (HI.out _).mono ?_; rintro e w1 ⟨rfl, hb1⟩)
    go_returns
    exact ⟨by rw [HE.out]; rfl, hb1⟩
end Go.Proofs.YtpeieilbjadcfaaGreatDoor
