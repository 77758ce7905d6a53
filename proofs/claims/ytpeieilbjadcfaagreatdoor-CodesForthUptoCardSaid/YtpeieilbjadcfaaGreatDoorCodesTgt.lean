/- A $ and four digits: the program's isTarget (strings.Trim), the document's target. -/
import Derived.Test.YtpeieilbjadcfaaGreatDoorProg
import Derived.Test.YtpeieilbjadcfaaGreatDoorLib2
import Derived.Test.YtpeieilbjadcfaaGreatDoorCodesRefNum
import Derived.Test.YtpeieilbjadcfaaGreatDoorCodesAns
import Derived.Shelf.Strings.SlTrimAscii
namespace Go.Proofs.YtpeieilbjadcfaaGreatDoor
open Go.RowKit Go.Shelf
set_option linter.unusedVariables false
set_option linter.unusedSimpArgs false

theorem hexT_has : ∀ k : Fin 256, hexT.data.toList.contains (UInt8.ofNat k) = isHex (UInt8.ofNat k) := by decide +kernel
theorem hexT_in (c : UInt8) : hexT.data.toList.contains c = isHex c := by
  have := hexT_has ⟨c.toNat, c.toNat_lt⟩
  simpa using this
theorem hexPre_mem (m : List UInt8) : ∀ y ∈ m.takeWhile isHex, isHex y = true := by
  induction m with
  | nil => intro y hy; cases hy
  | cons a r ih =>
    intro y hy
    rw [List.takeWhile_cons] at hy
    cases ha : isHex a with
    | true =>
      rw [ha, if_pos rfl] at hy
      rcases List.mem_cons.1 hy with rfl | hy
      · exact ha
      · exact ih y hy
    | false => rw [ha] at hy; cases hy
theorem drop_nil (l : List UInt8) : l.dropWhile isHex = [] ↔ ∀ x ∈ l, isHex x = true := by
  induction l with
  | nil => exact ⟨fun _ x hx => (by cases hx), fun _ => rfl⟩
  | cons a r ih =>
    rw [List.dropWhile_cons]
    cases ha : isHex a with
    | true =>
      rw [if_pos rfl, ih]
      exact ⟨fun h x hx => by rcases List.mem_cons.1 hx with rfl | hx; exact ha; exact h x hx, fun h x hx => h x (List.mem_cons_of_mem _ hx)⟩
    | false =>
      rw [if_neg (by decide)]
      exact ⟨fun h => absurd h (by simp), fun h => absurd (h a List.mem_cons_self) (by rw [ha]; decide)⟩
theorem trim_all (l : List UInt8) : (Lib.trimS l hexT.data.toList).isEmpty = l.all isHex := by
  unfold Lib.trimS Lib.trimLeftS Lib.trimRightS
  have hp : (fun x => hexT.data.toList.contains x) = isHex := by funext c; exact hexT_in c
  rw [hp]
  cases h : l.all isHex with
  | true =>
    have h1 : l.reverse.dropWhile isHex = [] := by
      rw [drop_nil]
      intro x hx
      exact List.all_eq_true.1 h x (List.mem_reverse.1 hx)
    rw [h1]; rfl
  | false =>
    rw [List.isEmpty_eq_false_iff]
    intro he
    rw [drop_nil] at he
    have : l.all isHex = true := by
      rw [List.all_eq_true]
      intro x hx
      have h2 : x ∈ l.reverse.takeWhile isHex ++ l.reverse.dropWhile isHex := by rw [List.takeWhile_append_dropWhile]; exact List.mem_reverse.2 hx
      rcases List.mem_append.1 h2 with h3 | h3
      · have h4 : ∀ m : List UInt8, ∀ y ∈ m.takeWhile isHex, isHex y = true := fun m y hy => hexPre_mem m y hy
        exact h4 _ x h3
      · exact he x (List.mem_reverse.2 h3)
    rw [this] at h; cases h

theorem trim_walk (s : ByteArray) (w : World) (hs : s.size ≤ 9223372036854775807) :
    Calls Tryz.prog 40 #[.string s, .string hexT] w fun e w' => e = .returned (.string ⟨(Lib.trimS s.data.toList hexT.data.toList).toArray⟩) ∧ Below w.heap.size w w' :=
  Any.strings_Trim_laid lays160 (by kernel_rfl) s hexT w hs (by decide) (ascii_of_all (by decide +kernel))
theorem isTgt_len (l : List UInt8) (h : l.length ≠ 5) : isTgt l = false := by unfold isTgt; rw [decide_eq_false h]; rfl
theorem isTgt_head (l : List UInt8) (h : l[0]?.getD 0 ≠ 36) : isTgt l = false := by unfold isTgt; rw [decide_eq_false h, Bool.and_false]; rfl
theorem isTgt_rest (l : List UInt8) (h : l.length = 5) (h2 : l[0]?.getD 0 = 36) : isTgt l = (l.drop 1).all isHex := by unfold isTgt; rw [decide_eq_true h, decide_eq_true h2]; rfl
set_option maxRecDepth 100000 in
set_option maxHeartbeats 4000000 in
theorem isTarget_walk (s : ByteArray) (w : World) :
    Calls Tryz.prog 25 #[.string s] w fun e w' => e = .returned (.bool (isTgt s.data.toList)) ∧ Below w.heap.size w w' := by
  by_cases h5 : s.size = 5
  · have hl : s.data.toList.length = 5 := by rw [← h5]; simp
    have s0 : 0 < s.size := by omega
    have hb := byteN_of s 0 s0
    by_cases h36 : byteN s 0 = 36
    · have b1 : (((s[0]'s0).toNat : Int) == 36) = true := by rw [hb, h36]; rfl
      have HE := Lib.hid (isTgt_rest _ hl h36)
      have hx : (s.extract 1 5).data.toList = s.data.toList.drop 1 := by
        rw [ByteArray.data_extract, Array.toList_extract, List.extract_eq_take_drop, List.take_of_length_le (by rw [List.length_drop]; omega)]
      have hT := fun W => trim_walk (s.extract 1 5) W (by rw [ByteArray.size_extract]; omega)
      obtain ⟨T, hTT⟩ : ∃ T, Lib.trimS (s.extract 1 5).data.toList hexT.data.toList = T := ⟨_, rfl⟩
      have HV := Lib.hid (show T.isEmpty = isTgt s.data.toList by rw [← hTT, trim_all, hx, HE.out])
      rw [hTT] at hT
      unfold hexT at hT
      have HT := Lib.hid hT
      have hl2 : (⟨T.toArray⟩ : ByteArray).toList.isEmpty = T.isEmpty := by rw [Lib.toList_data]
      have e5 : ((s.size : Int) == 5) = true := by rw [h5]; rfl
      clear hT hTT hx hb h36 HE
      go_enter Tryz.func25, Tryz.ntmps25
      go_wp2_with (go_at_call 40; refine (HT.out _).mono ?_; rintro e w1 ⟨rfl, hb1⟩)
      go_returns
      exact ⟨by rw [← HV.out]; rfl, hb1⟩
    · have HE := Lib.hid (isTgt_head _ h36)
      have b1 : (((s[0]'s0).toNat : Int) == 36) = false := by
        rw [hb, beq_eq_false_iff_ne]
        intro e
        exact h36 (UInt8.toNat_inj.1 (Int.ofNat.inj e))
      have e5 : ((s.size : Int) == 5) = true := by rw [h5]; rfl
      clear hb h36
      go_enter Tryz.func25, Tryz.ntmps25
      go_wp2_with fail
      go_returns
      exact ⟨by rw [HE.out]; rfl, Below.refl _ _⟩
  · have HE := Lib.hid (isTgt_len s.data.toList (by simpa using h5))
    have e5 : ((s.size : Int) == 5) = false := by rw [beq_eq_false_iff_ne]; omega
    clear h5
    go_enter Tryz.func25, Tryz.ntmps25
    go_wp2_with fail
    go_returns
    exact ⟨by rw [HE.out]; rfl, Below.refl _ _⟩
theorem tgtS_eq (s : ByteArray) (h9 : s.size = 9) (h3 : byteN s 3 = 32) (h4 : byteN s 4 = 36) : tgtS s = (isHex (byteN s 5) && isHex (byteN s 6) && isHex (byteN s 7) && isHex (byteN s 8)) := by
  unfold tgtS; rw [decide_eq_true h9, decide_eq_true h3, decide_eq_true h4]; rfl
set_option maxRecDepth 100000 in
set_option maxHeartbeats 4000000 in
theorem target_walk (s : ByteArray) (w : World) :
    Calls Tryz.prog 19 #[.string s] w fun e w' => e = .returned (.bool (tgtS s)) ∧ w' = w := by
  by_cases h9 : s.size = 9
  · have s3 : 3 < s.size := by omega
    have s4 : 4 < s.size := by omega
    have hb3 := byteN_of s 3 s3
    have hb4 := byteN_of s 4 s4
    have e9 : ((s.size : Int) != 9) = false := by rw [h9]; rfl
    by_cases h3 : byteN s 3 = 32
    · have b3 : (((s[3]'s3).toNat : Int) != 32) = false := by rw [hb3, h3]; rfl
      by_cases h4 : byteN s 4 = 36
      · have b4 : (((s[4]'s4).toNat : Int) != 36) = false := by rw [hb4, h4]; rfl
        have HE := Lib.hid (tgtS_eq s h9 h3 h4)
        have HBY := Lib.hid (byteN_of s)
        have HVW := Lib.hid (fun c W => value_walk c W)
        clear hb3 hb4 h3 h4
        go_enter Tryz.func19, Tryz.ntmps19
        go_upto_region 4 with fail
        go_loopw [3] (fun s3 wr => ∃ i : Nat, 5 ≤ i ∧ i ≤ 9 ∧ s3 = .int .i64 i ∧ wr = w ∧ Hid (∀ j, 5 ≤ j → j < i → isHex (byteN s j) = true)) (fun s3 _ => 9 - (intOf s3).toNat)
        case atStart => exact ⟨5, by omega, by omega, rfl, rfl, Lib.hid (fun j h1 h2 => by omega)⟩
        case round =>
          obtain ⟨i, hi5, hi, rfl, rfl, HA⟩ := hrel
          by_cases hlt : i < 9
          · have i1 : (i : Int) < 9 := by omega
            have i3 : IntKind.i64.wrap ((i : Int) + 1) = ((i + 1 : Nat) : Int) := by rw [IntWalk.i64_in _ (by omega)]; rfl
            have sI : i < s.size := by omega
            have hb := HBY.out i sI
            cases hx : isHex (byteN s i) with
            | true =>
              obtain ⟨v, hv⟩ : ∃ v : Nat, hexVal (byteN s i) = v := ⟨_, rfl⟩
              have v1 : valZ s[i] = (v : Int) := by rw [hb, valZ_hex _ hx, hv]
              have v0 : decide ((v : Int) < 0) = false := decide_eq_false (by omega)
              have HA2 := Lib.hid (show ∀ j, 5 ≤ j → j < i + 1 → isHex (byteN s j) = true from fun j h1 h2 => by
                rcases Nat.lt_succ_iff_lt_or_eq.1 h2 with h | rfl
                · exact HA.out j h1 h
                · exact hx)
              clear hb hx hv
              go_wp2_with (go_at_call 36; refine (HVW.out _ _).mono ?_; rintro e w1 ⟨rfl, rfl⟩; rw [v1])
              go_roundw
              case rel => exact ⟨i + 1, by omega, by omega, rfl, trivial, HA2⟩
              case measure => simp [intOf]; omega
            | false =>
              have v1 : valZ s[i] = -1 := by rw [hb]; exact valZ_no _ hx
              have HF := Lib.hid (show tgtS s = false by
                rw [HE.out]
                rcases (show i = 5 ∨ i = 6 ∨ i = 7 ∨ i = 8 by omega) with rfl | rfl | rfl | rfl <;> simp [hx])
              clear hb hx
              go_wp2_with (go_at_call 36; refine (HVW.out _ _).mono ?_; rintro e w1 ⟨rfl, rfl⟩; rw [v1])
              go_returns
              exact ⟨by rw [HF.out]; rfl, rfl⟩
          · have i1 : ¬ (i : Int) < 9 := by omega
            have HF := Lib.hid (show tgtS s = true by rw [HE.out, HA.out 5 (by omega) (by omega), HA.out 6 (by omega) (by omega), HA.out 7 (by omega) (by omega), HA.out 8 (by omega) (by omega)]; rfl)
            go_wp2_with fail
            go_returns
            exact ⟨by rw [HF.out]; rfl, rfl⟩
      · have b4 : (((s[4]'s4).toNat : Int) != 36) = true := by
          rw [hb4, bne_iff_ne]
          intro e
          exact h4 (UInt8.toNat_inj.1 (Int.ofNat.inj e))
        have HF := Lib.hid (show tgtS s = false by unfold tgtS; rw [decide_eq_false h4, Bool.and_false, Bool.false_and])
        clear hb3 hb4 h3 h4
        go_enter Tryz.func19, Tryz.ntmps19
        go_wp2_with fail
        go_returns
        exact ⟨by rw [HF.out]; rfl, rfl⟩
    · have b3 : (((s[3]'s3).toNat : Int) != 32) = true := by
        rw [hb3, bne_iff_ne]
        intro e
        exact h3 (UInt8.toNat_inj.1 (Int.ofNat.inj e))
      have HF := Lib.hid (show tgtS s = false by unfold tgtS; rw [decide_eq_false h3, Bool.and_false, Bool.false_and, Bool.false_and])
      clear hb3 hb4 h3
      go_enter Tryz.func19, Tryz.ntmps19
      go_wp2_with fail
      go_returns
      exact ⟨by rw [HF.out]; rfl, rfl⟩
  · have e9 : ((s.size : Int) != 9) = true := by rw [bne_iff_ne]; omega
    have HF := Lib.hid (show tgtS s = false by unfold tgtS; rw [decide_eq_false h9]; rfl)
    clear h9
    go_enter Tryz.func19, Tryz.ntmps19
    go_wp2_with fail
    go_returns
    exact ⟨by rw [HF.out]; rfl, rfl⟩
end Go.Proofs.YtpeieilbjadcfaaGreatDoor
