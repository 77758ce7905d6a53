/- A part's number: where its digits end (strings.IndexFunc at the program's closure), strconv.ParseUint of digits to the base 16. -/
import Derived.Test.YtpeieilbjadcfaaGreatDoorProg
import Derived.Test.YtpeieilbjadcfaaGreatDoorCodesRune
import Derived.Lib.ConvBytes
namespace Go.Proofs.YtpeieilbjadcfaaGreatDoor
open Go.RowKit Go.Shelf
set_option linter.unusedVariables false
set_option linter.unusedSimpArgs false

set_option maxHeartbeats 1000000 in
theorem closure_walk (x : Nat) (w : World) :
    Calls Tryz.prog 54 #[.int .i32 x] w fun e w' => e = .returned (.bool (!runeHex x)) ∧ Below w.heap.size w w' := by
  have HC := Lib.hid (fun W => containsRune_walk x W)
  unfold hexT at HC
  go_enter Tryz.func54, Tryz.ntmps54
  go_wp2_with (go_at_call 55; refine (HC.out _).mono ?_; rintro e w1 ⟨rfl, hb1⟩)
  go_returns
  exact ⟨rfl, hb1⟩
theorem closure_grows (w : World) : PredGrows Tryz.prog 54 #[] (fun x => !runeHex x) w := fun W x _ _ => closure_walk x W
theorem indexFunc_walk (s : ByteArray) (w : World) :
    Calls Tryz.prog 53 #[.string s, .func (.func 54) #[] #[]] w fun e w' => e = .returned (.int .i64 (Lib.idxFunc (fun x => !runeHex x) true s)) ∧ Below w.heap.size w w' :=
  strings_IndexFunc_grows 54 #[] (enters_of Tryz.func54 (by kernel_rfl) rfl) _ s w (closure_grows w)
/-- Where the digits end. -/
def endN (l : List UInt8) : Nat := (hexPre l).length
theorem runeHex_byte (c : UInt8) (h : c.toNat < 128) : runeHex c.toNat = isHex c := by
  unfold runeHex; rw [decide_eq_true h, Bool.true_and]; simp
theorem isHex_low (c : UInt8) (h : isHex c = true) : c.toNat < 128 := by
  have h2 : ∀ k : Fin 256, isHex (UInt8.ofNat k) = true → (k : Nat) < 128 := by decide +kernel
  exact h2 ⟨c.toNat, c.toNat_lt⟩ (by simpa using h)
theorem idx_from (s : ByteArray) : ∀ f pos, s.size ≤ pos + f → pos ≤ s.size →
    (Lib.idxFuncFrom (fun x => !runeHex x) true s f pos = -1 ∧ hexPre (s.data.toList.drop pos) = s.data.toList.drop pos) ∨ (Lib.idxFuncFrom (fun x => !runeHex x) true s f pos = ((pos + (hexPre (s.data.toList.drop pos)).length : Nat) : Int) ∧ pos + (hexPre (s.data.toList.drop pos)).length < s.size) := by
  intro f
  induction f with
  | zero =>
    intro pos h1 h2
    refine .inl ⟨rfl, ?_⟩
    rw [List.drop_eq_nil_of_le (by simp; omega)]; rfl
  | succ f ih =>
    intro pos h1 h2
    unfold Lib.idxFuncFrom
    by_cases hp : pos < s.size
    · rw [if_pos hp]
      have hpl : pos < s.data.toList.length := by simpa using hp
      have hs : s.data.toList[pos] = s[pos] := by simp; rfl
      have hd : s.data.toList.drop pos = s[pos] :: s.data.toList.drop (pos + 1) := by rw [List.drop_eq_getElem_cons hpl, hs]
      by_cases hx : isHex s[pos] = true
      · have hlow := isHex_low _ hx
        rw [decode_ascii s pos hp hlow]
        dsimp only
        rw [runeHex_byte _ hlow, hx, if_neg (by simp)]
        have hpre : hexPre (s.data.toList.drop pos) = s[pos] :: hexPre (s.data.toList.drop (pos + 1)) := by rw [hd]; unfold hexPre; rw [List.takeWhile_cons, hx, if_pos rfl]
        rw [hpre, hd]
        rcases ih (pos + 1) (by omega) (by omega) with ⟨e1, e2⟩ | ⟨e1, e2⟩
        · exact .inl ⟨e1, by rw [e2]⟩
        · refine .inr ⟨?_, ?_⟩
          · rw [e1, List.length_cons]; omega
          · rw [List.length_cons]; omega
      · have hx2 : isHex s[pos] = false := by simpa using hx
        have hpre : hexPre (s.data.toList.drop pos) = [] := by rw [hd]; unfold hexPre; rw [List.takeWhile_cons, hx2]; rfl
        have hr : runeHex (Utf8.decode s pos).1 = false := by
          by_cases hlow : (s[pos]).toNat < 128
          · rw [decode_ascii s pos hp hlow]
            dsimp only
            rw [runeHex_byte _ hlow, hx2]
          · have := (decode_high s pos hp (by omega)).1
            unfold runeHex
            rw [decide_eq_false (by omega)]; rfl
        rw [hr, if_pos (show (!false) = true from rfl), hpre]
        exact .inr ⟨rfl, hp⟩
    · rw [if_neg hp]
      refine .inl ⟨rfl, ?_⟩
      rw [List.drop_eq_nil_of_le (by simp; omega)]; rfl
theorem idx_end (s : ByteArray) : (Lib.idxFunc (fun x => !runeHex x) true s = -1 ∧ hexPre s.data.toList = s.data.toList) ∨ (Lib.idxFunc (fun x => !runeHex x) true s = (endN s.data.toList : Int) ∧ endN s.data.toList < s.size) := by
  have := idx_from s s.size 0 (by omega) (by omega)
  rw [List.drop_zero] at this
  unfold Lib.idxFunc endN
  simpa only [Nat.zero_add] using this
theorem hexPre_take (l : List UInt8) : l.take (endN l) = hexPre l := by
  have h : hexPre l <+: l := List.takeWhile_prefix _
  unfold endN
  exact (List.prefix_iff_eq_take.1 h).symm
theorem hexPre_hex (l : List UInt8) : ∀ c ∈ hexPre l, isHex c = true := by
  intro c hc
  unfold hexPre at hc
  induction l with
  | nil => cases hc
  | cons a r ih =>
    rw [List.takeWhile_cons] at hc
    cases ha : isHex a with
    | true =>
      rw [ha, if_pos rfl] at hc
      rcases List.mem_cons.1 hc with rfl | hc
      · exact ha
      · exact ih hc
    | false => rw [ha] at hc; cases hc
end Go.Proofs.YtpeieilbjadcfaaGreatDoor
