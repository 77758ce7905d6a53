/- Rows of bytes as texts: joined, cut, noughts ahead; a mode's sign gone through; no program. -/
import Derived.Test.YtpeieilbjadcfaaGreatDoorProg
import Derived.Test.YtpeieilbjadcfaaGreatDoorCodesPlain
namespace Go.Proofs.YtpeieilbjadcfaaGreatDoor
set_option linter.unusedVariables false

theorem bytesB_append (a b : List UInt8) : bytesB a ++ bytesB b = bytesB (a ++ b) := by
  apply ByteArray.ext
  rw [ByteArray.data_append]
  simp [bytesB]
theorem bytesB_size (a : List UInt8) : (bytesB a).size = a.length := by simp [bytesB, ByteArray.size]
theorem bytesB_list (s : ByteArray) : bytesB s.data.toList = s := by simp [bytesB]
theorem bytesB_inj {a b : List UInt8} (h : bytesB a = bytesB b) : a = b := by
  have := congrArg (fun s => s.data.toList) h
  simpa [bytesB] using this
theorem zeros_cut (c : Nat) (h : c ≤ 8) : (ByteArray.mk (Array.replicate 64 48)).extract 0 c = bytesB (List.replicate c 48) := by
  have h2 : ∀ c : Fin 9, (ByteArray.mk (Array.replicate 64 48)).extract 0 c = bytesB (List.replicate c 48) := by decide +kernel
  exact h2 ⟨c, by omega⟩
theorem one_cut (s : ByteArray) (i : Nat) (h : i < s.size) : s.extract i (i + 1) = bytesB [byteN s i] := by
  apply ByteArray.ext
  apply Array.ext'
  rw [ByteArray.data_extract, Array.toList_extract]
  have h2 : i < s.data.toList.length := by simpa using h
  simp only [bytesB, byteN, List.extract_eq_take_drop, List.getElem?_eq_getElem h2, Option.getD_some]
  rw [List.drop_eq_getElem_cons h2, show i + 1 - i = 1 by omega]; rfl
/-- What is told behind i bytes of a sign. -/
def signAt (num : List UInt8) (s : ByteArray) (i : Nat) : List UInt8 := signG num (s.data.toList.take i)
theorem signG_append (num a b : List UInt8) : signG num (a ++ b) = signG num a ++ signG num b := by
  induction a with
  | nil => rfl
  | cons c r ih => rw [List.cons_append, signG, ih, signG, List.append_assoc]
theorem signAt_zero (num : List UInt8) (s : ByteArray) : signAt num s 0 = [] := rfl
theorem signAt_all (num : List UInt8) (s : ByteArray) : signAt num s s.size = signG num s.data.toList := by
  unfold signAt; rw [List.take_of_length_le (by simp)]
theorem signAt_step (num : List UInt8) (s : ByteArray) (i : Nat) (h : i < s.size) : signAt num s (i + 1) = signAt num s i ++ (if byteN s i = 100 ∨ byteN s i = 97 ∨ byteN s i = 108 then num else if byteN s i = 35 then 35 :: num else [byteN s i]) := by
  have h2 : i < s.data.toList.length := by simpa using h
  unfold signAt byteN
  rw [List.take_add_one, signG_append, List.getElem?_eq_getElem h2]
  simp [signG]
theorem sign_small : ∀ m : Fin 26, (signT m).size ≤ 7 ∧ ∀ b ∈ (signT m).data.toList, b.toNat < 128 := by decide +kernel
theorem sign_lim (m : Nat) (h : m ≤ 25) : (signB m).size ≤ 7 ∧ ∀ b ∈ (signB m).data.toList, b.toNat < 128 := by
  have := sign_small ⟨m, by omega⟩
  rwa [← sign_ok ⟨m, by omega⟩] at this
end Go.Proofs.YtpeieilbjadcfaaGreatDoor
