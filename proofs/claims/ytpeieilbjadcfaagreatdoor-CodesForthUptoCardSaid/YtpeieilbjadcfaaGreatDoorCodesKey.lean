/- Two codes of one name have unlike modes; a size hangs on two of the flags alone; no program. (Printed by gen_codeskey.py.) -/
import Derived.Test.YtpeieilbjadcfaaGreatDoorProg
import Derived.Test.YtpeieilbjadcfaaGreatDoorKit
import Derived.Test.YtpeieilbjadcfaaGreatDoorCodesPlain
namespace Go.Proofs.YtpeieilbjadcfaaGreatDoor
open Go.RowKit
set_option linter.unusedVariables false

def nameK (s : ByteArray) : Nat := s.data.toList.foldl (fun a b => a * 256 + b.toNat) 0
def keyN (k : Nat) : Nat := nameK (nameB k) * 256 + modeN k
def keyT : List Nat := [1112689432, 1330790666, 1129271320, 1330790677, 1414742533, 1330790661, 1095977989, 1330790665, 1346916352, 1330790658, 1095977985, 1346913280, 1414742541, 1330790669, 1095977997, 1330790672, 1112558595, 1330790667, 1330790664, 1330790678, 1414676997, 1330790662, 1095977990, 1330790668, 1129071360, 1330790671, 1229865729, 1413698304, 1414677005, 1330790670, 1095977998, 1330790673, 1246974477, 1095648266, 1246972944, 1095648277, 1112101893, 1095648261, 1380928517, 1095648265, 1347178496, 1095648258, 1380928513, 1347175424, 1112101901, 1095648269, 1380928525, 1095648272, 1112361219, 1095648267, 1095648264, 1095648278, 1112101894, 1095648262, 1380928518, 1095648268, 1397048064, 1095648271, 1145389825, 1414742784, 1112101902, 1095648270, 1380928526, 1095648273, 1381255424, 1162826250, 1464093976, 1162826261, 1297502231, 1162826245, 1280528901, 1162826249, 1346912512, 1162826242, 1280528897, 1346915072, 1246580749, 1162826253, 1280528909, 1162826256, 1112949507, 1162826251, 1162826248, 1162826262, 1297501719, 1162826246, 1280528902, 1162826252, 1129072896, 1162826255, 1346918656, 1413694464, 1246579728, 1162826254, 1280528910, 1162826257, 1381257984, 1094992650, 1346720260, 1094992661, 1398036997, 1094992645, 1380930053, 1094992649, 1347174656, 1094992642, 1380930049, 1381256192, 1246580754, 1094992653, 1380930061, 1094992656, 1112953603, 1094992651, 1094992648, 1094992662, 1398036998, 1094992646, 1380930054, 1094992652, 1397049600, 1094992655, 1347180800, 1413759744, 1246580756, 1094992654, 1380930062, 1094992657, 1112686851, 1398030602, 1112689668, 1398030613, 1398036741, 1398030597, 1398036485, 1398030601, 1145395456, 1112101890, 1415069952, 1346912768, 1398036749, 1398030605, 1398036493, 1398030608, 1111704323, 1398030603, 1398030600, 1398030614, 1398036742, 1398030598, 1398036487, 1398030604, 1415135488, 1398030607, 1415074560, 1415076096, 1398037005, 1398030606, 1398037006, 1398030609, 1279547650, 1279541514, 1279547394, 1279541525, 1279547653, 1279541509, 1279547397, 1279541513, 1413568768, 1279541506, 1413568512, 1347174912, 1279547661, 1279541517, 1279547405, 1279541520, 1111708419, 1279541515, 1279541512, 1279541526, 1279547654, 1279541510, 1279547399, 1279541516, 1129076224, 1279541519, 1414748160, 1415141376, 1279547662, 1279541518, 1279547407, 1279541521, 1129339138, 1129140234, 1380274178, 1129140245, 1129339141, 1129140229, 1145389829, 1129140233, 1229871360, 1129140226, 1145395200, 1463896320, 1129339149, 1129140237, 1145389837, 1129140240, 1112425731, 1129140235, 1129140232, 1129140246, 1346717960, 1129140230, 1145389830, 1129140236, 1129071616, 1129140239, 1346918400, 1398034432, 1246579731, 1129140238, 1145389838, 1129140241, 1129338882, 1396851466, 1397051394, 1396851477, 1129338885, 1396851461, 1229865733, 1396851465, 1229871104, 1396851458, 1313820672, 1480737024, 1129338893, 1396851469, 1229865741, 1396851472, 1111838979, 1396851467, 1396851464, 1396851478, 1346715929, 1396851462, 1229865734, 1396851468, 1397048320, 1396851471, 1347180544, 1480803584, 1246974484, 1396851470, 1229865742, 1396851473]
theorem key_row0 : ∀ j : Fin 16, keyN (16 * 0 + j) = keyT[16 * 0 + (j : Nat)]?.getD 0 := by decide +kernel
theorem key_row1 : ∀ j : Fin 16, keyN (16 * 1 + j) = keyT[16 * 1 + (j : Nat)]?.getD 0 := by decide +kernel
theorem key_row2 : ∀ j : Fin 16, keyN (16 * 2 + j) = keyT[16 * 2 + (j : Nat)]?.getD 0 := by decide +kernel
theorem key_row3 : ∀ j : Fin 16, keyN (16 * 3 + j) = keyT[16 * 3 + (j : Nat)]?.getD 0 := by decide +kernel
theorem key_row4 : ∀ j : Fin 16, keyN (16 * 4 + j) = keyT[16 * 4 + (j : Nat)]?.getD 0 := by decide +kernel
theorem key_row5 : ∀ j : Fin 16, keyN (16 * 5 + j) = keyT[16 * 5 + (j : Nat)]?.getD 0 := by decide +kernel
theorem key_row6 : ∀ j : Fin 16, keyN (16 * 6 + j) = keyT[16 * 6 + (j : Nat)]?.getD 0 := by decide +kernel
theorem key_row7 : ∀ j : Fin 16, keyN (16 * 7 + j) = keyT[16 * 7 + (j : Nat)]?.getD 0 := by decide +kernel
theorem key_row8 : ∀ j : Fin 16, keyN (16 * 8 + j) = keyT[16 * 8 + (j : Nat)]?.getD 0 := by decide +kernel
theorem key_row9 : ∀ j : Fin 16, keyN (16 * 9 + j) = keyT[16 * 9 + (j : Nat)]?.getD 0 := by decide +kernel
theorem key_row10 : ∀ j : Fin 16, keyN (16 * 10 + j) = keyT[16 * 10 + (j : Nat)]?.getD 0 := by decide +kernel
theorem key_row11 : ∀ j : Fin 16, keyN (16 * 11 + j) = keyT[16 * 11 + (j : Nat)]?.getD 0 := by decide +kernel
theorem key_row12 : ∀ j : Fin 16, keyN (16 * 12 + j) = keyT[16 * 12 + (j : Nat)]?.getD 0 := by decide +kernel
theorem key_row13 : ∀ j : Fin 16, keyN (16 * 13 + j) = keyT[16 * 13 + (j : Nat)]?.getD 0 := by decide +kernel
theorem key_row14 : ∀ j : Fin 16, keyN (16 * 14 + j) = keyT[16 * 14 + (j : Nat)]?.getD 0 := by decide +kernel
theorem key_row15 : ∀ j : Fin 16, keyN (16 * 15 + j) = keyT[16 * 15 + (j : Nat)]?.getD 0 := by decide +kernel
theorem key_ok (k : Nat) (hk : k < 256) : keyN k = keyT[k]?.getD 0 := by
  have hj : k % 16 < 16 := by omega
  have e : 16 * (k / 16) + k % 16 = k := by omega
  rcases (show k / 16 = 0 ∨ k / 16 = 1 ∨ k / 16 = 2 ∨ k / 16 = 3 ∨ k / 16 = 4 ∨ k / 16 = 5 ∨ k / 16 = 6 ∨ k / 16 = 7 ∨ k / 16 = 8 ∨ k / 16 = 9 ∨ k / 16 = 10 ∨ k / 16 = 11 ∨ k / 16 = 12 ∨ k / 16 = 13 ∨ k / 16 = 14 ∨ k / 16 = 15 by omega) with h | h | h | h | h | h | h | h | h | h | h | h | h | h | h | h
  · have := key_row0 ⟨k % 16, hj⟩; rw [h] at e; rwa [show 16 * 0 + ((⟨k % 16, hj⟩ : Fin 16) : Nat) = k from e] at this
  · have := key_row1 ⟨k % 16, hj⟩; rw [h] at e; rwa [show 16 * 1 + ((⟨k % 16, hj⟩ : Fin 16) : Nat) = k from e] at this
  · have := key_row2 ⟨k % 16, hj⟩; rw [h] at e; rwa [show 16 * 2 + ((⟨k % 16, hj⟩ : Fin 16) : Nat) = k from e] at this
  · have := key_row3 ⟨k % 16, hj⟩; rw [h] at e; rwa [show 16 * 3 + ((⟨k % 16, hj⟩ : Fin 16) : Nat) = k from e] at this
  · have := key_row4 ⟨k % 16, hj⟩; rw [h] at e; rwa [show 16 * 4 + ((⟨k % 16, hj⟩ : Fin 16) : Nat) = k from e] at this
  · have := key_row5 ⟨k % 16, hj⟩; rw [h] at e; rwa [show 16 * 5 + ((⟨k % 16, hj⟩ : Fin 16) : Nat) = k from e] at this
  · have := key_row6 ⟨k % 16, hj⟩; rw [h] at e; rwa [show 16 * 6 + ((⟨k % 16, hj⟩ : Fin 16) : Nat) = k from e] at this
  · have := key_row7 ⟨k % 16, hj⟩; rw [h] at e; rwa [show 16 * 7 + ((⟨k % 16, hj⟩ : Fin 16) : Nat) = k from e] at this
  · have := key_row8 ⟨k % 16, hj⟩; rw [h] at e; rwa [show 16 * 8 + ((⟨k % 16, hj⟩ : Fin 16) : Nat) = k from e] at this
  · have := key_row9 ⟨k % 16, hj⟩; rw [h] at e; rwa [show 16 * 9 + ((⟨k % 16, hj⟩ : Fin 16) : Nat) = k from e] at this
  · have := key_row10 ⟨k % 16, hj⟩; rw [h] at e; rwa [show 16 * 10 + ((⟨k % 16, hj⟩ : Fin 16) : Nat) = k from e] at this
  · have := key_row11 ⟨k % 16, hj⟩; rw [h] at e; rwa [show 16 * 11 + ((⟨k % 16, hj⟩ : Fin 16) : Nat) = k from e] at this
  · have := key_row12 ⟨k % 16, hj⟩; rw [h] at e; rwa [show 16 * 12 + ((⟨k % 16, hj⟩ : Fin 16) : Nat) = k from e] at this
  · have := key_row13 ⟨k % 16, hj⟩; rw [h] at e; rwa [show 16 * 13 + ((⟨k % 16, hj⟩ : Fin 16) : Nat) = k from e] at this
  · have := key_row14 ⟨k % 16, hj⟩; rw [h] at e; rwa [show 16 * 14 + ((⟨k % 16, hj⟩ : Fin 16) : Nat) = k from e] at this
  · have := key_row15 ⟨k % 16, hj⟩; rw [h] at e; rwa [show 16 * 15 + ((⟨k % 16, hj⟩ : Fin 16) : Nat) = k from e] at this
theorem keyT_unlike : keyT.Pairwise (· ≠ ·) := by decide +kernel
theorem keyT_length : keyT.length = 256 := by decide +kernel
/-- Two codes of one name have unlike modes. -/
theorem codes_unlike (a b : Nat) (ha : a < 256) (hb : b < 256) (hn : nameB a = nameB b) (hm : modeN a = modeN b) : a = b := by
  have hk : keyN a = keyN b := by unfold keyN; rw [hn, hm]
  rw [key_ok a ha, key_ok b hb] at hk
  have la : a < keyT.length := by rw [keyT_length]; exact ha
  have lb : b < keyT.length := by rw [keyT_length]; exact hb
  rw [List.getElem?_eq_getElem la, List.getElem?_eq_getElem lb, Option.getD_some, Option.getD_some] at hk
  rcases Nat.lt_trichotomy a b with h | h | h
  · exact absurd hk (List.pairwise_iff_getElem.1 keyT_unlike a b la lb h)
  · exact h
  · exact absurd hk.symm (List.pairwise_iff_getElem.1 keyT_unlike b a lb la h)
theorem opK_flags (k p q : Nat) (h5 : p / 32 % 2 = q / 32 % 2) (h4 : p / 16 % 2 = q / 16 % 2) : opK k p = opK k q := by
  unfold opK opN wideB; rw [h5, h4]
def flagsN (p q : Int) : Int := bits .or .u8 (bits .and .u8 p 48) (bits .andNot .u8 q 48)
theorem and48 : ∀ m : Fin 256, bits .and .u8 ((m : Nat) : Int) 48 = 16 * ((m / 16 % 4 : Nat) : Int) := by decide +kernel
theorem andnot48 : ∀ m : Fin 256, bits .andNot .u8 ((m : Nat) : Int) 48 = ((m % 16 + 64 * (m / 64) : Nat) : Int) := by decide +kernel
theorem or48 : ∀ a : Fin 4, ∀ m : Fin 256, bits .or .u8 (16 * ((a : Nat) : Int)) ((m % 16 + 64 * (m / 64) : Nat) : Int) = ((16 * a + (m % 16 + 64 * (m / 64)) : Nat) : Int) := by decide +kernel
theorem flagsN_eq (p q : Nat) (hp : p < 256) (hq : q < 256) : flagsN p q = ((16 * (p / 16 % 4) + (q % 16 + 64 * (q / 64)) : Nat) : Int) := by
  unfold flagsN
  have h1 := and48 ⟨p, hp⟩
  have h2 := andnot48 ⟨q, hq⟩
  have h3 := or48 ⟨p / 16 % 4, by omega⟩ ⟨q, hq⟩
  dsimp only at h1 h2 h3
  rw [h1, h2, h3]
theorem opK_flagsN (k p q : Nat) (hp : p < 256) (hq : q < 256) : opK k (16 * (p / 16 % 4) + (q % 16 + 64 * (q / 64))) = opK k p := opK_flags _ _ _ (by omega) (by omega)
end Go.Proofs.YtpeieilbjadcfaaGreatDoor
