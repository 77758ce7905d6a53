/- Blanks behind a title; a clone of bytes; bytes written over. -/
import Derived.Test.YtjaeglllijafkaaDoorProg
import Derived.Test.YtjaeglllijafkaaDoorKit
import Derived.Test.YtjaeglllijafkaaDoorCopy
import Derived.Test.YtjaeglllijafkaaDoorLib
import Derived.Test.YtjaeglllijafkaaDoorCartLeaf
namespace Go.Proofs.YtjaeglllijafkaaDoor
open Go.RowKit
set_option linter.unusedVariables false
set_option linter.unusedSimpArgs false

def blanks (n : Nat) : ByteArray := ⟨Array.replicate n 32⟩
theorem blanks_cut (c : Nat) (h : c ≤ 21) : (ByteArray.mk (Array.replicate 128 32)).extract 0 c = blanks c := by
  have h2 : ∀ c : Fin 22, (ByteArray.mk (Array.replicate 128 32)).extract 0 c = blanks c := by decide +kernel
  exact h2 ⟨c, by omega⟩

set_option maxRecDepth 100000 in
set_option maxHeartbeats 4000000 in
theorem repeat_walk (c : Nat) (h : c ≤ 21) (w : World) :
    Calls Tryd.prog 34 #[.string ⟨#[32]⟩, .int .i64 c] w fun e w' => e = .returned (.string (blanks c)) ∧ w' = w := by
  by_cases h0 : c = 0
  · subst h0
    go_enter Tryd.func34, Tryd.ntmps34
    go_wp2_with fail
    go_returns
    exact ⟨rfl, rfl⟩
  by_cases h1 : c = 1
  · subst h1
    go_enter Tryd.func34, Tryd.ntmps34
    go_wp2_with fail
    go_returns
    exact ⟨rfl, rfl⟩
  have q0 : ((c : Int) == 0) = false := by rw [beq_eq_false_iff_ne]; omega
  have q1 : ((c : Int) == 1) = false := by rw [beq_eq_false_iff_ne]; omega
  have q2 : ¬ (c : Int) < 0 := by omega
  have q3 : (c : Int) ≤ 128 := by omega
  go_enter Tryd.func34, Tryd.ntmps34
  go_upto_region 8 with fail
  go_upto_region 9 with (go_at_call 50; refine (bits_Mul 1 c (by omega) (by omega) _).mono ?_; rintro e w1 ⟨rfl, rfl⟩)
  rw [show ((c : Int) / 18446744073709551616) = 0 from by omega, show ((c : Int) % 18446744073709551616) = c from by omega]
  go_upto_region 20 with fail
  go_cut [49] (fun s49 wx => s49 = .bool true ∧ w1 = wx)
  case first =>
    go_wp2_with (go_at_call 51; refine (strings_HasPrefix _ _ _).mono ?_; rintro e w2 ⟨rfl, rfl⟩)
    go_meet
    exact ⟨rfl, rfl⟩
  case rest =>
    obtain ⟨rfl, rfl⟩ := hcut
    go_wp2_with fail
    go_returns
    exact ⟨congrArg (fun t => Ending.returned (Value.string t)) (blanks_cut c h), rfl⟩

set_option maxHeartbeats 1000000 in
theorem spoil_walk (G cap : Nat) (L lo : Nat) (xs : List Int) (w : World) (hL : L ≤ 281474976710656)
    (ho : w.ownsRow lo 5 1 (.slice (some ⟨G, 0, none⟩) L cap) L (xs.map (Value.int .u8))) :
    Calls Tryd.prog 16 #[.slice (some ⟨G, 0, none⟩) L cap] w fun e w' => e = .returned (.tuple #[]) ∧ (∀ b, b ≠ G → w'.heap[b]? = w.heap[b]?) ∧ Below lo w w' := by
  have HO := Lib.hid ho
  have hg : lo ≤ G := (ho.lt G rfl).1
  have HG := Lib.hid hg
  clear ho hg
  go_enter Tryd.func16, Tryd.ntmps16
  go_upto_region 1 with fail
  go_loopw [2] (fun s2 wr => ∃ (k : Nat) (ys : List Int), k ≤ L ∧ s2 = .int .i64 k ∧ Hid (wr.ownsRow lo 5 1 (.slice (some ⟨G, 0, none⟩) L cap) L (ys.map (Value.int .u8))) ∧ Hid (∀ b, b ≠ G → wr.heap[b]? = w.heap[b]?) ∧ Hid (Below lo w wr)) (fun s2 _ => L - (intOf s2).toNat)
  case atStart => exact ⟨0, xs, Nat.zero_le _, rfl, HO, Lib.hid (fun _ _ => rfl), Lib.hid (Below.refl _ _)⟩
  case round =>
    obtain ⟨k, ys, hk, rfl, hO, hsame, hbr⟩ := hrel
    by_cases hlt : k < L
    · have hyl : ys.length = L := by have := hO.out.1; simpa using this
      have c2 : wr.cell? ⟨G, k, none⟩ = some (.int .u8 (ys[k]?.getD 0)) := by
        have := hO.out.cellAt k (by omega)
        rw [List.getElem?_map, List.getElem?_eq_getElem (by omega)] at this
        rw [this, List.getElem?_eq_getElem (by omega)]; rfl
      have c3 : wr.frozen? ⟨G, k, none⟩ = false := hO.out.frozenAt k
      obtain ⟨y, hy⟩ : ∃ y, ys[k]?.getD 0 = y := ⟨_, rfl⟩
      rw [hy] at c2
      have hst := Lib.hid (fun z => hO.out.stored k (.int .u8 z))
      have i1 : (k : Int) < (L : Int) := by omega
      have i2 : 0 ≤ (k : Int) := by omega
      clear hy hyl
      go_wp2
      go_roundw
      case rel =>
        refine ⟨k + 1, ys.set k (bits .xor .u8 y 90), by omega, by go_num, ?_, Lib.hid (fun b hb => (Below.heap_setCell _ _ _ _ hb).trans (hsame.out b hb)), Lib.hid (hbr.out.setCell HG.out _)⟩
        have h := (hst.out (bits .xor .u8 y 90)).1
        rw [← List.map_set] at h
        exact Lib.hid h
      case measure => simp [intOf]; omega
    · obtain rfl : k = L := by omega
      have i1 : ¬ (k : Int) < (k : Int) := by omega
      go_wp2
      go_returns
      exact ⟨rfl, hsame.out, hbr.out⟩
end Go.Proofs.YtjaeglllijafkaaDoor
