/- The walks of the law's helpers: the block that is known, the square of a difference. -/
import Derived.Test.YtpmmnjmlnjdkjaaDecP
import Derived.Test.YtpmmnjmlnjdkjaaNear
namespace Go.Proofs.Ytpmmnjmlnjdkjaa
open Go.RowKit
set_option linter.unusedVariables false

theorem square_any (a b : Int) (a0 : -32768 ≤ a) (a1 : a ≤ 32767) (b0 : -32768 ≤ b) (b1 : b ≤ 32767) (w : World) :
    Calls Try.prog 23 #[.int .i16 a, .int .i16 b] w fun e w' => e = .returned (.int .i64 ((a - b) * (a - b))) ∧ w = w' := by
  have h0 := sq_nonneg (a - b)
  have h1 := sq_le (a - b) 65536 (by omega) (by omega)
  go_enter Try.func23, Try.ntmps23
  go_wp2
  go_ret
  refine ⟨ret_int ?_, rfl⟩
  omega

def knownB : List Int := [64, 18, 240, 0, 0, 0, 0, 0, 0]
theorem known_samples : samplesN knownB 0 0 16 = [8, 16, -8, 0, 0, 0, 0, 0, 0, 0, 0, 0, 0, 0, 0, 0] := by decide +kernel
theorem Row.fresh (k : IntKind) (w : World) (xs : List Int) (T : TypeId) (n : Nat) (hn : xs.length = n) (h0 : 0 < n) (hm : n ≤ maxLen) :
    Row k (w.alloc (.cells (xs.map (Value.int k)).toArray T)) (.slice (some ⟨w.heap.size, 0, none⟩) n n) xs := by
  subst hn
  refine .inr ⟨_, 0, _, rfl, h0, Nat.le_refl _, hm, fun i hi => ?_⟩
  rw [Nat.zero_add]
  simp [hi]
theorem Row.cells {k : IntKind} {w : World} {v : Value} {xs : List Int} (h : Row k w v xs) (h0 : 0 < xs.length) :
    ∃ b o cap, v = .slice (some ⟨b, o, none⟩) xs.length cap ∧ xs.length ≤ cap ∧ cap ≤ maxLen ∧ ∀ i, i < xs.length → w.cell? ⟨b, o + i, none⟩ = some (.int k (xs[i]?.getD 0)) := by
  rcases h with ⟨_, _, _, rfl, _⟩ | ⟨b, o, cap, h1, _, h2, h3, h4⟩
  · simp at h0
  · exact ⟨b, o, cap, h1, h2, h3, h4⟩
theorem known_any (w : World) : Calls Try.prog 22 #[] w fun e w' => e = .returned (.bool true) ∧ Below w.heap.size w w' := by
  have hb := Lib.hid ((Below.refl w.heap.size w).alloc (Nat.le_refl _) (.cells (knownB.map (Value.int .u8)).toArray 5))
  have hr := Lib.hid (Row.fresh .u8 w knownB 5 9 rfl (by decide) (by decide))
  have hf : Hid (Fits .u8 knownB) := by show ∀ x ∈ knownB, _; decide
  go_enter Try.func22, Try.ntmps22
  go_wp2_with fail
  go_at_call 13
  refine (decode_nine _ knownB 0 0 _ hr.out hf.out rfl (by decide) (by decide) (by decide) (by decide)).mono ?_
  rintro e w2 ⟨r, rfl, ho, hb2⟩
  rw [known_samples] at ho
  obtain ⟨b, o, cap, rfl, h1, h2, hc⟩ := Row.cells (Row.owned (k := .i16) (xs := [8, 16, -8, 0, 0, 0, 0, 0, 0, 0, 0, 0, 0, 0, 0, 0]) ho).1 (by decide)
  have c0 := hc 0 (by decide)
  have c1 := hc 1 (by decide)
  have c2 := hc 2 (by decide)
  have c3 := hc 3 (by decide)
  simp at c0 c1 c2 c3
  have hbb := Lib.hid (below_step hb.out hb.out.size hb2)
  clear ho hc hb2 h1 h2
  go_wp2_with fail
  go_ret
  exact ⟨rfl, hbb.out⟩
end Go.Proofs.Ytpmmnjmlnjdkjaa
