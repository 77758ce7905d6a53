/- The walk of the law BrrPacks. -/
import Derived.Test.YtpmmnjmlnjdkjaaPack
import Derived.Test.YtpmmnjmlnjdkjaaRefPack
import Derived.Test.YtpmmnjmlnjdkjaaSame
namespace Go.Proofs.Ytpmmnjmlnjdkjaa
open Go.RowKit
set_option linter.unusedVariables false

/-- The samples that a statement packs. -/
def cutN (s : List Int) : List Int := s.take 400
theorem cutN_length (s : List Int) : (cutN s).length ≤ 400 := by unfold cutN; rw [List.length_take]; omega
theorem cutN_fits {s : List Int} (h : Fits .i16 s) : Fits .i16 (cutN s) := fun x hx => h x (List.mem_of_mem_take hx)
theorem Row.cutN {w : World} {a : Option Addr} {cap : Nat} {s : List Int} (h : Row .i16 w (.slice a s.length cap) s) (hl : 400 < s.length) : Row .i16 w (.slice a 400 cap) (cutN s) := by
  rcases h with ⟨_, _, _, h, _⟩ | ⟨b, o, c, e, h0, hc, hm, hx⟩
  · rw [h] at hl; simp at hl
  · simp only [Value.slice.injEq] at e
    obtain ⟨rfl, -, rfl⟩ := e
    have h2 := Row.part (k := .i16) hx 0 400 cap (by omega) (by omega) hm (by omega)
    rw [Nat.add_zero, List.drop_zero] at h2
    exact h2
theorem cutN_short {s : List Int} (h : s.length ≤ 400) : Go.Proofs.Ytpmmnjmlnjdkjaa.cutN s = s := List.take_of_length_le h

set_option maxHeartbeats 1000000 in
theorem law_packs (v : Value) (s : List Int) (w : World) (hr : Row .i16 w v s) (hf : Fits .i16 s) :
    Calls Try.prog 8 #[v] w fun e w' => e = .returned (.bool true) ∧ Below w.heap.size w w' := by
  obtain ⟨a, cap, rfl⟩ := hr.shape
  have HF := Lib.hid (cutN_fits hf)
  have HL := Lib.hid (cutN_length s)
  have hm := hr.len
  unfold maxLen at hm
  have key : ∀ (u : Value), Row .i16 w u (cutN s) → Hid (Row .i16 w u (cutN s)) := fun u h => h
  by_cases h400 : 400 < s.length
  · have HR := Lib.hid (hr.cutN h400)
    have hcc : s.length ≤ cap := by
      rcases hr with ⟨_, _, _, h, _⟩ | ⟨_, _, _, e, _, h, _⟩
      · rw [h] at h400; simp at h400
      · simp only [Value.slice.injEq] at e; omega
    obtain ⟨L, hL⟩ : ∃ L : Nat, s.length = L := ⟨_, rfl⟩
    rw [hL] at h400 hcc hm ⊢
    have i1 : (400 : Int) < (L : Int) := by omega
    have i2 : (400 : Int) ≤ (cap : Int) := by omega
    clear hr hf hL key
    go_enter Try.func8, Try.ntmps8
    go_wp2_with fail
    go_at_call 24
    refine (pack_walk _ (cutN s) w HR.out HF.out HL.out).mono ?_
    rintro e w1 ⟨r1, rfl, ho1, hb1⟩
    have H1 := Lib.hid (Row.owned ho1).1
    have HB1 := Lib.hid hb1
    clear ho1 hb1
    go_wp2_with fail
    go_at_call 25
    refine (refPack_walk _ (cutN s) w1 (HR.out.below HB1.out) HF.out HL.out).mono ?_
    rintro e w2 ⟨r2, rfl, ho2, hb2⟩
    have H2 := Lib.hid (Row.owned ho2).1
    have H12 := Lib.hid (H1.out.below hb2)
    have HB2 := Lib.hid (below_step HB1.out HB1.out.size hb2)
    clear ho2 hb2
    go_wp2_with fail
    go_at_call 15
    refine (bytes_any _ _ _ _ _ H12.out H2.out).mono ?_
    rintro e w3 ⟨rfl, n3, rfl⟩
    rw [eqB_refl]
    go_wp2_with fail
    go_ret
    exact ⟨rfl, below_drewN HB2.out n3⟩
  · have HR : Hid (Row .i16 w (.slice a s.length cap) (cutN s)) := by rw [cutN_short (by omega)]; exact hr
    obtain ⟨L, hL⟩ : ∃ L : Nat, s.length = L := ⟨_, rfl⟩
    rw [hL] at h400 hm HR ⊢
    have i1 : ¬ (400 : Int) < (L : Int) := by omega
    clear hr hf hL key
    go_enter Try.func8, Try.ntmps8
    go_wp2_with fail
    go_at_call 24
    refine (pack_walk _ (cutN s) w HR.out HF.out HL.out).mono ?_
    rintro e w1 ⟨r1, rfl, ho1, hb1⟩
    have H1 := Lib.hid (Row.owned ho1).1
    have HB1 := Lib.hid hb1
    clear ho1 hb1
    go_wp2_with fail
    go_at_call 25
    refine (refPack_walk _ (cutN s) w1 (HR.out.below HB1.out) HF.out HL.out).mono ?_
    rintro e w2 ⟨r2, rfl, ho2, hb2⟩
    have H2 := Lib.hid (Row.owned ho2).1
    have H12 := Lib.hid (H1.out.below hb2)
    have HB2 := Lib.hid (below_step HB1.out HB1.out.size hb2)
    clear ho2 hb2
    go_wp2_with fail
    go_at_call 15
    refine (bytes_any _ _ _ _ _ H12.out H2.out).mono ?_
    rintro e w3 ⟨rfl, n3, rfl⟩
    rw [eqB_refl]
    go_wp2_with fail
    go_ret
    exact ⟨rfl, below_drewN HB2.out n3⟩

theorem walk_packs (a0 : Option Addr) (len0 cap0 : Nat) (z0 : List Int) (w : World) (w0 : IsRow .i16 w a0 len0 cap0 z0) (_s0 : cap0 * 2 ≤ 140737488351232) :
    Calls Try.prog 8 #[.slice a0 len0 cap0] w fun e w' => e = .returned (.bool true) ∧ Below w.heap.size w w' := by
  obtain ⟨hr, hf, hl, -⟩ := Row.came w0
  exact law_packs _ _ w hr hf
end Go.Proofs.Ytpmmnjmlnjdkjaa
