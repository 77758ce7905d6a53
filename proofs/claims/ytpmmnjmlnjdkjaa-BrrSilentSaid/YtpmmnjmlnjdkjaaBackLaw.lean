/- The walk of the law BrrBack. -/
import Derived.Test.YtpmmnjmlnjdkjaaPacksLaw
import Derived.Test.YtpmmnjmlnjdkjaaBackPlain
import Derived.Test.YtpmmnjmlnjdkjaaAll
namespace Go.Proofs.Ytpmmnjmlnjdkjaa
open Go.RowKit
set_option linter.unusedVariables false

/-- Blocks that were packed are read to their end. -/
theorem all_packed (v : Value) (s : List Int) (n : Nat) (w : World) (hr : Row .u8 w v (packN s n n)) (h1 : 1 ≤ n) (h2 : n ≤ 25) :
    Calls Try.prog 21 #[v] w fun e w' => ∃ a c, e = .returned (.tuple #[.slice a (16 * n) c, .int .i64 (9 * (n : Int)), .bool false, .int .i64 0]) ∧ Row .i16 w' (.slice a (16 * n) c) (doneN s n) ∧ Below w.heap.size w w' := by
  have hl := packN_length s n n
  refine (all_walk v _ w hr (packN_fits s n n) (by omega)).mono ?_
  rintro e w' (⟨r, m, hm, rfl, hr2, hb⟩ | ⟨hn, rfl, hb⟩)
  · obtain rfl := (pack_all s n h1).one hm
    have h := (pack_heads s n (n - 1) (by omega)).2
    have h3 : ¬ headB (packN s n n) (n - 1) / 2 % 2 = 1 := by omega
    rw [decide_eq_false h3]
    rw [pack_done s n n (Nat.le_refl _)] at hr2
    obtain ⟨a, c, rfl⟩ := hr2.shape
    rw [doneN_length] at hr2 ⊢
    exact ⟨a, c, rfl, hr2, hb⟩
  · exact ((pack_all s n h1).not hn).elim

set_option maxRecDepth 100000 in
set_option maxHeartbeats 1000000 in
theorem back_one (a : Option Addr) (M cap : Nat) (s : List Int) (w : World) (n : Nat) (hr : Row .i16 w (.slice a M cap) s) (hf : Fits .i16 s) (hs : s.length = M) (hM : M ≤ 400) (hn : nBlk M = n) (L : Nat) (hc : 400 < L → M = 400 ∧ 400 ≤ cap) (hc2 : ¬ 400 < L → M = L) (hb : L ≤ 140737488355327) :
    Calls Try.prog 9 #[.slice a L cap] w fun e w' => e = .returned (.bool true) ∧ Below w.heap.size w w' := by
  have HR := Lib.hid hr
  have HF := Lib.hid hf
  have HS := Lib.hid hs
  have n1 : 1 ≤ n := by rw [← hn]; exact nBlk_pos M
  have n2 : n ≤ 25 := by rw [← hn]; unfold nBlk; omega
  have n3 : (M = 0 ∧ n = 1) ∨ (0 < M ∧ (M + 15) / 16 = n) := by rw [← hn]; unfold nBlk; omega
  have HN := Lib.hid hn
  have HP : Hid (∀ W, Row .i16 W (.slice a M cap) s → Calls Try.prog 24 #[.slice a M cap] W fun e w' => ∃ g c, e = .returned (.slice (some ⟨g, 0, none⟩) (9 * n) c) ∧ Row .u8 w' (.slice (some ⟨g, 0, none⟩) (9 * n) c) (packN s n n) ∧ Below W.heap.size W w') := fun W h => by
    refine (pack_walk _ s W h HF.out (by rw [HS.out]; exact hM)).mono ?_
    rintro e w' ⟨r, rfl, ho, hb⟩
    rw [HS.out, HN.out] at ho
    obtain ⟨g, c, rfl⟩ := ownsRow_shape ho (by omega)
    exact ⟨g, c, rfl, (Row.owned ho).1, hb⟩
  clear hr hf hs hn
  have fin : ∀ (w1 : World), True := fun _ => trivial
  by_cases h400 : 400 < L
  · obtain ⟨rfl, hcc⟩ := hc h400
    have e25 : n = 25 := by omega
    subst e25
    have i1 : (400 : Int) < (L : Int) := by omega
    have i2 : (400 : Int) ≤ (cap : Int) := by omega
    clear hc hc2 n3 fin
    go_enter Try.func9, Try.ntmps9
    go_wp2_with fail
    go_at_call 24
    refine (HP.out w HR.out).mono ?_
    rintro e w1 ⟨g, c, rfl, h1, hb1⟩
    have H1 := Lib.hid h1
    have HB1 := Lib.hid hb1
    clear h1 hb1
    go_wp2_with fail
    go_at_call 21
    refine (all_packed _ s 25 _ H1.out (by omega) (by omega)).mono ?_
    rintro e w2 ⟨a2, c2, rfl, h2, hb2⟩
    have HB2 := Lib.hid (below_step HB1.out HB1.out.size hb2)
    clear h2 hb2
    go_wp2_with fail
    go_at_call 22
    refine (known_any _).mono ?_
    rintro e w3 ⟨rfl, hb3⟩
    have HB3 := Lib.hid (below_step HB2.out HB2.out.size hb3)
    go_wp2_with fail
    go_ret
    exact ⟨rfl, HB3.out⟩
  · obtain rfl := hc2 h400
    have i1 : ¬ (400 : Int) < (M : Int) := by omega
    clear hc hc2 fin
    rcases n3 with ⟨rfl, rfl⟩ | ⟨m0, m1⟩
    · go_enter Try.func9, Try.ntmps9
      go_wp2_with fail
      go_at_call 24
      refine (HP.out w HR.out).mono ?_
      rintro e w1 ⟨g, c, rfl, h1, hb1⟩
      have H1 := Lib.hid h1
      have HB1 := Lib.hid hb1
      clear h1 hb1
      go_wp2_with fail
      go_at_call 21
      refine (all_packed _ s 1 _ H1.out (by omega) (by omega)).mono ?_
      rintro e w2 ⟨a2, c2, rfl, h2, hb2⟩
      have HB2 := Lib.hid (below_step HB1.out HB1.out.size hb2)
      clear h2 hb2
      go_wp2_with fail
      go_at_call 22
      refine (known_any _).mono ?_
      rintro e w3 ⟨rfl, hb3⟩
      have HB3 := Lib.hid (below_step HB2.out HB2.out.size hb3)
      go_wp2_with fail
      go_ret
      exact ⟨rfl, HB3.out⟩
    · have m2 : ((M : Int) + 15) / 16 = (n : Int) := by omega
      have m3 : ¬ n = 0 := by omega
      go_enter Try.func9, Try.ntmps9
      go_wp2_with fail
      go_at_call 24
      refine (HP.out w HR.out).mono ?_
      rintro e w1 ⟨g, c, rfl, h1, hb1⟩
      have H1 := Lib.hid h1
      have HB1 := Lib.hid hb1
      clear h1 hb1
      go_wp2_with fail
      go_at_call 21
      refine (all_packed _ s n _ H1.out (by omega) (by omega)).mono ?_
      rintro e w2 ⟨a2, c2, rfl, h2, hb2⟩
      have HB2 := Lib.hid (below_step HB1.out HB1.out.size hb2)
      clear h2 hb2
      go_wp2_with fail
      go_at_call 22
      refine (known_any _).mono ?_
      rintro e w3 ⟨rfl, hb3⟩
      have HB3 := Lib.hid (below_step HB2.out HB2.out.size hb3)
      go_wp2_with fail
      go_ret
      refine ⟨ret_bool ?_, HB3.out⟩
      first | rfl | (rw [beq_iff_eq]; omega) | (simp; omega)

theorem walk_back (a0 : Option Addr) (len0 cap0 : Nat) (z0 : List Int) (w : World) (w0 : IsRow .i16 w a0 len0 cap0 z0) (s0 : cap0 * 2 ≤ 140737488351232) :
    Calls Try.prog 9 #[.slice a0 len0 cap0] w fun e w' => e = .returned (.bool true) ∧ Below w.heap.size w w' := by
  obtain ⟨hr, hf, hl, -⟩ := Row.came w0
  have hc : len0 ≤ cap0 := by rcases w0 with ⟨_, rfl, rfl, _⟩ | ⟨_, _, h, _⟩ <;> omega
  obtain ⟨s, hs⟩ : ∃ s, z0.take len0 = s := ⟨_, rfl⟩
  rw [hs] at hr hf hl
  by_cases h : 400 < len0
  · have h2 := Row.cutN (a := a0) (cap := cap0) (s := s) (by rw [hl]; exact hr) (by omega)
    have h3 : (cutN s).length = 400 := by unfold cutN; rw [List.length_take]; omega
    exact back_one a0 400 cap0 (cutN s) w _ h2 (cutN_fits hf) h3 (by omega) rfl len0 (fun _ => ⟨rfl, by omega⟩) (fun h4 => absurd h h4) (by omega)
  · exact back_one a0 len0 cap0 s w _ hr hf hl (by omega) rfl len0 (fun h4 => absurd h4 h) (fun _ => rfl) (by omega)
end Go.Proofs.Ytpmmnjmlnjdkjaa
