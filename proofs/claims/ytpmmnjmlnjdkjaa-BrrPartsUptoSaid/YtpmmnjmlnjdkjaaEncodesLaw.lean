/- The walk of the law BrrEncodes: for every samples and every two samples ahead. -/
import Derived.Test.YtpmmnjmlnjdkjaaRefEnc
import Derived.Test.YtpmmnjmlnjdkjaaEncP
import Derived.Test.YtpmmnjmlnjdkjaaSame
namespace Go.Proofs.Ytpmmnjmlnjdkjaa
open Go.RowKit

theorem PackAt.row {w : World} {g : Nat} {bs : List Int} {a : Int} (h : PackAt w g bs a) : Row .u8 w (.slice (some ⟨g, 0, none⟩) 9 9) bs := by
  refine .inr ⟨g, 0, 9, by rw [h.len], by rw [h.len]; omega, by rw [h.len]; omega, by decide, fun i hi => ?_⟩
  rw [Nat.zero_add]; exact h.c i (by rw [h.len] at hi; exact hi)

def encodedN (s : List Int) (p q : Int) : List Int := if s.length = 16 then encodeN s p q else []
def errE (s : List Int) : Int := if s.length = 16 then 0 else 2

theorem encode_any (v : Value) (s : List Int) (p q : Int) (w : World) (hr : Row .i16 w v s) (hf : Fits .i16 s) (p0 : -32768 ≤ p) (p1 : p ≤ 32767) (q0 : -32768 ≤ q) (q1 : q ≤ 32767) :
    Calls Try.prog 19 #[v, .int .i16 p, .int .i16 q] w fun e w' => ∃ r, e = .returned (.tuple #[r, .int .i64 (errE s)]) ∧ Row .u8 w' r (encodedN s p q) ∧ Below w.heap.size w w' := by
  by_cases hl : s.length = 16
  · unfold errE encodedN; rw [if_pos hl, if_pos hl]
    refine (encode_walk v s p q w hr hf hl p0 p1 q0 q1).mono ?_
    rintro e w' ⟨g, rfl, _, ⟨a, hp⟩, hb⟩
    exact ⟨_, rfl, hp.row, hb⟩
  · unfold errE encodedN; rw [if_neg hl, if_neg hl]
    obtain ⟨a, cap, rfl⟩ : ∃ a cap, v = .slice a s.length cap := by rcases hr with ⟨a, cap, rfl, rfl, _⟩ | ⟨b, o, cap, rfl, _⟩ <;> exact ⟨_, _, rfl⟩
    have hne : ((s.length : Int) != 16) = true := by rw [bne_iff_ne]; omega
    clear hr
    go_enter Try.func19, Try.ntmps19
    go_wp2
    go_step3
    go_wp2
    try rw [Exit.noGoto_ret]
    go_ret2
    exact ⟨_, rfl, Row.nil _ _, Below.refl _ _⟩
theorem refEncode_any (v : Value) (s : List Int) (p q : Int) (w : World) (hr : Row .i16 w v s) (hf : Fits .i16 s) (p0 : -32768 ≤ p) (p1 : p ≤ 32767) (q0 : -32768 ≤ q) (q1 : q ≤ 32767) :
    Calls Try.prog 18 #[v, .int .i16 p, .int .i16 q] w fun e w' => ∃ r, e = .returned (.tuple #[r, .int .i64 (errE s)]) ∧ Row .u8 w' r (encodedN s p q) ∧ Below w.heap.size w w' := by
  by_cases hl : s.length = 16
  · unfold errE encodedN; rw [if_pos hl, if_pos hl]
    refine (refEncode_walk v s p q w hr hf hl p0 p1 q0 q1).mono ?_
    rintro e w' ⟨r, rfl, ho, hb⟩
    exact ⟨_, rfl, (Row.owned ho).1, hb⟩
  · unfold errE encodedN; rw [if_neg hl, if_neg hl]
    obtain ⟨a, cap, rfl⟩ : ∃ a cap, v = .slice a s.length cap := by rcases hr with ⟨a, cap, rfl, rfl, _⟩ | ⟨b, o, cap, rfl, _⟩ <;> exact ⟨_, _, rfl⟩
    have hne : ((s.length : Int) != 16) = true := by rw [bne_iff_ne]; omega
    clear hr
    go_enter Try.func18, Try.ntmps18
    go_wp2
    go_ret2
    exact ⟨_, rfl, Row.nil _ _, Below.refl _ _⟩

theorem law_encodes (v : Value) (s : List Int) (p q : Int) (w : World) (hr : Row .i16 w v s) (hf : Fits .i16 s) (p0 : -32768 ≤ p) (p1 : p ≤ 32767) (q0 : -32768 ≤ q) (q1 : q ≤ 32767) :
    Calls Try.prog 4 #[v, .agg #[.int .i16 p, .int .i16 q]] w fun e w' => e = .returned (.bool true) ∧ Below w.heap.size w w' := by
  have hE := eqB_refl (encodedN s p q)
  have HR := Lib.hid hr
  have HF := Lib.hid hf
  clear hr hf
  have HB := Lib.hid ((Below.refl w.heap.size w).alloc (Nat.le_refl _) (.cells #[.int .i16 p, .int .i16 q] 25))
  have hz : w.heap.size < (w.alloc (.cells #[.int .i16 p, .int .i16 q] 25)).heap.size := by simp
  have k0 : (w.alloc (.cells #[.int .i16 p, .int .i16 q] 25)).cell? ⟨w.heap.size, 0, none⟩ = some (.int .i16 p) := by simp
  have k1 : (w.alloc (.cells #[.int .i16 p, .int .i16 q] 25)).cell? ⟨w.heap.size, 1, none⟩ = some (.int .i16 q) := by simp
  have HZ := Lib.hid hz
  have K0 := Lib.hid k0
  have K1 := Lib.hid k1
  clear hz k0 k1
  go_enter Try.func4, Try.ntmps4
  go_wp2_with fail
  go_at_call 18
  refine (refEncode_any v s p q _ (HR.out.below HB.out) HF.out p0 p1 q0 q1).mono ?_
  rintro e w2 ⟨r1, rfl, h1, hb2⟩
  have k02 := (hb2.cell (p := ⟨w.heap.size, 0, none⟩) HZ.out).trans K0.out
  have k12 := (hb2.cell (p := ⟨w.heap.size, 1, none⟩) HZ.out).trans K1.out
  have H1 := Lib.hid h1
  clear h1
  go_wp2_with fail
  go_at_call 19
  refine (encode_any v s p q _ ((HR.out.below HB.out).below hb2) HF.out p0 p1 q0 q1).mono ?_
  rintro e w3 ⟨r2, rfl, h2, hb3⟩
  have H2 := Lib.hid h2
  have H13 := Lib.hid (H1.out.below hb3)
  clear h2 k02 k12
  go_wp2_with fail
  go_at_call 15
  refine (bytes_any _ _ _ _ _ H2.out H13.out).mono ?_
  rintro e w4 ⟨rfl, n, rfl⟩
  rw [hE]
  go_wp2_with fail
  go_ret
  exact ⟨rfl, below_drewN (below_step HB.out HB.out.size (below_step hb2 hb2.size hb3)) n⟩

theorem walk_encodes (a0 : Option Addr) (len0 cap0 : Nat) (z0 : List Int) (p q : Int) (w : World) (w0 : IsRow .i16 w a0 len0 cap0 z0) (_s0 : cap0 * 2 ≤ 140737488351232)
    (wp : (Lit.int .i16 p).wf = true) (wq : (Lit.int .i16 q).wf = true) :
    Calls Try.prog 4 #[.slice a0 len0 cap0, .agg #[.int .i16 p, .int .i16 q]] w fun e w' => e = .returned (.bool true) ∧ Below w.heap.size w w' := by
  obtain ⟨hr, hf, -, -⟩ := Row.came w0
  have bp := bounds_i16 wp
  have bq := bounds_i16 wq
  exact law_encodes _ _ p q w hr hf (by omega) (by omega) (by omega) (by omega)
end Go.Proofs.Ytpmmnjmlnjdkjaa
