/- The walks of 'behind' and of 'Ahead': the last samples of some. -/
import Derived.Test.YtpmmnjmlnjdkjaaProg
import Derived.Test.YtpmmnjmlnjdkjaaPackPlain
namespace Go.Proofs.Ytpmmnjmlnjdkjaa
open Go.RowKit
set_option linter.unusedVariables false

def lastN (l : List Int) (k : Nat) : Int := if l.length < k then 0 else l[l.length - k]?.getD 0
theorem ahead_any (v : Value) (l : List Int) (k : Nat) (w : World) (hr : Row .i16 w v l) (h1 : 1 ≤ k) (h2 : k ≤ 2) :
    Calls Try.prog 34 #[v, .int .i64 k] w fun e w' => e = .returned (.int .i16 (lastN l k)) ∧ w = w' := by
  have hm := hr.len
  unfold maxLen at hm
  by_cases hl : l.length < k
  · obtain ⟨a, cap, rfl⟩ : ∃ a cap, v = .slice a l.length cap := by rcases hr with ⟨a, cap, rfl, rfl, _⟩ | ⟨b, o, cap, rfl, _⟩ <;> exact ⟨_, _, rfl⟩
    have e : lastN l k = 0 := by unfold lastN; rw [if_pos hl]
    rw [e]
    clear e hr
    go_enter Try.func34, Try.ntmps34
    go_wp2
    go_ret
    exact ⟨rfl, rfl⟩
  · rcases hr with ⟨a, cap, rfl, rfl, _⟩ | ⟨b, o, cap, rfl, _, hc, hm2, hx⟩
    · simp at hl; omega
    · have c1 := hx (l.length - k) (by omega)
      have e : lastN l k = l[l.length - k]?.getD 0 := by unfold lastN; rw [if_neg hl]
      rw [← e] at c1
      obtain ⟨x, hx2⟩ : ∃ x, lastN l k = x := ⟨_, rfl⟩
      rw [hx2] at c1 ⊢
      have c2 : w.cell? ⟨b, o + ((l.length : Int) - (k : Int)).toNat, none⟩ = some (.int .i16 x) := by
        rw [show ((l.length : Int) - (k : Int)).toNat = l.length - k from by omega]; exact c1
      clear e hx hx2
      have i1 : ((l.length : Int) - (k : Int)) < (l.length : Int) := by omega
      have i2 : 0 ≤ ((l.length : Int) - (k : Int)) := by omega
      go_enter Try.func34, Try.ntmps34
      go_wp2
      go_ret
      exact ⟨rfl, rfl⟩

/-- The last two samples of some, noughts where there are not two. -/
def behindN (l : List Int) : Int × Int := if l.length < 2 then (0, 0) else (l[l.length - 1]?.getD 0, l[l.length - 2]?.getD 0)
theorem behind_any (v : Value) (l : List Int) (w : World) (hr : Row .i16 w v l) :
    Calls Try.prog 36 #[v] w fun e w' => e = .returned (.tuple #[.int .i16 (behindN l).1, .int .i16 (behindN l).2]) ∧ ∃ n, w' = w.drewN n := by
  have hm := hr.len
  unfold maxLen at hm
  by_cases hl : l.length < 2
  · obtain ⟨a, cap, rfl⟩ : ∃ a cap, v = .slice a l.length cap := by rcases hr with ⟨a, cap, rfl, rfl, _⟩ | ⟨b, o, cap, rfl, _⟩ <;> exact ⟨_, _, rfl⟩
    have e : behindN l = (0, 0) := by unfold behindN; rw [if_pos hl]
    rw [e]
    clear e hr
    go_enter Try.func36, Try.ntmps36
    go_wp2
    go_ret2
    exact ⟨rfl, 0, rfl⟩
  · rcases hr with ⟨a, cap, rfl, rfl, _⟩ | ⟨b, o, cap, rfl, _, hc, hm2, hx⟩
    · simp at hl
    · have c1 := hx (l.length - 1) (by omega)
      have c2 := hx (l.length - 2) (by omega)
      have e : behindN l = (l[l.length - 1]?.getD 0, l[l.length - 2]?.getD 0) := by unfold behindN; rw [if_neg hl]
      rw [e]
      obtain ⟨x, hx1⟩ : ∃ x, l[l.length - 1]?.getD 0 = x := ⟨_, rfl⟩
      obtain ⟨y, hx2⟩ : ∃ x, l[l.length - 2]?.getD 0 = x := ⟨_, rfl⟩
      rw [hx1] at c1 ⊢
      rw [hx2] at c2 ⊢
      have d1 : w.cell? ⟨b, o + ((l.length : Int) - 1).toNat, none⟩ = some (.int .i16 x) := by
        rw [show ((l.length : Int) - 1).toNat = l.length - 1 from by omega]; exact c1
      have d2 : w.cell? ⟨b, o + ((l.length : Int) - 2).toNat, none⟩ = some (.int .i16 y) := by
        rw [show ((l.length : Int) - 2).toNat = l.length - 2 from by omega]; exact c2
      clear e hx hx1 hx2
      have i1 : ((l.length : Int) - 1) < (l.length : Int) := by omega
      have i2 : 0 ≤ ((l.length : Int) - 1) := by omega
      have i3 : ((l.length : Int) - 2) < (l.length : Int) := by omega
      have i4 : 0 ≤ ((l.length : Int) - 2) := by omega
      go_enter Try.func36, Try.ntmps36
      go_wp2
      go_quiet (fail)
      go_wp2
      go_ret2
      exact ⟨rfl, _, rfl⟩
end Go.Proofs.Ytpmmnjmlnjdkjaa
