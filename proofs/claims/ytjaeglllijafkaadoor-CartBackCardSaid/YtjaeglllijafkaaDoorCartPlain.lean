/- What making a cartridge does, in plain words; a row behind several stores. -/
import Derived.Test.YtjaeglllijafkaaDoorProg
import Derived.Test.YtjaeglllijafkaaDoorKit
import Derived.Test.YtjaeglllijafkaaDoorCartLeaf
import Derived.Test.YtjaeglllijafkaaDoorCartTab
import Derived.Lib.LazyBuf
namespace Go.Proofs.YtjaeglllijafkaaDoor
open Go.RowKit
set_option linter.unusedVariables false

/-- Values laid over a row from a place on, one by one. -/
def putsL (xs : List Int) (o : Nat) : List Int → List Int
  | [] => xs
  | v :: vs => putsL (xs.set o v) (o + 1) vs
theorem putsL_length (vs : List Int) : ∀ (xs : List Int) (o : Nat), (putsL xs o vs).length = xs.length := by
  induction vs with
  | nil => intro xs o; rfl
  | cons v vs ih => intro xs o; rw [putsL, ih, List.length_set]
theorem putsL_snoc (v : Int) (vs : List Int) : ∀ (xs : List Int) (o : Nat), putsL xs o (vs ++ [v]) = (putsL xs o vs).set (o + vs.length) v := by
  induction vs with
  | nil => intro xs o; simp [putsL]
  | cons u vs ih => intro xs o; rw [List.cons_append, putsL, ih, putsL, List.length_cons]; congr 1; omega
theorem putsL_fits {vs : List Int} (hv : Fits .u8 vs) : ∀ {xs : List Int} (o : Nat), Fits .u8 xs → Fits .u8 (putsL xs o vs) := by
  induction vs with
  | nil => intro xs o h; exact h
  | cons v vs ih =>
    intro xs o h
    rw [putsL]
    refine ih (fun x hx => hv x (List.mem_cons_of_mem _ hx)) _ (fun x hx => ?_)
    rcases List.mem_or_eq_of_mem_set hx with h1 | h1
    · exact h x h1
    · rw [h1]; exact hv _ (List.mem_cons_self ..)
theorem fits_set {xs : List Int} (h : Fits .u8 xs) (j : Nat) {v : Int} (h0 : 0 ≤ v) (h1 : v ≤ 255) : Fits .u8 (xs.set j v) := fun x hx => by
  rcases List.mem_or_eq_of_mem_set hx with h2 | h2
  · exact h x h2
  · rw [h2]; simp [Lit.wf, IntKind.min, IntKind.max, IntKind.signed, IntKind.bits]; omega
theorem owns_puts {lo e G n cap : Nat} (vs : List Int) : ∀ (xs : List Int) (o : Nat) (w : World), w.ownsRow lo e 1 (.slice (some ⟨G, 0, none⟩) n cap) n (xs.map (Value.int .u8)) →
    (w.setCells G o (vs.map (Value.int .u8))).ownsRow lo e 1 (.slice (some ⟨G, 0, none⟩) n cap) n ((putsL xs o vs).map (Value.int .u8)) := by
  induction vs with
  | nil => intro xs o w h; exact h
  | cons v vs ih =>
    intro xs o w h
    have h1 := (h.stored o (.int .u8 v)).1
    rw [← List.map_set] at h1
    exact ih _ _ _ h1
theorem owns_cell {lo e G n cap : Nat} {xs : List Int} {w : World} (h : w.ownsRow lo e 1 (.slice (some ⟨G, 0, none⟩) n cap) n (xs.map (Value.int .u8))) (j : Nat) (hj : j < n) : w.cell? ⟨G, j, none⟩ = some (.int .u8 (xs[j]?.getD 0)) := by
  have hl : xs.length = n := by have := h.1; simpa using this
  rw [h.cellAt j (by omega), List.getElem?_map, List.getElem?_eq_getElem (by omega)]; rfl

def bytesI (t : ByteArray) : List Int := t.data.toList.map (fun b => (b.toNat : Int))
theorem bytesI_length (t : ByteArray) : (bytesI t).length = t.size := by simp [bytesI]
/-- A title with blanks behind it. -/
def padN (t : ByteArray) : List Int := bytesI t ++ List.replicate (21 - t.size) 32
theorem padN_length (t : ByteArray) (h : t.size ≤ 21) : (padN t).length = 21 := by simp [padN, bytesI]; omega
theorem padN_get (t : ByteArray) (j : Nat) (h : t.size ≤ 21) (hj : j < 21) : (padN t)[j]?.getD 0 = if h : j < t.size then (t[j].toNat : Int) else 32 := by
  unfold padN
  split
  · rename_i hh
    rw [List.getElem?_append_left (by rw [bytesI_length]; exact hh)]
    simp [bytesI, hh]
    rfl
  · rename_i hh
    rw [List.getElem?_append_right (by rw [bytesI_length]; omega), bytesI_length, List.getElem?_replicate, if_pos (by omega)]
    rfl
theorem byte_fits (b : UInt8) : (Lit.int .u8 (b.toNat : Int)).wf = true := by
  have := b.toNat_lt
  simp [Lit.wf, IntKind.min, IntKind.max, IntKind.signed, IntKind.bits]; omega
theorem padN_fits (t : ByteArray) : Fits .u8 (padN t) := by
  intro x hx
  unfold padN at hx
  rcases List.mem_append.1 hx with h | h
  · obtain ⟨b, -, rfl⟩ := List.mem_map.1 h
    exact byte_fits b
  · rw [(List.mem_replicate.1 h).2]; decide

/-- The sum of the first k bytes. -/
def sumK (xs : List Int) : Nat → Int
  | 0 => 0
  | k + 1 => (sumK xs k + xs[k]?.getD 0) % 65536
theorem sumK_bounds (xs : List Int) (k : Nat) : 0 ≤ sumK xs k ∧ sumK xs k ≤ 65535 := by
  cases k with
  | zero => simp [sumK]
  | succ k => rw [sumK]; omega
/-- The card's bytes, without sums. -/
def b1N (xs : List Int) (A : Nat) (ti : ByteArray) : List Int := putsL (putsL xs A (padN ti)) (A + 21) (List.replicate 11 0)
def modeN (l : Int) (fa : Bool) : Int := if fa then m0N l + 16 else m0N l
def b3N (xs : List Int) (A : Nat) (ti : ByteArray) (l : Int) (fa : Bool) : List Int := (b1N xs A ti).set (A + 21) (modeN l fa)
def kindS (xs : List Int) (A : Nat) (ch : Int) : List Int := if ch = 1 then xs.set (A + 22) 3 else if ch = 2 then xs.set (A + 22) 51 else xs
def b6N (xs : List Int) (A : Nat) (ti : ByteArray) (l : Int) (fa : Bool) (ch ram rs : Int) : List Int :=
  (((kindS (b3N xs A ti l fa) A ch).set (A + 24) (sizeR ram)).set (A + 60) (rs % 256)).set (A + 61) (rs / 256)
def sealN (xs : List Int) (A : Nat) (s : Int) : List Int := (((xs.set (A + 28) ((65535 - s) % 256)).set (A + 29) ((65535 - s) / 256)).set (A + 30) (s % 256)).set (A + 31) (s / 256)
/-- What is made. -/
def madeN (xs : List Int) (A : Nat) (ti : ByteArray) (l : Int) (fa : Bool) (ch ram rs : Int) : List Int :=
  sealN (b6N xs A ti l fa ch ram rs) A (sumK (b6N xs A ti l fa ch ram rs) (b6N xs A ti l fa ch ram rs).length)
theorem b1N_length (xs : List Int) (A : Nat) (ti : ByteArray) : (b1N xs A ti).length = xs.length := by unfold b1N; rw [putsL_length, putsL_length]
theorem b3N_length (xs : List Int) (A : Nat) (ti : ByteArray) (l : Int) (fa : Bool) : (b3N xs A ti l fa).length = xs.length := by unfold b3N; rw [List.length_set, b1N_length]
theorem kindS_length (xs : List Int) (A : Nat) (ch : Int) : (kindS xs A ch).length = xs.length := by unfold kindS; split; simp; split <;> simp
theorem b6N_length (xs : List Int) (A : Nat) (ti : ByteArray) (l : Int) (fa : Bool) (ch ram rs : Int) : (b6N xs A ti l fa ch ram rs).length = xs.length := by unfold b6N; simp [kindS_length, b3N_length]
theorem sealN_length (xs : List Int) (A : Nat) (s : Int) : (sealN xs A s).length = xs.length := by unfold sealN; simp
theorem madeN_length (xs : List Int) (A : Nat) (ti : ByteArray) (l : Int) (fa : Bool) (ch ram rs : Int) : (madeN xs A ti l fa ch ram rs).length = xs.length := by unfold madeN; rw [sealN_length, b6N_length]
end Go.Proofs.YtjaeglllijafkaaDoor
