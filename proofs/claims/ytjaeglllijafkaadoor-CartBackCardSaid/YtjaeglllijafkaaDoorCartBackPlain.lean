/- A cartridge that is made is read again as itself; what is read may be: in plain words. -/
import Derived.Test.YtjaeglllijafkaaDoorProg
import Derived.Test.YtjaeglllijafkaaDoorCartMakeB
import Derived.Test.YtjaeglllijafkaaDoorCartReadA
import Derived.Lib.Strings
namespace Go.Proofs.YtjaeglllijafkaaDoor
open Go.RowKit
set_option linter.unusedVariables false
set_option linter.unusedSimpArgs false

theorem putsL_get (vs : List Int) : ∀ (xs : List Int) (o i : Nat), o + vs.length ≤ xs.length → (putsL xs o vs)[i]?.getD 0 = if o ≤ i ∧ i < o + vs.length then vs[i - o]?.getD 0 else xs[i]?.getD 0 := by
  induction vs with
  | nil => intro xs o i _; rw [putsL, if_neg (by simp only [List.length_nil]; omega)]
  | cons v vs ih =>
    intro xs o i h
    rw [List.length_cons] at h
    rw [putsL, ih _ _ _ (by rw [List.length_set]; omega), List.length_cons]
    by_cases h1 : o + 1 ≤ i ∧ i < o + 1 + vs.length
    · rw [if_pos h1, if_pos (by omega), show i - o = (i - (o + 1)) + 1 by omega, List.getElem?_cons_succ]
    · rw [if_neg h1]
      by_cases h2 : i = o
      · subst h2
        rw [if_pos (by omega), Nat.sub_self, List.getElem?_cons_zero, List.getElem?_set_self (by omega)]
      · rw [if_neg (by omega), List.getElem?_set_ne (by omega)]
theorem set_get (xs : List Int) (j i : Nat) (v : Int) (h : j < xs.length) : (xs.set j v)[i]?.getD 0 = if i = j then v else xs[i]?.getD 0 := by
  by_cases h2 : i = j
  · subst h2; rw [if_pos rfl, List.getElem?_set_self h]; rfl
  · rw [if_neg h2, List.getElem?_set_ne (by omega)]
theorem b1N_get (xs : List Int) (A : Nat) (ti : ByteArray) (hA : A + 64 ≤ xs.length) (hs : ti.size ≤ 21) (j : Nat) : (b1N xs A ti)[A + j]?.getD 0 = if j < 21 then (padN ti)[j]?.getD 0 else if j < 32 then 0 else xs[A + j]?.getD 0 := by
  unfold b1N
  have hp := padN_length ti hs
  rw [putsL_get _ _ _ _ (by rw [putsL_length]; simp; omega), putsL_get _ _ _ _ (by omega), hp, List.length_replicate]
  by_cases h1 : j < 21
  · rw [if_neg (by omega), if_pos (by omega), if_pos h1, show A + j - A = j by omega]
  · rw [if_neg h1]
    by_cases h2 : j < 32
    · rw [if_pos (by omega), if_pos h2, List.getElem?_replicate]; split <;> rfl
    · rw [if_neg (by omega), if_neg (by omega), if_neg h2]
def kindV (ch : Int) : Int := if ch = 1 then 3 else if ch = 2 then 51 else 0
theorem kindS_get (xs : List Int) (A : Nat) (ch : Int) (h : A + 22 < xs.length) (h0 : xs[A + 22]?.getD 0 = 0) (i : Nat) : (kindS xs A ch)[i]?.getD 0 = if i = A + 22 then kindV ch else xs[i]?.getD 0 := by
  unfold kindS kindV
  by_cases h1 : ch = 1
  · rw [if_pos h1, if_pos h1, set_get _ _ _ _ h]
  · rw [if_neg h1, if_neg h1]
    by_cases h2 : ch = 2
    · rw [if_pos h2, if_pos h2, set_get _ _ _ _ h]
    · rw [if_neg h2, if_neg h2]
      by_cases h3 : i = A + 22
      · rw [if_pos h3, h3, h0]
      · rw [if_neg h3]
/-- The bytes of a card that is made. -/
def cardB (ti : ByteArray) (l : Int) (fa : Bool) (ch ram rs s : Int) (j : Nat) : Int :=
  if j < 21 then (padN ti)[j]?.getD 0 else if j = 21 then modeN l fa else if j = 22 then kindV ch else if j = 24 then sizeR ram else
    if j = 28 then (65535 - s) % 256 else if j = 29 then (65535 - s) / 256 else if j = 30 then s % 256 else if j = 31 then s / 256 else if j = 60 then rs % 256 else if j = 61 then rs / 256 else 0
/-- The sum. -/
def sumM (xs : List Int) (A : Nat) (ti : ByteArray) (l : Int) (fa : Bool) (ch ram rs : Int) : Int := sumK (b6N xs A ti l fa ch ram rs) (b6N xs A ti l fa ch ram rs).length
theorem made_get (xs : List Int) (A : Nat) (ti : ByteArray) (l : Int) (fa : Bool) (ch ram rs : Int) (hA : A + 64 ≤ xs.length) (hs : ti.size ≤ 21) (j : Nat) (hj : j < 32 ∨ j = 60 ∨ j = 61) :
    (madeN xs A ti l fa ch ram rs)[A + j]?.getD 0 = cardB ti l fa ch ram rs (sumM xs A ti l fa ch ram rs) j := by
  unfold madeN
  rw [show sumK (b6N xs A ti l fa ch ram rs) (b6N xs A ti l fa ch ram rs).length = sumM xs A ti l fa ch ram rs from rfl]
  obtain ⟨s, hs2⟩ : ∃ s, sumM xs A ti l fa ch ram rs = s := ⟨_, rfl⟩
  rw [hs2]
  have hl1 := b1N_length xs A ti
  have hl3 := b3N_length xs A ti l fa
  have hlk := kindS_length (b3N xs A ti l fa) A ch
  have hl6 := b6N_length xs A ti l fa ch ram rs
  have g1 := b1N_get xs A ti hA hs j
  have g3 : ∀ i, (b3N xs A ti l fa)[i]?.getD 0 = if i = A + 21 then modeN l fa else (b1N xs A ti)[i]?.getD 0 := fun i => set_get _ _ _ _ (by omega)
  have gk : ∀ i, (kindS (b3N xs A ti l fa) A ch)[i]?.getD 0 = if i = A + 22 then kindV ch else (b3N xs A ti l fa)[i]?.getD 0 := fun i => kindS_get _ _ _ (by omega) (by
    rw [g3, if_neg (by omega), b1N_get xs A ti hA hs 22]; rfl) i
  have g6 : (b6N xs A ti l fa ch ram rs)[A + j]?.getD 0 = if j = 61 then rs / 256 else if j = 60 then rs % 256 else if j = 24 then sizeR ram else if j = 22 then kindV ch else if j = 21 then modeN l fa else if j < 21 then (padN ti)[j]?.getD 0 else 0 := by
    unfold b6N
    rw [set_get _ _ _ _ (by simp; omega), set_get _ _ _ _ (by simp; omega), set_get _ _ _ _ (by omega), gk, g3, g1]
    simp only [Nat.add_left_cancel_iff]
    by_cases h61 : j = 61
    · rw [if_pos h61, if_pos h61]
    rw [if_neg h61, if_neg h61]
    by_cases h60 : j = 60
    · rw [if_pos h60, if_pos h60]
    rw [if_neg h60, if_neg h60]
    rw [if_pos (show j < 32 by omega)]
  unfold sealN
  rw [set_get _ _ _ _ (by simp; omega), set_get _ _ _ _ (by simp; omega), set_get _ _ _ _ (by simp; omega), set_get _ _ _ _ (by omega), g6]
  simp only [Nat.add_left_cancel_iff]
  unfold cardB
  by_cases h : j < 21
  · have k : ∀ q, 21 ≤ q → ¬ j = q := fun q hq => by omega
    rw [if_pos h, if_neg (k 31 (by omega)), if_neg (k 30 (by omega)), if_neg (k 29 (by omega)), if_neg (k 28 (by omega)), if_neg (k 61 (by omega)), if_neg (k 60 (by omega)), if_neg (k 24 (by omega)), if_neg (k 22 (by omega)), if_neg (k 21 (by omega)), if_pos h]
  · rw [if_neg h]
    have : j = 21 ∨ j = 22 ∨ j = 23 ∨ j = 24 ∨ j = 25 ∨ j = 26 ∨ j = 27 ∨ j = 28 ∨ j = 29 ∨ j = 30 ∨ j = 31 ∨ j = 60 ∨ j = 61 := by omega
    rcases this with rfl | rfl | rfl | rfl | rfl | rfl | rfl | rfl | rfl | rfl | rfl | rfl | rfl <;> simp
theorem trimL_pad (u : List UInt8) (k : Nat) : trimL (u ++ List.replicate k 32) (u.length + k) = trimL (u ++ List.replicate k 32) u.length := by
  have : ∀ j, j ≤ k → trimL (u ++ List.replicate k 32) (u.length + j) = trimL (u ++ List.replicate k 32) u.length := by
    intro j
    induction j with
    | zero => intro _; rfl
    | succ j ih =>
      intro h
      rw [← Nat.add_assoc, trimL, if_pos, ih (by omega)]
      rw [List.getElem?_append_right (by omega), List.getElem?_replicate, if_pos (by omega)]; rfl
  exact this k (Nat.le_refl _)
theorem trimL_own (u : List UInt8) (k : Nat) (h : u = [] ∨ u.getLast? ≠ some 32) : trimL (u ++ List.replicate k 32) u.length = u.length := by
  rcases List.eq_nil_or_concat u with rfl | ⟨p, x, rfl⟩
  · rfl
  · rw [List.concat_eq_append] at h ⊢
    have hx : x ≠ 32 := by
      rcases h with h | h
      · simp at h
      · intro e; apply h; rw [List.getLast?_append]; simp [e]
    rw [List.length_append, List.length_singleton, trimL, if_neg]
    rw [List.append_assoc, List.getElem?_append_right (Nat.le_refl _), Nat.sub_self]
    simpa using hx
theorem strOfNums_padN (ti : ByteArray) : (strOfNums (padN ti)).data.toList = ti.data.toList ++ List.replicate (21 - ti.size) 32 := by
  unfold strOfNums padN bytesI
  simp [List.map_append, Function.comp_def]
theorem trim_padN (ti : ByteArray) (hs : ti.size ≤ 21) (h : Lib.hasSuffix ti.data.toList [32] = false) : trimB (strOfNums (padN ti)) = ti := by
  have hl : ti.data.toList.length = ti.size := by simp
  have hz : (strOfNums (padN ti)).size = ti.size + (21 - ti.size) := by
    have h2 := congrArg List.length (strOfNums_padN ti)
    rw [List.length_append, List.length_replicate, hl] at h2
    rw [← h2]; simp
  have hlast : ti.data.toList = [] ∨ ti.data.toList.getLast? ≠ some 32 := by
    obtain ⟨u, hu⟩ : ∃ u, ti.data.toList = u := ⟨_, rfl⟩
    rw [hu] at h ⊢
    rcases List.eq_nil_or_concat u with rfl | ⟨p, x, rfl⟩
    · exact .inl rfl
    · right
      rw [List.concat_eq_append, List.getLast?_append]
      simp
      rintro rfl
      rw [List.concat_eq_append] at h
      have : Lib.hasSuffix (p ++ [32]) [32] = true := by
        unfold Lib.hasSuffix
        rw [List.isSuffixOf_iff_suffix]
        exact ⟨p, rfl⟩
      rw [this] at h; cases h
  unfold trimB
  rw [strOfNums_padN, hz, ← hl, trimL_pad, trimL_own _ _ hlast, hl]
  apply ByteArray.ext
  apply Array.toList_inj.1
  rw [Lib.extract_data, strOfNums_padN]
  simp
theorem modeN_bounds (l : Int) (fa : Bool) : 0 ≤ modeN l fa ∧ modeN l fa ≤ 53 := by
  unfold modeN m0N
  cases fa <;> (repeat' split) <;> simp_all
theorem kindV_bounds (ch : Int) : 0 ≤ kindV ch ∧ kindV ch ≤ 51 := by unfold kindV; (repeat' split) <;> omega
theorem made_fits (xs : List Int) (hf : Fits .u8 xs) (A : Nat) (ti : ByteArray) (l : Int) (fa : Bool) (ch ram rs : Int) (hr : ¬ sizeR ram = 255) (rs0 : 0 ≤ rs) (rs1 : rs ≤ 65535) : Fits .u8 (madeN xs A ti l fa ch ram rs) := by
  have hsz : 0 ≤ sizeR ram ∧ sizeR ram ≤ 9 := (sizeR_le ram).resolve_left hr
  have hmo := modeN_bounds l fa
  have hsum := sumK_bounds (b6N xs A ti l fa ch ram rs) (b6N xs A ti l fa ch ram rs).length
  have h1 : Fits .u8 (b1N xs A ti) := putsL_fits (fun x hx => by rw [(List.mem_replicate.1 hx).2]; decide) _ (putsL_fits (padN_fits ti) _ hf)
  have h3 : Fits .u8 (b3N xs A ti l fa) := fits_set h1 _ (by omega) (by omega)
  have hk : Fits .u8 (kindS (b3N xs A ti l fa) A ch) := by
    unfold kindS
    split
    · exact fits_set h3 _ (by omega) (by omega)
    · split
      · exact fits_set h3 _ (by omega) (by omega)
      · exact h3
  have h6 : Fits .u8 (b6N xs A ti l fa ch ram rs) := fits_set (fits_set (fits_set hk _ (by omega) (by omega)) _ (by omega) (by omega)) _ (by omega) (by omega)
  unfold madeN
  obtain ⟨s, hs⟩ : ∃ s, sumK (b6N xs A ti l fa ch ram rs) (b6N xs A ti l fa ch ram rs).length = s := ⟨_, rfl⟩
  rw [hs] at hsum ⊢
  exact fits_set (fits_set (fits_set (fits_set h6 _ (by omega) (by omega)) _ (by omega) (by omega)) _ (by omega) (by omega)) _ (by omega) (by omega)
/-- What is asked of a cartridge that is made. -/
structure GoodC (l ch : Int) (n : Nat) (ram : Int) (ti : ByteArray) (rs : Int) : Prop where
  l1 : 1 ≤ l
  l3 : l ≤ 3
  c2 : ch ≤ 2
  rz : ¬ sizeR ram = 255
  n0 : 32768 ≤ n
  n1 : n ≤ 8388608
  n2 : n % 1024 = 0
  np : placeN l + 64 ≤ n
  ts : ti.size ≤ 21
  tp : plainB ti = true
  tl : Lib.hasSuffix ti.data.toList [32] = false
  rs0 : 32768 ≤ rs
theorem good_of {l ch : Int} {n : Nat} {ram : Int} {ti : ByteArray} {rs : Int} (h : badN l ch n ram ti rs = false) : GoodC l ch n ram ti rs := by
  unfold badN isL badLen badName at h
  simp only [Bool.or_eq_false_iff, Bool.not_eq_false', decide_eq_true_eq, decide_eq_false_iff_not] at h
  obtain ⟨h0, h1, h2, h3, h4, ⟨⟨h5, h6⟩, h7⟩, h8⟩ := h
  exact ⟨h0.1, h0.2, by omega, h2, by omega, by omega, by omega, by omega, by omega, h6, h7, by omega⟩
section
variable {l ch : Int} {n : Nat} {ram : Int} {ti : ByteArray} {rs : Int}
theorem GoodC.at (g : GoodC l ch n ram ti rs) : placeN l = atN l ∧ 0 ≤ atN l := by
  refine ⟨if_pos ⟨g.l1, g.l3⟩, ?_⟩
  have := g.l1; have := g.l3
  unfold atN
  repeat' split
  all_goals omega
theorem GoodC.look (g : GoodC l ch n ram ti rs) : lookE n l = 0 := by
  have h := g.at; have := g.np
  unfold lookE
  rw [if_neg (by omega), if_neg (by omega)]
/-- The card of what is made. -/
def cardM (xs : List Int) (l ch ram : Int) (ti : ByteArray) (rs : Int) (fa : Bool) : Card :=
  ⟨ti, modeN l fa, kindV ch, sizeR ram, 65535 - sumM xs (placeN l).toNat ti l fa ch ram rs, sumM xs (placeN l).toNat ti l fa ch ram rs, rs⟩
theorem GoodC.card (g : GoodC l ch n ram ti rs) (xs : List Int) (hn : xs.length = n) (fa : Bool) (rs1 : rs ≤ 65535) : lookN (madeN xs (placeN l).toNat ti l fa ch ram rs) n l = cardM xs l ch ram ti rs fa := by
  have h := g.at; have := g.np
  unfold lookN
  rw [if_neg (by omega), ← h.1]
  obtain ⟨A, hA⟩ : ∃ A, (placeN l).toNat = A := ⟨_, rfl⟩
  have hA2 : A + 64 ≤ xs.length := by omega
  have hm := fun j hj => made_get xs A ti l fa ch ram rs hA2 g.ts j hj
  unfold cardM
  rw [hA]
  have hs := sumK_bounds (b6N xs A ti l fa ch ram rs) (b6N xs A ti l fa ch ram rs).length
  rw [show sumK (b6N xs A ti l fa ch ram rs) (b6N xs A ti l fa ch ram rs).length = sumM xs A ti l fa ch ram rs from rfl] at hs
  obtain ⟨s, hs2⟩ : ∃ s, sumM xs A ti l fa ch ram rs = s := ⟨_, rfl⟩
  rw [hs2] at hs hm ⊢
  obtain ⟨M, hM⟩ : ∃ M, madeN xs A ti l fa ch ram rs = M := ⟨_, rfl⟩
  rw [hM] at hm ⊢
  unfold cardN wordN
  rw [Nat.add_assoc, Nat.add_assoc, Nat.add_assoc]
  have hrs := g.rs0
  rw [hm 21 (by omega), hm 22 (by omega), hm 24 (by omega), hm 28 (by omega), hm (28 + 1) (by omega), hm 30 (by omega), hm (30 + 1) (by omega), hm 60 (by omega), hm (60 + 1) (by omega)]
  have e28 : cardB ti l fa ch ram rs s 28 + 256 * cardB ti l fa ch ram rs s (28 + 1) = 65535 - s := by show (65535 - s) % 256 + 256 * ((65535 - s) / 256) = _; omega
  have e30 : cardB ti l fa ch ram rs s 30 + 256 * cardB ti l fa ch ram rs s (30 + 1) = s := by show s % 256 + 256 * (s / 256) = _; omega
  have e60 : cardB ti l fa ch ram rs s 60 + 256 * cardB ti l fa ch ram rs s (60 + 1) = rs := by show rs % 256 + 256 * (rs / 256) = _; omega
  rw [e28, e30, e60]
  have et : titleN M A = ti := by
    unfold titleN
    rw [show winI M A 21 = padN ti from ?_, trim_padN ti g.ts g.tl]
    refine List.ext_getElem (by rw [winI_length, padN_length _ g.ts]) (fun j h1 h2 => ?_)
    rw [winI_length] at h1
    have h3 := hm j (by omega)
    unfold cardB at h3
    rw [if_pos h1, List.getElem?_eq_getElem h2] at h3
    simp only [winI, List.getElem_map, List.getElem_range]
    exact h3
  rw [et]
  rfl
theorem modeB_own {l : Int} (h1 : 1 ≤ l) (h3 : l ≤ 3) (fa : Bool) : modeB l (modeN l fa) = true := by
  have : l = 1 ∨ l = 2 ∨ l = 3 := by omega
  rcases this with rfl | rfl | rfl <;> cases fa <;> decide
theorem GoodC.score (g : GoodC l ch n ram ti rs) (xs : List Int) (fa : Bool) (hsum : True) : scoreN (cardM xs l ch ram ti rs fa) l = 9 := by
  have h := g.at
  have hs := sumK_bounds (b6N xs (placeN l).toNat ti l fa ch ram rs) (b6N xs (placeN l).toNat ti l fa ch ram rs).length
  unfold cardM scoreN
  simp only
  rw [if_neg (by omega), if_pos (by omega), if_pos (modeB_own g.l1 g.l3 fa), if_pos g.tp, if_pos g.rs0]; rfl
/-- No other layout's card scores as much. -/
def Alone (M : List Int) (n : Nat) (l : Int) : Prop := ∀ m : Nat, 1 ≤ m → m ≤ 3 → (m : Int) ≠ l → lookE n m = 0 → scoreN (lookN M n m) m < 9
theorem best_alone {M : List Int} {n : Nat} {l : Int} (h1 : 1 ≤ l) (h3 : l ≤ 3) (hl : lookE n l = 0) (hs : scoreN (lookN M n l) l = 9) (ha : Alone M n l) : ∀ k : Nat, k ≤ 3 → (l ≤ k → bestK M n k = (l, lookN M n l)) ∧ ((k : Int) < l → bestS M n k < 9) := by
  intro k
  induction k with
  | zero => intro _; refine ⟨fun h => absurd h (by omega), fun _ => ?_⟩; unfold bestS; rw [if_pos (show (bestK M n 0).1 = 0 from rfl)]; decide
  | succ k ih =>
    intro hk
    obtain ⟨i1, i2⟩ := ih (by omega)
    by_cases c1 : l ≤ k
    · have i1 := i1 c1
      refine ⟨fun _ => ?_, fun h => absurd h (by omega)⟩
      rw [bestK_succ, if_neg ?_, i1]
      rintro ⟨-, h | h⟩
      · rw [i1] at h; simp only at h; omega
      · have h5 : bestS M n k = 9 := by unfold bestS; rw [i1]; simp only; rw [if_neg (by omega)]; exact hs
        have := (scoreN_bounds (lookN M n (k + 1 : Nat)) (k + 1 : Nat)).2
        omega
    · have i2 := i2 (by omega)
      by_cases c2 : ((k + 1 : Nat) : Int) = l
      · refine ⟨fun _ => ?_, fun h => absurd h (by omega)⟩
        rw [bestK_succ, if_pos ⟨by rw [c2]; exact hl, .inr (by rw [c2, hs]; exact i2)⟩, c2]
      · refine ⟨fun h => absurd h (by omega), fun _ => ?_⟩
        by_cases c3 : lookE n (k + 1 : Nat) = 0 ∧ ((bestK M n k).1 = 0 ∨ bestS M n k < scoreN (lookN M n (k + 1 : Nat)) (k + 1 : Nat))
        · rw [bestS_new _ _ _ c3]; exact ha (k + 1) (by omega) hk c2 c3.1
        · rw [bestS_old _ _ _ c3]; exact i2
theorem ram_size {ram : Int} (h : ¬ sizeR ram = 255) : ramN (sizeR ram) = ram := by
  unfold sizeR at h ⊢
  repeat' split
  all_goals first | (subst ram; rfl) | (simp_all; done)
theorem kindV_chip {ch : Int} (h0 : 0 ≤ ch) (h2 : ch ≤ 2) : chipE (kindV ch) = 0 ∧ chipK (kindV ch) = ch := by
  have : ch = 0 ∨ ch = 1 ∨ ch = 2 := by omega
  rcases this with rfl | rfl | rfl <;> decide
theorem fast_own {l : Int} (h1 : 1 ≤ l) (h3 : l ≤ 3) (fa : Bool) : fastB (modeN l fa) = fa := by
  have : l = 1 ∨ l = 2 ∨ l = 3 := by omega
  rcases this with rfl | rfl | rfl <;> cases fa <;> decide
/-- What is made is read as it was. -/
def backC (M : List Int) (l ch ram : Int) (ti : ByteArray) (rs : Int) (fa : Bool) (ss : List Int) : CartR := ⟨l, ch, ram, ti, rs, fa, M, if ch = 1 then ss else []⟩
theorem GoodC.read (g : GoodC l ch n ram ti rs) (xs : List Int) (hn : xs.length = n) (fa : Bool) (c0 : 0 ≤ ch) (rs1 : rs ≤ 65535) (ha : Alone (madeN xs (placeN l).toNat ti l fa ch ram rs) n l) (ss : List Int) :
    (ss.length = 8192 ∨ ch ≠ 1 → readE (madeN xs (placeN l).toNat ti l fa ch ram rs) ss.length = 0 ∧ readC (madeN xs (placeN l).toNat ti l fa ch ram rs) ss = backC (madeN xs (placeN l).toNat ti l fa ch ram rs) l ch ram ti rs fa ss)
    ∧ (ss.length ≠ 8192 → ch = 1 → readE (madeN xs (placeN l).toNat ti l fa ch ram rs) ss.length = 34) := by
  have hlen := madeN_length xs (placeN l).toNat ti l fa ch ram rs
  have hcard := g.card xs hn fa rs1
  obtain ⟨M, hM⟩ : ∃ M, madeN xs (placeN l).toNat ti l fa ch ram rs = M := ⟨_, rfl⟩
  rw [hM] at hlen hcard ha ⊢
  have hb := (best_alone g.l1 g.l3 g.look (by rw [hcard]; exact g.score xs fa trivial) ha 3 (Nat.le_refl _)).1 g.l3
  rw [hcard] at hb
  have hn0 := g.n0; have hn1 := g.n1
  have hsz : 0 ≤ sizeR ram ∧ sizeR ram ≤ 9 := (sizeR_le ram).resolve_left g.rz
  obtain ⟨hk1, hk2⟩ := kindV_chip c0 g.c2
  have hE : ∀ q, readE M q = if ch = 1 ∧ q ≠ 8192 then 34 else 0 := by
    intro q
    unfold readE
    rw [hlen, hn, if_neg (by omega), if_neg (by omega), hb]
    show (if chipE (kindV ch) = 32 then 32 else if 9 < sizeR ram then 33 else if chipK (kindV ch) = 1 ∧ q ≠ 8192 then 34 else 0) = _
    rw [hk1, if_neg (by decide), if_neg (by omega), hk2]
  refine ⟨fun h => ?_, fun h h2 => by rw [hE, if_pos ⟨h2, h⟩]⟩
  have h0 : readE M ss.length = 0 := by rw [hE, if_neg (fun h3 => h.elim (fun h4 => h3.2 h4) (fun h4 => h4 h3.1))]
  refine ⟨h0, ?_⟩
  unfold readC
  rw [if_pos h0, hlen, hn, hb]
  show (⟨l, chipK (kindV ch), ramN (sizeR ram), ti, rs, fastB (modeN l fa), M, if chipK (kindV ch) = 1 then ss else []⟩ : CartR) = _
  rw [hk2, ram_size g.rz, fast_own g.l1 g.l3 fa]
  rfl
theorem GoodC.tail (g : GoodC l ch n ram ti rs) {M : List Int} (hn : M.length = n) : tailN M = M ∧ ∀ P : List Int, P.length = 512 → tailN (P ++ M) = M := by
  have := g.n2
  refine ⟨by unfold tailN; rw [if_neg (by omega)], fun P hP => ?_⟩
  unfold tailN
  rw [List.length_append, if_pos (by omega), ← hP, List.drop_left]
end
/-- What the best card is. -/
def Best (M : List Int) (n k : Nat) (p : Int × Card) : Prop :=
  (p.1 = 0 ∧ ∀ m : Nat, 1 ≤ m → m ≤ k → lookE n m ≠ 0) ∨
  (1 ≤ p.1 ∧ p.1 ≤ k ∧ p.2 = lookN M n p.1 ∧ lookE n p.1 = 0 ∧ ∀ m : Nat, 1 ≤ m → m ≤ k → lookE n m = 0 → scoreN (lookN M n m) m ≤ scoreN p.2 p.1)
theorem best_is (M : List Int) (n : Nat) : ∀ k, Best M n k (bestK M n k) := by
  intro k
  induction k with
  | zero => exact .inl ⟨rfl, fun m h1 h2 => absurd h1 (by omega)⟩
  | succ k ih =>
    by_cases c : lookE n (k + 1 : Nat) = 0 ∧ ((bestK M n k).1 = 0 ∨ bestS M n k < scoreN (lookN M n (k + 1 : Nat)) (k + 1 : Nat))
    · rw [bestK_succ, if_pos c]
      refine .inr ⟨by simp only; omega, Int.le_refl _, rfl, c.1, fun m h1 h2 h3 => ?_⟩
      rcases Nat.lt_or_ge k m with h | h
      · obtain rfl : m = k + 1 := by omega
        exact Int.le_refl _
      · rcases ih with ⟨-, i⟩ | ⟨i1, i2, i3, i4, i5⟩
        · exact absurd h3 (i m h1 h)
        · have := i5 m h1 h h3
          rcases c.2 with h4 | h4
          · omega
          · unfold bestS at h4
            rw [if_neg (by omega)] at h4
            show _ ≤ scoreN (lookN M n (k + 1 : Nat)) (k + 1 : Nat)
            omega
    · rw [bestK_succ, if_neg c]
      rcases ih with ⟨i0, i⟩ | ⟨i1, i2, i3, i4, i5⟩
      · refine .inl ⟨i0, fun m h1 h2 => ?_⟩
        rcases Nat.lt_or_ge k m with h | h
        · obtain rfl : m = k + 1 := by omega
          exact fun h3 => c ⟨h3, .inl i0⟩
        · exact i m h1 h
      · refine .inr ⟨i1, by omega, i3, i4, fun m h1 h2 h3 => ?_⟩
        rcases Nat.lt_or_ge k m with h | h
        · obtain rfl : m = k + 1 := by omega
          have h4 : ¬ bestS M n k < scoreN (lookN M n (k + 1 : Nat)) (k + 1 : Nat) := fun h4 => c ⟨h3, .inr h4⟩
          unfold bestS at h4
          rw [if_neg (by omega)] at h4
          omega
        · exact i5 m h1 h h3
/-- What is read may be. -/
structure SoundC (M : List Int) (C : CartR) : Prop where
  l1 : 1 ≤ C.l
  l3 : C.l ≤ 3
  c0 : 0 ≤ C.ch
  c2 : C.ch ≤ 2
  n0 : 32768 ≤ M.length
  n1 : M.length ≤ 8388608
  rom : C.rom = M
  ts : C.ti.size ≤ 21
  rz : ¬ sizeR C.ram = 255
  lk : lookE M.length C.l = 0
  ti : (lookN M M.length C.l).ti = C.ti
  re : (lookN M M.length C.l).re = C.rs
  top : ∀ m : Nat, 1 ≤ m → m ≤ 3 → lookE M.length m = 0 → scoreN (lookN M M.length m) m ≤ scoreN (lookN M M.length C.l) C.l
  sg : C.ch = 1 ↔ C.sig.length = 8192
theorem lookN_title (M : List Int) (n : Nat) (l : Int) : (lookN M n l).ti.size ≤ 21 := by
  unfold lookN
  split
  · decide
  · exact titleN_size _ _
theorem sizeR_ram {rz : Int} (h0 : 0 ≤ rz) (h : rz ≤ 9) : ¬ sizeR (ramN rz) = 255 := by
  have : rz = 0 ∨ rz = 1 ∨ rz = 2 ∨ rz = 3 ∨ rz = 4 ∨ rz = 5 ∨ rz = 6 ∨ rz = 7 ∨ rz = 8 ∨ rz = 9 := by omega
  rcases this with rfl | rfl | rfl | rfl | rfl | rfl | rfl | rfl | rfl | rfl <;> decide
theorem sound_of {M ss : List Int} (hr : 0 ≤ (bestK M M.length 3).2.rz) (h : readE M ss.length = 0) : SoundC M (readC M ss) := by
  have hC : readC M ss = ⟨(bestK M M.length 3).1, chipK (bestK M M.length 3).2.ki, ramN (bestK M M.length 3).2.rz, (bestK M M.length 3).2.ti, (bestK M M.length 3).2.re, fastB (bestK M M.length 3).2.mo, M, if chipK (bestK M M.length 3).2.ki = 1 then ss else []⟩ := by unfold readC; rw [if_pos h]
  have hb := best_is M M.length 3
  obtain ⟨n, hn⟩ : ∃ n, M.length = n := ⟨_, rfl⟩
  unfold readE at h
  rw [hn] at h hC hb hr
  obtain ⟨⟨l, K⟩, hp⟩ : ∃ p, bestK M n 3 = p := ⟨_, rfl⟩
  rw [hp] at h hC hb hr
  simp only at h hC hr
  by_cases a0 : n < 32768
  · rw [if_pos a0] at h; omega
  rw [if_neg a0] at h
  by_cases a1 : 8388608 < n
  · rw [if_pos a1] at h; omega
  rw [if_neg a1] at h
  by_cases a2 : chipE K.ki = 32
  · rw [if_pos a2] at h; omega
  rw [if_neg a2] at h
  by_cases a3 : 9 < K.rz
  · rw [if_pos a3] at h; omega
  rw [if_neg a3] at h
  have hsl : chipK K.ki = 1 → ss.length = 8192 := by
    intro h1
    by_cases h2 : ss.length = 8192
    · exact h2
    · rw [if_pos ⟨h1, h2⟩] at h; omega
  have hck : 0 ≤ chipK K.ki ∧ chipK K.ki ≤ 2 := by unfold chipK; (repeat' split) <;> omega
  have hE1 : lookE n 1 = 0 := by unfold lookE; rw [show atN 1 = 32704 from rfl, if_neg (by omega), if_neg (by omega)]
  rcases hb with ⟨i0, i⟩ | ⟨i1, i2, i3, i4, i5⟩
  · exact absurd hE1 (i 1 (by omega) (by omega))
  simp only at i1 i2 i3 i4 i5
  have hl3 : l ≤ 3 := i2
  refine ⟨?_, ?_, ?_, ?_, ?_, ?_, ?_, ?_, ?_, ?_, ?_, ?_, ?_, ?_⟩ <;> (first | rw [hC] | skip) <;> simp only [hn]
  · exact i1
  · exact hl3
  · exact hck.1
  · exact hck.2
  · omega
  · omega
  · rw [i3]; exact lookN_title _ _ _
  · exact sizeR_ram hr (by omega)
  · exact i4
  · rw [i3]
  · rw [i3]
  · rw [← i3]; exact i5
  · by_cases h1 : chipK K.ki = 1
    · simp [h1, hsl h1]
    · simp [h1]
theorem read_names (M : List Int) (q : Nat) (h : ¬ readE M q = 0) : readE M q = 30 ∨ readE M q = 31 ∨ readE M q = 32 ∨ readE M q = 33 ∨ (readE M q = 34 ∧ q ≠ 8192) := by
  unfold readE at h ⊢
  repeat' split
  all_goals first | simp_all | omega
theorem tail_length (xs : List Int) : xs.length = (tailN xs).length ∨ xs.length = (tailN xs).length + 512 := by
  unfold tailN
  split
  · rw [List.length_drop]; omega
  · exact .inl rfl
end Go.Proofs.YtjaeglllijafkaaDoor
