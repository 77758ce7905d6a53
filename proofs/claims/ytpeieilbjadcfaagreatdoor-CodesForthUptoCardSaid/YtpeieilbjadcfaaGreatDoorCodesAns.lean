/- What Bytes answers, in plain words: the first code of a name whose text it is; an answer is one alone; a told text leads back; no program. -/
import Derived.Test.YtpeieilbjadcfaaGreatDoorCodesAdj
import Derived.Test.YtpeieilbjadcfaaGreatDoorCodesKey
import Derived.Test.YtpeieilbjadcfaaGreatDoorCodesNamed
namespace Go.Proofs.YtpeieilbjadcfaaGreatDoor
open Go.RowKit
set_option linter.unusedVariables false

/-- These operand bytes of this code have this text. -/
def TxtO (k : Nat) (o : List Int) (pc p : Nat) (s : ByteArray) : Prop := o.length = opK k p ∧ Fits .u8 o ∧ textB k (leN o).toNat (opK k p) pc = s
def nameOf (s : ByteArray) : ByteArray := ⟨(Lib.cut s.data.toList [32]).1.toArray⟩
def restOf (s : ByteArray) : List UInt8 := (Lib.cut s.data.toList [32]).2.1
def codesOf (s : ByteArray) : List Int := namedL (nameOf s) (firstC 256 (Nat.le_refl _))
/-- A $ and four digits. -/
def isTgt (l : List UInt8) : Bool := decide (l.length = 5) && decide (l[0]?.getD 0 = 36) && (l.drop 1).all isHex
/-- The operand that the program tries. -/
def progO (k : Nat) (rest : List UInt8) (pc p : Nat) : List Int := leB (adjN (modeN k) (opK k p) (numsN rest) pc) (opK k p)
/-- The operand that the document tries. -/
def adjW (m n : Nat) (z : Int) (pc : Nat) : Int := if m = 3 ∨ m = 4 then IntKind.i64.wrap (z - pc - 1 - n + 131072) else if m = 23 then (z.tdiv 256).tmod 256 + z.tmod 256 * 256 else z
def refO (k : Nat) (s : ByteArray) (pc p : Nat) : List Int := reB (adjW (modeN k) (opK k p) (IntKind.i64.wrap (numR 0 false (s.data.toList.drop 4) : Nat)) pc) (opK k p)
theorem progO_length (k : Nat) (rest : List UInt8) (pc p : Nat) : (progO k rest pc p).length = opK k p := leB_length _ _
theorem progO_fits (k : Nat) (rest : List UInt8) (pc p : Nat) : Fits .u8 (progO k rest pc p) := leB_fits _ _
theorem refO_length (k : Nat) (s : ByteArray) (pc p : Nat) : (refO k s pc p).length = opK k p := reB_length _ _
theorem refO_fits (k : Nat) (s : ByteArray) (pc p : Nat) : Fits .u8 (refO k s pc p) := reB_fits _ _

theorem names_blank : ∀ c ∈ namesT.data.toList, c ≠ 32 := by decide +kernel
theorem name_blank (k : Nat) : ∀ c ∈ (nameB k).data.toList, c ≠ 32 := by
  intro c hc
  unfold nameB at hc
  rw [ByteArray.data_extract, Array.toList_extract, List.extract_eq_take_drop] at hc
  exact names_blank c (List.mem_of_mem_drop (List.mem_of_mem_take hc))
theorem name_size (k : Nat) (hk : k < 256) : (nameB k).data.toList.length = 3 := by
  have := (tab_lim ⟨k, hk⟩).1
  simpa using this
theorem name_list (s : ByteArray) : (⟨s.data.toList.toArray⟩ : ByteArray) = s := by simp
/-- A told text's parts. -/
theorem txt_parts (k pc p : Nat) (o : List Int) (s : ByteArray) (hk : k < 256) (h : TxtO k o pc p s) :
    nameOf s = nameB k ∧ (modeN k = 0 → s = nameB k) ∧ (modeN k ≠ 0 → restOf s = toldL (modeN k) (opK k p) (leN o).toNat pc ∧ s.data.toList.drop 4 = toldL (modeN k) (opK k p) (leN o).toNat pc ∧ s.data.toList = (nameB k).data.toList ++ 32 :: toldL (modeN k) (opK k p) (leN o).toNat pc) := by
  obtain ⟨_, _, h⟩ := h
  unfold textB at h
  by_cases h0 : modeN k = 0
  · rw [if_pos h0] at h
    subst h
    refine ⟨?_, fun _ => rfl, fun h => absurd h0 h⟩
    unfold nameOf
    rw [cut_none 32 _ (name_blank k)]
  · rw [if_neg h0] at h
    have hl : s.data.toList = (nameB k).data.toList ++ 32 :: toldL (modeN k) (opK k p) (leN o).toNat pc := by rw [← h]; simp [bytesB]
    refine ⟨?_, fun h => absurd h h0, fun _ => ⟨?_, ?_, hl⟩⟩
    · unfold nameOf
      rw [hl, cut_hit 32 _ _ (name_blank k)]
    · unfold restOf
      rw [hl, cut_hit 32 _ _ (name_blank k)]
    · rw [hl, show (nameB k).data.toList ++ 32 :: toldL (modeN k) (opK k p) (leN o).toNat pc = ((nameB k).data.toList ++ [32]) ++ toldL (modeN k) (opK k p) (leN o).toNat pc by simp]
      exact List.drop_left' (by rw [List.length_append, name_size k hk]; rfl)
theorem mode_lim (k : Nat) (hk : k < 256) : modeN k ≤ 25 := (tab_lim ⟨k, hk⟩).2.2.1
theorem told_back (k pc p : Nat) (o : List Int) (s : ByteArray) (hk : k < 256) (hpc : pc < 65536) (h : TxtO k o pc p s) : progO k (restOf s) pc p = o ∧ refO k s pc p = o := by
  have hm := mode_lim k hk
  have hop := opN_of (modeN k) (widthN k) p hm
  have hp := txt_parts k pc p o s hk h
  obtain ⟨h1, h2, _⟩ := h
  have hn3 := opN_le (modeN k) (widthN k) p
  have hx := leN_lim o h2 _ h1
  have hb := leB_leN o h2
  rw [h1] at hb
  by_cases h01 : modeN k = 0 ∨ modeN k = 1
  · have h0 : opK k p = 0 := hop.1 h01
    rw [h0] at h1
    obtain rfl := List.eq_nil_of_length_eq_zero h1
    unfold progO refO
    rw [h0]
    exact ⟨rfl, rfl⟩
  · obtain ⟨hr, hd, _⟩ := hp.2.2 (by omega)
    unfold progO refO
    rw [hr, hd]
    have ha := adj_told (modeN k) (opK k p) (leN o).toNat pc hpc hm (by omega) hop.2.1 hop.2.2 hn3 hx
    have hz := (told_nums (modeN k) (opK k p) (leN o).toNat pc (by omega) hm hn3 (fun h => hop.2.2 (.inr h)) hx).2
    refine ⟨ha.1.trans hb, ?_⟩
    refine Eq.trans ?_ (ha.2.trans hb)
    obtain ⟨Z, hZ⟩ : ∃ Z, numR 0 false (toldL (modeN k) (opK k p) (leN o).toNat pc) = Z := ⟨_, rfl⟩
    rw [hZ] at hz ⊢
    have h16 : (leN o).toNat < 16777216 := Nat.lt_of_lt_of_le hx (by rw [show (16777216 : Nat) = 256 ^ 3 from rfl]; exact Nat.pow_le_pow_right (by decide) hn3)
    have hZ2 : Z < 16777216 := by
      rw [hz]
      split
      · unfold tgtN; omega
      · split <;> omega
    rw [show IntKind.i64.wrap (Z : Int) = (Z : Int) by rw [IntWalk.i64_in _ (by omega)]]
    congr 1
    unfold adjW adjR
    split
    · have hn3' : opK k p ≤ 3 := hn3
      rw [IntWalk.i64_in _ (by omega)]
    · rfl
theorem txt_one (k pc p : Nat) (o o' : List Int) (s : ByteArray) (hk : k < 256) (hpc : pc < 65536) (h : TxtO k o pc p s) (h' : TxtO k o' pc p s) : o = o' :=
  (told_back k pc p o s hk hpc h).1.symm.trans (told_back k pc p o' s hk hpc h').1

theorem mem_firstC (k : Nat) (h : k ≤ 256) (x : Fin 256) (hx : x.1 < k) : x ∈ firstC k h := by
  induction k with
  | zero => exact absurd hx (Nat.not_lt_zero _)
  | succ k ih =>
    unfold firstC
    rcases Nat.lt_succ_iff_lt_or_eq.1 hx with h1 | h1
    · exact List.mem_append_left _ (ih _ h1)
    · exact List.mem_append_right _ (List.mem_singleton.2 (Fin.ext h1))
theorem mem_codes (s : ByteArray) (j : Int) : j ∈ codesOf s ↔ ∃ x : Fin 256, nameB x.1 = nameOf s ∧ j = ((x.1 : Nat) : Int) := by
  unfold codesOf namedL
  constructor
  · intro h
    obtain ⟨x, hx, rfl⟩ := List.mem_map.1 h
    exact ⟨x, by simpa using (List.mem_filter.1 hx).2, rfl⟩
  · rintro ⟨x, hx, rfl⟩
    exact List.mem_map.2 ⟨x, List.mem_filter.2 ⟨mem_firstC 256 _ x x.2, by simpa using hx⟩, rfl⟩
theorem codes_nat (s : ByteArray) (j : Int) (h : j ∈ codesOf s) : ∃ k : Nat, k < 256 ∧ j = (k : Int) ∧ nameB k = nameOf s := by
  obtain ⟨x, h1, h2⟩ := (mem_codes s j).1 h
  exact ⟨x.1, x.2, h2, h1⟩

/-- The document's look at a target. -/
def tgtS (s : ByteArray) : Bool := decide (s.size = 9) && decide (byteN s 3 = 32) && decide (byteN s 4 = 36) && (isHex (byteN s 5) && isHex (byteN s 6) && isHex (byteN s 7) && isHex (byteN s 8))
theorem tgt_same (s : ByteArray) (h : (nameOf s).size = 3) : tgtS s = isTgt (restOf s) := by
  have hsz : s.size = s.data.toList.length := by simp
  unfold nameOf at h
  unfold tgtS restOf byteN
  rw [hsz]
  rcases first_cut 32 s.data.toList with hn | ⟨a, b, e, hn⟩
  · rw [cut_none 32 _ hn] at h ⊢
    have : s.data.toList.length = 3 := by
      have h2 : (s.data.toList.toArray).size = 3 := h
      rwa [List.size_toArray] at h2
    rw [this]; rfl
  · rw [e, cut_hit 32 _ _ hn] at h
    rw [e, cut_hit 32 _ _ hn]
    have h3 : a.length = 3 := by
      have h2 : (a.toArray).size = 3 := h
      rwa [List.size_toArray] at h2
    obtain ⟨a0, a1, a2, rfl⟩ : ∃ a0 a1 a2, a = [a0, a1, a2] := by
      match a, h3 with
      | [a0, a1, a2], _ => exact ⟨a0, a1, a2, rfl⟩
    by_cases h5 : b.length = 5
    · obtain ⟨b0, b1, b2, b3, b4, rfl⟩ : ∃ b0 b1 b2 b3 b4, b = [b0, b1, b2, b3, b4] := by
        match b, h5 with
        | [b0, b1, b2, b3, b4], _ => exact ⟨b0, b1, b2, b3, b4, rfl⟩
      simp [isTgt, Bool.and_assoc]
    · have e1 : decide (([a0, a1, a2] ++ 32 :: b).length = 9) = false := by
        rw [decide_eq_false_iff_not, List.length_append, List.length_cons]
        show ¬ 3 + (b.length + 1) = 9
        omega
      rw [e1]
      simp [isTgt, h5]
/-- The error behind some codes of a name. -/
def errE (l : List Int) (t : Bool) : Nat := if (l.any fun j => decide (modeN j.toNat = 3)) && t then 62 else 61
theorem errE_snoc (l : List Int) (j : Int) (t : Bool) : errE (l ++ [j]) t = if decide (modeN j.toNat = 3) && t then 62 else errE l t := by
  unfold errE
  rw [List.any_append]
  simp only [List.any_cons, List.any_nil, Bool.or_false]
  cases (l.any fun j => decide (modeN j.toNat = 3)) <;> cases decide (modeN j.toNat = 3) <;> cases t <;> rfl

/-- What Bytes answers: the bytes and the error. -/
def AnsR (s : ByteArray) (pc p : Nat) (bs : List Int) (e : Nat) : Prop :=
  (codesOf s = [] ∧ bs = [] ∧ e = 60) ∨
  (∃ (pre : List Int) (k : Nat) (post o : List Int), codesOf s = pre ++ (k : Int) :: post ∧ (∀ j : Nat, (j : Int) ∈ pre → ¬ ∃ o, TxtO j o pc p s) ∧ TxtO k o pc p s ∧ bs = (k : Int) :: o ∧ e = 0) ∨
  (codesOf s ≠ [] ∧ (∀ j : Nat, (j : Int) ∈ codesOf s → ¬ ∃ o, TxtO j o pc p s) ∧ bs = [] ∧ e = errE (codesOf s) (isTgt (restOf s)))
theorem split_unique {pre pre' post post' : List Int} {k k' : Int} (Q : Int → Prop) (h : pre ++ k :: post = pre' ++ k' :: post') (hk : Q k) (hk' : Q k') (hp : ∀ j ∈ pre, ¬ Q j) (hp' : ∀ j ∈ pre', ¬ Q j) : k = k' := by
  induction pre generalizing pre' with
  | nil =>
    cases pre' with
    | nil => exact (List.cons.inj h).1
    | cons a r => exact absurd ((List.cons.inj h).1 ▸ hk) (hp' a List.mem_cons_self)
  | cons a r ih =>
    cases pre' with
    | nil => exact absurd ((List.cons.inj h).1.symm ▸ hk') (hp a List.mem_cons_self)
    | cons b r' => exact ih (List.cons.inj h).2 (fun j hj => hp j (List.mem_cons_of_mem _ hj)) (fun j hj => hp' j (List.mem_cons_of_mem _ hj))
theorem mem_mid {l pre post : List Int} {k : Int} (h : l = pre ++ k :: post) : k ∈ l := by
  subst h; simp
theorem ans_one (s : ByteArray) (pc p : Nat) (hpc : pc < 65536) (bs bs' : List Int) (e e' : Nat) (h : AnsR s pc p bs e) (h' : AnsR s pc p bs' e') : bs = bs' ∧ e = e' := by
  rcases h with ⟨h1, hb, he⟩ | ⟨pre, k, post, o, h1, h2, h3, hb, he⟩ | ⟨h1, h2, hb, he⟩
  · rcases h' with ⟨_, gb, ge⟩ | ⟨pre', k', post', o', g1, _⟩ | ⟨g1, _⟩
    · exact ⟨hb.trans gb.symm, he.trans ge.symm⟩
    · rw [h1] at g1; exact absurd g1.symm (by simp)
    · exact absurd h1 g1
  · rcases h' with ⟨g1, _⟩ | ⟨pre', k', post', o', g1, g2, g3, gb, ge⟩ | ⟨_, g2, _⟩
    · rw [g1] at h1; exact absurd h1.symm (by simp)
    · have hkk := split_unique (fun j => ∃ n : Nat, j = (n : Int) ∧ ∃ o, TxtO n o pc p s) (h1.symm.trans g1) ⟨k, rfl, o, h3⟩ ⟨k', rfl, o', g3⟩ (fun j hj ⟨n, e, x⟩ => by rw [e] at hj; exact h2 n hj x) (fun j hj ⟨n, e, x⟩ => by rw [e] at hj; exact g2 n hj x)
      have hkk2 : k = k' := by omega
      subst hkk2
      obtain ⟨n, hn, en, _⟩ := codes_nat s _ (mem_mid h1)
      have hk : k < 256 := by omega
      exact ⟨by rw [hb, gb, txt_one k pc p o o' s hk hpc h3 g3], he.trans ge.symm⟩
    · exact absurd ⟨o, h3⟩ (g2 k (mem_mid h1))
  · rcases h' with ⟨g1, _⟩ | ⟨pre', k', post', o', g1, g2, g3, gb, ge⟩ | ⟨_, g2, gb, ge⟩
    · exact absurd g1 h1
    · exact absurd ⟨o', g3⟩ (h2 k' (mem_mid g1))
    · exact ⟨hb.trans gb.symm, he.trans ge.symm⟩

/-- A text's shape: its digits as noughts. -/
def shpB (c : UInt8) : UInt8 := if isHex c = true then 48 else c
def shpL (l : List UInt8) : List UInt8 := l.map shpB
theorem shp_hex (n : Nat) : ∀ v, shpL (hexL false v n) = List.replicate n 48 := by
  induction n with
  | zero => intro v; rfl
  | succ n ih =>
    intro v
    have : shpB (hexD false (v % 16)) = 48 := by
      have := (hexD_is ⟨v % 16, by omega⟩).1
      unfold shpB
      rw [if_pos this]
    unfold shpL at ih ⊢
    rw [hexL, List.map_append, ih, List.map_singleton, this, ← List.replicate_succ']
theorem shp_sign (n : Nat) (v : Nat) : ∀ l : List UInt8, shpL (signG (numL v n) l) = shpL (signG (numL 0 n) l) := by
  intro l
  have hnum : shpL (numL v n) = shpL (numL 0 n) := by
    unfold numL
    show shpB 36 :: shpL (hexL false v (2 * n)) = shpB 36 :: shpL (hexL false 0 (2 * n))
    rw [shp_hex, shp_hex]
  induction l with
  | nil => rfl
  | cons c r ih =>
    unfold shpL at ih hnum ⊢
    rw [signG, signG, List.map_append, List.map_append, ih]
    congr 1
    split
    · exact hnum
    · split
      · rw [List.map_cons, List.map_cons, hnum]
      · rfl
theorem shp_told (m n x pc : Nat) : shpL (toldL m n x pc) = shpL (toldL m n 0 0) := by
  unfold toldL
  split
  · rfl
  · split
    · show shpB 36 :: shpL (hexL false _ 4) = shpB 36 :: shpL (hexL false _ 4)
      rw [shp_hex, shp_hex]
    · split
      · have e : ∀ a b : List UInt8, shpL (a ++ b) = shpL a ++ shpL b := fun a b => List.map_append
        have e2 : ∀ (c : UInt8) (b : List UInt8), shpL (c :: b) = shpB c :: shpL b := fun c b => List.map_cons ..
        simp only [e, e2, shp_hex]
      · split
        · unfold numL
          show shpB 36 :: shpL (hexL false _ _) = shpB 36 :: shpL (hexL false _ _)
          rw [shp_hex, shp_hex]
        · exact shp_sign n x _
/-- How many bytes an operand has, by whether it is wide. -/
def opW (m : Nat) (b : Bool) : Nat := if m = 0 ∨ m = 1 then 0 else if m = 16 ∨ m = 17 then 3 else if m = 4 ∨ m = 13 ∨ m = 14 ∨ m = 15 ∨ m = 18 ∨ m = 19 ∨ m = 20 ∨ m = 23 ∨ m = 25 then 2 else if m = 2 ∧ b = true then 2 else 1
theorem opW_of (m w p : Nat) : opN m w p = opW m (wideB w p) := rfl
theorem shp_apart : ∀ m m' : Fin 26, ∀ b b' : Bool, (m : Nat) ≠ m' → (m : Nat) ≠ 0 → (m' : Nat) ≠ 0 → ¬ ((m : Nat) = 3 ∨ (m : Nat) = 4 ∨ (m : Nat) = 24 ∨ (m : Nat) = 25) → ¬ ((m' : Nat) = 3 ∨ (m' : Nat) = 4 ∨ (m' : Nat) = 24 ∨ (m' : Nat) = 25) →
    shpL (toldL m (opW m b) 0 0) ≠ shpL (toldL m' (opW m' b') 0 0) := by decide +kernel
/-- A name with a branch, a signature or a word has this mode alone. -/
theorem key_alone : ∀ a ∈ keyT, (a % 256 = 3 ∨ a % 256 = 4 ∨ a % 256 = 24 ∨ a % 256 = 25) → ∀ b ∈ keyT, a / 256 = b / 256 → a % 256 = b % 256 := by decide +kernel
theorem name_alone (k k' : Nat) (hk : k < 256) (hk' : k' < 256) (hn : nameB k = nameB k') (hm : modeN k = 3 ∨ modeN k = 4 ∨ modeN k = 24 ∨ modeN k = 25) : modeN k = modeN k' := by
  have in1 : ∀ j, j < 256 → keyN j ∈ keyT := fun j hj => by
    rw [key_ok j hj, List.getElem?_eq_getElem (by rw [keyT_length]; exact hj)]
    exact List.getElem_mem _
  have l1 := mode_lim k hk
  have l2 := mode_lim k' hk'
  have a1 : keyN k % 256 = modeN k := by unfold keyN; omega
  have a2 : keyN k' % 256 = modeN k' := by unfold keyN; omega
  have a3 : keyN k / 256 = nameK (nameB k) := by unfold keyN; omega
  have a4 : keyN k' / 256 = nameK (nameB k') := by unfold keyN; omega
  have := key_alone (keyN k) (in1 k hk) (by rw [a1]; exact hm) (keyN k') (in1 k' hk') (by rw [a3, a4, hn])
  rw [a1, a2] at this
  exact this
/-- Two codes of one name have no text in common. -/
theorem txt_apart (k k' pc p : Nat) (o o' : List Int) (s : ByteArray) (hk : k < 256) (hk' : k' < 256) (h : TxtO k o pc p s) (h' : TxtO k' o' pc p s) : k = k' := by
  have hp := txt_parts k pc p o s hk h
  have hp' := txt_parts k' pc p o' s hk' h'
  have hn : nameB k = nameB k' := hp.1.symm.trans hp'.1
  refine codes_unlike k k' hk hk' hn ?_
  refine Classical.byContradiction fun hne => ?_
  by_cases ha : modeN k = 3 ∨ modeN k = 4 ∨ modeN k = 24 ∨ modeN k = 25
  · exact hne (name_alone k k' hk hk' hn ha)
  by_cases ha' : modeN k' = 3 ∨ modeN k' = 4 ∨ modeN k' = 24 ∨ modeN k' = 25
  · exact hne (name_alone k' k hk' hk hn.symm ha').symm
  have len : ∀ j j' n x, j' < 256 → nameB j = nameB j' → s = nameB j → s.data.toList = (nameB j').data.toList ++ 32 :: toldL (modeN j') n x pc → False := fun j j' n x hj' e e1 e2 => by
    rw [e1, e] at e2
    have := congrArg List.length e2
    rw [List.length_append, List.length_cons] at this
    omega
  by_cases h0 : modeN k = 0
  · have h0' : modeN k' ≠ 0 := fun e => hne (h0.trans e.symm)
    exact len k k' _ _ hk' hn (hp.2.1 h0) (hp'.2.2 h0').2.2
  by_cases h0' : modeN k' = 0
  · exact len k' k _ _ hk hn.symm (hp'.2.1 h0') (hp.2.2 h0).2.2
  have e := (hp.2.2 h0).2.1.symm.trans (hp'.2.2 h0').2.1
  have e2 := congrArg shpL e
  rw [shp_told (modeN k), shp_told (modeN k')] at e2
  have q1 : opK k p = opW (modeN k) (wideB (widthN k) p) := rfl
  have q2 : opK k' p = opW (modeN k') (wideB (widthN k') p) := rfl
  rw [q1, q2] at e2
  have l1 := mode_lim k hk
  have l2 := mode_lim k' hk'
  obtain ⟨b, hb⟩ : ∃ b, wideB (widthN k) p = b := ⟨_, rfl⟩
  obtain ⟨b', hb'⟩ : ∃ b, wideB (widthN k') p = b := ⟨_, rfl⟩
  obtain ⟨m, hm⟩ : ∃ m, modeN k = m := ⟨_, rfl⟩
  obtain ⟨m', hm'⟩ : ∃ m, modeN k' = m := ⟨_, rfl⟩
  rw [hm, hb, hm', hb'] at e2
  rw [hm] at l1 hne h0 ha
  rw [hm'] at l2 hne h0' ha'
  exact shp_apart ⟨m, Nat.lt_succ_of_le l1⟩ ⟨m', Nat.lt_succ_of_le l2⟩ b b' hne h0 h0' ha ha' e2
/-- A told text leads back to its bytes. -/
theorem ans_back (k pc p : Nat) (o bs : List Int) (s : ByteArray) (e : Nat) (hk : k < 256) (hpc : pc < 65536) (h : TxtO k o pc p s) (ha : AnsR s pc p bs e) : bs = (k : Int) :: o ∧ e = 0 := by
  have hin : (k : Int) ∈ codesOf s := (mem_codes s _).2 ⟨⟨k, hk⟩, (txt_parts k pc p o s hk h).1.symm, rfl⟩
  rcases ha with ⟨h1, _⟩ | ⟨pre, k', post, o', h1, h2, h3, hb, he⟩ | ⟨h1, h2, _⟩
  · rw [h1] at hin; cases hin
  · obtain ⟨n, hn, en, _⟩ := codes_nat s (k' : Int) (mem_mid h1)
    have hk' : k' < 256 := by omega
    have := txt_apart k k' pc p o o' s hk hk' h h3
    subst this
    exact ⟨by rw [hb, txt_one k pc p o o' s hk hpc h h3], he⟩
  · exact absurd ⟨o, h⟩ (h2 k hin)
end Go.Proofs.YtpeieilbjadcfaaGreatDoor
