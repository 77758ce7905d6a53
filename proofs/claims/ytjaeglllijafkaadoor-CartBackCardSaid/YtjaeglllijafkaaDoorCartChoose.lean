/- Which layout's card fits best: cart.choose; what chip a kind is. -/
import Derived.Test.YtjaeglllijafkaaDoorProg
import Derived.Test.YtjaeglllijafkaaDoorCartCard
import Derived.Test.YtjaeglllijafkaaDoorCartScore
import Derived.Deep.LoopGhost
import Derived.WalkMore
namespace Go.Proofs.YtjaeglllijafkaaDoor
open Go.RowKit
set_option linter.unusedVariables false
set_option linter.unusedSimpArgs false

theorem wordN_bounds {xs : List Int} (hf : Fits .u8 xs) (A : Nat) (h : A + 1 < xs.length) : 0 ≤ wordN xs A ∧ wordN xs A ≤ 65535 := by
  have h1 := hf.u8 (show A < xs.length by omega)
  have h2 := hf.u8 h
  unfold wordN; omega
theorem trimB_size (t : ByteArray) : (trimB t).size ≤ t.size := by
  unfold trimB
  rw [extract_size _ _ (trimL_le _ _)]
  exact trimL_le _ _
theorem titleN_size (xs : List Int) (A : Nat) : (titleN xs A).size ≤ 21 := by
  have h := trimB_size (strOfNums (winI xs A 21))
  rw [strOfNums_size, winI_length] at h
  exact h
theorem noCard_fits : noCard.Fits := ⟨by decide, by decide, by decide, by decide, by decide, by decide, by decide⟩
theorem cardN_fits {xs : List Int} (hf : Fits .u8 xs) (A : Nat) (h : A + 64 ≤ xs.length) : (cardN xs A).Fits :=
  ⟨hf.u8 (by omega), hf.u8 (by omega), hf.u8 (by omega), wordN_bounds hf _ (by omega), wordN_bounds hf _ (by omega), wordN_bounds hf _ (by omega), by have := titleN_size xs A; show (titleN xs A).size ≤ _; omega⟩
theorem lookN_fits {xs : List Int} {n : Nat} (hf : Fits .u8 xs) (hn : xs.length = n) (l : Int) : (lookN xs n l).Fits := by
  unfold lookN
  split
  · exact noCard_fits
  · exact cardN_fits hf _ (by omega)
theorem scoreN_bounds (c : Card) (l : Int) : -4 ≤ scoreN c l ∧ scoreN c l ≤ 9 := by
  unfold scoreN
  split
  · omega
  · split <;> split <;> split <;> split <;> omega

/-- The best card among the first k layouts. -/
def bestK (xs : List Int) (n : Nat) : Nat → Int × Card
  | 0 => (0, noCard)
  | k + 1 =>
    let p := bestK xs n k
    if lookE n (k + 1 : Nat) = 0 ∧ (p.1 = 0 ∨ (if p.1 = 0 then 0 else scoreN p.2 p.1) < scoreN (lookN xs n (k + 1 : Nat)) (k + 1 : Nat)) then ((k + 1 : Nat), lookN xs n (k + 1 : Nat)) else p
def bestS (xs : List Int) (n k : Nat) : Int := if (bestK xs n k).1 = 0 then 0 else scoreN (bestK xs n k).2 (bestK xs n k).1
theorem bestK_succ (xs : List Int) (n k : Nat) : bestK xs n (k + 1) = if lookE n (k + 1 : Nat) = 0 ∧ ((bestK xs n k).1 = 0 ∨ bestS xs n k < scoreN (lookN xs n (k + 1 : Nat)) (k + 1 : Nat)) then (((k + 1 : Nat) : Int), lookN xs n (k + 1 : Nat)) else bestK xs n k := rfl
theorem bestK_bounds (xs : List Int) (n k : Nat) : 0 ≤ (bestK xs n k).1 ∧ (bestK xs n k).1 ≤ k := by
  induction k with
  | zero => exact ⟨Int.le_refl _, Int.le_refl _⟩
  | succ k ih =>
    rw [bestK_succ]
    split
    · exact ⟨by omega, Int.le_refl _⟩
    · omega
theorem bestS_bounds (xs : List Int) (n k : Nat) : -4 ≤ bestS xs n k ∧ bestS xs n k ≤ 9 := by
  unfold bestS
  split
  · omega
  · exact scoreN_bounds _ _
theorem bestK_fits {xs : List Int} {n : Nat} (hf : Fits .u8 xs) (hn : xs.length = n) (k : Nat) : (bestK xs n k).2.Fits := by
  induction k with
  | zero => exact noCard_fits
  | succ k ih =>
    rw [bestK_succ]
    split
    · exact lookN_fits hf hn _
    · exact ih
theorem bestS_new (xs : List Int) (n k : Nat) (h : lookE n (k + 1 : Nat) = 0 ∧ ((bestK xs n k).1 = 0 ∨ bestS xs n k < scoreN (lookN xs n (k + 1 : Nat)) (k + 1 : Nat))) : bestS xs n (k + 1) = scoreN (lookN xs n (k + 1 : Nat)) (k + 1 : Nat) := by
  unfold bestS
  rw [bestK_succ, if_pos h]
  rw [if_neg (by show ¬ ((k + 1 : Nat) : Int) = 0; omega)]
theorem bestS_old (xs : List Int) (n k : Nat) (h : ¬ (lookE n (k + 1 : Nat) = 0 ∧ ((bestK xs n k).1 = 0 ∨ bestS xs n k < scoreN (lookN xs n (k + 1 : Nat)) (k + 1 : Nat)))) : bestS xs n (k + 1) = bestS xs n k := by
  have e := bestK_succ xs n k
  rw [if_neg h] at e
  unfold bestS
  rw [e]
theorem lookE_cases (n : Nat) (l : Int) (h1 : 1 ≤ l) (h4 : l ≤ 4) : (l = 4 ∧ lookE n l = 2) ∨ (l ≤ 3 ∧ (lookE n l = 5 ∨ lookE n l = 0)) := by
  unfold lookE
  by_cases h : l = 4
  · subst h; exact .inl ⟨rfl, rfl⟩
  · refine .inr ⟨by omega, ?_⟩
    have : ¬ atN l < 0 := by unfold atN; split <;> (try split) <;> (try split) <;> omega
    rw [if_neg this]
    split <;> simp

/-- A box of seven cells that may be written. -/
structure Box7 (W : World) (P : Nat) : Prop where
  ex : ∃ u0 u1 u2 u3 u4 u5 u6, W.cell? ⟨P, 0, none⟩ = some u0 ∧ W.cell? ⟨P, 1, none⟩ = some u1 ∧ W.cell? ⟨P, 2, none⟩ = some u2 ∧ W.cell? ⟨P, 3, none⟩ = some u3 ∧ W.cell? ⟨P, 4, none⟩ = some u4 ∧ W.cell? ⟨P, 5, none⟩ = some u5 ∧ W.cell? ⟨P, 6, none⟩ = some u6
  fr : ∀ j, W.frozen? ⟨P, j, none⟩ = false
theorem Box7.keep {W W' : World} {P B : Nat} (h : Box7 W P) (hb : Below B W W') (hp : P < B) : Box7 W' P := by
  obtain ⟨u0, u1, u2, u3, u4, u5, u6, h0, h1, h2, h3, h4, h5, h6⟩ := h.ex
  exact ⟨⟨u0, u1, u2, u3, u4, u5, u6, (hb.cell hp).trans h0, (hb.cell hp).trans h1, (hb.cell hp).trans h2, (hb.cell hp).trans h3, (hb.cell hp).trans h4, (hb.cell hp).trans h5, (hb.cell hp).trans h6⟩, fun j => (hb.frozen (p := ⟨P, j, none⟩) hp).trans (h.fr j)⟩
theorem Box7.drew {W : World} {P : Nat} (h : Box7 W P) : Box7 W.drew P := ⟨h.ex, h.fr⟩
theorem froz_drew (W : World) (p : Addr) : W.drew.frozen? p = W.frozen? p := rfl
theorem CardAt.box {W : World} {P : Nat} {c : Card} (h : CardAt W P c) (hf : ∀ j, W.frozen? ⟨P, j, none⟩ = false) : Box7 W P :=
  ⟨⟨_, _, _, _, _, _, _, h.c0, h.c1, h.c2, h.c3, h.c4, h.c5, h.c6⟩, hf⟩
def put7 (W : World) (R : Nat) (c : Card) : World := ((((((W.setCell ⟨R, 0, none⟩ (.string c.ti)).setCell ⟨R, 1, none⟩ (.int .u8 c.mo)).setCell ⟨R, 2, none⟩ (.int .u8 c.ki)).setCell ⟨R, 3, none⟩ (.int .u8 c.rz)).setCell ⟨R, 4, none⟩ (.int .u16 c.ck)).setCell ⟨R, 5, none⟩ (.int .u16 c.su)).setCell ⟨R, 6, none⟩ (.int .u16 c.re)
theorem put7_card {W : World} {R : Nat} (c : Card) (h : Box7 W R) : CardAt (put7 W R c) R c := by
  obtain ⟨u0, u1, u2, u3, u4, u5, u6, h0, h1, h2, h3, h4, h5, h6⟩ := h.ex
  unfold put7
  exact ⟨by simp [go_sem, h0], by simp [go_sem, h1], by simp [go_sem, h2], by simp [go_sem, h3], by simp [go_sem, h4], by simp [go_sem, h5], by simp [go_sem, h6]⟩
theorem put7_below {B : Nat} {w W : World} {R : Nat} (c : Card) (h : Below B w W) (hR : B ≤ R) : Below B w (put7 W R c) := by
  unfold put7
  refine Below.setCell (Below.setCell (Below.setCell (Below.setCell (Below.setCell (Below.setCell (Below.setCell h ?_ _) ?_ _) ?_ _) ?_ _) ?_ _) ?_ _) ?_ _ <;> exact hR
theorem put7_froz (W : World) (R : Nat) (c : Card) (p : Addr) : (put7 W R c).frozen? p = W.frozen? p := by unfold put7; simp [go_sem]
theorem put7_size (W : World) (R : Nat) (c : Card) : (put7 W R c).heap.size = W.heap.size := by unfold put7; simp [World.size_setCell]
theorem put7_out (W : World) (R : Nat) (c : Card) {P : Nat} {d : Card} (h : CardAt W P d) (hne : P ≠ R) : CardAt (put7 W R c) P d := by
  unfold put7
  exact ⟨(put7_other W R P 0 _ _ _ _ _ _ _ hne).trans h.c0, (put7_other W R P 1 _ _ _ _ _ _ _ hne).trans h.c1, (put7_other W R P 2 _ _ _ _ _ _ _ hne).trans h.c2, (put7_other W R P 3 _ _ _ _ _ _ _ hne).trans h.c3, (put7_other W R P 4 _ _ _ _ _ _ _ hne).trans h.c4, (put7_other W R P 5 _ _ _ _ _ _ _ hne).trans h.c5, (put7_other W R P 6 _ _ _ _ _ _ _ hne).trans h.c6⟩
theorem put7_box (W : World) (R : Nat) (c : Card) {P : Nat} (h : Box7 W P) (hne : P ≠ R) : Box7 (put7 W R c) P := by
  obtain ⟨u0, u1, u2, u3, u4, u5, u6, h0, h1, h2, h3, h4, h5, h6⟩ := h.ex
  refine ⟨?_, fun j => by rw [put7_froz]; exact h.fr j⟩
  unfold put7
  exact ⟨u0, u1, u2, u3, u4, u5, u6, (put7_other W R P 0 _ _ _ _ _ _ _ hne).trans h0, (put7_other W R P 1 _ _ _ _ _ _ _ hne).trans h1, (put7_other W R P 2 _ _ _ _ _ _ _ hne).trans h2, (put7_other W R P 3 _ _ _ _ _ _ _ hne).trans h3, (put7_other W R P 4 _ _ _ _ _ _ _ hne).trans h4, (put7_other W R P 5 _ _ _ _ _ _ _ hne).trans h5, (put7_other W R P 6 _ _ _ _ _ _ _ hne).trans h6⟩

def chipK (ki : Int) : Int := if ki % 16 < 3 then 0 else if ki / 16 = 0 then 1 else if ki / 16 = 3 then 2 else 0
def chipE (ki : Int) : Int := if ki % 16 < 3 then 0 else if ki / 16 = 0 then 0 else if ki / 16 = 3 then 0 else 32
set_option maxRecDepth 100000 in
set_option maxHeartbeats 4000000 in
theorem chip_walk (ki : Int) (w : World) (h0 : 0 ≤ ki) (h1 : ki ≤ 255) :
    Calls Tryd.prog 30 #[.int .u8 ki] w fun e w' => e = .returned (.tuple #[.int .u8 (chipK ki), .int .i64 (chipE ki)]) ∧ w' = w := by
  have ha : ∀ m : Fin 256, bits .and .u8 ((m : Nat) : Int) 15 = ((m : Nat) : Int) % 16 := by decide +kernel
  have HA := show bits .and .u8 ki 15 = ki % 16 by
    have h2 := ha ⟨ki.toNat, by omega⟩
    simpa [show ((ki.toNat : Nat) : Int) = ki from by omega] using h2
  clear ha
  by_cases q1 : ki % 16 < 3
  · have K := Lib.hid (show chipK ki = 0 ∧ chipE ki = 0 by unfold chipK chipE; rw [if_pos q1, if_pos q1]; exact ⟨rfl, rfl⟩)
    go_enter Tryd.func30, Tryd.ntmps30
    go_wp2
    go_returns
    exact ⟨by rw [K.out.1, K.out.2]; rfl, rfl⟩
  · by_cases q2 : ki / 16 = 0
    · have K := Lib.hid (show chipK ki = 1 ∧ chipE ki = 0 by unfold chipK chipE; rw [if_neg q1, if_pos q2, if_neg q1, if_pos q2]; exact ⟨rfl, rfl⟩)
      have e2 : (ki / 16 == 0) = true := by simpa using q2
      clear q2
      go_enter Tryd.func30, Tryd.ntmps30
      go_wp2
      go_returns
      exact ⟨by rw [K.out.1, K.out.2]; rfl, rfl⟩
    · have e2 : (ki / 16 == 0) = false := by simpa using q2
      by_cases q3 : ki / 16 = 3
      · have K := Lib.hid (show chipK ki = 2 ∧ chipE ki = 0 by unfold chipK chipE; rw [if_neg q1, if_neg q2, if_pos q3, if_neg q1, if_neg q2, if_pos q3]; exact ⟨rfl, rfl⟩)
        have e3 : (ki / 16 == 3) = true := by simpa using q3
        clear q2 q3
        go_enter Tryd.func30, Tryd.ntmps30
        go_wp2
        go_returns
        exact ⟨by rw [K.out.1, K.out.2]; rfl, rfl⟩
      · have K := Lib.hid (show chipK ki = 0 ∧ chipE ki = 32 by unfold chipK chipE; rw [if_neg q1, if_neg q2, if_neg q3, if_neg q1, if_neg q2, if_neg q3]; exact ⟨rfl, rfl⟩)
        have e3 : (ki / 16 == 3) = false := by simpa using q3
        clear q2 q3
        go_enter Tryd.func30, Tryd.ntmps30
        go_wp2
        go_returns
        exact ⟨by rw [K.out.1, K.out.2]; rfl, rfl⟩

set_option maxRecDepth 100000 in
set_option maxHeartbeats 2000000 in
theorem choose_walk (a : Option Addr) (n c : Nat) (xs : List Int) (w : World) (hr : Row .u8 w (.slice a n c) xs) (hn : xs.length = n) (hf : Fits .u8 xs) (hm : n ≤ 281474976710656) :
    Calls Tryd.prog 29 #[.slice a n c] w fun e w' => e = .returned (.tuple #[.int .u8 (bestK xs n 3).1, (bestK xs n 3).2.v]) ∧ Below w.heap.size w w' := by
  have HR := Lib.hid hr
  have HLK := Lib.hid (fun l (l0 : 0 ≤ l) (l1 : l ≤ 255) W (hr : Row .u8 W (.slice a n c) xs) => look_any a n c l xs W hr hn hf hm l0 l1)
  have HSC := Lib.hid (fun l (l0 : 0 ≤ l) (l1 : l ≤ 255) W => score_walk (lookN xs n l) l W (lookN_fits hf hn l) l0 l1)
  clear hr hn hf
  go_enter Tryd.func29, Tryd.ntmps29
  go_wp2
  go_step3
  go_wp2
  go_step3
  go_outline
  obtain ⟨wB, hwB⟩ : ∃ wB, (w.alloc (.cells #[.string ⟨#[]⟩, .int .u8 0, .int .u8 0, .int .u8 0, .int .u16 0, .int .u16 0, .int .u16 0] 27)).alloc (.cells #[.string ⟨#[]⟩, .int .u8 0, .int .u8 0, .int .u8 0, .int .u16 0, .int .u16 0, .int .u16 0] 27) = wB := ⟨_, rfl⟩
  have HQ := Lib.hid (show CardAt wB (w.heap.size + 1) noCard by
    rw [← hwB]; exact ⟨by simp [go_sem]; rfl, by simp [go_sem]; rfl, by simp [go_sem]; rfl, by simp [go_sem]; rfl, by simp [go_sem]; rfl, by simp [go_sem]; rfl, by simp [go_sem]; rfl⟩)
  have HV := Lib.hid (show ∀ j, wB.frozen? ⟨w.heap.size + 1, j, none⟩ = false by rw [← hwB]; exact fun j => by simp [go_sem])
  have HRB := Lib.hid (show Box7 wB w.heap.size by
    rw [← hwB]; exact ⟨⟨_, _, _, _, _, _, _, by simp [go_sem]; rfl, by simp [go_sem]; rfl, by simp [go_sem]; rfl, by simp [go_sem]; rfl, by simp [go_sem]; rfl, by simp [go_sem]; rfl, by simp [go_sem]; rfl⟩, fun j => by simp [go_sem]⟩)
  have HBB := Lib.hid (show Below w.heap.size w wB by rw [← hwB]; exact ((Below.refl _ w).alloc (Nat.le_refl _) _).alloc (by simp) _)
  have HZB := Lib.hid (show w.heap.size + 1 < wB.heap.size by rw [← hwB]; simp)
  rw [hwB]
  clear hwB
  obtain ⟨V, hV⟩ : ∃ V, w.heap.size + 1 = V := ⟨_, rfl⟩
  obtain ⟨R, hR⟩ : ∃ R, w.heap.size = R := ⟨_, rfl⟩
  rw [hV] at HQ HV HZB ⊢
  rw [hR] at HRB ⊢
  have HVR := Lib.hid (show w.heap.size = R ∧ R + 1 = V from ⟨hR, by rw [← hR]; exact hV⟩)
  clear hV hR
  go_upto_region 4 with fail
  go_loopw [4, 5, 7] (fun s4 s5 s7 wr => ∃ k : Nat, k ≤ 3 ∧ s7 = .int .u8 ((k : Int) + 1) ∧ s4 = .int .u8 (bestK xs n k).1 ∧ s5 = .int .i64 (bestS xs n k) ∧ Hid (CardAt wr V (bestK xs n k).2) ∧ Hid (∀ j, wr.frozen? ⟨V, j, none⟩ = false) ∧ Hid (Box7 wr R) ∧ Hid (Below w.heap.size w wr) ∧ V < wr.heap.size) (fun _ _ s7 _ => 4 - (intOf s7).toNat)
  case atStart => exact ⟨0, by omega, rfl, rfl, rfl, HQ, HV, HRB, HBB, HZB.out⟩
  case round =>
    obtain ⟨k, hk, rfl, rfl, rfl, hQ, hV, hRB, hB, hz⟩ := hrel
    have hbb := bestK_bounds xs n k
    have hsb := bestS_bounds xs n k
    have HNEW := Lib.hid (bestS_new xs n k)
    have HOLD := Lib.hid (bestS_old xs n k)
    have HSU := Lib.hid (bestK_succ xs n k)
    obtain ⟨l, hl⟩ : ∃ l : Int, (k : Int) + 1 = l := ⟨_, rfl⟩
    have hl2 : ((k + 1 : Nat) : Int) = l := by omega
    rw [hl2] at HNEW HOLD HSU
    have l0 : 1 ≤ l := by omega
    have l1 : l ≤ 4 := by omega
    have HLC := Lib.hid (lookE_cases n l l0 l1)
    have hlk := HLK.out l (by omega) (by omega) wr (HR.out.below hB.out)
    have hsc := HSC.out l (by omega) (by omega)
    have hscb := scoreN_bounds (lookN xs n l) l
    obtain ⟨er, her⟩ : ∃ er, lookE n l = er := ⟨_, rfl⟩
    rw [her] at hlk HNEW HOLD HSU HLC
    obtain ⟨sc, hsc2⟩ : ∃ sc, scoreN (lookN xs n l) l = sc := ⟨_, rfl⟩
    rw [hsc2] at hsc hscb HNEW HOLD HSU
    obtain ⟨K, hK⟩ : ∃ K, lookN xs n l = K := ⟨_, rfl⟩
    rw [hK] at hlk hsc HSU
    have HK := Lib.hid hlk
    have HS := Lib.hid hsc
    obtain ⟨at_, hat⟩ : ∃ at_, (bestK xs n k).1 = at_ := ⟨_, rfl⟩
    rw [hat] at hbb HNEW HOLD HSU ⊢
    obtain ⟨bs, hbs⟩ : ∃ bs, bestS xs n k = bs := ⟨_, rfl⟩
    rw [hbs] at hsb HNEW HOLD HSU ⊢
    obtain ⟨cur, hcur⟩ : ∃ cur, bestK xs n k = cur := ⟨_, rfl⟩
    rw [hcur] at hQ HSU
    have HAT := Lib.hid (show cur.1 = at_ by rw [← hcur]; exact hat)
    have HCUR := Lib.hid hcur
    have HL := Lib.hid hl
    rw [hl]
    clear her hsc2 hK hlk hsc hat hbs hcur hl hl2
    obtain ⟨ca, ⟨ti2, mo2, ki2, rz2, ck2, su2, re2⟩⟩ := cur
    obtain ⟨ti, mo, ki, rz, ck, su, re⟩ := K
    simp only at HAT
    unfold Card.v at HK HS
    simp only at HK HS
    go_upto_region 6 with (go_at_call 9; refine HK.out.mono ?_; rintro e w1 ⟨rfl, hb⟩)
    have ha := (Below.refl w1.heap.size w1).alloc (Nat.le_refl _) (.cells #[.string ti, .int .u8 mo, .int .u8 ki, .int .u8 rz, .int .u16 ck, .int .u16 su, .int .u16 re] 27)
    have hb2 := hb.trans (ha.mono hb.size)
    have HQ1 := Lib.hid (hQ.out.keep hb2 hz)
    have HV1 := Lib.hid (show ∀ j, (w1.alloc (.cells #[.string ti, .int .u8 mo, .int .u8 ki, .int .u8 rz, .int .u16 ck, .int .u16 su, .int .u16 re] 27)).frozen? ⟨V, j, none⟩ = false from fun j => (hb2.frozen (p := ⟨V, j, none⟩) hz).trans (hV.out j))
    have HRB1 := Lib.hid (hRB.out.keep hb2 (show R < wr.heap.size by have := HVR.out; omega))
    have HB1 := Lib.hid (hB.out.trans (hb2.mono hB.out.size))
    have HE1 := Lib.hid (card_boxed w1 ⟨ti, mo, ki, rz, ck, su, re⟩)
    have HZ1 := Lib.hid (show V < w1.heap.size ∧ w1.heap.size < (w1.alloc (.cells #[.string ti, .int .u8 mo, .int .u8 ki, .int .u8 rz, .int .u16 ck, .int .u16 su, .int .u16 re] 27)).heap.size from ⟨Nat.lt_of_lt_of_le hz hb.size, by simp⟩)
    simp only at HE1
    obtain ⟨W1, hW1⟩ : ∃ W1, w1.alloc (.cells #[.string ti, .int .u8 mo, .int .u8 ki, .int .u8 rz, .int .u16 ck, .int .u16 su, .int .u16 re] 27) = W1 := ⟨_, rfl⟩
    rw [hW1] at HQ1 HV1 HRB1 HB1 HE1 HZ1 ⊢
    obtain ⟨E, hE⟩ : ∃ E, w1.heap.size = E := ⟨_, rfl⟩
    rw [hE] at HE1 HZ1 ⊢
    clear ha hb hb2 hW1 hE hQ hV hRB hB HK
    rcases HLC.out with ⟨h4, he⟩ | ⟨h3, he | he⟩
    · subst he
      have HK3 := Lib.hid (show (bestK xs n 3).1 = at_ ∧ (bestK xs n 3).2.v = .agg #[.string ti2, .int .u8 mo2, .int .u8 ki2, .int .u8 rz2, .int .u16 ck2, .int .u16 su2, .int .u16 re2] by
        have h3 : k = 3 := by have := HL.out; omega
        have h := HCUR.out
        rw [h3] at h
        rw [h]
        exact ⟨HAT.out, rfl⟩)
      go_wp2
      have HW := Lib.hid (HQ1.out)
      have KS := Lib.hid (fun (W : World) (hW : CardAt W V ⟨ti2, mo2, ki2, rz2, ck2, su2, re2⟩) => show (fun w' => w'.cell? ⟨V, 0, none⟩ = some (.string ti2) ∧ w'.cell? ⟨V, 1, none⟩ = some (.int .u8 mo2) ∧ w'.cell? ⟨V, 2, none⟩ = some (.int .u8 ki2) ∧ w'.cell? ⟨V, 3, none⟩ = some (.int .u8 rz2) ∧ w'.cell? ⟨V, 4, none⟩ = some (.int .u16 ck2) ∧ w'.cell? ⟨V, 5, none⟩ = some (.int .u16 su2) ∧ w'.cell? ⟨V, 6, none⟩ = some (.int .u16 re2)) W from ⟨hW.c0, hW.c1, hW.c2, hW.c3, hW.c4, hW.c5, hW.c6⟩)
      have KD := Lib.hid (KS.out W1.drew (HQ1.out.drewN 1))
      have HNE := Lib.hid (show V ≠ R by have := HVR.out; omega)
      have HP := Lib.hid (KS.out (put7 W1 R ⟨ti2, mo2, ki2, rz2, ck2, su2, re2⟩).drew ((put7_out W1 R ⟨ti2, mo2, ki2, rz2, ck2, su2, re2⟩ HQ1.out HNE.out).drewN 1))
      have HCR := Lib.hid (show CardAt (put7 W1 R ⟨ti2, mo2, ki2, rz2, ck2, su2, re2⟩).drew R ⟨ti2, mo2, ki2, rz2, ck2, su2, re2⟩ from (put7_card ⟨ti2, mo2, ki2, rz2, ck2, su2, re2⟩ HRB1.out).drewN 1)
      have HBR := Lib.hid ((put7_below ⟨ti2, mo2, ki2, rz2, ck2, su2, re2⟩ HB1.out (show w.heap.size ≤ R by rw [HVR.out.1]; exact Nat.le_refl _)).drew)
      obtain ⟨⟨u0, u1, u2, u3, u4, u5, u6, g0, g1, g2, g3, g4, g5, g6⟩, gf⟩ := HRB1.out
      have f0 := gf 0
      have f1 := gf 1
      have f2 := gf 2
      have f3 := gf 3
      have f4 := gf 4
      have f5 := gf 5
      have f6 := gf 6
      clear gf
      unfold put7 at HP HCR HBR
      simp only at HP HCR HBR
      go_region_held3 (fun w' => w'.cell? ⟨V, 0, none⟩ = some (.string ti2) ∧ w'.cell? ⟨V, 1, none⟩ = some (.int .u8 mo2) ∧ w'.cell? ⟨V, 2, none⟩ = some (.int .u8 ki2) ∧ w'.cell? ⟨V, 3, none⟩ = some (.int .u8 rz2) ∧ w'.cell? ⟨V, 4, none⟩ = some (.int .u16 ck2) ∧ w'.cell? ⟨V, 5, none⟩ = some (.int .u16 su2) ∧ w'.cell? ⟨V, 6, none⟩ = some (.int .u16 re2)) (first | (with_reducible exact KD.out) | (with_reducible exact HP.out)) (first | fail)
      obtain ⟨X, hX⟩ : ∃ X, (((((((W1.setCell ⟨R, 0, none⟩ (.string ti2)).setCell ⟨R, 1, none⟩ (.int .u8 mo2)).setCell ⟨R, 2, none⟩ (.int .u8 ki2)).setCell ⟨R, 3, none⟩ (.int .u8 rz2)).setCell ⟨R, 4, none⟩ (.int .u16 ck2)).setCell ⟨R, 5, none⟩ (.int .u16 su2)).setCell ⟨R, 6, none⟩ (.int .u16 re2)).drew = X := ⟨_, rfl⟩
      rw [hX] at HCR HBR ⊢
      clear hX HP KD KS g0 g1 g2 g3 g4 g5 g6 f0 f1 f2 f3 f4 f5 f6
      have e0 := HCR.out.c0
      have e1 := HCR.out.c1
      have e2 := HCR.out.c2
      have e3 := HCR.out.c3
      have e4 := HCR.out.c4
      have e5 := HCR.out.c5
      have e6 := HCR.out.c6
      simp only at e0 e1 e2 e3 e4 e5 e6
      go_wp2_with fail
      try rw [Exit.noGoto_ret]
      refine bodyPost_ret (v := .tuple #[.int .u8 at_, .agg #[.string ti2, .int .u8 mo2, .int .u8 ki2, .int .u8 rz2, .int .u16 ck2, .int .u16 su2, .int .u16 re2]]) (by simp [results, Tryd.results29, go_sem, e0, e1, e2, e3, e4, e5, e6]; try rfl) rfl ?_
      rw [HK3.out.1, HK3.out.2]
      exact ⟨rfl, HBR.out⟩
    · subst he
      have HSU2 := Lib.hid (show bestK xs n (k + 1) = (ca, ⟨ti2, mo2, ki2, rz2, ck2, su2, re2⟩) by rw [HSU.out, if_neg (fun h => by have := h.1; omega)])
      have HOLD2 := Lib.hid (HOLD.out (fun h => by have := h.1; omega))
      go_wp2
      go_roundw
      case rel =>
        refine ⟨k + 1, by have := HL.out; omega, by have h := HL.out; congr 1; omega, ?_, ?_, ?_, HV1, HRB1, HB1, Nat.lt_trans HZ1.out.1 HZ1.out.2⟩
        · rw [HSU2.out]; exact congrArg (Value.int .u8) HAT.out.symm
        · rw [HOLD2.out]
        · rw [HSU2.out]; exact HQ1
      case measure => simp [intOf]; omega
    · subst he
      have e0 := HE1.out.c0
      have e1 := HE1.out.c1
      have e2 := HE1.out.c2
      have e3 := HE1.out.c3
      have e4 := HE1.out.c4
      have e5 := HE1.out.c5
      have e6 := HE1.out.c6
      simp only at e0 e1 e2 e3 e4 e5 e6
      go_upto_region 10 with (go_at_call 10; refine (HS.out _).mono ?_; rintro e w2 ⟨rfl, hb⟩)
      have HQ2 := Lib.hid (HQ1.out.keep hb (Nat.lt_trans HZ1.out.1 HZ1.out.2))
      have HV2 := Lib.hid (show ∀ j, w2.frozen? ⟨V, j, none⟩ = false from fun j => (hb.frozen (p := ⟨V, j, none⟩) (Nat.lt_trans HZ1.out.1 HZ1.out.2)).trans (HV1.out j))
      have HRB2 := Lib.hid (HRB1.out.keep hb (show R < W1.heap.size by have := HVR.out; have := HZ1.out; omega))
      have HB2 := Lib.hid (HB1.out.trans (hb.mono HB1.out.size))
      have HE2 := Lib.hid (HE1.out.keep hb HZ1.out.2)
      have HZ2 := Lib.hid (show V < w2.heap.size ∧ V ≠ E ∧ R ≠ E ∧ V ≠ R from by have := hb.size; have := HZ1.out; have := HVR.out; omega)
      clear hb e0 e1 e2 e3 e4 e5 e6 HQ1 HV1 HRB1 HB1 HE1 HZ1
      go_cut [33] (fun s33 wx => s33 = .bool (decide (at_ = 0 ∨ bs < sc)) ∧ w2 = wx)
      case first =>
        by_cases ha : at_ = 0
        · have H := Lib.hid (show decide (at_ = 0 ∨ bs < sc) = true from decide_eq_true (.inl ha))
          have ha2 : (at_ == 0) = true := by simpa using ha
          clear ha
          go_wp2_with fail
          go_meet
          exact ⟨by rw [H.out], rfl⟩
        · have ha2 : (at_ == 0) = false := by simpa using ha
          have H := Lib.hid (show decide (at_ = 0 ∨ bs < sc) = decide (bs < sc) by rw [decide_eq_decide]; simp [ha])
          clear ha
          go_wp2_with fail
          go_meet
          exact ⟨by rw [H.out], rfl⟩
      case rest =>
        obtain ⟨rfl, rfl⟩ := hcut
        by_cases hd : at_ = 0 ∨ bs < sc
        · rw [decide_eq_true hd]
          have HD := Lib.hid hd
          clear hd
          have HSU2 := Lib.hid (show bestK xs n (k + 1) = (l, ⟨ti, mo, ki, rz, ck, su, re⟩) by
            have hl2 : ((k + 1 : Nat) : Int) = l := by have := HL.out; omega
            have h := HSU.out
            rw [if_pos ⟨trivial, HD.out⟩] at h
            exact h)
          have HNEW2 := Lib.hid (HNEW.out ⟨trivial, HD.out⟩)
          go_upto_region 11 with fail
          have KS := Lib.hid (fun (W : World) (hW : CardAt W E ⟨ti, mo, ki, rz, ck, su, re⟩) => show (fun w' => w'.cell? ⟨E, 0, none⟩ = some (.string ti) ∧ w'.cell? ⟨E, 1, none⟩ = some (.int .u8 mo) ∧ w'.cell? ⟨E, 2, none⟩ = some (.int .u8 ki) ∧ w'.cell? ⟨E, 3, none⟩ = some (.int .u8 rz) ∧ w'.cell? ⟨E, 4, none⟩ = some (.int .u16 ck) ∧ w'.cell? ⟨E, 5, none⟩ = some (.int .u16 su) ∧ w'.cell? ⟨E, 6, none⟩ = some (.int .u16 re)) W from ⟨hW.c0, hW.c1, hW.c2, hW.c3, hW.c4, hW.c5, hW.c6⟩)
          have KD := Lib.hid (KS.out w2.drew (HE2.out.drewN 1))
          have hvb := HQ2.out.box HV2.out
          have HP := Lib.hid (KS.out (put7 w2 V ⟨ti, mo, ki, rz, ck, su, re⟩).drew ((put7_out w2 V ⟨ti, mo, ki, rz, ck, su, re⟩ HE2.out (Ne.symm HZ2.out.2.1)).drewN 1))
          have HCV := Lib.hid (show CardAt (put7 w2 V ⟨ti, mo, ki, rz, ck, su, re⟩).drew V ⟨ti, mo, ki, rz, ck, su, re⟩ from (put7_card ⟨ti, mo, ki, rz, ck, su, re⟩ hvb).drewN 1)
          have HBV := Lib.hid ((put7_below ⟨ti, mo, ki, rz, ck, su, re⟩ HB2.out (show w.heap.size ≤ V by have := HVR.out; omega)).drew)
          have HRV := Lib.hid (put7_box w2 V ⟨ti, mo, ki, rz, ck, su, re⟩ HRB2.out (fun e => HZ2.out.2.2.2 e.symm)).drew
          have HFV := Lib.hid (show ∀ j, (put7 w2 V ⟨ti, mo, ki, rz, ck, su, re⟩).drew.frozen? ⟨V, j, none⟩ = false from fun j => (froz_drew _ _).trans ((put7_froz w2 V ⟨ti, mo, ki, rz, ck, su, re⟩ ⟨V, j, none⟩).trans (HV2.out j)))
          have HSV := Lib.hid (show V < (put7 w2 V ⟨ti, mo, ki, rz, ck, su, re⟩).drew.heap.size by
            rw [World.size_drew, put7_size]; exact HZ2.out.1)
          obtain ⟨⟨u0, u1, u2, u3, u4, u5, u6, g0, g1, g2, g3, g4, g5, g6⟩, gf⟩ := hvb
          have f0 := gf 0
          have f1 := gf 1
          have f2 := gf 2
          have f3 := gf 3
          have f4 := gf 4
          have f5 := gf 5
          have f6 := gf 6
          clear gf
          unfold put7 at HP HCV HBV HRV HFV HSV
          simp only at HP HCV HBV HRV HFV HSV
          go_region_held3 (fun w' => w'.cell? ⟨E, 0, none⟩ = some (.string ti) ∧ w'.cell? ⟨E, 1, none⟩ = some (.int .u8 mo) ∧ w'.cell? ⟨E, 2, none⟩ = some (.int .u8 ki) ∧ w'.cell? ⟨E, 3, none⟩ = some (.int .u8 rz) ∧ w'.cell? ⟨E, 4, none⟩ = some (.int .u16 ck) ∧ w'.cell? ⟨E, 5, none⟩ = some (.int .u16 su) ∧ w'.cell? ⟨E, 6, none⟩ = some (.int .u16 re)) (first | (with_reducible exact KD.out) | (with_reducible exact HP.out)) (first | fail)
          obtain ⟨X, hX⟩ : ∃ X, (((((((w2.setCell ⟨V, 0, none⟩ (.string ti)).setCell ⟨V, 1, none⟩ (.int .u8 mo)).setCell ⟨V, 2, none⟩ (.int .u8 ki)).setCell ⟨V, 3, none⟩ (.int .u8 rz)).setCell ⟨V, 4, none⟩ (.int .u16 ck)).setCell ⟨V, 5, none⟩ (.int .u16 su)).setCell ⟨V, 6, none⟩ (.int .u16 re)).drew = X := ⟨_, rfl⟩
          rw [hX] at HCV HBV HRV HFV HSV ⊢
          clear hX HP KD KS g0 g1 g2 g3 g4 g5 g6 f0 f1 f2 f3 f4 f5 f6
          go_wp2
          go_roundw
          case rel =>
            refine ⟨k + 1, by have := HL.out; omega, by have h := HL.out; congr 1; omega, ?_, ?_, ?_, HFV, HRV, HBV, HSV.out⟩
            · rw [HSU2.out]
            · rw [HNEW2.out]
            · rw [HSU2.out]; exact HCV
          case measure => simp [intOf]; omega
        · rw [decide_eq_false hd]
          have HSU2 := Lib.hid (show bestK xs n (k + 1) = (ca, ⟨ti2, mo2, ki2, rz2, ck2, su2, re2⟩) by rw [HSU.out, if_neg (fun h => hd h.2)])
          have HOLD2 := Lib.hid (HOLD.out (fun h => hd h.2))
          clear hd
          go_wp2
          go_roundw
          case rel =>
            refine ⟨k + 1, by have := HL.out; omega, by have h := HL.out; congr 1; omega, ?_, ?_, ?_, HV2, HRB2, HB2, HZ2.out.1⟩
            · rw [HSU2.out]; exact congrArg (Value.int .u8) HAT.out.symm
            · rw [HOLD2.out]
            · rw [HSU2.out]; exact HQ2
          case measure => simp [intOf]; omega
end Go.Proofs.YtjaeglllijafkaaDoor
