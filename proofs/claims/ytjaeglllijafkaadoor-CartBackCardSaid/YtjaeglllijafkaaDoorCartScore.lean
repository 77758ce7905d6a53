/- How well a card fits: cart.Score and the document's Score. -/
import Derived.Test.YtjaeglllijafkaaDoorProg
import Derived.Test.YtjaeglllijafkaaDoorCartCard
import Derived.Deep.CutBlock
namespace Go.Proofs.YtjaeglllijafkaaDoor
open Go.RowKit
set_option linter.unusedVariables false
set_option linter.unusedSimpArgs false

def clrN (mo : Int) : Int := if mo / 16 % 2 = 1 then mo - 16 else mo
def modeB (l mo : Int) : Bool := clrN mo == m0N l || clrN mo == m1N l
def scoreN (c : Card) (l : Int) : Int :=
  if atN l < 0 then 0 else (if (c.ck + c.su) % 65536 = 65535 then 4 else 0) + (if modeB l c.mo = true then 2 else 0) + (if plainB c.ti = true then 1 else 0) + (if 32768 ≤ c.re then 2 else -4)
structure Card.Fits (c : Card) : Prop where
  mo : 0 ≤ c.mo ∧ c.mo ≤ 255
  ki : 0 ≤ c.ki ∧ c.ki ≤ 255
  rz : 0 ≤ c.rz ∧ c.rz ≤ 255
  ck : 0 ≤ c.ck ∧ c.ck ≤ 65535
  su : 0 ≤ c.su ∧ c.su ≤ 65535
  re : 0 ≤ c.re ∧ c.re ≤ 65535
  ti : c.ti.size ≤ 9223372036854775807
theorem andNot16 (mo : Int) (h0 : 0 ≤ mo) (h1 : mo ≤ 255) : bits .andNot .u8 mo 16 = clrN mo := by
  have h : ∀ m : Fin 256, bits .andNot .u8 ((m : Nat) : Int) 16 = clrN ((m : Nat) : Int) := by decide +kernel
  have h2 := h ⟨mo.toNat, by omega⟩
  simpa [show ((mo.toNat : Nat) : Int) = mo from by omega] using h2
theorem wrapU16 (y : Int) : IntKind.u16.wrap y = y % 65536 := by simp [IntKind.wrap, IntKind.signed, IntKind.bits]

set_option maxRecDepth 100000 in
set_option maxHeartbeats 4000000 in
theorem contains_walk (b o : Nat) (x y0 y1 : Int) (w : World) (h0 : w.cell? ⟨b, o, none⟩ = some (.int .u8 y0)) (h1 : w.cell? ⟨b, o + 1, none⟩ = some (.int .u8 y1)) :
    Calls Tryd.prog 26 #[.slice (some ⟨b, o, none⟩) 2 2, .int .u8 x] w fun e w' => e = .returned (.bool (x == y0 || x == y1)) ∧ w' = w := by
  have ix : Calls Tryd.prog 41 #[.slice (some ⟨b, o, none⟩) 2 2, .int .u8 x] w fun e w' => e = .returned (.int .i64 (if x == y0 then 0 else if x == y1 then 1 else -1)) ∧ w' = w := by
    cases e0 : x == y0
    · cases e1 : x == y1
      · go_enter Tryd.func41, Tryd.ntmps41
        go_upto_region 2 with fail
        refine wp_loop_rounds 3 ?_
        rw [rounds_succ]
        go_wp2
        rw [rounds_succ]
        go_wp2
        rw [rounds_succ]
        go_wp2
        go_returns
        exact ⟨rfl, rfl⟩
      · go_enter Tryd.func41, Tryd.ntmps41
        go_upto_region 2 with fail
        refine wp_loop_rounds 2 ?_
        rw [rounds_succ]
        go_wp2
        rw [rounds_succ]
        go_wp2
        go_returns
        exact ⟨rfl, rfl⟩
    · go_enter Tryd.func41, Tryd.ntmps41
      go_upto_region 2 with fail
      refine wp_loop_rounds 1 ?_
      rw [rounds_succ]
      go_wp2
      go_returns
      exact ⟨rfl, rfl⟩
  have IX := Lib.hid ix
  clear ix h0 h1
  cases e0 : x == y0
  · cases e1 : x == y1
    · rw [e0, e1] at IX
      have HE := Lib.hid e0
      clear e0 e1
      go_enter Tryd.func26, Tryd.ntmps26
      go_wp2_with (go_at_call 41; refine IX.out.mono ?_; rintro e w' ⟨rfl, rfl⟩)
      go_returns
      exact ⟨rfl, rfl⟩
    · rw [e0, e1] at IX
      clear e0 e1
      go_enter Tryd.func26, Tryd.ntmps26
      go_wp2_with (go_at_call 41; refine IX.out.mono ?_; rintro e w' ⟨rfl, rfl⟩)
      go_returns
      exact ⟨rfl, rfl⟩
  · rw [e0] at IX
    clear e0
    go_enter Tryd.func26, Tryd.ntmps26
    go_wp2_with (go_at_call 41; refine IX.out.mono ?_; rintro e w' ⟨rfl, rfl⟩)
    go_returns
    exact ⟨rfl, rfl⟩

/-- A card's box. -/
structure CardAt (W : World) (P : Nat) (c : Card) : Prop where
  c0 : W.cell? ⟨P, 0, none⟩ = some (.string c.ti)
  c1 : W.cell? ⟨P, 1, none⟩ = some (.int .u8 c.mo)
  c2 : W.cell? ⟨P, 2, none⟩ = some (.int .u8 c.ki)
  c3 : W.cell? ⟨P, 3, none⟩ = some (.int .u8 c.rz)
  c4 : W.cell? ⟨P, 4, none⟩ = some (.int .u16 c.ck)
  c5 : W.cell? ⟨P, 5, none⟩ = some (.int .u16 c.su)
  c6 : W.cell? ⟨P, 6, none⟩ = some (.int .u16 c.re)
theorem CardAt.keep {W W' : World} {P B : Nat} {c : Card} (h : CardAt W P c) (hb : Below B W W') (hp : P < B) : CardAt W' P c :=
  ⟨(hb.cell hp).trans h.c0, (hb.cell hp).trans h.c1, (hb.cell hp).trans h.c2, (hb.cell hp).trans h.c3, (hb.cell hp).trans h.c4, (hb.cell hp).trans h.c5, (hb.cell hp).trans h.c6⟩
theorem CardAt.drewN {W : World} {P : Nat} {c : Card} (h : CardAt W P c) (n : Nat) : CardAt (W.drewN n) P c := ⟨h.c0, h.c1, h.c2, h.c3, h.c4, h.c5, h.c6⟩
theorem card_boxed (w : World) (c : Card) : CardAt (w.alloc (.cells #[.string c.ti, .int .u8 c.mo, .int .u8 c.ki, .int .u8 c.rz, .int .u16 c.ck, .int .u16 c.su, .int .u16 c.re] 27)) w.heap.size c :=
  ⟨by simp [go_sem], by simp [go_sem], by simp [go_sem], by simp [go_sem], by simp [go_sem], by simp [go_sem], by simp [go_sem]⟩

set_option maxRecDepth 100000 in
set_option maxHeartbeats 8000000 in
theorem score_walk (c : Card) (l : Int) (w : World) (hc : c.Fits) (l0 : 0 ≤ l) (l1 : l ≤ 255) :
    Calls Tryd.prog 10 #[c.v, .int .u8 l] w fun e w' => e = .returned (.int .i64 (scoreN c l)) ∧ Below w.heap.size w w' := by
  have hbox := card_boxed w c
  have hv : c.v = .agg #[.string c.ti, .int .u8 c.mo, .int .u8 c.ki, .int .u8 c.rz, .int .u16 c.ck, .int .u16 c.su, .int .u16 c.re] := rfl
  rw [hv]
  clear hv
  obtain ⟨⟨m0, m1⟩, ⟨-, -⟩, ⟨-, -⟩, ⟨k0, k1⟩, ⟨u0, u1⟩, ⟨r0, r1⟩, ht⟩ := hc
  have HS := Lib.hid (show scoreN c l = if atN l < 0 then 0 else (if (c.ck + c.su) % 65536 = 65535 then 4 else 0) + (if modeB l c.mo = true then 2 else 0) + (if plainB c.ti = true then 1 else 0) + (if 32768 ≤ c.re then 2 else -4) from rfl)
  have HM := Lib.hid (show modeB l c.mo = (clrN c.mo == m0N l || clrN c.mo == m1N l) from rfl)
  obtain ⟨sc, hsc⟩ : ∃ sc, scoreN c l = sc := ⟨_, rfl⟩
  rw [hsc] at HS ⊢
  obtain ⟨md, hmd⟩ : ∃ md, modeB l c.mo = md := ⟨_, rfl⟩
  rw [hmd] at HS HM
  obtain ⟨ti, mo, ki, rz, ck, su, re⟩ := c
  simp only at *
  clear hsc hmd
  have HBX := Lib.hid hbox
  have HAN := Lib.hid (andNot16 mo m0 m1)
  have HIA := Lib.hid (@isL_at l)
  clear hbox
  go_enter Tryd.func10, Tryd.ntmps10
  go_upto_region 1 with fail
  obtain ⟨wB, hwB⟩ : ∃ wB, w.alloc (.cells #[.string ti, .int .u8 mo, .int .u8 ki, .int .u8 rz, .int .u16 ck, .int .u16 su, .int .u16 re] 27) = wB := ⟨_, rfl⟩
  have HBB := Lib.hid (show Below w.heap.size w wB by rw [← hwB]; exact (Below.refl _ w).alloc (Nat.le_refl _) _)
  have HZB := Lib.hid (show w.heap.size < wB.heap.size by rw [← hwB]; simp)
  rw [hwB] at HBX ⊢
  clear hwB
  go_upto_region 2 with (go_at_call 23; refine (of_walk l _ l0 l1).mono ?_; rintro e w1 ⟨rfl, hb⟩)
  have hal := (Below.refl w1.heap.size w1).alloc (Nat.le_refl _) (.cells #[.int .i64 (placeN l), .int .u8 (m0N l), .int .u8 (m1N l)] 56)
  have HC1 := Lib.hid ((HBX.out.keep hb HZB.out).keep hal (Nat.lt_of_lt_of_le HZB.out hb.size))
  have HB1 := Lib.hid ((HBB.out.trans (hb.mono (Nat.le_of_lt HZB.out))).trans (hal.mono (Nat.le_of_lt (Nat.lt_of_lt_of_le HZB.out hb.size))))
  have y1 : (w1.alloc (.cells #[.int .i64 (placeN l), .int .u8 (m0N l), .int .u8 (m1N l)] 56)).cell? ⟨w1.heap.size, 1, none⟩ = some (.int .u8 (m0N l)) := by simp [go_sem]
  have y2 : (w1.alloc (.cells #[.int .i64 (placeN l), .int .u8 (m0N l), .int .u8 (m1N l)] 56)).cell? ⟨w1.heap.size, 2, none⟩ = some (.int .u8 (m1N l)) := by simp [go_sem]
  obtain ⟨W1, hW1⟩ : ∃ W1, w1.alloc (.cells #[.int .i64 (placeN l), .int .u8 (m0N l), .int .u8 (m1N l)] 56) = W1 := ⟨_, rfl⟩
  rw [hW1] at HC1 HB1 y1 y2 ⊢
  obtain ⟨L, hL⟩ : ∃ L, w1.heap.size = L := ⟨_, rfl⟩
  rw [hL] at y1 y2 ⊢
  have Y1 := Lib.hid y1
  have Y2 := Lib.hid y2
  clear hal hb hW1 hL HBX HBB HZB y1 y2
  rw [HIA.out]
  by_cases hl : atN l < 0
  · have HE := Lib.hid (show sc = 0 by rw [HS.out, if_pos hl])
    have e1 : decide (atN l < 0) = true := decide_eq_true hl
    rw [e1]
    clear e1 hl
    go_wp2_with fail
    go_ret
    exact ⟨ret_int HE.out.symm, HB1.out⟩
  · have HE := Lib.hid (show sc = (if (ck + su) % 65536 = 65535 then 4 else 0) + (if md = true then 2 else 0) + (if plainB ti = true then 1 else 0) + (if 32768 ≤ re then 2 else -4) by rw [HS.out, if_neg hl])
    have e1 : decide (atN l < 0) = false := decide_eq_false hl
    rw [e1]
    clear e1 hl HS
    have c6 := HC1.out.c6
    go_upto_if 17 with fail
    go_cut [7] (fun s7 wx => s7 = .int .i64 (if 32768 ≤ re then 2 else -4) ∧ W1 = wx)
    case first =>
      by_cases h : 32768 ≤ re
      · have H := Lib.hid h
        go_wp2_with fail
        go_meet
        exact ⟨by rw [if_pos H.out], rfl⟩
      · have H := Lib.hid h
        have h2 : ¬ re ≥ 32768 := h
        clear h
        go_wp2_with fail
        go_meet
        exact ⟨by rw [if_neg (by have := H.out; omega)], rfl⟩
    case rest =>
      obtain ⟨rfl, rfl⟩ := hcut
      clear c6
      have b3 : -4 ≤ (if 32768 ≤ re then 2 else -4) ∧ (if 32768 ≤ re then (2 : Int) else -4) ≤ 2 := by split <;> omega
      obtain ⟨n3, hn3⟩ : ∃ n3 : Int, (if 32768 ≤ re then 2 else -4) = n3 := ⟨_, rfl⟩
      rw [hn3] at HE b3 ⊢
      clear hn3
      have c4 := HC1.out.c4
      have c5 := HC1.out.c5
      go_upto_if 23 with fail
      go_cut [7] (fun s7 wx => s7 = .int .i64 (n3 + (if (ck + su) % 65536 = 65535 then 4 else 0)) ∧ W1 = wx)
      case first =>
        by_cases h : (ck + su) % 65536 = 65535
        · have H := Lib.hid h
          have h2 : (IntKind.u16.wrap (ck + su) == 65535) = true := by rw [wrapU16, h]; rfl
          clear h
          go_wp2_with fail
          go_meet
          exact ⟨by rw [if_pos H.out], rfl⟩
        · have H := Lib.hid h
          have h2 : (IntKind.u16.wrap (ck + su) == 65535) = false := by rw [wrapU16]; simpa using h
          clear h
          go_wp2_with fail
          go_meet
          exact ⟨by rw [if_neg H.out, Int.add_zero], rfl⟩
      case rest =>
        obtain ⟨rfl, rfl⟩ := hcut
        clear c4 c5
        have b4 : 0 ≤ (if (ck + su) % 65536 = 65535 then (4 : Int) else 0) ∧ (if (ck + su) % 65536 = 65535 then (4 : Int) else 0) ≤ 4 := by split <;> omega
        obtain ⟨n4, hn4⟩ : ∃ n4 : Int, (if (ck + su) % 65536 = 65535 then 4 else 0) = n4 := ⟨_, rfl⟩
        rw [hn4] at HE b4 ⊢
        clear hn4
        obtain ⟨n5, hn5⟩ : ∃ n5 : Int, n3 + n4 = n5 := ⟨_, rfl⟩
        have b5 : -4 ≤ n5 ∧ n5 ≤ 6 := by omega
        have H5 := Lib.hid hn5
        rw [hn5]
        clear hn5 b3 b4
        have c1 := HC1.out.c1
        have HKN := Lib.hid (show ∀ m, Calls Tryd.prog 26 #[.slice (some ⟨L, 1, none⟩) 2 2, .int .u8 (bits .andNot .u8 mo 16)] (W1.drewN m) (fun e w' => e = .returned (.bool md) ∧ W1.drewN m = w') from fun m => by
          rw [HAN.out, HM.out]
          exact (contains_walk L 1 (clrN mo) (m0N l) (m1N l) (W1.drewN m) Y1.out Y2.out).mono fun e w' h => ⟨h.1, h.2.symm⟩)
        go_upto_region 9 with fail
        go_cut [31] (fun s31 wx => s31 = .bool md ∧ ∃ m, wx = W1.drewN m)
        case first =>
          go_quiet ((go_at_call 26; exact quiet_left (HKN.out _)))
          go_wp2
          go_meet
          exact ⟨rfl, _, rfl⟩
        case rest =>
          obtain ⟨rfl, m, rfl⟩ := hcut
          have c0 : (W1.drewN m).cell? ⟨w.heap.size, 0, none⟩ = some (.string ti) := HC1.out.c0
          have HB2 := Lib.hid (below_drewN HB1.out m)
          obtain ⟨X, hX⟩ : ∃ X, W1.drewN m = X := ⟨_, rfl⟩
          rw [hX] at c0 HB2 ⊢
          clear hX c1 HKN HC1 HB1 Y1 Y2 HM HAN
          go_upto_if 31 with fail
          go_cut [7] (fun s7 wx => s7 = .int .i64 (n5 + (if md = true then 2 else 0)) ∧ X = wx)
          case first =>
            cases md
            · go_wp2_with fail
              go_meet
              exact ⟨by simp, rfl⟩
            · go_wp2_with fail
              go_meet
              exact ⟨by simp, rfl⟩
          case rest =>
            obtain ⟨rfl, rfl⟩ := hcut
            have b6 : 0 ≤ (if md = true then (2 : Int) else 0) ∧ (if md = true then (2 : Int) else 0) ≤ 2 := by split <;> omega
            obtain ⟨n6, hn6⟩ : ∃ n6 : Int, (if md = true then 2 else 0) = n6 := ⟨_, rfl⟩
            rw [hn6] at HE b6 ⊢
            obtain ⟨n7, hn7⟩ : ∃ n7 : Int, n5 + n6 = n7 := ⟨_, rfl⟩
            have b7 : -4 ≤ n7 ∧ n7 ≤ 8 := by omega
            have H7 := Lib.hid hn7
            rw [hn7]
            clear hn6 hn7 b5 b6
            cases hp : plainB ti
            · have H8 := Lib.hid (show sc = n7 by rw [HE.out, hp, ← H7.out, ← H5.out]; simp; omega)
              have HPL := Lib.hid hp
              clear hp
              go_wp2_with (go_at_call 27; refine (plain_walk _ _ ht).mono ?_; rintro e w' ⟨rfl, rfl⟩; rw [HPL.out])
              go_ret
              exact ⟨ret_int H8.out.symm, HB2.out⟩
            · have H8 := Lib.hid (show sc = n7 + 1 by rw [HE.out, hp, ← H7.out, ← H5.out]; simp; omega)
              have HPL := Lib.hid hp
              clear hp
              go_wp2_with (go_at_call 27; refine (plain_walk _ _ ht).mono ?_; rintro e w' ⟨rfl, rfl⟩; rw [HPL.out])
              go_ret
              exact ⟨ret_int H8.out.symm, HB2.out⟩
end Go.Proofs.YtjaeglllijafkaaDoor
