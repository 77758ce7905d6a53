/- The document's Score. -/
import Derived.Test.YtjaeglllijafkaaDoorProg
import Derived.Test.YtjaeglllijafkaaDoorCartScore
namespace Go.Proofs.YtjaeglllijafkaaDoor
open Go.RowKit
set_option linter.unusedVariables false
set_option linter.unusedSimpArgs false

theorem clrN_bounds {mo : Int} (h0 : 0 ≤ mo) (h1 : mo ≤ 255) : 0 ≤ clrN mo ∧ clrN mo ≤ 255 := by unfold clrN; split <;> omega
theorem tdiv16 {mo : Int} (h0 : 0 ≤ mo) : mo.tdiv 16 = mo / 16 := Int.tdiv_eq_ediv_of_nonneg h0

set_option maxRecDepth 100000 in
set_option maxHeartbeats 8000000 in
theorem refScore_walk (c : Card) (l : Int) (w : World) (hc : c.Fits) :
    Calls Tryd.prog 11 #[c.v, .int .u8 l] w fun e w' => e = .returned (.int .i64 (scoreN c l)) ∧ Below w.heap.size w w' := by
  have hbox := card_boxed w c
  have hv : c.v = .agg #[.string c.ti, .int .u8 c.mo, .int .u8 c.ki, .int .u8 c.rz, .int .u16 c.ck, .int .u16 c.su, .int .u16 c.re] := rfl
  rw [hv]
  clear hv
  obtain ⟨⟨m0, m1⟩, ⟨-, -⟩, ⟨-, -⟩, ⟨k0, k1⟩, ⟨u0, u1⟩, ⟨r0, r1⟩, ht⟩ := hc
  have HS := Lib.hid (show scoreN c l = if atN l < 0 then 0 else (if (c.ck + c.su) % 65536 = 65535 then 4 else 0) + (if modeB l c.mo = true then 2 else 0) + (if plainB c.ti = true then 1 else 0) + (if 32768 ≤ c.re then 2 else -4) from rfl)
  have HM := Lib.hid (show modeB l c.mo = (clrN c.mo == m0N l || clrN c.mo == m1N l) from rfl)
  obtain ⟨sc, hsc⟩ : ∃ sc, scoreN c l = sc := ⟨_, rfl⟩
  rw [hsc] at HS ⊢
  obtain ⟨md, hmd⟩ : ∃ md, modeB l c.mo = md := ⟨_, rfl⟩
  rw [hmd] at HS HM
  obtain ⟨ti, mo, ki, rz, ck, su, re⟩ := c
  simp only at *
  clear hsc hmd
  have HC1 := Lib.hid hbox
  have ab : -1 ≤ atN l ∧ (atN l < 0 ∨ l = 1 ∨ l = 2 ∨ l = 3) := by unfold atN; split <;> (try split) <;> (try split) <;> omega
  obtain ⟨p, hp⟩ : ∃ p, atN l = p := ⟨_, rfl⟩
  rw [hp] at ab HS
  have HP := Lib.hid hp
  have HL := Lib.hid ab.2
  clear hbox hp ab
  go_enter Tryd.func11, Tryd.ntmps11
  go_upto_region 1 with fail
  obtain ⟨W1, hwB⟩ : ∃ wB, w.alloc (.cells #[.string ti, .int .u8 mo, .int .u8 ki, .int .u8 rz, .int .u16 ck, .int .u16 su, .int .u16 re] 27) = wB := ⟨_, rfl⟩
  have HB1 := Lib.hid (show Below w.heap.size w W1 by rw [← hwB]; exact (Below.refl _ w).alloc (Nat.le_refl _) _)
  rw [hwB] at HC1 ⊢
  clear hwB
  by_cases hl : p < 0
  · have HE := Lib.hid (show sc = 0 by rw [HS.out, if_pos hl])
    go_wp2_with (go_at_call 21; refine (at_walk _ _).mono ?_; rintro e w2 ⟨rfl, rfl⟩; rw [HP.out])
    go_ret
    exact ⟨ret_int HE.out.symm, HB1.out⟩
  · have HE := Lib.hid (show sc = (if (ck + su) % 65536 = 65535 then 4 else 0) + (if md = true then 2 else 0) + (if plainB ti = true then 1 else 0) + (if 32768 ≤ re then 2 else -4) by rw [HS.out, if_neg hl])
    have HL := Lib.hid (HL.out.resolve_left hl)
    have hl2 : 0 ≤ p := by omega
    go_upto_region 3 with (go_at_call 21; refine (at_walk _ _).mono ?_; rintro e w2 ⟨rfl, rfl⟩; rw [HP.out])
    have c4 := HC1.out.c4
    have c5 := HC1.out.c5
    clear HS hl hl2
    go_upto_if 18 with fail
    go_cut [5] (fun s5 wx => s5 = .int .i64 (if (ck + su) % 65536 = 65535 then 4 else 0) ∧ w2 = wx)
    case first =>
      by_cases h : (ck + su) % 65536 = 65535
      · have H := Lib.hid h
        have h2 : ((ck + su) % 65536 == 65535) = true := by rw [h]; rfl
        clear h
        go_wp2_with fail
        go_meet
        exact ⟨by rw [if_pos H.out], rfl⟩
      · have H := Lib.hid h
        have h2 : ((ck + su) % 65536 == 65535) = false := by simpa using h
        clear h
        go_wp2_with fail
        go_meet
        exact ⟨by rw [if_neg H.out], rfl⟩
    case rest =>
      obtain ⟨rfl, rfl⟩ := hcut
      clear c4 c5
      have b4 : 0 ≤ (if (ck + su) % 65536 = 65535 then (4 : Int) else 0) ∧ (if (ck + su) % 65536 = 65535 then (4 : Int) else 0) ≤ 4 := by split <;> omega
      obtain ⟨n4, hn4⟩ : ∃ n4 : Int, (if (ck + su) % 65536 = 65535 then 4 else 0) = n4 := ⟨_, rfl⟩
      rw [hn4] at HE b4 ⊢
      clear hn4
      have c1 := HC1.out.c1
      have d1 : 0 ≤ mo / 16 := by omega
      go_upto_if 26 with fail
      go_cut [6] (fun s6 wx => s6 = .int .u8 (clrN mo) ∧ w2 = wx)
      case first =>
        by_cases h : mo / 16 % 2 = 1
        · have H := Lib.hid (show clrN mo = mo - 16 from if_pos h)
          have h3 : 16 ≤ mo := by omega
          have h2 : (mo / 16 % 2 == 1) = true := by rw [h]; rfl
          have h4 : IntKind.u8.wrap (mo - 16) = mo - 16 := by
            have : (mo - 16) % 256 = mo - 16 := by omega
            simpa [IntKind.wrap, IntKind.signed, IntKind.bits] using this
          clear h
          go_wp2_with fail
          go_meet
          exact ⟨by rw [H.out], rfl⟩
        · have H := Lib.hid (show clrN mo = mo from if_neg h)
          have h2 : (mo / 16 % 2 == 1) = false := by simpa using h
          clear h
          go_wp2_with fail
          go_meet
          exact ⟨by rw [H.out], rfl⟩
      case rest =>
        obtain ⟨rfl, rfl⟩ := hcut
        have hcb := clrN_bounds m0 m1
        obtain ⟨cm, hcm⟩ : ∃ cm, clrN mo = cm := ⟨_, rfl⟩
        rw [hcm] at hcb HM ⊢
        clear hcm c1 d1
        go_upto_region 9 with fail
        go_cut [54] (fun s54 wx => s54 = .bool md ∧ w2 = wx)
        case first =>
          rcases HL.out with h | h | h
          · subst h
            rw [show m0N 1 = 32 from rfl, show m1N 1 = 35 from rfl] at HM
            cases h1 : cm == 32
            · cases h2 : cm == 35
              · have HE2 := Lib.hid (show md = false by rw [HM.out, h1, h2]; rfl)
                go_wp2_with fail
                go_meet
                exact ⟨by rw [HE2.out], rfl⟩
              · have HE2 := Lib.hid (show md = true by rw [HM.out, h1, h2]; rfl)
                go_wp2_with fail
                go_meet
                exact ⟨by rw [HE2.out], rfl⟩
            · have HE2 := Lib.hid (show md = true by rw [HM.out, h1]; rfl)
              go_wp2_with fail
              go_meet
              exact ⟨by rw [HE2.out], rfl⟩
          · subst h
            rw [show m0N 2 = 33 from rfl, show m1N 2 = 33 from rfl] at HM
            cases h1 : cm == 33
            · have HE2 := Lib.hid (show md = false by rw [HM.out, h1]; rfl)
              go_wp2_with fail
              go_meet
              exact ⟨by rw [HE2.out], rfl⟩
            · have HE2 := Lib.hid (show md = true by rw [HM.out, h1]; rfl)
              go_wp2_with fail
              go_meet
              exact ⟨by rw [HE2.out], rfl⟩
          · subst h
            rw [show m0N 3 = 37 from rfl, show m1N 3 = 37 from rfl] at HM
            cases h1 : cm == 37
            · have HE2 := Lib.hid (show md = false by rw [HM.out, h1]; rfl)
              go_wp2_with fail
              go_meet
              exact ⟨by rw [HE2.out], rfl⟩
            · have HE2 := Lib.hid (show md = true by rw [HM.out, h1]; rfl)
              go_wp2_with fail
              go_meet
              exact ⟨by rw [HE2.out], rfl⟩
        case rest =>
          obtain ⟨rfl, rfl⟩ := hcut
          clear HM HL hcb
          go_upto_if 54 with fail
          go_cut [5] (fun s5 wx => s5 = .int .i64 (n4 + (if md = true then 2 else 0)) ∧ w2 = wx)
          case first =>
            cases md
            · go_wp2_with fail
              go_meet
              exact ⟨by simp, rfl⟩
            · go_wp2_with fail
              go_meet
              exact ⟨by simp, rfl⟩
          case rest =>
            obtain ⟨rfl, rfl⟩ := hcut
            have b6 : 0 ≤ (if md = true then (2 : Int) else 0) ∧ (if md = true then (2 : Int) else 0) ≤ 2 := by split <;> omega
            obtain ⟨n6, hn6⟩ : ∃ n6 : Int, (if md = true then 2 else 0) = n6 := ⟨_, rfl⟩
            rw [hn6] at HE b6 ⊢
            obtain ⟨n7, hn7⟩ : ∃ n7 : Int, n4 + n6 = n7 := ⟨_, rfl⟩
            have b7 : 0 ≤ n7 ∧ n7 ≤ 6 := by omega
            rw [hn7] at HE ⊢
            clear hn6 hn7 b4 b6
            have c0 := HC1.out.c0
            go_upto_if 59 with (go_at_call 28; refine (seen_walk _ _ ht).mono ?_; rintro e w3 ⟨rfl, rfl⟩)
            go_cut [5] (fun s5 wx => s5 = .int .i64 (n7 + (if plainB ti = true then 1 else 0)) ∧ w3 = wx)
            case first =>
              cases hp : plainB ti
              · have HPL := Lib.hid hp
                go_wp2_with fail
                go_meet
                exact ⟨by rw [HPL.out]; simp, rfl⟩
              · have HPL := Lib.hid hp
                go_wp2_with fail
                go_meet
                exact ⟨by rw [HPL.out]; simp, rfl⟩
            case rest =>
              obtain ⟨rfl, rfl⟩ := hcut
              have b8 : 0 ≤ (if plainB ti = true then (1 : Int) else 0) ∧ (if plainB ti = true then (1 : Int) else 0) ≤ 1 := by split <;> omega
              obtain ⟨n8, hn8⟩ : ∃ n8 : Int, (if plainB ti = true then 1 else 0) = n8 := ⟨_, rfl⟩
              rw [hn8] at HE b8 ⊢
              obtain ⟨n9, hn9⟩ : ∃ n9 : Int, n7 + n8 = n9 := ⟨_, rfl⟩
              have b9 : 0 ≤ n9 ∧ n9 ≤ 7 := by omega
              rw [hn9] at HE ⊢
              clear hn8 hn9 b7 b8 c0
              have c6 := HC1.out.c6
              by_cases h : 32768 ≤ re
              · have HE2 := Lib.hid (show sc = n9 + 2 by rw [HE.out, if_pos h])
                go_wp2_with fail
                go_ret
                exact ⟨ret_int HE2.out.symm, HB1.out⟩
              · have HE2 := Lib.hid (show sc = n9 - 4 by rw [HE.out, if_neg h]; omega)
                have h2 : ¬ re ≥ 32768 := h
                clear h
                go_wp2_with fail
                go_ret
                exact ⟨ret_int HE2.out.symm, HB1.out⟩
end Go.Proofs.YtjaeglllijafkaaDoor
