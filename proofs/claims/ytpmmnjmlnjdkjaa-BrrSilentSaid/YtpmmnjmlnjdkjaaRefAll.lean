/- The walk of the document's All: blocks up to their end. -/
import Derived.Test.YtpmmnjmlnjdkjaaAllPlain
import Derived.Test.YtpmmnjmlnjdkjaaDecP
import Derived.Test.YtpmmnjmlnjdkjaaNearLaw
namespace Go.Proofs.Ytpmmnjmlnjdkjaa
open Go.RowKit
set_option linter.unusedVariables false

theorem refDecode9 (v : Value) (xs : List Int) (p q : Int) (w : World) (hr : Row .u8 w v xs) (hf : Fits .u8 xs) (hl : xs.length = 9)
    (p0 : -32768 ≤ p) (p1 : p ≤ 32767) (q0 : -32768 ≤ q) (q1 : q ≤ 32767) :
    Calls Try.prog 12 #[v, .int .i16 p, .int .i16 q] w fun e w' => ∃ b o cap, e = .returned (.tuple #[.slice (some ⟨b, o, none⟩) 16 cap, .int .i64 0]) ∧
      Hid (∀ (j : Nat) (u : Value), ((samplesN xs p q 16).map (Value.int .i16))[j]? = some u → w'.cell? ((⟨b, o, none⟩ : Addr).add j) = some u) ∧ Below w.heap.size w w' := by
  refine (refDecode_nine v xs p q w hr hf hl p0 p1 q0 q1).mono ?_
  rintro e w' ⟨r, rfl, ho, hb⟩
  obtain ⟨b, o, cap, rfl, hx⟩ := (Row.owned ho).1.reads (by rw [samplesN_length]; omega)
  rw [samplesN_length]
  exact ⟨b, o, cap, rfl, hx, hb⟩

set_option maxHeartbeats 4000000 in
theorem refAll_walk (v : Value) (b : List Int) (w : World) (hr : Row .u8 w v b) (hf : Fits .u8 b) (hl : b.length ≤ 1048576) :
    Calls Try.prog 20 #[v] w fun e w' => (∃ r n, AllIs b n ∧ e = .returned (.tuple #[r, .int .i64 (9 * (n : Int)), .bool (decide (headB b (n - 1) / 2 % 2 = 1)), .int .i64 0]) ∧ Row .i16 w' r (doneB b n) ∧ Below w.heap.size w w') ∨
      (NoEnd b ∧ e = .returned (.tuple #[.slice none 0 0, .int .i64 0, .bool false, .int .i64 140]) ∧ Below w.heap.size w w') := by
  obtain ⟨i0, hi, hz0, hz1, hz2⟩ := info_parts Try.infoI16
  have hi' := Lib.hid hi
  have hz0' := Lib.hid hz0
  have hz1' := Lib.hid hz1
  have hz2' := Lib.hid hz2
  clear hi hz0 hz1 hz2
  obtain ⟨a, cap, rfl⟩ := hr.shape
  have HR := Lib.hid hr
  have HF := Lib.hid hf
  obtain ⟨L, hL⟩ : ∃ L : Nat, b.length = L := ⟨_, rfl⟩
  have HL := Lib.hid hL
  rw [hL] at hl ⊢
  clear hr hf hL
  go_enter Try.func20, Try.ntmps20
  go_wp2_with fail
  go_loopw [6, 7] (fun v6 v7 wr => ∃ (k : Nat) (l : Value), 9 * k ≤ L ∧ v7 = .int .i64 (9 * (k : Int)) ∧ l = v6 ∧
      Hid (wr.ownsRow w.heap.size 23 1 l (16 * k) ((doneB b k).map (Value.int .i16))) ∧ Below w.heap.size w wr ∧ Hid (∀ j, j < k → headB b j % 2 ≠ 1)) (fun _ v7 _ => (L - intOf v7).toNat)
  case atStart => exact ⟨0, _, by omega, rfl, rfl, World.ownsRow_nil _ _ _ _, Below.refl _ _, fun j hj => absurd hj (by omega)⟩
  case round =>
    obtain ⟨k, l, hk, rfl, rfl, hO, hbr, hno⟩ := hrel
    by_cases hlt : 9 * k + 9 ≤ L
    · have hRr := HR.out.below hbr
      obtain ⟨bk, o, cap', e1, hc1, hc2, hcx⟩ := hRr.cells (by rw [HL.out]; omega)
      rw [HL.out] at e1 hc1 hcx
      simp only [Value.slice.injEq, true_and] at e1
      obtain ⟨rfl, rfl⟩ := e1
      have hb9 : Hid (Row .u8 wr (.slice (some ⟨bk, o + 9 * k, none⟩) 9 (cap - 9 * k)) (blkB b k)) :=
        Row.part (by rw [HL.out]; exact hcx) (9 * k) 9 (cap - 9 * k) (by omega) (by omega) (by omega) (by rw [HL.out]; omega)
      have HRl : Hid (Row .i16 wr l (doneB b k)) := (Row.owned hO.out).1
      obtain ⟨la, lc, rfl⟩ := HRl.out.shape
      rw [doneB_length] at hO HRl ⊢
      have c0 := hcx (9 * k) (by omega)
      rw [show b[9 * k]?.getD 0 = headB b k from rfl] at c0
      have hh := headB_fits b HF.out k (by rw [HL.out]; omega)
      obtain ⟨H, hH⟩ : ∃ H, headB b k = H := ⟨_, rfl⟩
      rw [hH] at c0 hh
      have HH := Lib.hid hH
      have HB9 := Lib.hid (blkB_fits b HF.out k)
      have HL9 := Lib.hid (blkB_length b k (by rw [HL.out]; omega))
      have HCw : Hid (w.cell? ⟨bk, o + 9 * k, none⟩ = some (.int .u8 H)) := by
        obtain ⟨b1, o1, c1, e1, -, -, h1⟩ := HR.out.cells (by rw [HL.out]; omega)
        simp only [Value.slice.injEq, Option.some.injEq, Addr.mk.injEq, and_true, true_and] at e1
        obtain ⟨⟨rfl, rfl⟩, rfl⟩ := e1
        have h2 := h1 (9 * k) (by rw [HL.out]; omega)
        rw [show b[9 * k]?.getD 0 = headB b k from rfl, HH.out] at h2
        exact h2
      clear hcx hRr hH c0
      have hbh := behind_fits (doneB_fits b k)
      have hla := doneB_last b k
      obtain ⟨P, hP⟩ : ∃ P, (behindN (doneB b k)).1 = P := ⟨_, rfl⟩
      obtain ⟨Q, hQ⟩ : ∃ Q, (behindN (doneB b k)).2 = Q := ⟨_, rfl⟩
      have HS := Lib.hid (doneB_succ b k)
      rw [hP, hQ] at hbh hla HS
      have HP := Lib.hid hla
      clear hla hP hQ
      have i1 : 0 ≤ 9 * (k : Int) := by omega
      have i2 : 9 * (k : Int) ≤ 9 * (k : Int) + 9 := by omega
      have i3 : 9 * (k : Int) + 9 ≤ (cap : Int) := by omega
      have i4 : 9 * (k : Int) + 9 ≤ (L : Int) := by omega
      have n1 : (9 * (k : Int)).toNat = 9 * k := by omega
      have n2 : (9 * (k : Int) + 9).toNat = 9 * k + 9 := by omega
      have n3 : ¬ cap = 9 * k := by omega
      have n4 : IntKind.i64.wrap (9 * (k : Int) + 9) = 9 * (k : Int) + 9 := IntWalk.i64_in _ (by omega)
      go_wp2_with fail
      go_cut [8, 9] (fun s8 s9 wx => ∃ b2 o2 c2, s8 = .slice (some ⟨b2, o2, none⟩) 16 c2 ∧ s9 = .int .i64 0 ∧ Hid (∀ (j : Nat) (u : Value), ((samplesN (blkB b k) P Q 16).map (Value.int .i16))[j]? = some u → wx.cell? ((⟨b2, o2, none⟩ : Addr).add j) = some u) ∧ Below wr.heap.size wr wx)
      case first =>
        have HRd : Hid (Row .i16 wr.drew (.slice la (16 * k) lc) (doneB b k)) := HRl.out
        have HBd : Hid (Row .u8 wr.drew (.slice (some ⟨bk, o + 9 * k, none⟩) 9 (cap - 9 * k)) (blkB b k)) := hb9.out
        have e1 : lastN (doneB b k) (1 : Int).toNat = P := HP.out.1
        have e2 : lastN (doneB b k) (2 : Int).toNat = Q := HP.out.2
        have HE1 := Lib.hid e1
        have HE2 := Lib.hid e2
        clear e1 e2
        go_region_with (first | (go_at_call 34; refine (ahead_int _ _ _ _ HRd.out (by omega) (by omega)).mono ?_; rintro e w' ⟨rfl, rfl⟩; (first | rw [HE1.out] | rw [HE2.out])) | (go_at_call 12; refine (refDecode9 _ _ P Q _ HBd.out HB9.out HL9.out (by omega) (by omega) (by omega) (by omega)).mono ?_; rintro e w' ⟨b2, o2, c2, rfl, HO2, hb⟩; have hb2 := below_of_drew hb; clear hb))
        all_goals
          go_wp2_with fail
          go_meet
          exact ⟨_, _, _, rfl, rfl, HO2, hb2⟩
      case rest =>
        obtain ⟨b2, o2, c2, rfl, rfl, HN, hb2⟩ := hcut
        have hbw := below_step hbr hbr.size hb2
        have HOc := Lib.hid (ownsRow_below hO.out hb2)
        clear hb2 hO HRl hb9 hbr
        go_wp2_with (at_builtin; refine wpList_append_own _ rfl _ _ 27 rfl w.heap.size 23 i0 (.int .i16 0) 1 2 Try.underlying27 hi'.out hz0'.out hz1'.out hz2'.out rfl (by decide) _ _ _ rfl HOc.out ⟨b2, o2, none⟩ 16 c2 ((samplesN (blkB b k) P Q 16).map (Value.int .i16)) rfl ?c0 HN.out ?c2 ?c3 ?c4 ?c5 ?_)
        case c0 => rw [List.length_map, samplesN_length]
        case c2 => simp [Value.oneCell']
        case c3 => unfold maxLen; omega
        case c4 => omega
        case c5 => exact hbw.size
        intro v6 w6 hown' hgrow _
        have hb6 : Below w.heap.size w w6 := hbw.grown hgrow (by have := hbw.size; simp; omega) (fun j e => (HOc.out.lt j e).1)
        have HO6 : Hid (w6.ownsRow w.heap.size 23 1 v6 (16 * (k + 1)) ((doneB b (k + 1)).map (Value.int .i16))) := by
          rw [HS.out, List.map_append]; exact hown'
        clear hown' hgrow
        have HC06 : Hid (w6.cell? ⟨bk, o + 9 * k, none⟩ = some (.int .u8 H)) := by
          exact cell_stays HCw.out hb6
        have hc06 := HC06.out
        by_cases hH2 : H % 2 = 1
        · go_wp2_with fail
          go_at_call 17
          refine (refRead_any H (by omega) (by omega) _).mono ?_
          rintro e w7 ⟨rfl, hb7⟩
          go_wp2_with fail
          go_quiet (fail)
          go_wp2_with fail
          go_returns
          have e9 : 9 * (k : Int) + 9 = 9 * ((k + 1 : Nat) : Int) := by omega
          refine .inl ⟨v6, k + 1, ⟨k, rfl, by rw [HL.out]; exact hlt, by rw [HH.out]; exact hH2, hno.out⟩, ?_, ?_, ?_⟩
          · rw [show k + 1 - 1 = k from rfl, HH.out, ← e9]
          · exact (Row.owned HO6.out).1.below (below_drewN (hb7.alloc hb7.size _) nq)
          · exact below_drewN (below_step hb6 hb6.size (hb7.alloc hb7.size _)) nq
        · go_wp2_with fail
          go_at_call 17
          refine (refRead_any H (by omega) (by omega) _).mono ?_
          rintro e w7 ⟨rfl, hb7⟩
          go_wp2_with fail
          go_roundw
          case rel =>
            exact ⟨k + 1, v6, by omega, by go_num, rfl, ownsRow_below HO6.out (hb7.alloc hb7.size _), below_step hb6 hb6.size (hb7.alloc hb7.size _), all_snoc hno.out (by rw [HH.out]; exact hH2)⟩
          case measure => simp [intOf]; omega
    · have HRl : Hid (Row .i16 wr l (doneB b k)) := (Row.owned hO.out).1
      go_wp2_with fail
      go_returns
      refine .inr ⟨fun j hj => hno.out j (by rw [HL.out] at hj; omega), rfl, hbr⟩
end Go.Proofs.Ytpmmnjmlnjdkjaa
