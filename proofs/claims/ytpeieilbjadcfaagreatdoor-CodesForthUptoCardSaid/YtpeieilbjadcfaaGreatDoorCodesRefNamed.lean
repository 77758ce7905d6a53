/- The codes of a name: the document's Named. -/
import Derived.Test.YtpeieilbjadcfaaGreatDoorCodesNamed
import Derived.Test.YtpeieilbjadcfaaGreatDoorCodesRefOf
namespace Go.Proofs.YtpeieilbjadcfaaGreatDoor
open Go.RowKit Go.Shelf
set_option linter.unusedVariables false
set_option linter.unusedSimpArgs false

set_option maxRecDepth 100000 in
set_option maxHeartbeats 4000000 in
theorem refNamed_walk (name : ByteArray) (w : World) :
    Calls Tryz.prog 13 #[.string name] w fun e w' => ∃ v, e = .returned v ∧ w'.ownsRow w.heap.size 5 1 v (namedL name (firstC 256 (Nat.le_refl _))).length ((namedL name (firstC 256 (Nat.le_refl _))).map (Value.int .u8)) ∧ Below w.heap.size w w' := by
  obtain ⟨i0, hi, hz0, hz1, hz2⟩ := info_parts Tryz.infoU8
  have hi' := Lib.hid hi
  have hz0' := Lib.hid hz0
  have hz1' := Lib.hid hz1
  have hz2' := Lib.hid hz2
  clear hi hz0 hz1 hz2
  go_enter Tryz.func13, Tryz.ntmps13
  go_upto_region 3 with fail
  go_loopw [3, 4] (fun s3 s4 wr => ∃ (k : Nat) (h : k ≤ 256) (N : Nat) (la : Option Addr) (lc : Nat), s3 = .slice la N lc ∧ s4 = .int .i64 (k : Int) ∧ N ≤ k ∧ Hid ((namedL name (firstC k h)).length = N) ∧ Hid (wr.ownsRow w.heap.size 5 1 (.slice la N lc) N ((namedL name (firstC k h)).map (Value.int .u8))) ∧ Hid (Below w.heap.size w wr)) (fun _ s4 _ => 256 - (intOf s4).toNat)
  case atStart => exact ⟨0, Nat.zero_le _, 0, none, 0, rfl, rfl, Nat.le_refl _, Lib.hid rfl, Lib.hid (World.ownsRow_nil _ _ _ _), Lib.hid (Below.refl _ _)⟩
  case round =>
    obtain ⟨k, hk, N, la, lc, rfl, rfl, hNk, HN, HR, HB⟩ := hrel
    by_cases hlt : k < 256
    · have i1 : (k : Int) < 256 := by omega
      have i2 : IntKind.u8.wrap (k : Int) = (k : Int) := wrap8 _ (by omega) (by omega)
      have i3 : IntKind.i64.wrap ((k : Int) + 1) = ((k + 1 : Nat) : Int) := by rw [IntWalk.i64_in _ (by omega)]; rfl
      have HOF := Lib.hid (fun W => refOf_walk k hlt W)
      have HV := Lib.hid (show codeV k = .agg #[.int .u8 k, .string (nameB k), .int .u8 (modeN k), .int .u8 (useN k), .int .u8 (widthN k)] from rfl)
      rw [HV.out] at HOF
      have HSN := Lib.hid (namedL_snoc name (firstC k hk) ⟨k, hlt⟩)
      obtain ⟨nm, hnm⟩ : ∃ nm, nameB k = nm := ⟨_, rfl⟩
      rw [hnm] at HOF
      have HNM := Lib.hid hnm
      clear hnm HV
      go_upto_region 6 with (go_at_call 15; refine (HOF.out _).mono ?_; rintro e w1 ⟨rfl, hb1⟩)
      obtain ⟨X, hX⟩ : ∃ X, w1.alloc (.cells #[.int .u8 k, .string nm, .int .u8 (modeN k), .int .u8 (useN k), .int .u8 (widthN k)] 38) = X := ⟨_, rfl⟩
      have c1 : X.cell? ⟨w1.heap.size, 1, none⟩ = some (.string nm) := by rw [← hX]; simp [go_sem]
      have hbX : Below wr.heap.size wr X := by rw [← hX]; exact hb1.alloc hb1.size _
      have HBX := Lib.hid (HB.out.trans (hbX.mono HB.out.size))
      have HRX := Lib.hid (ownsRow_below HR.out hbX)
      rw [hX]
      clear hX hb1 hbX HOF
      by_cases hn : nm = name
      · have e1 := strEq_true hn
        have HSS := Lib.hid (show namedL name (firstC (k + 1) hlt) = namedL name (firstC k hk) ++ [((k : Nat) : Int)] by
          show namedL name (firstC k hk ++ [⟨k, hlt⟩]) = _
          rw [HSN.out, if_pos (by show nameB k = name; rw [HNM.out]; exact hn)])
        clear hn
        have HRA := Lib.hid (ownsRow_below HRX.out ((Below.refl X.heap.size X).alloc (Nat.le_refl _) (.cells #[.int .u8 (k : Nat)] 5)))
        go_wp2_with (at_builtin; refine wpList_append_own _ rfl _ _ 23 rfl w.heap.size 5 i0 (.int .u8 0) 1 1 Tryz.underlying23 hi'.out hz0'.out hz1'.out hz2'.out rfl (by decide) _ _ _ rfl HRA.out ⟨X.heap.size, 0, none⟩ 1 1 [.int .u8 (k : Nat)] rfl rfl ?c1 ?c2 ?c3 ?c4 ?c5 ?_)
        case c1 =>
          intro j u hj
          rcases j with _ | j
          · have : u = .int .u8 (k : Nat) := by simpa using hj.symm
            rw [this]; simp [go_sem]
          · simp at hj
        case c2 => simp [Value.oneCell']
        case c3 => unfold maxLen; omega
        case c4 => omega
        case c5 => have := HBX.out.size; simp; omega
        intro v' w3 hown' hgrow _
        obtain ⟨g', cap', rfl⟩ : ∃ g' cap', v' = .slice (some ⟨g', 0, none⟩) (N + 1) cap' := ownsRow_succ hown'
        have hnr : ∀ j, some j = (Value.slice la N lc).ownBlock → w.heap.size ≤ j := fun j e => by
          rcases HRA.out.2 with ⟨e2, _⟩ | ⟨g, c, cur, e2, h1, h2, _⟩
          · rw [e2] at e; simp [Value.ownBlock] at e
          · rw [e2] at e
            obtain rfl : j = g := by simpa [Value.ownBlock] using e
            exact h1
        have HB3 := Lib.hid (show Below w.heap.size w w3 from (HBX.out.alloc HBX.out.size (.cells #[.int .u8 (k : Nat)] 5)).grown hgrow (by have := HBX.out.size; simp; omega) (fun j e => hnr j e.symm))
        have HR3 := Lib.hid hown'
        clear hown' hgrow hnr
        go_wp2
        go_roundw
        case rel => exact ⟨k + 1, hlt, N + 1, _, _, rfl, by go_num, by omega, Lib.hid (by rw [HSS.out, List.length_append, HN.out]; rfl), Lib.hid (by rw [HSS.out, List.map_append]; exact HR3.out), HB3⟩
        case measure => simp [intOf]; omega
      · have e1 := strEq_false hn
        have HSS := Lib.hid (show namedL name (firstC (k + 1) hlt) = namedL name (firstC k hk) by
          show namedL name (firstC k hk ++ [⟨k, hlt⟩]) = _
          rw [HSN.out, if_neg (by show ¬ nameB k = name; rw [HNM.out]; exact hn), List.append_nil])
        clear hn
        go_wp2
        go_roundw
        case rel => exact ⟨k + 1, hlt, N, _, _, rfl, by go_num, by omega, Lib.hid (by rw [HSS.out, HN.out]), Lib.hid (by rw [HSS.out]; exact HRX.out), HBX⟩
        case measure => simp [intOf]; omega
    · have i1 : ¬ (k : Int) < 256 := by omega
      have hk2 : k = 256 := by omega
      subst hk2
      go_wp2
      go_ret
      exact ⟨_, rfl, by rw [HN.out]; exact HR.out, HB.out⟩
end Go.Proofs.YtpeieilbjadcfaaGreatDoor
