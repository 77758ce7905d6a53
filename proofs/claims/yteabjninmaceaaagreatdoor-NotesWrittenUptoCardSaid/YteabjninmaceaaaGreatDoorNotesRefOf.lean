/- What a code means: the document's Of. (Numbers of chapter 10's seat D.) -/
import Derived.Test.YteabjninmaceaaaGreatDoorProg
import Derived.Test.YteabjninmaceaaaGreatDoorNotesOf
import Derived.Test.YteabjninmaceaaaGreatDoorNotesRefTab
import Derived.Deep.RegionHeld3
import Derived.Deep.CutRange
import Derived.Deep.DeepCutAuto
namespace Go.Proofs.YteabjninmaceaaaGreatDoor
open Go.RowKit
set_option linter.unusedVariables false
set_option linter.unusedSimpArgs false

/-- The condition that is kept through a drawn region may grow on the way. -/
theorem wpAnyH_stronger {P : Program} {md : Region.Mode} {ops : Array Oper} {Q : Exit → Act → World → Prop} {S S' : World → Prop} (h : ∀ w, S' w → S w) :
    ∀ (fuel : Nat) (listed : Array Bool) (a : Act) (w : World), wpAnyH P md ops Q S' fuel listed a w → wpAnyH P md ops Q S fuel listed a w
  | 0, _, _, _, H => H
  | fuel + 1, _, _, _, H => ⟨H.1, fun i hi => wpOp_mono (fun a' w' h' => ⟨h _ h'.1, wpAnyH_stronger h fuel _ a' w' h'.2⟩) (H.2 i hi)⟩
theorem hk_have {P : Program} {md : Region.Mode} {ops : Array Oper} {Q : Exit → Act → World → Prop} {S : World → Prop} {fuel : Nat} {listed : Array Bool} {a : Act} {w : World} (h : S w) (h2 : S w → wpAnyH P md ops Q S fuel listed a w) : wpAnyH P md ops Q S fuel listed a w := h2 h
set_option maxRecDepth 100000 in
set_option maxHeartbeats 4000000 in
theorem refOf_walk (k : Nat) (hk : k < 256) (w : World) :
    Calls Tryz.prog 13 #[.int .u8 k] w fun e w' => e = .returned (noteV k) ∧ Below w.heap.size w w' := by
  obtain ⟨o1, o2, o3, o4, o5, o6, o7, o8, o9, o10, o11, o12, o13⟩ := note_ok k hk
  have HV := Lib.hid (show noteV k = .agg #[.int .u8 k, .string (nameT k), .string (formT k), .int .i64 (1 + sumW (formT k).data.toList : Nat), .int .i64 (cycT k)] from rfl)
  have CN := Lib.hid (fun W => names_walk W)
  have CF := Lib.hid (fun W => forms_walk W)
  have CC := Lib.hid (fun W => cycles_walk W)
  have hn := nameV_at k hk
  have hf := formV_at k hk
  have hc := cycV_at k hk
  have i0 : (0 : Int) ≤ (k : Int) := by omega
  have i1 : (k : Int) < 256 := by omega
  obtain ⟨NV, hNV⟩ : ∃ x, nameV = x := ⟨_, rfl⟩
  obtain ⟨FV, hFV⟩ : ∃ x, formV = x := ⟨_, rfl⟩
  obtain ⟨CV, hCV⟩ : ∃ x, cycV = x := ⟨_, rfl⟩
  rw [hNV] at CN hn
  rw [hFV] at CF hf
  rw [hCV] at CC hc
  clear hNV hFV hCV o1 o2 o3 o4 o5 o6 o12 o13
  obtain ⟨nm, hnm⟩ : ∃ x, nameT k = x := ⟨_, rfl⟩
  obtain ⟨fm, hfm⟩ : ∃ x, formT k = x := ⟨_, rfl⟩
  obtain ⟨cy, hcy⟩ : ∃ x, cycT k = x := ⟨_, rfl⟩
  rw [hnm] at HV hn
  rw [hfm] at HV o7 o8 o9 hf
  rw [hcy] at HV hc
  clear hnm hfm hcy
  have HST := Lib.hid (sumW_step fm)
  have hf2 : fm.size ≤ 2 := by have : fm.data.toList.length = fm.size := by simp
                               omega
  clear o7 o8 o9 o10 o11
  go_enter Tryz.func13, Tryz.ntmps13
  go_upto_region 1 with fail
  obtain ⟨R, hR⟩ : ∃ R, w.heap.size = R := ⟨_, rfl⟩
  obtain ⟨X, hX⟩ : ∃ X, w.alloc (.cells #[.int .u8 0, .string ⟨#[]⟩, .string ⟨#[]⟩, .int .i64 0, .int .i64 0] 33) = X := ⟨_, rfl⟩
  have HX := Lib.hid (show Five X R (.int .u8 0) (.string ⟨#[]⟩) (.string ⟨#[]⟩) (.int .i64 0) (.int .i64 0) ∧ Below R w X ∧ R < X.heap.size by rw [← hX, ← hR]; exact ⟨five_new _ _ _ _ _ _ _, (Below.refl _ w).alloc (Nat.le_refl _) _, by simp⟩)
  rw [hX, hR]
  clear hX
  go_cut [3] from 5 to 18 (fun s3 wx => ∃ N, s3 = .pointer (some ⟨N, 0, none⟩) ∧ R < N ∧ Hid (Five wx N (.int .u8 k) (.string nm) (.string fm) (.int .i64 1) (.int .i64 cy)) ∧ Hid (Five wx R (.int .u8 0) (.string ⟨#[]⟩) (.string ⟨#[]⟩) (.int .i64 0) (.int .i64 0)) ∧ Hid (Below R w wx))
  case first =>
    have hmx : Tryz.prog.follows .mixedOrders = true := by kernel_rfl
    refine wp_region_held_drew (S := fun _ => True) (by kernel_rfl) trivial (fun hHeld => ?_)
    obtain ⟨Y, hY⟩ : ∃ Y, X.drew = Y := ⟨_, rfl⟩
    rw [hY]
    obtain ⟨M, hM⟩ : ∃ M, Y.heap.size = M := ⟨_, rfl⟩
    have HY := Lib.hid (show Five Y R (.int .u8 0) (.string ⟨#[]⟩) (.string ⟨#[]⟩) (.int .i64 0) (.int .i64 0) ∧ Below R w Y ∧ R < M by rw [← hM, ← hY]; exact ⟨HX.out.1, HX.out.2.1.drew, HX.out.2.2⟩)
    clear hY HX
    refine wpAnyH_take (i := 0) (v := ?_) rfl (by kernel_rfl) (by kernel_rfl) (by kernel_rfl) (fun _ _ _ h => h) (Or.inl ⟨by rfl, ?_⟩) (by assumption) ?_
    rotate_left
    focus
      intro w hSw
      (try dsimp only at hSw)
      (try obtain ⟨hSw, _, _⟩ := hSw)
      go_simp
      try with_reducible rfl
    try simp only [Act.put, List.setIfInBounds_toArray, List.set_cons_zero, List.set_cons_succ]
    refine wpAnyH_take (i := 2) (v := ?_) rfl (by kernel_rfl) (by kernel_rfl) (by kernel_rfl) (fun _ _ _ h => h) (Or.inl ⟨by rfl, ?_⟩) (by assumption) ?_
    rotate_left
    focus
      intro w hSw
      (try dsimp only at hSw)
      (try obtain ⟨hSw, _, _⟩ := hSw)
      go_simp
      try with_reducible rfl
    try simp only [Act.put, List.setIfInBounds_toArray, List.set_cons_zero, List.set_cons_succ]
    refine wpAnyH_take (i := 6) (v := ?_) rfl (by kernel_rfl) (by kernel_rfl) (by kernel_rfl) (fun _ _ _ h => h) (Or.inl ⟨by rfl, ?_⟩) (by assumption) ?_
    rotate_left
    focus
      intro w hSw
      (try dsimp only at hSw)
      (try obtain ⟨hSw, _, _⟩ := hSw)
      go_simp
      try with_reducible rfl
    try simp only [Act.put, List.setIfInBounds_toArray, List.set_cons_zero, List.set_cons_succ]
    refine wpAnyH_take (i := 10) (v := ?_) rfl (by kernel_rfl) (by kernel_rfl) (by kernel_rfl) (fun _ _ _ h => h) (Or.inl ⟨by rfl, ?_⟩) (by assumption) ?_
    rotate_left
    focus
      intro w hSw
      (try dsimp only at hSw)
      (try obtain ⟨hSw, _, _⟩ := hSw)
      go_simp
      try with_reducible rfl
    try simp only [Act.put, List.setIfInBounds_toArray, List.set_cons_zero, List.set_cons_succ]
    refine wpAnyH_ready (rs := [1, 14]) (by kernel_rfl) (by simp) ?_
    refine AllReadyH.cons rfl (fun K hK => ?_) ?_
    ·
      go_simp
      refine (CN.out _).mono ?_
      rintro e w1 ⟨rfl, rfl⟩
      dsimp only
      try simp only [World.size_drew, World.size_alloc, hM]
      refine hK.out _ _ ?s1 (fun hHeld => ?_)
      case s1 => first | trivial | (simp [go_sem, *]; done)
      clear hK K
      try simp only [Act.put, List.setIfInBounds_toArray, List.set_cons_zero, List.set_cons_succ]
      refine wpAnyH_stronger (S' := fun W => W.cell? ⟨M, k, none⟩ = some (.string nm)) (fun _ h => trivial) _ _ _ _ ?_
      refine hk_have ?h1 (fun hHeld2 => ?_)
      case h1 => first | trivial | (simp [go_sem, *]; done)
      clear hHeld
      refine wpAnyH_take (i := 3) (v := ?_) rfl (by kernel_rfl) (by kernel_rfl) (by kernel_rfl) (fun _ _ _ h => h) (Or.inl ⟨by rfl, ?_⟩) (by assumption) ?_
      rotate_left
      focus
        intro w hSw
        (try dsimp only at hSw)
        (try obtain ⟨hSw, _, _⟩ := hSw)
        go_simp
        try with_reducible rfl
      try simp only [Act.put, List.setIfInBounds_toArray, List.set_cons_zero, List.set_cons_succ]
      refine wpAnyH_take (i := 4) (v := ?_) rfl (by kernel_rfl) (by kernel_rfl) (by kernel_rfl) (fun _ _ _ h => h) (Or.inl ⟨by rfl, ?_⟩) (by assumption) ?_
      rotate_left
      focus
        intro w hSw
        (try dsimp only at hSw)
        (try obtain ⟨hSw, _, _⟩ := hSw)
        go_simp
        try with_reducible rfl
      try simp only [Act.put, List.setIfInBounds_toArray, List.set_cons_zero, List.set_cons_succ]
      refine wpAnyH_ready (rs := [5, 14]) (by kernel_rfl) (by simp) ?_
      refine AllReadyH.cons rfl (fun K hK => ?_) ?_
      ·
        go_simp
        refine (CF.out _).mono ?_
        rintro e w1 ⟨rfl, rfl⟩
        dsimp only
        try simp only [World.size_drew, World.size_alloc, hM]
        refine hK.out _ _ ?s2 (fun hHeld => ?_)
        case s2 => first | trivial | (simp [go_sem, *]; done)
        clear hK K
        try simp only [Act.put, List.setIfInBounds_toArray, List.set_cons_zero, List.set_cons_succ]
        refine wpAnyH_stronger (S' := fun W => W.cell? ⟨M, k, none⟩ = some (.string nm) ∧ W.cell? ⟨M + 1, k, none⟩ = some (.string fm)) (fun _ h => h.1) _ _ _ _ ?_
        refine hk_have ?h2 (fun hHeld2 => ?_)
        case h2 => first | trivial | (simp [go_sem, *]; done)
        clear hHeld
        refine wpAnyH_take (i := 7) (v := ?_) rfl (by kernel_rfl) (by kernel_rfl) (by kernel_rfl) (fun _ _ _ h => h) (Or.inl ⟨by rfl, ?_⟩) (by assumption) ?_
        rotate_left
        focus
          intro w hSw
          (try dsimp only at hSw)
          (try obtain ⟨hSw, _, _⟩ := hSw)
          go_simp
          try with_reducible rfl
        try simp only [Act.put, List.setIfInBounds_toArray, List.set_cons_zero, List.set_cons_succ]
        refine wpAnyH_take (i := 8) (v := ?_) rfl (by kernel_rfl) (by kernel_rfl) (by kernel_rfl) (fun _ _ _ h => h) (Or.inl ⟨by rfl, ?_⟩) (by assumption) ?_
        rotate_left
        focus
          intro w hSw
          (try dsimp only at hSw)
          (try obtain ⟨hSw, _, _⟩ := hSw)
          go_simp
          try with_reducible rfl
        try simp only [Act.put, List.setIfInBounds_toArray, List.set_cons_zero, List.set_cons_succ]
        refine wpAnyH_ready (rs := [9, 14]) (by kernel_rfl) (by simp) ?_
        refine AllReadyH.cons rfl (fun K hK => ?_) ?_
        ·
          go_simp
          refine (CC.out _).mono ?_
          rintro e w1 ⟨rfl, rfl⟩
          dsimp only
          try simp only [World.size_drew, World.size_alloc, hM]
          refine hK.out _ _ ?s3 (fun hHeld => ?_)
          case s3 => first | trivial | (simp [go_sem, *]; done)
          clear hK K
          try simp only [Act.put, List.setIfInBounds_toArray, List.set_cons_zero, List.set_cons_succ]
          refine wpAnyH_stronger (S' := fun W => W.cell? ⟨M, k, none⟩ = some (.string nm) ∧ W.cell? ⟨M + 1, k, none⟩ = some (.string fm) ∧ W.cell? ⟨M + 1 + 1, k, none⟩ = some (.int .i64 cy)) (fun _ h => ⟨h.1, h.2.1⟩) _ _ _ _ ?_
          refine hk_have ?h3 (fun hHeld2 => ?_)
          case h3 => first | trivial | (simp [go_sem, *]; done)
          clear hHeld
          refine wpAnyH_take (i := 11) (v := ?_) rfl (by kernel_rfl) (by kernel_rfl) (by kernel_rfl) (fun _ _ _ h => h) (Or.inl ⟨by rfl, ?_⟩) (by assumption) ?_
          rotate_left
          focus
            intro w hSw
            (try dsimp only at hSw)
            (try obtain ⟨hSw, _, _⟩ := hSw)
            go_simp
            try with_reducible rfl
          try simp only [Act.put, List.setIfInBounds_toArray, List.set_cons_zero, List.set_cons_succ]
          refine wpAnyH_take (i := 12) (v := ?_) rfl (by kernel_rfl) (by kernel_rfl) (by kernel_rfl) (fun _ _ _ h => h) (Or.inl ⟨by rfl, ?_⟩) (by assumption) ?_
          rotate_left
          focus
            intro w hSw
            (try dsimp only at hSw)
            (try obtain ⟨hSw, _, _⟩ := hSw)
            go_simp
            try with_reducible rfl
          try simp only [Act.put, List.setIfInBounds_toArray, List.set_cons_zero, List.set_cons_succ]
          refine wpAnyH_take (i := 13) (v := ?_) rfl (by kernel_rfl) (by kernel_rfl) (by kernel_rfl) (fun _ _ _ h => h) (Or.inl ⟨by rfl, ?_⟩) (by assumption) ?_
          rotate_left
          focus
            intro w hSw
            (try dsimp only at hSw)
            (try obtain ⟨hSw, _, _⟩ := hSw)
            go_simp
            try with_reducible rfl
          try simp only [Act.put, List.setIfInBounds_toArray, List.set_cons_zero, List.set_cons_succ]
          refine wpAnyH_ready (rs := [14]) (by kernel_rfl) (by simp) ?_
          refine AllReadyH.cons rfl (fun K hK => ?_) AllReadyH.nil
          go_simp
          try simp only [World.size_drew, World.size_alloc, hM]
          refine hK.out _ _ ?s4 (fun hHeld => ?_)
          case s4 => first | trivial | (simp [go_sem, *]; done)
          clear hK K
          try simp only [Act.put, List.setIfInBounds_toArray, List.set_cons_zero, List.set_cons_succ]
          refine wpAnyH_ready (rs := [15]) (by kernel_rfl) (by simp) ?_
          refine AllReadyH.cons rfl (fun K hK => ?_) AllReadyH.nil
          go_simp
          try simp only [World.size_drew, World.size_alloc, hM]
          refine hK.out _ _ ?s5 (fun hHeld => ?_)
          case s5 => first | trivial | (simp [go_sem, *]; done)
          clear hK K
          try simp only [Act.put, List.setIfInBounds_toArray, List.set_cons_zero, List.set_cons_succ]
          refine wpAnyH_done (by kernel_rfl) ?_ _
          go_wp2_with fail
          go_meet
          refine ⟨_, rfl, by have := HY.out.2.2; omega, Lib.hid ?_, Lib.hid ?_, Lib.hid ?_⟩
          · refine ⟨?_, ?_, ?_, ?_, ?_, fun i => ?_⟩ <;> simp [go_sem, hM]
          · refine HY.out.1.below (n := M) ?_ HY.out.2.2
            repeat (first | exact Below.refl _ _ | exact (Below.refl _ _).mono (Nat.le_of_eq hM.symm) | refine Below.alloc ?_ (by simp only [World.size_drew, World.size_alloc, hM]; omega) _)
          · repeat (first | exact HY.out.2.1 | refine Below.alloc ?_ (by have := HY.out.2.2; simp only [World.size_drew, World.size_alloc, hM]; omega) _)
        refine AllReadyH.cons rfl (fun K hK => ?_) AllReadyH.nil
        go_simp
        try simp only [World.size_drew, World.size_alloc, hM]
        refine hK.out _ _ ?s6 (fun hHeld => ?_)
        case s6 => first | trivial | (simp [go_sem, *]; done)
        clear hK K
        try simp only [Act.put, List.setIfInBounds_toArray, List.set_cons_zero, List.set_cons_succ]
        refine wpAnyH_ready (rs := [9]) (by kernel_rfl) (by simp) ?_
        refine AllReadyH.cons rfl (fun K hK => ?_) AllReadyH.nil
        go_simp
        refine (CC.out _).mono ?_
        rintro e w1 ⟨rfl, rfl⟩
        dsimp only
        try simp only [World.size_drew, World.size_alloc, hM]
        refine hK.out _ _ ?s7 (fun hHeld => ?_)
        case s7 => first | trivial | (simp [go_sem, *]; done)
        clear hK K
        try simp only [Act.put, List.setIfInBounds_toArray, List.set_cons_zero, List.set_cons_succ]
        refine wpAnyH_stronger (S' := fun W => W.cell? ⟨M, k, none⟩ = some (.string nm) ∧ W.cell? ⟨M + 1, k, none⟩ = some (.string fm) ∧ W.cell? ⟨M + 1 + 1 + 1, k, none⟩ = some (.int .i64 cy)) (fun _ h => ⟨h.1, h.2.1⟩) _ _ _ _ ?_
        refine hk_have ?h7 (fun hHeld2 => ?_)
        case h7 => first | trivial | (simp [go_sem, *]; done)
        clear hHeld
        refine wpAnyH_take (i := 11) (v := ?_) rfl (by kernel_rfl) (by kernel_rfl) (by kernel_rfl) (fun _ _ _ h => h) (Or.inl ⟨by rfl, ?_⟩) (by assumption) ?_
        rotate_left
        focus
          intro w hSw
          (try dsimp only at hSw)
          (try obtain ⟨hSw, _, _⟩ := hSw)
          go_simp
          try with_reducible rfl
        try simp only [Act.put, List.setIfInBounds_toArray, List.set_cons_zero, List.set_cons_succ]
        refine wpAnyH_take (i := 12) (v := ?_) rfl (by kernel_rfl) (by kernel_rfl) (by kernel_rfl) (fun _ _ _ h => h) (Or.inl ⟨by rfl, ?_⟩) (by assumption) ?_
        rotate_left
        focus
          intro w hSw
          (try dsimp only at hSw)
          (try obtain ⟨hSw, _, _⟩ := hSw)
          go_simp
          try with_reducible rfl
        try simp only [Act.put, List.setIfInBounds_toArray, List.set_cons_zero, List.set_cons_succ]
        refine wpAnyH_take (i := 13) (v := ?_) rfl (by kernel_rfl) (by kernel_rfl) (by kernel_rfl) (fun _ _ _ h => h) (Or.inl ⟨by rfl, ?_⟩) (by assumption) ?_
        rotate_left
        focus
          intro w hSw
          (try dsimp only at hSw)
          (try obtain ⟨hSw, _, _⟩ := hSw)
          go_simp
          try with_reducible rfl
        try simp only [Act.put, List.setIfInBounds_toArray, List.set_cons_zero, List.set_cons_succ]
        refine wpAnyH_ready (rs := [15]) (by kernel_rfl) (by simp) ?_
        refine AllReadyH.cons rfl (fun K hK => ?_) AllReadyH.nil
        go_simp
        try simp only [World.size_drew, World.size_alloc, hM]
        refine hK.out _ _ ?s8 (fun hHeld => ?_)
        case s8 => first | trivial | (simp [go_sem, *]; done)
        clear hK K
        try simp only [Act.put, List.setIfInBounds_toArray, List.set_cons_zero, List.set_cons_succ]
        refine wpAnyH_done (by kernel_rfl) ?_ _
        go_wp2_with fail
        go_meet
        refine ⟨_, rfl, by have := HY.out.2.2; omega, Lib.hid ?_, Lib.hid ?_, Lib.hid ?_⟩
        · refine ⟨?_, ?_, ?_, ?_, ?_, fun i => ?_⟩ <;> simp [go_sem, hM]
        · refine HY.out.1.below (n := M) ?_ HY.out.2.2
          repeat (first | exact Below.refl _ _ | exact (Below.refl _ _).mono (Nat.le_of_eq hM.symm) | refine Below.alloc ?_ (by simp only [World.size_drew, World.size_alloc, hM]; omega) _)
        · repeat (first | exact HY.out.2.1 | refine Below.alloc ?_ (by have := HY.out.2.2; simp only [World.size_drew, World.size_alloc, hM]; omega) _)
      refine AllReadyH.cons rfl (fun K hK => ?_) AllReadyH.nil
      go_simp
      try simp only [World.size_drew, World.size_alloc, hM]
      refine hK.out _ _ ?s9 (fun hHeld => ?_)
      case s9 => first | trivial | (simp [go_sem, *]; done)
      clear hK K
      try simp only [Act.put, List.setIfInBounds_toArray, List.set_cons_zero, List.set_cons_succ]
      refine wpAnyH_ready (rs := [5]) (by kernel_rfl) (by simp) ?_
      refine AllReadyH.cons rfl (fun K hK => ?_) AllReadyH.nil
      go_simp
      refine (CF.out _).mono ?_
      rintro e w1 ⟨rfl, rfl⟩
      dsimp only
      try simp only [World.size_drew, World.size_alloc, hM]
      refine hK.out _ _ ?s10 (fun hHeld => ?_)
      case s10 => first | trivial | (simp [go_sem, *]; done)
      clear hK K
      try simp only [Act.put, List.setIfInBounds_toArray, List.set_cons_zero, List.set_cons_succ]
      refine wpAnyH_stronger (S' := fun W => W.cell? ⟨M, k, none⟩ = some (.string nm) ∧ W.cell? ⟨M + 1 + 1, k, none⟩ = some (.string fm)) (fun _ h => h.1) _ _ _ _ ?_
      refine hk_have ?h10 (fun hHeld2 => ?_)
      case h10 => first | trivial | (simp [go_sem, *]; done)
      clear hHeld
      refine wpAnyH_take (i := 7) (v := ?_) rfl (by kernel_rfl) (by kernel_rfl) (by kernel_rfl) (fun _ _ _ h => h) (Or.inl ⟨by rfl, ?_⟩) (by assumption) ?_
      rotate_left
      focus
        intro w hSw
        (try dsimp only at hSw)
        (try obtain ⟨hSw, _, _⟩ := hSw)
        go_simp
        try with_reducible rfl
      try simp only [Act.put, List.setIfInBounds_toArray, List.set_cons_zero, List.set_cons_succ]
      refine wpAnyH_take (i := 8) (v := ?_) rfl (by kernel_rfl) (by kernel_rfl) (by kernel_rfl) (fun _ _ _ h => h) (Or.inl ⟨by rfl, ?_⟩) (by assumption) ?_
      rotate_left
      focus
        intro w hSw
        (try dsimp only at hSw)
        (try obtain ⟨hSw, _, _⟩ := hSw)
        go_simp
        try with_reducible rfl
      try simp only [Act.put, List.setIfInBounds_toArray, List.set_cons_zero, List.set_cons_succ]
      refine wpAnyH_ready (rs := [9]) (by kernel_rfl) (by simp) ?_
      refine AllReadyH.cons rfl (fun K hK => ?_) AllReadyH.nil
      go_simp
      refine (CC.out _).mono ?_
      rintro e w1 ⟨rfl, rfl⟩
      dsimp only
      try simp only [World.size_drew, World.size_alloc, hM]
      refine hK.out _ _ ?s11 (fun hHeld => ?_)
      case s11 => first | trivial | (simp [go_sem, *]; done)
      clear hK K
      try simp only [Act.put, List.setIfInBounds_toArray, List.set_cons_zero, List.set_cons_succ]
      refine wpAnyH_stronger (S' := fun W => W.cell? ⟨M, k, none⟩ = some (.string nm) ∧ W.cell? ⟨M + 1 + 1, k, none⟩ = some (.string fm) ∧ W.cell? ⟨M + 1 + 1 + 1, k, none⟩ = some (.int .i64 cy)) (fun _ h => ⟨h.1, h.2.1⟩) _ _ _ _ ?_
      refine hk_have ?h11 (fun hHeld2 => ?_)
      case h11 => first | trivial | (simp [go_sem, *]; done)
      clear hHeld
      refine wpAnyH_take (i := 11) (v := ?_) rfl (by kernel_rfl) (by kernel_rfl) (by kernel_rfl) (fun _ _ _ h => h) (Or.inl ⟨by rfl, ?_⟩) (by assumption) ?_
      rotate_left
      focus
        intro w hSw
        (try dsimp only at hSw)
        (try obtain ⟨hSw, _, _⟩ := hSw)
        go_simp
        try with_reducible rfl
      try simp only [Act.put, List.setIfInBounds_toArray, List.set_cons_zero, List.set_cons_succ]
      refine wpAnyH_take (i := 12) (v := ?_) rfl (by kernel_rfl) (by kernel_rfl) (by kernel_rfl) (fun _ _ _ h => h) (Or.inl ⟨by rfl, ?_⟩) (by assumption) ?_
      rotate_left
      focus
        intro w hSw
        (try dsimp only at hSw)
        (try obtain ⟨hSw, _, _⟩ := hSw)
        go_simp
        try with_reducible rfl
      try simp only [Act.put, List.setIfInBounds_toArray, List.set_cons_zero, List.set_cons_succ]
      refine wpAnyH_take (i := 13) (v := ?_) rfl (by kernel_rfl) (by kernel_rfl) (by kernel_rfl) (fun _ _ _ h => h) (Or.inl ⟨by rfl, ?_⟩) (by assumption) ?_
      rotate_left
      focus
        intro w hSw
        (try dsimp only at hSw)
        (try obtain ⟨hSw, _, _⟩ := hSw)
        go_simp
        try with_reducible rfl
      try simp only [Act.put, List.setIfInBounds_toArray, List.set_cons_zero, List.set_cons_succ]
      refine wpAnyH_ready (rs := [15]) (by kernel_rfl) (by simp) ?_
      refine AllReadyH.cons rfl (fun K hK => ?_) AllReadyH.nil
      go_simp
      try simp only [World.size_drew, World.size_alloc, hM]
      refine hK.out _ _ ?s12 (fun hHeld => ?_)
      case s12 => first | trivial | (simp [go_sem, *]; done)
      clear hK K
      try simp only [Act.put, List.setIfInBounds_toArray, List.set_cons_zero, List.set_cons_succ]
      refine wpAnyH_done (by kernel_rfl) ?_ _
      go_wp2_with fail
      go_meet
      refine ⟨_, rfl, by have := HY.out.2.2; omega, Lib.hid ?_, Lib.hid ?_, Lib.hid ?_⟩
      · refine ⟨?_, ?_, ?_, ?_, ?_, fun i => ?_⟩ <;> simp [go_sem, hM]
      · refine HY.out.1.below (n := M) ?_ HY.out.2.2
        repeat (first | exact Below.refl _ _ | exact (Below.refl _ _).mono (Nat.le_of_eq hM.symm) | refine Below.alloc ?_ (by simp only [World.size_drew, World.size_alloc, hM]; omega) _)
      · repeat (first | exact HY.out.2.1 | refine Below.alloc ?_ (by have := HY.out.2.2; simp only [World.size_drew, World.size_alloc, hM]; omega) _)
    refine AllReadyH.cons rfl (fun K hK => ?_) AllReadyH.nil
    go_simp
    try simp only [World.size_drew, World.size_alloc, hM]
    refine hK.out _ _ ?s13 (fun hHeld => ?_)
    case s13 => first | trivial | (simp [go_sem, *]; done)
    clear hK K
    try simp only [Act.put, List.setIfInBounds_toArray, List.set_cons_zero, List.set_cons_succ]
    refine wpAnyH_ready (rs := [1]) (by kernel_rfl) (by simp) ?_
    refine AllReadyH.cons rfl (fun K hK => ?_) AllReadyH.nil
    go_simp
    refine (CN.out _).mono ?_
    rintro e w1 ⟨rfl, rfl⟩
    dsimp only
    try simp only [World.size_drew, World.size_alloc, hM]
    refine hK.out _ _ ?s14 (fun hHeld => ?_)
    case s14 => first | trivial | (simp [go_sem, *]; done)
    clear hK K
    try simp only [Act.put, List.setIfInBounds_toArray, List.set_cons_zero, List.set_cons_succ]
    refine wpAnyH_stronger (S' := fun W => W.cell? ⟨M + 1, k, none⟩ = some (.string nm)) (fun _ h => trivial) _ _ _ _ ?_
    refine hk_have ?h14 (fun hHeld2 => ?_)
    case h14 => first | trivial | (simp [go_sem, *]; done)
    clear hHeld
    refine wpAnyH_take (i := 3) (v := ?_) rfl (by kernel_rfl) (by kernel_rfl) (by kernel_rfl) (fun _ _ _ h => h) (Or.inl ⟨by rfl, ?_⟩) (by assumption) ?_
    rotate_left
    focus
      intro w hSw
      (try dsimp only at hSw)
      (try obtain ⟨hSw, _, _⟩ := hSw)
      go_simp
      try with_reducible rfl
    try simp only [Act.put, List.setIfInBounds_toArray, List.set_cons_zero, List.set_cons_succ]
    refine wpAnyH_take (i := 4) (v := ?_) rfl (by kernel_rfl) (by kernel_rfl) (by kernel_rfl) (fun _ _ _ h => h) (Or.inl ⟨by rfl, ?_⟩) (by assumption) ?_
    rotate_left
    focus
      intro w hSw
      (try dsimp only at hSw)
      (try obtain ⟨hSw, _, _⟩ := hSw)
      go_simp
      try with_reducible rfl
    try simp only [Act.put, List.setIfInBounds_toArray, List.set_cons_zero, List.set_cons_succ]
    refine wpAnyH_ready (rs := [5]) (by kernel_rfl) (by simp) ?_
    refine AllReadyH.cons rfl (fun K hK => ?_) AllReadyH.nil
    go_simp
    refine (CF.out _).mono ?_
    rintro e w1 ⟨rfl, rfl⟩
    dsimp only
    try simp only [World.size_drew, World.size_alloc, hM]
    refine hK.out _ _ ?s15 (fun hHeld => ?_)
    case s15 => first | trivial | (simp [go_sem, *]; done)
    clear hK K
    try simp only [Act.put, List.setIfInBounds_toArray, List.set_cons_zero, List.set_cons_succ]
    refine wpAnyH_stronger (S' := fun W => W.cell? ⟨M + 1, k, none⟩ = some (.string nm) ∧ W.cell? ⟨M + 1 + 1, k, none⟩ = some (.string fm)) (fun _ h => h.1) _ _ _ _ ?_
    refine hk_have ?h15 (fun hHeld2 => ?_)
    case h15 => first | trivial | (simp [go_sem, *]; done)
    clear hHeld
    refine wpAnyH_take (i := 7) (v := ?_) rfl (by kernel_rfl) (by kernel_rfl) (by kernel_rfl) (fun _ _ _ h => h) (Or.inl ⟨by rfl, ?_⟩) (by assumption) ?_
    rotate_left
    focus
      intro w hSw
      (try dsimp only at hSw)
      (try obtain ⟨hSw, _, _⟩ := hSw)
      go_simp
      try with_reducible rfl
    try simp only [Act.put, List.setIfInBounds_toArray, List.set_cons_zero, List.set_cons_succ]
    refine wpAnyH_take (i := 8) (v := ?_) rfl (by kernel_rfl) (by kernel_rfl) (by kernel_rfl) (fun _ _ _ h => h) (Or.inl ⟨by rfl, ?_⟩) (by assumption) ?_
    rotate_left
    focus
      intro w hSw
      (try dsimp only at hSw)
      (try obtain ⟨hSw, _, _⟩ := hSw)
      go_simp
      try with_reducible rfl
    try simp only [Act.put, List.setIfInBounds_toArray, List.set_cons_zero, List.set_cons_succ]
    refine wpAnyH_ready (rs := [9]) (by kernel_rfl) (by simp) ?_
    refine AllReadyH.cons rfl (fun K hK => ?_) AllReadyH.nil
    go_simp
    refine (CC.out _).mono ?_
    rintro e w1 ⟨rfl, rfl⟩
    dsimp only
    try simp only [World.size_drew, World.size_alloc, hM]
    refine hK.out _ _ ?s16 (fun hHeld => ?_)
    case s16 => first | trivial | (simp [go_sem, *]; done)
    clear hK K
    try simp only [Act.put, List.setIfInBounds_toArray, List.set_cons_zero, List.set_cons_succ]
    refine wpAnyH_stronger (S' := fun W => W.cell? ⟨M + 1, k, none⟩ = some (.string nm) ∧ W.cell? ⟨M + 1 + 1, k, none⟩ = some (.string fm) ∧ W.cell? ⟨M + 1 + 1 + 1, k, none⟩ = some (.int .i64 cy)) (fun _ h => ⟨h.1, h.2.1⟩) _ _ _ _ ?_
    refine hk_have ?h16 (fun hHeld2 => ?_)
    case h16 => first | trivial | (simp [go_sem, *]; done)
    clear hHeld
    refine wpAnyH_take (i := 11) (v := ?_) rfl (by kernel_rfl) (by kernel_rfl) (by kernel_rfl) (fun _ _ _ h => h) (Or.inl ⟨by rfl, ?_⟩) (by assumption) ?_
    rotate_left
    focus
      intro w hSw
      (try dsimp only at hSw)
      (try obtain ⟨hSw, _, _⟩ := hSw)
      go_simp
      try with_reducible rfl
    try simp only [Act.put, List.setIfInBounds_toArray, List.set_cons_zero, List.set_cons_succ]
    refine wpAnyH_take (i := 12) (v := ?_) rfl (by kernel_rfl) (by kernel_rfl) (by kernel_rfl) (fun _ _ _ h => h) (Or.inl ⟨by rfl, ?_⟩) (by assumption) ?_
    rotate_left
    focus
      intro w hSw
      (try dsimp only at hSw)
      (try obtain ⟨hSw, _, _⟩ := hSw)
      go_simp
      try with_reducible rfl
    try simp only [Act.put, List.setIfInBounds_toArray, List.set_cons_zero, List.set_cons_succ]
    refine wpAnyH_take (i := 13) (v := ?_) rfl (by kernel_rfl) (by kernel_rfl) (by kernel_rfl) (fun _ _ _ h => h) (Or.inl ⟨by rfl, ?_⟩) (by assumption) ?_
    rotate_left
    focus
      intro w hSw
      (try dsimp only at hSw)
      (try obtain ⟨hSw, _, _⟩ := hSw)
      go_simp
      try with_reducible rfl
    try simp only [Act.put, List.setIfInBounds_toArray, List.set_cons_zero, List.set_cons_succ]
    refine wpAnyH_ready (rs := [15]) (by kernel_rfl) (by simp) ?_
    refine AllReadyH.cons rfl (fun K hK => ?_) AllReadyH.nil
    go_simp
    try simp only [World.size_drew, World.size_alloc, hM]
    refine hK.out _ _ ?s17 (fun hHeld => ?_)
    case s17 => first | trivial | (simp [go_sem, *]; done)
    clear hK K
    try simp only [Act.put, List.setIfInBounds_toArray, List.set_cons_zero, List.set_cons_succ]
    refine wpAnyH_done (by kernel_rfl) ?_ _
    go_wp2_with fail
    go_meet
    refine ⟨_, rfl, by have := HY.out.2.2; omega, Lib.hid ?_, Lib.hid ?_, Lib.hid ?_⟩
    · refine ⟨?_, ?_, ?_, ?_, ?_, fun i => ?_⟩ <;> simp [go_sem, hM]
    · refine HY.out.1.below (n := M) ?_ HY.out.2.2
      repeat (first | exact Below.refl _ _ | exact (Below.refl _ _).mono (Nat.le_of_eq hM.symm) | refine Below.alloc ?_ (by simp only [World.size_drew, World.size_alloc, hM]; omega) _)
    · repeat (first | exact HY.out.2.1 | refine Below.alloc ?_ (by have := HY.out.2.2; simp only [World.size_drew, World.size_alloc, hM]; omega) _)
  case rest =>
    obtain ⟨N, rfl, hRN, HN0, HR0, HB0⟩ := hcut
    clear hn hf hc CN CF CC HX
    go_upto_region 3 with fail
    go_loopw [4] (fun s4 wr => ∃ (i sz : Nat), i ≤ fm.size ∧ sz ≤ 1 + 2 * i ∧ s4 = .int .i64 i ∧ Hid (sz = 1 + sumW (fm.data.toList.take i)) ∧ Hid (Five wr N (.int .u8 k) (.string nm) (.string fm) (.int .i64 sz) (.int .i64 cy)) ∧ Hid (Five wr R (.int .u8 0) (.string ⟨#[]⟩) (.string ⟨#[]⟩) (.int .i64 0) (.int .i64 0)) ∧ Hid (Below R w wr)) (fun s4 _ => fm.size - (intOf s4).toNat)
    case atStart => exact ⟨0, 1, Nat.zero_le _, by omega, rfl, Lib.hid rfl, HN0, HR0, HB0⟩
    case round =>
      obtain ⟨i, sz, hi, hsz, rfl, HSZ, HN, HRR, HBW⟩ := hrel
      clear HN0 HR0 HB0
      obtain ⟨g0, g1, g2, g3, g4, gf⟩ := HN.out
      have gf3 := gf 3
      clear gf
      by_cases hlt : i < fm.size
      · have b1 : (i : Int) < (fm.size : Int) := by omega
        have j1 : IntKind.i64.wrap ((i : Int) + 1) = ((i + 1 : Nat) : Int) := by rw [IntWalk.i64_in _ (by omega)]; rfl
        have hst := HST.out i hlt
        have hwn := widthN_byte (fm[i]'hlt)
        have hx256 : (fm[i]'hlt).toNat < 256 := UInt8.toNat_lt _
        obtain ⟨x, hx⟩ : ∃ x, (fm[i]'hlt).toNat = x := ⟨_, rfl⟩
        rw [hx] at hwn hx256
        rw [← hwn] at hst
        have hwl : widthN x ≤ 2 := by rw [hwn]; exact widthC_le _
        clear hwn
        have i2 : IntKind.i64.wrap ((sz : Int) + (widthN x : Int)) = ((sz + widthN x : Nat) : Int) := by rw [IntWalk.i64_in _ (by omega)]; rfl
        have HWW := Lib.hid (fun W => refWidth_walk x hx256 W)
        have HSZ2 := Lib.hid (show sz + widthN x = 1 + sumW (fm.data.toList.take (i + 1)) by rw [hst, HSZ.out]; omega)
        clear hst
        go_upto_region 5 with fail
        have hmx : Tryz.prog.follows .mixedOrders = true := by kernel_rfl
        go_region_with (go_at_call 15; refine (HWW.out _).mono ?_; rintro e w5 ⟨rfl, rfl⟩)
        all_goals
          go_wp2_with fail
          go_roundw
        all_goals first
          | exact ⟨i + 1, sz + widthN x, by omega, by omega, by go_num, HSZ2, Lib.hid (show Five (World.setCell wr ⟨N, 3, none⟩ (.int .i64 (sz + widthN x : Nat))).drew N _ _ _ _ _ from HN.out.set3), Lib.hid (show Five (World.setCell wr ⟨N, 3, none⟩ (.int .i64 (sz + widthN x : Nat))).drew R _ _ _ _ _ from HRR.out.other (by omega)), Lib.hid (show Below R w (World.setCell wr ⟨N, 3, none⟩ (.int .i64 (sz + widthN x : Nat))).drew from (HBW.out.setCell (p := ⟨N, 3, none⟩) (by simp; omega) _).drew)⟩
          | (simp [intOf]; omega)
      · have b1 : ¬ (i : Int) < (fm.size : Int) := by omega
        have hfl : fm.data.toList.length = fm.size := by simp
        have HSE := Lib.hid (show sz = 1 + sumW fm.data.toList by rw [HSZ.out, List.take_of_length_le (by omega)])
        obtain ⟨r0, r1, r2, r3, r4, rf⟩ := HRR.out
        have rf0 := rf 0
        have rf1 := rf 1
        have rf2 := rf 2
        have rf3 := rf 3
        have rf4 := rf 4
        clear rf HSZ HST hfl
        repeat (first | go_values | go_skip | go_guarded | go_step | go_upon)
        have HRL := Lib.hid (Nat.le_refl R)
        have HSZ9 := Lib.hid (show noteV k = .agg #[.int .u8 k, .string nm, .string fm, .int .i64 (sz : Nat), .int .i64 cy] by rw [HV.out, HSE.out])
        refine bodyPost_ret (v := .agg #[.int .u8 k, .string nm, .string fm, .int .i64 (sz : Nat), .int .i64 cy]) (by simp [results, Tryz.results13, go_sem, r0, r1, r2, r3, r4]; try rfl) rfl ?_
        exact ⟨by rw [HSZ9.out], by rw [hR]; repeat (first | exact HBW.out | refine Below.setCell ?_ HRL.out _)⟩
end Go.Proofs.YteabjninmaceaaaGreatDoor
