/- The code of a name and form: the document's Find. (Numbers of chapter 10's seat D.) -/
import Derived.Test.YteabjninmaceaaaDoorNotesFind
import Derived.Test.YteabjninmaceaaaDoorNotesRefTab
namespace Go.Proofs.YteabjninmaceaaaDoor
open Go.RowKit Go.Shelf
set_option linter.unusedVariables false
set_option linter.unusedSimpArgs false

set_option maxRecDepth 100000 in
set_option maxHeartbeats 4000000 in
theorem refFind_walk (name form : ByteArray) (w : World) :
    Calls Tryd.prog 7 #[.string name, .string form] w fun e w' => ∃ r b, e = .returned (.tuple #[.int .u8 r, .bool b]) ∧ FoundAt name form r b ∧ Below w.heap.size w w' := by
  have CN := Lib.hid (fun W => names_walk W)
  have CF := Lib.hid (fun W => forms_walk W)
  have hn := Lib.hid nameV_at
  have hf := Lib.hid formV_at
  obtain ⟨NV, hNV⟩ : ∃ x, nameV = x := ⟨_, rfl⟩
  obtain ⟨FV, hFV⟩ : ∃ x, formV = x := ⟨_, rfl⟩
  rw [hNV] at CN hn
  rw [hFV] at CF hf
  clear hNV hFV
  obtain ⟨M, hM⟩ : ∃ M, w.heap.size = M := ⟨_, rfl⟩
  have HX := Lib.hid (show Below M w ((w.alloc (.cells NV 9)).alloc (.cells FV 9)) ∧ ∀ k, k < 256 → ((w.alloc (.cells NV 9)).alloc (.cells FV 9)).cell? ⟨M, k, none⟩ = some (.string (nameT k)) ∧ ((w.alloc (.cells NV 9)).alloc (.cells FV 9)).cell? ⟨M + 1, k, none⟩ = some (.string (formT k)) by
    rw [← hM]
    refine ⟨((Below.refl _ w).alloc (Nat.le_refl _) _).alloc (by simp) _, fun k hk => ?_⟩
    have h1 := hn.out k hk
    have h2 := hf.out k hk
    constructor <;> simp [go_sem, h1, h2])
  go_enter Tryd.func7, Tryd.ntmps7
  go_upto_region 4 with (first | (go_at_call 13; refine (CN.out _).mono ?_; rintro e w1 ⟨rfl, rfl⟩) | (go_at_call 14; refine (CF.out _).mono ?_; rintro e w1 ⟨rfl, rfl⟩))
  obtain ⟨X, hX⟩ : ∃ X, ((w.alloc (.cells NV 9)).alloc (.cells FV 9)) = X := ⟨_, rfl⟩
  rw [hX] at HX ⊢
  try simp only [World.size_alloc]
  try rw [hM]
  clear hX CN CF hn hf
  go_loopw [8] (fun s8 wr => ∃ (k : Nat), k ≤ 256 ∧ s8 = .int .i64 (k : Int) ∧ Hid (∀ j, j < k → ¬ IsN name form j) ∧ wr = X) (fun s8 _ => 256 - (intOf s8).toNat)
  case atStart => exact ⟨0, Nat.zero_le _, rfl, Lib.hid (fun j hj => absurd hj (Nat.not_lt_zero _)), rfl⟩
  case round =>
    obtain ⟨k, hk, rfl, HNO, rfl⟩ := hrel
    by_cases hlt : k < 256
    · have i1 : (k : Int) < 256 := by omega
      have i2 : IntKind.u8.wrap (k : Int) = (k : Int) := wrap8 _ (by omega) (by omega)
      have i3 : IntKind.i64.wrap ((k : Int) + 1) = ((k + 1 : Nat) : Int) := by rw [IntWalk.i64_in _ (by omega)]; rfl
      obtain ⟨c1, c2⟩ := HX.out.2 k hlt
      have HGO := Lib.hid (show ¬ IsN name form k → ∀ j, j < k + 1 → ¬ IsN name form j from fun hx j hj => by
        rcases Nat.lt_or_ge j k with h | h
        · exact HNO.out j h
        · rw [show j = k by omega]; exact hx)
      have HEX := Lib.hid (show IsN name form k → FoundAt name form (k : Int) true from fun hx => .inl ⟨k, hlt, hx, HNO.out, rfl, rfl⟩)
      by_cases hn : nameT k = name
      · have e1 := strEq_true hn
        by_cases hf : formT k = form
        · have e2 := strEq_true hf
          have HFIN := Lib.hid (HEX.out ⟨hn, hf⟩)
          clear hn hf HGO HEX HNO
          go_wp2_with fail
          refine bodyPost_ret (v := .tuple #[.int .u8 (k : Int), .bool true]) (by simp [results, Tryd.results7, go_sem]) rfl ?_
          exact ⟨_, _, rfl, HFIN.out, by rw [hM]; exact HX.out.1⟩
        · have e2 := strEq_false hf
          have HFIN := Lib.hid (HGO.out (fun h => hf h.2))
          clear hn hf HGO HEX HNO
          go_wp2_with fail
          go_roundw
          case rel => exact ⟨k + 1, hlt, by go_num, HFIN, trivial⟩
          case measure => simp [intOf]; omega
      · have e1 := strEq_false hn
        have HFIN := Lib.hid (HGO.out (fun h => hn h.1))
        clear hn HGO HEX HNO
        go_wp2_with fail
        go_roundw
        case rel => exact ⟨k + 1, hlt, by go_num, HFIN, trivial⟩
        case measure => simp [intOf]; omega
    · have i1 : ¬ (k : Int) < 256 := by omega
      have HNO2 := Lib.hid (show FoundAt name form 0 false from .inr ⟨fun j hj => HNO.out j (by omega), rfl, rfl⟩)
      clear HNO
      go_wp2_with fail
      refine bodyPost_ret (v := .tuple #[.int .u8 0, .bool false]) (by simp [results, Tryd.results7, go_sem]) rfl ?_
      exact ⟨0, .inl ⟨rfl, HNO2.out, HX.out.1⟩⟩
end Go.Proofs.YteabjninmaceaaaDoor
