/- The walk of the document's Decode: for every slice of bytes and every two samples ahead. -/
import Derived.Test.YtpmmnjmlnjdkjaaLeaf
import Derived.Maps.AppendAt
namespace Go.Proofs.Ytpmmnjmlnjdkjaa
open Go.RowKit

theorem Try.infoI16 : (Try.prog.info? 23).map (fun i => (i.zero, i.size, i.bytes)) = some (some (.int .i16 0), 1, 2) := by kernel_rfl
theorem Try.infoU8 : (Try.prog.info? 5).map (fun i => (i.zero, i.size, i.bytes)) = some (some (.int .u8 0), 1, 1) := by kernel_rfl

theorem ownsRow_base {w : World} {B B' : Nat} {e : TypeId} {size : Nat} {v : Value} {n : Nat} {xs : List Value} (h : w.ownsRow B e size v n xs) (hB : B' ≤ B) : w.ownsRow B' e size v n xs := by
  refine ⟨h.1, ?_⟩
  rcases h.2 with h2 | ⟨g, cap, cur, hv, hg, r⟩
  · exact .inl h2
  · exact .inr ⟨g, cap, cur, hv, by omega, r⟩

set_option maxHeartbeats 1000000 in
theorem refDecode_nine (v : Value) (xs : List Int) (p q : Int) (w : World) (hr : Row .u8 w v xs) (hf : Fits .u8 xs) (hl : xs.length = 9)
    (p0 : -32768 ≤ p) (p1 : p ≤ 32767) (q0 : -32768 ≤ q) (q1 : q ≤ 32767) :
    Calls Try.prog 12 #[v, .int .i16 p, .int .i16 q] w fun e w' => ∃ r, e = .returned (.tuple #[r, .int .i64 0]) ∧ w'.ownsRow w.heap.size 23 1 r 16 ((samplesN xs p q 16).map (Value.int .i16)) ∧ Below w.heap.size w w' := by
  obtain ⟨i0, hi, hz0, hz1, hz2⟩ := info_parts Try.infoI16
  have hi' := Lib.hid hi
  have hz0' := Lib.hid hz0
  have hz1' := Lib.hid hz1
  have hz2' := Lib.hid hz2
  clear hi hz0 hz1 hz2
  rcases hr with ⟨_, _, _, rfl, _⟩ | ⟨b, o, cap, rfl, _, hc, hm, hx⟩
  · simp at hl
  · rw [hl] at hc hx ⊢
    have HX := Lib.hid hx
    have h0 : w.cell? ⟨b, o, none⟩ = some (.int .u8 (xs[0]?.getD 0)) := hx 0 (by omega)
    have hb0 := hf.u8 (i := 0) (by omega)
    have hfit := Lib.hid hf
    have HP := Lib.hid (fun k => dP_bounds xs p q p0 p1 q0 q1 k)
    have HL := Lib.hid hl
    obtain ⟨h, hh⟩ : ∃ h, xs[0]?.getD 0 = h := ⟨_, rfl⟩
    rw [hh] at h0 hb0
    have HH := Lib.hid hh
    clear hx hf hl hh
    go_enter Try.func12, Try.ntmps12
    go_wp2_with (go_at_call 17; refine (refRead_any _ (by omega) (by omega) _).mono ?_; rintro e w1 ⟨rfl, hb1⟩)
    have HN : Hid (∀ k : Nat, k < 16 → -8 ≤ nibAt xs k ∧ nibAt xs k ≤ 7) := by
      intro k hk
      have := hfit.out.u8 (i := 1 + k / 2) (by have := HL.out; omega)
      exact nibN_bounds _ _ this.1 this.2
    obtain ⟨W2, hW2⟩ : ∃ W2, w1.alloc (.cells #[.int .u8 (h / 16), .int .u8 (h / 4 % 4), .bool (decide (h / 2 % 2 = 1)), .bool (decide (h % 2 = 1))] 34) = W2 := ⟨_, rfl⟩
    have g0 : W2.cell? ⟨w1.heap.size, 0, none⟩ = some (.int .u8 (h / 16)) := by rw [← hW2]; simp
    have g1 : W2.cell? ⟨w1.heap.size, 1, none⟩ = some (.int .u8 (h / 4 % 4)) := by rw [← hW2]; simp
    have gz : W2.heap.size = w1.heap.size + 1 := by rw [← hW2]; simp
    have gb : Below w.heap.size w W2 := by rw [← hW2]; exact hb1.alloc hb1.size _
    rw [hW2]
    have G0 := Lib.hid g0
    have G1 := Lib.hid g1
    have GZ := Lib.hid gz
    clear hW2 g0 g1 gz
    go_loopw [9, 10, 11, 12] (fun v9 v10 v11 v12 wr => ∃ (k : Nat) (l : Value), k ≤ 16 ∧ v12 = .int .i64 k ∧ v9 = .int .i64 (dP xs p q k).1 ∧ v10 = .int .i64 (dP xs p q k).2 ∧ l = v11 ∧
      Hid (wr.ownsRow W2.heap.size 23 1 l k ((samplesN xs p q k).map (Value.int .i16))) ∧ Below W2.heap.size W2 wr) (fun _ _ _ v12 _ => (16 - intOf v12).toNat)
    case atStart => exact ⟨0, _, by omega, rfl, rfl, rfl, rfl, World.ownsRow_nil _ _ _ _, Below.refl _ _⟩
    case round =>
      obtain ⟨k, l, hk, rfl, rfl, rfl, rfl, hO, hbr⟩ := hrel
      have hd := HP.out k
      by_cases hlt : k < 16
      · have hgz := GZ.out
        have c0 : wr.cell? ⟨w1.heap.size, 0, none⟩ = some (.int .u8 (h / 16)) := (hbr.cell (p := ⟨w1.heap.size, 0, none⟩) (by simp; omega)).trans G0.out
        have c1 : wr.cell? ⟨w1.heap.size, 1, none⟩ = some (.int .u8 (h / 4 % 4)) := (hbr.cell (p := ⟨w1.heap.size, 1, none⟩) (by simp; omega)).trans G1.out
        have c2 := HX.out (1 + k / 2) (by omega)
        have hx := hfit.out.u8 (i := 1 + k / 2) (by have := HL.out; omega)
        obtain ⟨x, hxx⟩ : ∃ x, xs[1 + k / 2]?.getD 0 = x := ⟨_, rfl⟩
        have hnib : nibAt xs k = nibN x k := by unfold nibAt; rw [hxx]
        rw [hxx] at c2 hx
        have c3 : wr.cell? ⟨b, o + (1 + (k : Int) / 2).toNat, none⟩ = some (.int .u8 x) := by
          rw [show o + (1 + (k : Int) / 2).toNat = o + (1 + k / 2) from by omega, hbr.cell (World.block_lt_of_cell? W2 _ (show W2.cell? ⟨b, o + (1 + k / 2), none⟩ = some (.int .u8 x) from by rw [gb.cell (World.block_lt_of_cell? w _ c2)]; exact c2)), gb.cell (World.block_lt_of_cell? w _ c2)]
          exact c2
        have hn := HN.out k hlt
        have hs : sampleN (h / 16) (h / 4 % 4) (nibN x k) (dP xs p q k).1 (dP xs p q k).2 = (dP xs p q (k + 1)).1 := by
          rw [← hnib]; show _ = sampleN _ _ _ _ _; rw [HH.out]
        have hd2 := HP.out (k + 1)
        have hq : (dP xs p q (k + 1)).2 = (dP xs p q k).1 := rfl
        rw [hnib] at hn
        have HS := Lib.hid hs
        have HQ := Lib.hid hq
        obtain ⟨P1, hP1⟩ : ∃ P1, (dP xs p q k).1 = P1 := ⟨_, rfl⟩
        obtain ⟨Q1, hQ1⟩ : ∃ Q1, (dP xs p q k).2 = Q1 := ⟨_, rfl⟩
        obtain ⟨S1, hS1⟩ : ∃ S1, (dP xs p q (k + 1)).1 = S1 := ⟨_, rfl⟩
        have HP1 := Lib.hid hP1
        have HQ1 := Lib.hid hQ1
        have HS1 := Lib.hid hS1
        rw [hP1, hQ1] at hd
        rw [hS1] at hd2
        rw [hP1, hQ1]
        have hss : ∀ W : World, Calls Try.prog 26 #[.int .i64 (nibN x k), .int .u8 (h / 16), .int .u8 (h / 4 % 4), .int .i64 P1, .int .i64 Q1] W fun e w' => e = .returned (.int .i64 S1) ∧ W = w' := by
          intro W
          have := refSample_any (nibN x k) (h / 16) (h / 4 % 4) P1 Q1 W (by omega) (by omega) (by omega) (by omega) (by omega) (by omega) (by omega) (by omega) (by omega) (by omega)
          rw [← hP1, ← hQ1, hs, hS1, hP1, hQ1] at this
          exact this
        have HC := Lib.hid hss
        clear hss hs hq hP1 hQ1 hS1 c2 hxx hnib hd hgz
        have i1 : (k : Int) < 16 := by omega
        have i2 : 0 ≤ (k : Int) := by omega
        have hd3 : -32768 ≤ S1 ∧ S1 ≤ 32767 := by omega
        clear hd2
        go_wp2
        go_quiet ((first | (go_at_call 27; exact quiet_left (nibble_any b o cap k x _ (by omega) (by omega) (by omega) (by omega) (by exact c3))) | (go_at_call 26; exact quiet_left (HC.out _))))
        have hOd : (wr.drewN nq).ownsRow W2.heap.size 23 1 l k ((samplesN xs p q k).map (Value.int .i16)) := hO.out
        have hbd : Below W2.heap.size W2 (wr.drewN nq) := below_drewN hbr nq
        generalize wr.drewN nq = wd at hOd hbd ⊢
        have HOd := Lib.hid hOd
        clear hOd hO hbr c0 c1 c3
        go_wp2_with (at_builtin; refine wpList_append_own _ rfl _ _ 27 rfl W2.heap.size 23 i0 (.int .i16 0) 1 2 Try.underlying27 hi'.out hz0'.out hz1'.out hz2'.out rfl (by decide) _ _ _ rfl (HOd.out.alloc _) ⟨wd.heap.size, 0, none⟩ 1 1 [.int .i16 S1] rfl rfl ?c1 ?c2 ?c3 ?c4 ?c5 ?_)
        case c1 => exact cell_one_new _ _ _
        case c2 => simp [Value.oneCell']
        case c3 => unfold maxLen; omega
        case c4 => omega
        case c5 => have := hbd.size; simp; omega
        intro v' w3 hown' hgrow _
        have hb3 : Below W2.heap.size W2 w3 := (hbd.alloc hbd.size _).grown hgrow (by have := hbd.size; simp; omega) (fun j e => (HOd.out.lt j e).1)
        have HO3 : Hid (w3.ownsRow W2.heap.size 23 1 v' (k + 1) ((samplesN xs p q (k + 1)).map (Value.int .i16))) := by
          rw [samplesN_succ, List.map_append, HS1.out]; exact hown'
        clear hown' hgrow
        go_wp2
        go_roundw
        case rel => exact ⟨k + 1, _, by omega, by go_num, by rw [HS1.out], by rw [HQ.out, HP1.out], rfl, HO3, hb3⟩
        case measure => simp [intOf]; omega
      · obtain rfl : k = 16 := by omega
        have hfin := Lib.hid (ownsRow_base hO.out gb.size)
        have hbf : Below w.heap.size w wr := below_step gb gb.size hbr
        clear hO
        go_wp2
        go_ret2
        exact ⟨_, rfl, hfin.out, hbf⟩

theorem refDecode_none (v : Value) (xs : List Int) (p q : Int) (w : World) (hr : Row .u8 w v xs) (hl : xs.length ≠ 9) :
    Calls Try.prog 12 #[v, .int .i16 p, .int .i16 q] w fun e w' => e = .returned (.tuple #[.slice none 0 0, .int .i64 2]) ∧ Below w.heap.size w w' := by
  obtain ⟨a, cap, rfl⟩ : ∃ a cap, v = .slice a xs.length cap := by rcases hr with ⟨a, cap, rfl, rfl, _⟩ | ⟨b, o, cap, rfl, _⟩ <;> exact ⟨_, _, rfl⟩
  have hne : ((xs.length : Int) != 9) = true := by rw [bne_iff_ne]; omega
  clear hr
  go_enter Try.func12, Try.ntmps12
  go_wp2
  go_ret2
  exact ⟨rfl, Below.refl _ _⟩
end Go.Proofs.Ytpmmnjmlnjdkjaa
